/- Texts of this seat, joined. -/
import Derived.Test.YtlkighkfkdpncaaGreatAm0
import Derived.Test.YtlkighkfkdpncaaGreatAm1
import Derived.Test.YtlkighkfkdpncaaGreatAm2
import Derived.Test.YtlkighkfkdpncaaGreatM0
import Derived.Test.YtlkighkfkdpncaaGreatM1
set_option linter.unusedSimpArgs false
set_option linter.unusedVariables false
namespace Go.Proofs.YtlkighkfkdpncaaGreat
open Go Go.Am
def YP (P:Nat→Int) (x:Int):Bool:=eqI 2 (dp P (sqI x)) (fun _=>0)
def pc (k c:Int):Nat→Int:=fun i=>if i = 0 then k else c
def DN:Nat→Int:=fun _=>0
def atT (P:Nat→Int) (k a t:Int):Int:=if k = 1∧t % 8 ≠ a % 8∧t = P 130∧YP P t = true then a / 8*8+t % 8 else t
def Y5 (P:Nat→Int) (k a t:Int):Int:=if YP P (atT P k a t) = true then -1 else atT P k a t
def YO (c:Int):Int:=if c = 0 then 1 else 4
def YW (k a t c C:Int):Int:=if k = 6∧a = 56*c+4∧t = a+2∧C / YO c % 2 = 1 then 1 else if k = 6∧a = 56*c+4∧t = a - 2∧C / (2*YO c) % 2 = 1 then -1 else 0
def WJ (k a t c:Int):Bool:=decide (k = 1∧t % 8 = a % 8∧a / 8 = 1+5*c∧t / 8 = a / 8+2*(1 - 2*c))
def WK (P:Nat→Int):Int:=if P 129 < 0∨15 < P 129 then 0 else P 129
def Xp (s:Int):Int:=if 4 = s then 3 else if 7 = s then 1 else if 0 = s then 2 else if 60 = s then 12 else if 63 = s then 4 else if 56 = s then 8 else 0
def orM (x y:Int):Int:=IntKind.i64.wrap (BitVec.ofInt 64 x ||| BitVec.ofInt 64 y).toNat
def Q1 (x y:Int):Int:=IntKind.i64.wrap (BitVec.ofInt 64 x &&& BitVec.ofInt 64 y).toNat
def VD (x y:Int):Int:=IntKind.i64.wrap (BitVec.ofInt 64 x &&& ~~~(BitVec.ofInt 64 y)).toNat
def UN (c s k:Int):Int:=if c / k % 2 = 1∧s / k % 2 = 0 then k else 0
def Vb (c s:Int):Int:=UN c s 1+UN c s 2+UN c s 4+UN c s 8
def Xv (P:Nat→Int) (a t b:Int):Bool:=decide (1≤P (sqI a)∧P (sqI a)≤6∧P (sqI a+1) = P 128∧(P (sqI a+1) = 0∨P (sqI a+1) = 1)∧(if P (sqI a) = 1∧t / 8 = 7*(1 - P (sqI a+1)) then 2≤b∧b≤5 else b = 0))
def Wk (P:Nat→Int) (a t b:Int):Int:=if (0≤a∧a < 64)∧(0≤t∧t < 64)∧a ≠ t then (if Xv P a t b = true then 0 else 8) else 6
def T1 (P:Nat→Int) (w:Int):Nat→Int:=if 0≤w then ovA P (sqI w) 2 DN else P
def brd2 (P:Nat→Int) (w a:Int):Nat→Int:=ovA (T1 P w) (sqI a) 2 DN
def Tt (P:Nat→Int) (w a t k c b:Int):Nat→Int:=ovA (brd2 P w a) (sqI t) 2 (pc (if b = 0 then k else b) c)
def VA (P:Nat→Int) (w a t k c b g:Int):Nat→Int :=
 if g = 1 then ovA (ovA (Tt P w a t k c b) (sqI (a+3)) 2 DN) (sqI (a+1)) 2 (pc 4 c)
 else if g = -1 then ovA (ovA (Tt P w a t k c b) (sqI (a - 4)) 2 DN) (sqI (a - 1)) 2 (pc 4 c) else Tt P w a t k c b
def Un (k a t c:Int):Int:=if WJ k a t c = true then (a+t) / 2 else -1
def VU (P:Nat→Int) (k w:Int):Int:=if k = 1∨0≤w then 0 else IntKind.i64.wrap (min (P 131) 1023+1)
def Qj (P:Nat→Int):Int:=if P 128 = 1 then IntKind.i64.wrap (min (P 132) 16383+1) else P 132
def V6 (P:Nat→Int) (k c a t b C:Int):Nat→Int:=fun i =>
 if i < 128 then VA P (Y5 P k a t) a t k c b (YW k a t c C) i else if i = 128 then Y0 (P 128) else if i = 129 then VD C (orM (orM 0 (Xp a)) (Xp t))
 else if i = 130 then Un k a t c else if i = 131 then VU P k (Y5 P k a t) else if i = 132 then Qj P else 0
def XI (P:Nat→Int) (a t b:Int):Nat→Int:=if Wk P a t b = 0 then V6 P (P (sqI a)) (P (sqI a+1)) a t b (WK P) else fun _=>0
theorem Uk {P:Nat→Int} {a t b:Int} (h:¬ ((0≤a∧a < 64)∧(0≤t∧t < 64)∧a ≠ t)):Wk P a t b = 6:=if_neg h
theorem Wf {P:Nat→Int} {a t b:Int} (h:(0≤a∧a < 64)∧(0≤t∧t < 64)∧a ≠ t) (hc:Xv P a t b = false):Wk P a t b = 8:=by
 rw [Wk,if_pos h,hc]; rfl
theorem W8 {P:Nat→Int} {a t b:Int} (h:(0≤a∧a < 64)∧(0≤t∧t < 64)∧a ≠ t) (hc:Xv P a t b = true):Wk P a t b = 0:=by
 rw [Wk,if_pos h,hc]; rfl
theorem yl {P:Nat→Int} {k a t:Int} (ha:0≤a∧a < 64) (ht:0≤t∧t < 64):0≤atT P k a t∧atT P k a t < 64:=by
 unfold atT; split <;> omega
theorem VK {P:Nat→Int} {k a t:Int} (ha:0≤a∧a < 64) (ht:0≤t∧t < 64):-1≤Y5 P k a t∧Y5 P k a t < 64:=by
 have:=yl (P:=P) (k:=k) ha ht
 unfold Y5; split <;> omega
theorem tC {c:Int} (h:c = 0∨c = 1):WX .shl (.int .i64 1) (.int .i64 (2*c)) = some (.int .i64 (YO c)):=by
 rcases h with rfl | rfl <;> rfl
theorem tL {c:Int} (h:c = 0∨c = 1):WX .shl (.int .i64 (YO c)) (.int .u64 1) = some (.int .i64 (2*YO c)):=by
 rcases h with rfl | rfl <;> rfl
theorem and_bit:∀ C:Fin 16,∀ s∈[1,2,4,8],(Q1 (C.val:Int) s ≠ 0↔(C.val:Int) / s % 2 = 1):=by decide +kernel
theorem wU {C s:Int} (h:0≤C∧C≤15) (hs:s = 1∨s = 2∨s = 4∨s = 8):Q1 C s ≠ 0↔C / s % 2 = 1:=by
 obtain ⟨n,rfl⟩:∃ n:Nat,C = n:=⟨C.toNat,by omega⟩
 exact and_bit ⟨n,by omega⟩ s (by simp; omega)
theorem Zax (s:Int):Xp s∈[0,1,2,3,4,8,12]:=by
 unfold Xp
 repeat' split
 all_goals decide
theorem jZ:∀ C:Fin 16,∀ x∈[0,1,2,3,4,8,12],∀ y∈[0,1,2,3,4,8,12],Vb (Vb (C.val:Int) x) y = VD (C.val:Int) (orM (orM 0 x) y):=by decide +kernel
theorem uf {C:Int} (h:0≤C∧C≤15) (a t:Int):Vb (Vb C (Xp a)) (Xp t) = VD C (orM (orM 0 (Xp a)) (Xp t)):=by
 obtain ⟨n,rfl⟩:∃ n:Nat,C = n:=⟨C.toNat,by omega⟩
 exact jZ ⟨n,by omega⟩ _ (Zax a) _ (Zax t)
theorem Kb (c s:Int) {k:Int} (hk:0≤k):0≤UN c s k∧UN c s k≤k:=by
 unfold UN; split <;> omega
theorem DB (c s:Int):0≤Vb c s∧Vb c s≤15:=by
 have:=Kb c s (k:=1) (by omega)
 have:=Kb c s (k:=2) (by omega)
 have:=Kb c s (k:=4) (by omega)
 have:=Kb c s (k:=8) (by omega)
 unfold Vb; omega
theorem q7 (s:Int):0≤Xp s∧Xp s≤15:=by
 unfold Xp
 repeat' split
 all_goals omega
theorem Tp (P:Nat→Int):0≤WK P∧WK P≤15:=by
 unfold WK; split <;> omega
theorem yu {P:Nat→Int} {x:Int}:YP P x = true↔P (sqI x) = 0∧P (sqI x+1) = 0:=by
 unfold YP
 rw [Qx]
 constructor
 ·intro h; exact ⟨h 0 (by omega),h 1 (by omega)⟩
 ·rintro ⟨h0,h1⟩ i hi
  have:i = 0∨i = 1:=by omega
  rcases this with rfl | rfl
  ·exact h0
  ·exact h1
theorem J0 {P Q:Nat→Int} {x:Int} (hx:0≤x∧x < 64) (h:∀ i,i < 128→P i = Q i):YP P x = YP Q x:=by
 have e:sqI x+1 < 128:=by show 0+x.toNat*2+1 < 128; omega
 rw [Bool.eq_iff_iff,yu,yu,h _ (by omega),h _ e]
theorem pu {P Q:Nat→Int} {k a t:Int} (ht:0≤t∧t < 64) (h:∀ i,i < 128→P i = Q i) (h130:P 130 = Q 130):atT P k a t = atT Q k a t:=by
 unfold atT
 rw [J0 ht h,h130]
theorem jO {P Q:Nat→Int} {k a t:Int} (ha:0≤a∧a < 64) (ht:0≤t∧t < 64) (h:∀ i,i < 128→P i = Q i) (h130:P 130 = Q 130):Y5 P k a t = Y5 Q k a t:=by
 unfold Y5
 rw [pu ht h h130,J0 (yl ha ht) h]
theorem xc {x:Int} (h:0≤x∧x < 64):RF AM 40 [.s (.int .i64 x)] (.s (.int .i64 (x % 8))):=by
 have:=rP x
 rw [E7,if_pos h] at this
 exact this
theorem Rs {x:Int} (h:0≤x∧x < 64):RF AM 41 [.s (.int .i64 x)] (.s (.int .i64 (x / 8))):=by
 have:=QY x
 rw [X6,if_pos h] at this
 exact this
theorem Dc (x:Int):WR AM 78 [.s (.int .i64 x)] [] (fun v _ _=>v = .s (.bool (isM x))):=by
 refine YI (a:=a78) rfl rfl (YH _) (ZP rfl) (m:=0) rfl (Zd (Yp rfl (Ze (Zi rfl (Zq rfl (Zj rfl (Yr (t:=5) rfl (fun h1=>?_) (fun h1=>?_)))))))) <;> simp only [NM] at h1
 ·refine Ya rfl (Zi rfl (Ya rfl (Zq rfl (Zo rfl (Zj rfl (Zf rfl (ZH ?_)))))))
  rw [Bool.eq_iff_iff]
  simp only [beq_iff_eq,bne_iff_ne,ne_eq,decide_eq_true_eq,Bool.false_eq_true,true_iff,false_iff,gt_iff_lt,ge_iff_le,isM,YU,WJ,Xv,Bool.true_eq_false,iff_true,iff_false]
  omega
 ·refine ZC rfl (Zo rfl (Zj rfl (Zf rfl (ZH ?_))))
  rw [Bool.eq_iff_iff]
  simp only [beq_iff_eq,bne_iff_ne,ne_eq,decide_eq_true_eq,Bool.false_eq_true,true_iff,false_iff,gt_iff_lt,ge_iff_le,isM,YU,WJ,Xv,Bool.true_eq_false,iff_true,iff_false]
  omega
theorem Vv (P:Nat→Int):WR AM 83 [.agg 133 (ia P)] [] (fun v _ _=>v = .s (.int .i64 (WK P))):=by
 refine YI (a:=a83) rfl rfl (YH _) (ZP rfl) (m:=0) rfl (Zd (YB rfl (Yp rfl (Yb (Yd (Zd (Yc (o':=129) rfl rfl rfl (Yl rfl rfl ZL rfl (Zq rfl (Zj rfl (Yr (t:=6) rfl (fun h2=>?_) (fun h2=>?_)))))))))))) <;> simp only [NM] at h2
 ·refine ZC rfl (ZB rfl (Zo rfl (Yb (Zz rfl (Zd (Yp rfl (Yb (Yh (⟨_,ZK rfl,?_⟩)))))))))
  exact congrArg (fun b=>V.s (S.int .i64 b)) (if_pos (by omega)).symm
 ·refine Ya rfl (Yc (o':=129) rfl rfl rfl (Ya rfl (Yl rfl rfl ZL rfl (Ya rfl (Zq rfl (Zo rfl (Yb (Yi rfl (fun h3=>?_) (fun h3=>?_))))))))) <;> simp only [NM] at h3
  ·refine Zd (Yp rfl (Yb (Yh (⟨_,ZK rfl,?_⟩))))
   exact congrArg (fun b=>V.s (S.int .i64 b)) (if_pos (by omega)).symm
  ·refine Yg (Zd (Yc (o':=129) rfl rfl rfl (Yl rfl rfl ZL rfl (Zi rfl (Yb (Yh (⟨_,ZK rfl,?_⟩)))))))
   exact congrArg (fun b=>V.s (S.int .i64 b)) (if_neg (by omega)).symm
theorem xD (s:Int):WR AM 84 [.s (.int .i64 s)] [] (fun v _ _=>v = .s (.int .i64 (Xp s))):=by
 refine YI (a:=a84) rfl rfl (YH _) (ZP rfl) (m:=0) rfl (Zd (Yp rfl (Yb (Yd (Zd (Zi rfl (Yb (Yj (Zd (Zq rfl (Zj rfl (Yb (Yi rfl (fun h4=>?_) (fun h4=>?_)))))))))))))) <;> simp only [NM] at h4
 ·refine Zd (Yp rfl (Yb (Yh (⟨_,ZK rfl,?_⟩))))
  refine ZI ?_
  unfold Xp
  repeat' split
  all_goals omega
 ·refine Zd (Zq rfl (Zj rfl (Yb (Yi rfl (fun h5=>?_) (fun h5=>?_))))) <;> simp only [NM] at h5
  ·refine Zd (Yp rfl (Yb (Yh (⟨_,ZK rfl,?_⟩))))
   refine ZI ?_
   unfold Xp
   repeat' split
   all_goals omega
  ·refine Zd (Zq rfl (Zj rfl (Yb (Yi rfl (fun h6=>?_) (fun h6=>?_))))) <;> simp only [NM] at h6
   ·refine Zd (Yp rfl (Yb (Yh (⟨_,ZK rfl,?_⟩))))
    refine ZI ?_
    unfold Xp
    repeat' split
    all_goals omega
   ·refine Zd (Zq rfl (Zj rfl (Yb (Yi rfl (fun h7=>?_) (fun h7=>?_))))) <;> simp only [NM] at h7
    ·refine Zd (Yp rfl (Yb (Yh (⟨_,ZK rfl,?_⟩))))
     refine ZI ?_
     unfold Xp
     repeat' split
     all_goals omega
    ·refine Zd (Zq rfl (Zj rfl (Yb (Yi rfl (fun h8=>?_) (fun h8=>?_))))) <;> simp only [NM] at h8
     ·refine Zd (Yp rfl (Yb (Yh (⟨_,ZK rfl,?_⟩))))
      refine ZI ?_
      unfold Xp
      repeat' split
      all_goals omega
     ·refine Zd (Zq rfl (Zj rfl (Yb (Yi rfl (fun h9=>?_) (fun h9=>?_))))) <;> simp only [NM] at h9
      ·refine Zd (Yp rfl (Yb (Yh (⟨_,ZK rfl,?_⟩))))
       refine ZI ?_
       unfold Xp
       repeat' split
       all_goals omega
      ·refine Yg (Zd (Yp rfl (Yb (Yh (⟨_,ZK rfl,?_⟩)))))
       refine ZI ?_
       unfold Xp
       repeat' split
       all_goals omega
def upM (c s k:Int):Int:=if k≤1 then 0 else if k≤2 then UN c s 1 else if k≤4 then UN c s 1+UN c s 2 else if k≤8 then UN c s 1+UN c s 2+UN c s 4 else Vb c s
theorem DO {c s k:Int} (h:k = 1∨k = 2∨k = 4∨k = 8):upM c s (2*k) = upM c s k+UN c s k:=by
 rcases h with rfl | rfl | rfl | rfl <;> simp [upM,Vb]
theorem upM_bd (c s k:Int):0≤upM c s k∧upM c s k≤15:=by
 have:=Kb c s (k:=1) (by omega)
 have:=Kb c s (k:=2) (by omega)
 have:=Kb c s (k:=4) (by omega)
 have:=DB c s
 unfold upM
 repeat' split
 all_goals omega
theorem Dh (c s:Int) (hc:0≤c∧c≤15) (hs:0≤s∧s≤15):WR AM 82 [.s (.int .i64 c),.s (.int .i64 s)] [] (fun v _ _=>v = .s (.int .i64 (Vb c s))):=by
 refine YI (a:=a82) rfl rfl (YH _) (ZP rfl) (m:=0) rfl (Zd (Yp rfl (Ze (Yp rfl (Yb (Yd (Zd (Yp rfl (Yb (Yj (Xe (L':=[]) .slnil (Xg (fun m f _ L=>∃ (k:Int),(k = 1∨k = 2∨k = 4∨k = 8∨k = 16)∧(m = 16 - k.toNat)∧(f 0 = .s (.int .i64 c))∧(f 1 = .s (.int .i64 s))∧(f 5 = .s (.int .i64 (upM c s k)))∧(f 6 = .s (.int .i64 k))∧(L = [])) (fun m f nb L hI=>?_) (15) ⟨1,by omega,rfl,rfl,rfl,rfl,rfl,rfl⟩))))))))))))
 obtain ⟨k,hk,hm,k0,k1,k5,k6,rfl⟩:=hI
 refine pH 0 k0 (pH 1 k1 (pH 5 k5 (pH 6 k6 ?_)))
 have hu:=upM_bd c s k
 have hq:0≤c / k:=Int.ediv_nonneg (by omega) (by omega)
 have hq2:0≤s / k:=Int.ediv_nonneg (by omega) (by omega)
 refine Yd (Zd (Zi rfl (Zq rfl (Yb (Yi rfl (fun h10=>?_) (fun h10=>?_)))))) <;> simp only [NM] at h10
 ·refine Yg (Yd (Yj (Zd (Zi rfl (Zi rfl (Zt rfl rfl (Zu rfl rfl (Zq rfl (Zj rfl (Yr (t:=16) rfl (fun h11=>?_) (fun h11=>?_))))))))))) <;> simp only [NM] at h11
  ·refine Ya rfl (Zi rfl (Ya rfl (Zi rfl (Ya rfl (Zt rfl rfl (Ya rfl (Zu rfl rfl (Ya rfl (Zq rfl (Zo rfl (Yb (Yi rfl (fun h12=>?_) (fun h12=>?_))))))))))))) <;> simp only [NM] at h12
   ·refine Ye (Zi rfl (Zi rfl (Zr rfl rfl (Zi rfl (Yb (Ye (Zi rfl (X9 rfl rfl (by omega) (Zi rfl (Yb (⟨16 - (2*k).toNat,_,by omega,.slnil,2*k,by omega,rfl,rfl,rfl,?_,rfl,rfl⟩)))))))))))
    rw [DO (by omega),UN]
    (rw [if_pos (by omega)]; rfl)
   ·refine Yg (Ye (Zi rfl (X9 rfl rfl (by omega) (Zi rfl (Yb (⟨16 - (2*k).toNat,_,by omega,.slnil,2*k,by omega,rfl,rfl,rfl,?_,rfl,rfl⟩))))))
    rw [DO (by omega),UN]
    (rw [if_neg (by omega),Int.add_zero]; rfl)
  ·refine ZD rfl (ZB rfl (Zo rfl (Yb (ZA rfl (Yg (Ye (Zi rfl (X9 rfl rfl (by omega) (Zi rfl (Yb (⟨16 - (2*k).toNat,_,by omega,.slnil,2*k,by omega,rfl,rfl,rfl,?_,rfl,rfl⟩)))))))))))
   rw [DO (by omega),UN]
   (rw [if_neg (by omega),Int.add_zero]; rfl)
 ·refine YZ (Xc (Zd (Zi rfl (Zi rfl (Yb (Yh (⟨_,ZK rfl,?_⟩)))))))
  obtain rfl:k = 16:=by omega
  rfl
theorem je (P m:Nat→Int) (ha:0≤m 0∧m 0 < 64) (ht:0≤m 1∧m 1 < 64):WR AM 79 [.agg 133 (ia P),.agg 3 (ia m)] [] (fun v _ _=>v = .s (.bool (Xv P (m 0) (m 1) (m 2)))):=by
 refine YI (a:=a79) rfl rfl (YH _) (ZP rfl) (m:=0) rfl (Zd (YB rfl (YB rfl (Yp rfl (Ze (Zx rfl (Yl rfl rfl ZL rfl (Zx rfl (Zv rfl rfl rfl (Yo rfl rfl ZM (Yx (Yy rfl rfl rfl rfl .here (Yb (Yd (Zd (Yn rfl rfl ZL (Ys rfl (show RF AM 87 _ (.s (.bool (YU (P (sqI (m 0))) (P (sqI (m 0)+1))))) from YF (TF (ovA (fun _=>0) 0 2 (dp P (sqI (m 0)))))) rfl rfl rfl (Yu (r:=.bool _) rfl rfl (Zj rfl (Yr (t:=15) rfl (fun h13=>?_) (fun h13=>?_))))))))))))))))))))) <;> simp only [NM] at h13
 ·refine ZD rfl (ZB rfl (Zo rfl (Yb (Zz rfl (Zd (Yp rfl (Zf rfl (ZH ?_))))))))
  simp only [YU,decide_eq_true_eq,decide_eq_false_iff_not] at *
  unfold Xv
  rw [Bool.eq_iff_iff]
  simp only [beq_iff_eq,decide_eq_true_eq,Bool.false_eq_true,true_iff,false_iff,iff_true,iff_false]
  first | omega | (split <;> omega)
 ·refine Ya rfl (Zy rfl (Ya rfl (Yl (x:=P (sqI (m 0)+1)) rfl rfl ZL (rfl) (Ya rfl (Yc (o':=128) rfl rfl rfl (Ya rfl (Yl rfl rfl ZN rfl (Ya rfl (Zq rfl (Zo rfl (Yb (Yi rfl (fun h14=>?_) (fun h14=>?_))))))))))))) <;> simp only [NM] at h14
  ·refine Zd (Yp rfl (Zf rfl (ZH ?_)))
   simp only [YU,decide_eq_true_eq,decide_eq_false_iff_not] at *
   unfold Xv
   rw [Bool.eq_iff_iff]
   simp only [beq_iff_eq,decide_eq_true_eq,Bool.false_eq_true,true_iff,false_iff,iff_true,iff_false]
   first | omega | (split <;> omega)
  ·refine Yg (Zd (Zx rfl (Yl (x:=P (sqI (m 0))) rfl rfl ZL (rfl) (Zq rfl (Zj rfl (Yr (t:=25) rfl (fun h15=>?_) (fun h15=>?_))))))) <;> simp only [NM] at h15
   ·refine Ya rfl (Zy rfl (Ya rfl (Yl (x:=P (sqI (m 0)+1)) rfl rfl ZL (rfl) (Ya rfl (Zq rfl (Ya rfl (Zj rfl (Yr (t:=29) rfl (fun h16=>?_) (fun h16=>?_))))))))) <;> simp only [NM] at h16
    ·refine Ya rfl (Zy rfl (Ya rfl (Yl rfl rfl ZM rfl (Ya rfl (Zt rfl rfl (Ya rfl (Zq rfl (Ya rfl (Zo rfl (Ya rfl (Zj rfl (Yr (t:=35) rfl (fun h17=>?_) (fun h17=>?_))))))))))))) <;> simp only [NM] at h17
     ·refine ZD rfl (YG rfl (YG rfl (YG rfl (YG rfl (ZB rfl (Ya rfl (Zo rfl (Zo rfl (Zj rfl (Yb (Yd (Zd (Zj rfl (Yb (Zz rfl (Zd (Yc (o':=2) rfl rfl rfl (Yl rfl rfl ZM rfl (Zq rfl (Zj rfl (Yr (t:=51) rfl (fun h18=>?_) (fun h18=>?_)))))))))))))))))))))) <;> simp only [NM] at h18
      ·refine Ya rfl (Yc (o':=2) rfl rfl rfl (Ya rfl (Yl rfl rfl ZM rfl (Ya rfl (Zq rfl (Zo rfl (Zj rfl (Zf rfl (ZH ?_)))))))))
       simp only [YU,decide_eq_true_eq,decide_eq_false_iff_not] at *
       unfold Xv
       rw [Bool.eq_iff_iff]
       simp only [beq_iff_eq,decide_eq_true_eq,Bool.false_eq_true,true_iff,false_iff,iff_true,iff_false]
       first | omega | (split <;> omega)
      ·refine ZC rfl (ZB rfl (Zo rfl (Zj rfl (Zf rfl (ZH ?_)))))
       simp only [YU,decide_eq_true_eq,decide_eq_false_iff_not] at *
       unfold Xv
       rw [Bool.eq_iff_iff]
       simp only [beq_iff_eq,decide_eq_true_eq,Bool.false_eq_true,true_iff,false_iff,iff_true,iff_false]
       first | omega | (split <;> omega)
     ·refine Ya rfl (Zy rfl (Ya rfl (Yl (x:=P (sqI (m 0)+1)) rfl rfl ZL (rfl) (Ya rfl (Zq rfl (Ya rfl (Zj rfl (Yr (t:=39) rfl (fun h19=>?_) (fun h19=>?_))))))))) <;> simp only [NM] at h19
      ·refine Ya rfl (Zy rfl (Ya rfl (Yl rfl rfl ZM rfl (Ya rfl (Zt rfl rfl (Ya rfl (Zq rfl (Ya rfl (Zo rfl (Ya rfl (Zo rfl (Zo rfl (Zj rfl (Yb (Yd (Zd (Zj rfl (Yb (Yi rfl (fun h20=>?_) (fun h20=>?_)))))))))))))))))))) <;> simp only [NM] at h20
       ·refine Zd (Yc (o':=2) rfl rfl rfl (Yl rfl rfl ZM rfl (Zq rfl (Zj rfl (Yr (t:=51) rfl (fun h21=>?_) (fun h21=>?_)))))) <;> simp only [NM] at h21
        ·refine Ya rfl (Yc (o':=2) rfl rfl rfl (Ya rfl (Yl rfl rfl ZM rfl (Ya rfl (Zq rfl (Zo rfl (Zj rfl (Zf rfl (ZH ?_)))))))))
         simp only [YU,decide_eq_true_eq,decide_eq_false_iff_not] at *
         unfold Xv
         rw [Bool.eq_iff_iff]
         simp only [beq_iff_eq,decide_eq_true_eq,Bool.false_eq_true,true_iff,false_iff,iff_true,iff_false]
         first | omega | (split <;> omega)
        ·refine ZC rfl (ZB rfl (Zo rfl (Zj rfl (Zf rfl (ZH ?_)))))
         simp only [YU,decide_eq_true_eq,decide_eq_false_iff_not] at *
         unfold Xv
         rw [Bool.eq_iff_iff]
         simp only [beq_iff_eq,decide_eq_true_eq,Bool.false_eq_true,true_iff,false_iff,iff_true,iff_false]
         first | omega | (split <;> omega)
       ·refine Yg (Zd (Yc (o':=2) rfl rfl rfl (Yl rfl rfl ZM rfl (Zq rfl (Zj rfl (Zf rfl (ZH ?_)))))))
        simp only [YU,decide_eq_true_eq,decide_eq_false_iff_not] at *
        unfold Xv
        rw [Bool.eq_iff_iff]
        simp only [beq_iff_eq,decide_eq_true_eq,Bool.false_eq_true,true_iff,false_iff,iff_true,iff_false]
        first | omega | (split <;> omega)
      ·refine ZD rfl (Ya rfl (Zo rfl (Ya rfl (Zo rfl (Zo rfl (Zj rfl (Yb (Yd (Zd (Zj rfl (Yb (ZA rfl (Yg (Zd (Yc (o':=2) rfl rfl rfl (Yl rfl rfl ZM rfl (Zq rfl (Zj rfl (Zf rfl (ZH ?_))))))))))))))))))))
       simp only [YU,decide_eq_true_eq,decide_eq_false_iff_not] at *
       unfold Xv
       rw [Bool.eq_iff_iff]
       simp only [beq_iff_eq,decide_eq_true_eq,Bool.false_eq_true,true_iff,false_iff,iff_true,iff_false]
       first | omega | (split <;> omega)
    ·refine ZD rfl (Ya rfl (Zo rfl (Ya rfl (Zj rfl (Ya rfl (Zy rfl (Ya rfl (Yl (x:=P (sqI (m 0)+1)) rfl rfl ZL (rfl) (Ya rfl (Zq rfl (Ya rfl (Zj rfl (Yr (t:=39) rfl (fun h22=>?_) (fun h22=>?_)))))))))))))) <;> simp only [NM] at h22
     ·refine Ya rfl (Zy rfl (Ya rfl (Yl rfl rfl ZM rfl (Ya rfl (Zt rfl rfl (Ya rfl (Zq rfl (Ya rfl (Zo rfl (Ya rfl (Zo rfl (Zo rfl (Zj rfl (Yb (Yd (Zd (Zj rfl (Yb (Yi rfl (fun h23=>?_) (fun h23=>?_)))))))))))))))))))) <;> simp only [NM] at h23
      ·refine Zd (Yc (o':=2) rfl rfl rfl (Yl rfl rfl ZM rfl (Zq rfl (Zj rfl (Yr (t:=51) rfl (fun h24=>?_) (fun h24=>?_)))))) <;> simp only [NM] at h24
       ·refine Ya rfl (Yc (o':=2) rfl rfl rfl (Ya rfl (Yl rfl rfl ZM rfl (Ya rfl (Zq rfl (Zo rfl (Zj rfl (Zf rfl (ZH ?_)))))))))
        simp only [YU,decide_eq_true_eq,decide_eq_false_iff_not] at *
        unfold Xv
        rw [Bool.eq_iff_iff]
        simp only [beq_iff_eq,decide_eq_true_eq,Bool.false_eq_true,true_iff,false_iff,iff_true,iff_false]
        first | omega | (split <;> omega)
       ·refine ZC rfl (ZB rfl (Zo rfl (Zj rfl (Zf rfl (ZH ?_)))))
        simp only [YU,decide_eq_true_eq,decide_eq_false_iff_not] at *
        unfold Xv
        rw [Bool.eq_iff_iff]
        simp only [beq_iff_eq,decide_eq_true_eq,Bool.false_eq_true,true_iff,false_iff,iff_true,iff_false]
        first | omega | (split <;> omega)
      ·refine Yg (Zd (Yc (o':=2) rfl rfl rfl (Yl rfl rfl ZM rfl (Zq rfl (Zj rfl (Zf rfl (ZH ?_)))))))
       simp only [YU,decide_eq_true_eq,decide_eq_false_iff_not] at *
       unfold Xv
       rw [Bool.eq_iff_iff]
       simp only [beq_iff_eq,decide_eq_true_eq,Bool.false_eq_true,true_iff,false_iff,iff_true,iff_false]
       first | omega | (split <;> omega)
     ·refine ZD rfl (Ya rfl (Zo rfl (Ya rfl (Zo rfl (Zo rfl (Zj rfl (Yb (Yd (Zd (Zj rfl (Yb (ZA rfl (Yg (Zd (Yc (o':=2) rfl rfl rfl (Yl rfl rfl ZM rfl (Zq rfl (Zj rfl (Zf rfl (ZH ?_))))))))))))))))))))
      simp only [YU,decide_eq_true_eq,decide_eq_false_iff_not] at *
      unfold Xv
      rw [Bool.eq_iff_iff]
      simp only [beq_iff_eq,decide_eq_true_eq,Bool.false_eq_true,true_iff,false_iff,iff_true,iff_false]
      first | omega | (split <;> omega)
   ·refine ZD rfl (YG rfl (YG rfl (YG rfl (YG rfl (ZC rfl (YG rfl (YG rfl (YG rfl (YG rfl (YG rfl (YG rfl (YG rfl (YG rfl (YG rfl (ZB rfl (Zo rfl (Zj rfl (Yb (Yd (Zd (Zj rfl (Yb (ZA rfl (Yg (Zd (Yc (o':=2) rfl rfl rfl (Yl rfl rfl ZM rfl (Zq rfl (Zj rfl ?_)))))))))))))))))))))))))))))
    refine Zf rfl (ZH ?_)
    simp only [YU,decide_eq_true_eq,decide_eq_false_iff_not] at *
    unfold Xv
    rw [Bool.eq_iff_iff]
    simp only [beq_iff_eq,decide_eq_true_eq,Bool.false_eq_true,true_iff,false_iff,iff_true,iff_false]
    first | omega | (split <;> omega)
theorem uo (P m:Nat→Int) (ha:0≤m 0∧m 0 < 64) (ht:0≤m 1∧m 1 < 64):WR AM 106 [.agg 133 (ia P),.agg 3 (ia m)] [] (fun v _ _=>v = .s (.bool (decide (P (sqI (m 0)) = 1∧m 1 % 8 ≠ m 0 % 8∧m 1 = P 130∧YP P (m 1) = true)))):=by
 refine YI (a:=a106) rfl rfl (YH _) (ZP rfl) (m:=0) rfl (Zd (YB rfl (YB rfl (Yp rfl (Ze (Zx rfl (Yl rfl rfl ZL rfl (Zx rfl (Zv rfl rfl rfl (Yc rfl rfl rfl (Yl (x:=P (sqI (m 0))) rfl rfl ZM (rfl) (Zq rfl (Zj rfl (Yr (t:=12) rfl (fun h25=>?_) (fun h25=>?_))))))))))))))) <;> simp only [NM] at h25
 ·refine Ya rfl (Zx rfl (Ya rfl (Yl (x:=m 0) rfl rfl ZL (rfl) (Ya rfl (Zu rfl rfl (Ya rfl (Zy rfl (Ya rfl (Yl (x:=m 1) rfl rfl ZL (rfl) (Ya rfl (Zu rfl rfl (Ya rfl (Zq rfl (Zo rfl (Zj rfl (Yr (t:=21) rfl (fun h26=>?_) (fun h26=>?_))))))))))))))))) <;> simp only [NM] at h26
  ·refine Ya rfl (Zy rfl (Ya rfl (Yl (x:=m 1) rfl rfl ZL (rfl) (Ya rfl (Yc (o':=130) rfl rfl rfl (Ya rfl (Yl (x:=P 130) rfl rfl ZM (rfl) (Ya rfl (Zq rfl (Zo rfl (Zj rfl (Yr (t:=28) rfl (fun h27=>?_) (fun h27=>?_))))))))))))) <;> simp only [NM] at h27
   ·refine Ya rfl (Zy rfl (Ya rfl (Yl rfl rfl ZL rfl (Ya rfl (Zx rfl (Ya rfl (Zv rfl rfl rfl (Ya rfl (Yo rfl rfl ZM (Ya rfl (YA rfl .nil (Ya rfl (Yv rfl rfl (Zo rfl (Zj rfl (Zf rfl (ZH ?_)))))))))))))))))
    obtain ⟨e,he⟩:∃ e,e = YP P (m 1):=⟨_,rfl⟩
    (show YP P (m 1) = _; rw [← he]; cases e)
    all_goals rw [Bool.eq_iff_iff]
    all_goals simp only [beq_iff_eq,decide_eq_true_eq,Bool.false_eq_true,true_iff,false_iff,iff_true,iff_false,and_true,and_false,not_false_eq_true]
    all_goals omega
   ·refine ZD rfl (ZC rfl (ZB rfl (Zo rfl (Zj rfl (Zf rfl (ZH ?_))))))
    obtain ⟨e,he⟩:∃ e,e = YP P (m 1):=⟨_,rfl⟩
    rw [← he]
    all_goals rw [Bool.eq_iff_iff]
    all_goals simp only [beq_iff_eq,decide_eq_true_eq,Bool.false_eq_true,true_iff,false_iff,iff_true,iff_false,and_true,and_false,not_false_eq_true]
    all_goals omega
  ·refine ZD rfl (ZB rfl (Zo rfl (Zj rfl (ZD rfl (ZC rfl (ZB rfl (Zo rfl (Zj rfl (Zf rfl (ZH ?_))))))))))
   obtain ⟨e,he⟩:∃ e,e = YP P (m 1):=⟨_,rfl⟩
   rw [← he]
   all_goals rw [Bool.eq_iff_iff]
   all_goals simp only [beq_iff_eq,decide_eq_true_eq,Bool.false_eq_true,true_iff,false_iff,iff_true,iff_false,and_true,and_false,not_false_eq_true]
   all_goals omega
 ·refine ZD rfl (ZC rfl (ZB rfl (Zo rfl (Zj rfl (ZD rfl (ZB rfl (Zo rfl (Zj rfl (ZD rfl (ZC rfl (ZB rfl (Zo rfl (Zj rfl (Zf rfl (ZH ?_)))))))))))))))
  obtain ⟨e,he⟩:∃ e,e = YP P (m 1):=⟨_,rfl⟩
  rw [← he]
  all_goals rw [Bool.eq_iff_iff]
  all_goals simp only [beq_iff_eq,decide_eq_true_eq,Bool.false_eq_true,true_iff,false_iff,iff_true,iff_false,and_true,and_false,not_false_eq_true]
  all_goals omega
theorem uX (X m:Nat→Int) (hc:X 1 = 0∨X 1 = 1) (ha:0≤m 0∧m 0 < 64) (ht:0≤m 1∧m 1 < 64):WR AM 85 [.agg 2 (ia X),.agg 3 (ia m)] [] (fun v _ _=>v = .s (.bool (WJ (X 0) (m 0) (m 1) (X 1)))):=by
 refine YI (a:=a85) rfl rfl (YH _) (ZP rfl) (m:=0) rfl (Zd (YB rfl (YB rfl (Yp rfl (Yb (Yd (Zd (Zx rfl (Yl rfl rfl ZM rfl (Zq rfl (Zj rfl (Yr (t:=8) rfl (fun h28=>?_) (fun h28=>?_))))))))))))) <;> simp only [NM] at h28
 ·refine ZD rfl (ZC rfl (ZB rfl (Zo rfl (Yb (Zz rfl (Zd (Yp rfl (Zf rfl (ZH ?_)))))))))
  unfold WJ
  rw [Bool.eq_iff_iff]
  simp only [beq_iff_eq,decide_eq_true_eq,Bool.false_eq_true,true_iff,false_iff,iff_true,iff_false]
  omega
 ·refine Ya rfl (Zx rfl (Ya rfl (Yl rfl rfl ZL rfl (Ya rfl (Zu rfl rfl (Ya rfl (Zy rfl (Ya rfl (Yl rfl rfl ZL rfl (Ya rfl (Zu rfl rfl (Ya rfl (Zq rfl (Zo rfl (Yb (Yi rfl (fun h29=>?_) (fun h29=>?_))))))))))))))))) <;> simp only [NM] at h29
  ·refine Zd (Yp rfl (Zf rfl (ZH ?_)))
   unfold WJ
   rw [Bool.eq_iff_iff]
   simp only [beq_iff_eq,decide_eq_true_eq,Bool.false_eq_true,true_iff,false_iff,iff_true,iff_false]
   omega
  ·refine Yg (Zd (Zy rfl (Yl rfl rfl ZM rfl (Zq rfl (Zj rfl (Yr (t:=20) rfl (fun h30=>?_) (fun h30=>?_))))))) <;> simp only [NM] at h30
   ·refine Ya rfl (Zx rfl (Ya rfl (Yl rfl rfl ZL rfl (Ya rfl (Zt rfl rfl (Ya rfl (Zq rfl (Zo rfl (Zj rfl (Yr (t:=26) rfl (fun h31=>?_) (fun h31=>?_))))))))))) <;> simp only [NM] at h31
    ·refine Ya rfl (Zy rfl (Ya rfl (Yl rfl rfl ZL rfl (Ya rfl (Zt rfl rfl (Ya rfl (Zq rfl (Zo rfl (Zj rfl (Yr (t:=32) rfl (fun h32=>?_) (fun h32=>?_))))))))))) <;> simp only [NM] at h32
     ·refine ZD rfl (YG rfl (YG rfl (YG rfl (YG rfl (ZC rfl (YG rfl (YG rfl (YG rfl (YG rfl (ZB rfl (Zo rfl (Zj rfl (Zf rfl (ZH ?_))))))))))))))
      unfold WJ
      rw [Bool.eq_iff_iff]
      simp only [beq_iff_eq,decide_eq_true_eq,Bool.false_eq_true,true_iff,false_iff,iff_true,iff_false]
      omega
     ·refine Ya rfl (Zy rfl (Ya rfl (Yl rfl rfl ZM rfl (Ya rfl (Zq rfl (Ya rfl (Zj rfl (Yr (t:=36) rfl (fun h33=>?_) (fun h33=>?_))))))))) <;> simp only [NM] at h33
      ·refine Ya rfl (Zx rfl (Ya rfl (Yl rfl rfl ZL rfl (Ya rfl (Zt rfl rfl (Ya rfl (Zq rfl (Ya rfl (Zo rfl (Ya rfl (Zj rfl (Yr (t:=42) rfl (fun h34=>?_) (fun h34=>?_))))))))))))) <;> simp only [NM] at h34
       ·refine Ya rfl (Zy rfl (Ya rfl (Yl rfl rfl ZL rfl (Ya rfl (Zt rfl rfl (Ya rfl (Zq rfl (Ya rfl (Zo rfl (Zo rfl (Zj rfl (Zf rfl (ZH ?_)))))))))))))
        unfold WJ
        rw [Bool.eq_iff_iff]
        simp only [beq_iff_eq,decide_eq_true_eq,Bool.false_eq_true,true_iff,false_iff,iff_true,iff_false]
        omega
       ·refine ZD rfl (Ya rfl (Zo rfl (Zo rfl (Zj rfl (Zf rfl (ZH ?_))))))
        unfold WJ
        rw [Bool.eq_iff_iff]
        simp only [beq_iff_eq,decide_eq_true_eq,Bool.false_eq_true,true_iff,false_iff,iff_true,iff_false]
        omega
      ·refine ZD rfl (Ya rfl (Zo rfl (Ya rfl (Zj rfl (ZD rfl (Ya rfl (Zo rfl (Zo rfl (Zj rfl (Zf rfl (ZH ?_)))))))))))
       unfold WJ
       rw [Bool.eq_iff_iff]
       simp only [beq_iff_eq,decide_eq_true_eq,Bool.false_eq_true,true_iff,false_iff,iff_true,iff_false]
       omega
    ·refine ZD rfl (Zo rfl (Zj rfl (Ya rfl (Zy rfl (Ya rfl (Yl rfl rfl ZM rfl (Ya rfl (Zq rfl (Ya rfl (Zj rfl (Yr (t:=36) rfl (fun h35=>?_) (fun h35=>?_)))))))))))) <;> simp only [NM] at h35
     ·refine Ya rfl (Zx rfl (Ya rfl (Yl rfl rfl ZL rfl (Ya rfl (Zt rfl rfl (Ya rfl (Zq rfl (Ya rfl (Zo rfl (Ya rfl (Zj rfl (Yr (t:=42) rfl (fun h36=>?_) (fun h36=>?_))))))))))))) <;> simp only [NM] at h36
      ·refine Ya rfl (Zy rfl (Ya rfl (Yl rfl rfl ZL rfl (Ya rfl (Zt rfl rfl (Ya rfl (Zq rfl (Ya rfl (Zo rfl (Zo rfl (Zj rfl (Zf rfl (ZH ?_)))))))))))))
       unfold WJ
       rw [Bool.eq_iff_iff]
       simp only [beq_iff_eq,decide_eq_true_eq,Bool.false_eq_true,true_iff,false_iff,iff_true,iff_false]
       omega
      ·refine ZD rfl (Ya rfl (Zo rfl (Zo rfl (Zj rfl (Zf rfl (ZH ?_))))))
       unfold WJ
       rw [Bool.eq_iff_iff]
       simp only [beq_iff_eq,decide_eq_true_eq,Bool.false_eq_true,true_iff,false_iff,iff_true,iff_false]
       omega
     ·refine ZD rfl (Ya rfl (Zo rfl (Ya rfl (Zj rfl (ZD rfl (Ya rfl (Zo rfl (Zo rfl (Zj rfl (Zf rfl (ZH ?_)))))))))))
      unfold WJ
      rw [Bool.eq_iff_iff]
      simp only [beq_iff_eq,decide_eq_true_eq,Bool.false_eq_true,true_iff,false_iff,iff_true,iff_false]
      omega
   ·refine ZD rfl (Zo rfl (Zj rfl (ZD rfl (Zo rfl (Zj rfl (Ya rfl (Zy rfl (Ya rfl (Yl rfl rfl ZM rfl (Ya rfl (Zq rfl (Ya rfl (Zj rfl (Yr (t:=36) rfl (fun h37=>?_) (fun h37=>?_))))))))))))))) <;> simp only [NM] at h37
    ·refine Ya rfl (Zx rfl (Ya rfl (Yl rfl rfl ZL rfl (Ya rfl (Zt rfl rfl (Ya rfl (Zq rfl (Ya rfl (Zo rfl (Ya rfl (Zj rfl (Yr (t:=42) rfl (fun h38=>?_) (fun h38=>?_))))))))))))) <;> simp only [NM] at h38
     ·refine Ya rfl (Zy rfl (Ya rfl (Yl rfl rfl ZL rfl (Ya rfl (Zt rfl rfl (Ya rfl (Zq rfl (Ya rfl (Zo rfl (Zo rfl (Zj rfl (Zf rfl (ZH ?_)))))))))))))
      unfold WJ
      rw [Bool.eq_iff_iff]
      simp only [beq_iff_eq,decide_eq_true_eq,Bool.false_eq_true,true_iff,false_iff,iff_true,iff_false]
      omega
     ·refine ZD rfl (Ya rfl (Zo rfl (Zo rfl (Zj rfl (Zf rfl (ZH ?_))))))
      unfold WJ
      rw [Bool.eq_iff_iff]
      simp only [beq_iff_eq,decide_eq_true_eq,Bool.false_eq_true,true_iff,false_iff,iff_true,iff_false]
      omega
    ·refine ZD rfl (Ya rfl (Zo rfl (Ya rfl (Zj rfl (ZD rfl (Ya rfl (Zo rfl (Zo rfl (Zj rfl (Zf rfl (ZH ?_)))))))))))
     unfold WJ
     rw [Bool.eq_iff_iff]
     simp only [beq_iff_eq,decide_eq_true_eq,Bool.false_eq_true,true_iff,false_iff,iff_true,iff_false]
     omega
theorem E3 {C:Int} (h:0≤C) (s:Int) (hs:s = 1∨s = 2∨s = 4∨s = 8):0≤C / s:=Int.ediv_nonneg h (by omega)
theorem wA (P m:Nat→Int) (hc:P (sqI (m 0)+1) = 0∨P (sqI (m 0)+1) = 1) (ha:0≤m 0∧m 0 < 64) (ht:0≤m 1∧m 1 < 64):WR AM 81 [.agg 133 (ia P),.agg 3 (ia m)] [] (fun v _ _=>v = .s (.int .i64 (YW (P (sqI (m 0))) (m 0) (m 1) (P (sqI (m 0)+1)) (WK P)))):=by
 have hC:=Tp P
 have d1:=E3 hC.1 1 (by omega)
 have d2:=E3 hC.1 2 (by omega)
 have d4:=E3 hC.1 4 (by omega)
 have d8:=E3 hC.1 8 (by omega)
 refine YI (a:=a81) rfl rfl (YH _) (ZP rfl) (m:=0) rfl (Zd (YB rfl (YB rfl (Yp rfl (Ze (Zx rfl (Yl rfl rfl ZL rfl (Zx rfl (Zv rfl rfl rfl (Yo rfl rfl ZM (Yx (Yy rfl rfl rfl rfl .here (Ze (Yp rfl (Yp rfl (Yp rfl (Yb (Yd (Zd (Zy rfl (Yl (x:=P (sqI (m 0)+1)) rfl rfl ZL (rfl) (Zq rfl (Yb (Yi rfl (fun h39=>?_) (fun h39=>?_))))))))))))))))))))))))) <;> simp only [NM] at h39
 ·refine Ye (Yp rfl (Yp rfl (Yp rfl (Yb (Yd (Zd (Zx rfl (Yl (x:=P (sqI (m 0))) rfl rfl ZL (rfl) (Zq rfl (Zj rfl (Yr (t:=20) rfl (fun h40=>?_) (fun h40=>?_)))))))))))) <;> simp only [NM] at h40
  ·refine ZD rfl (Zo rfl (Yb (Zz rfl (Zd (Yp rfl (Yb (Yh (⟨_,ZK rfl,?_⟩))))))))
   refine ZI ?_
   rcases hc with hc | hc
   all_goals simp only [YW,YO,hc,if_true,if_false,Int.reduceEq,Int.reduceMul,Int.reduceAdd]
   all_goals (repeat' split) <;> omega
  ·refine Ya rfl (Zx rfl (Ya rfl (Yl (x:=m 0) rfl rfl ZM (rfl) (Ya rfl (Zi rfl (Ya rfl (Zq rfl (Zo rfl (Yb (Yi rfl (fun h41=>?_) (fun h41=>?_))))))))))) <;> simp only [NM] at h41
   ·refine Zd (Yp rfl (Yb (Yh (⟨_,ZK rfl,?_⟩))))
    refine ZI ?_
    rcases hc with hc | hc
    all_goals simp only [YW,YO,hc,if_true,if_false,Int.reduceEq,Int.reduceMul,Int.reduceAdd]
    all_goals (repeat' split) <;> omega
   ·refine Yg (Yd (Zd (Zy rfl (Yl (x:=m 1) rfl rfl ZM (rfl) (Zi rfl (Zr rfl rfl (Zq rfl (Zj rfl (Yr (t:=31) rfl (fun h42=>?_) (fun h42=>?_)))))))))) <;> simp only [NM] at h42
    ·refine Ya rfl (Yn rfl rfl ZN (Ya rfl (Ys rfl (YF (Vv _)) rfl rfl rfl (Ya rfl (Zi rfl (Ya rfl (Zt rfl rfl (Ya rfl (Zu rfl rfl (Ya rfl (Zq rfl (Zo rfl (Yb (Yi rfl (fun h43=>?_) (fun h43=>?_))))))))))))))) <;> simp only [NM] at h43
     ·refine Zd (Yp rfl (Yb (Yh (⟨_,ZK rfl,?_⟩))))
      refine ZI ?_
      rcases hc with hc | hc
      all_goals simp only [YW,YO,hc,if_true,if_false,Int.reduceEq,Int.reduceMul,Int.reduceAdd]
      all_goals (repeat' split) <;> omega
     ·refine Yg (Yd (Zd (Zy rfl (Yl (x:=m 1) rfl rfl ZM (rfl) (Zi rfl (Zs rfl rfl (Zq rfl (Zj rfl (Yr (t:=44) rfl (fun h44=>?_) (fun h44=>?_)))))))))) <;> simp only [NM] at h44
      ·refine Ya rfl (Yn rfl rfl ZN (Ya rfl (Ys rfl (YF (Vv _)) rfl rfl rfl (Ya rfl (Zi rfl (Ya rfl (Zt rfl rfl (Ya rfl (Zu rfl rfl (Ya rfl (Zq rfl (Zo rfl (Yb (Yi rfl (fun h45=>?_) (fun h45=>?_))))))))))))))) <;> simp only [NM] at h45
       ·refine Zd (Yp rfl (Yb (Yh (⟨_,ZK rfl,?_⟩))))
        refine ZI ?_
        rcases hc with hc | hc
        all_goals simp only [YW,YO,hc,if_true,if_false,Int.reduceEq,Int.reduceMul,Int.reduceAdd]
        all_goals (repeat' split) <;> omega
       ·refine Yg (Zd (Yp rfl (Yb (Yh (⟨_,ZK rfl,?_⟩)))))
        refine ZI ?_
        rcases hc with hc | hc
        all_goals simp only [YW,YO,hc,if_true,if_false,Int.reduceEq,Int.reduceMul,Int.reduceAdd]
        all_goals (repeat' split) <;> omega
      ·refine ZD rfl (ZC rfl (Zo rfl (Yb (ZA rfl (Yg (Zd (Yp rfl (Yb (Yh (⟨_,ZK rfl,?_⟩))))))))))
       refine ZI ?_
       rcases hc with hc | hc
       all_goals simp only [YW,YO,hc,if_true,if_false,Int.reduceEq,Int.reduceMul,Int.reduceAdd]
       all_goals (repeat' split) <;> omega
    ·refine ZD rfl (ZC rfl (Zo rfl (Yb (ZA rfl (Yg (Yd (Zd (Zy rfl (Yl (x:=m 1) rfl rfl ZM (rfl) (Zi rfl (Zs rfl rfl (Zq rfl (Zj rfl (Yr (t:=44) rfl (fun h46=>?_) (fun h46=>?_))))))))))))))) <;> simp only [NM] at h46
     ·refine Ya rfl (Yn rfl rfl ZN (Ya rfl (Ys rfl (YF (Vv _)) rfl rfl rfl (Ya rfl (Zi rfl (Ya rfl (Zt rfl rfl (Ya rfl (Zu rfl rfl (Ya rfl (Zq rfl (Zo rfl (Yb (Yi rfl (fun h47=>?_) (fun h47=>?_))))))))))))))) <;> simp only [NM] at h47
      ·refine Zd (Yp rfl (Yb (Yh (⟨_,ZK rfl,?_⟩))))
       refine ZI ?_
       rcases hc with hc | hc
       all_goals simp only [YW,YO,hc,if_true,if_false,Int.reduceEq,Int.reduceMul,Int.reduceAdd]
       all_goals (repeat' split) <;> omega
      ·refine Yg (Zd (Yp rfl (Yb (Yh (⟨_,ZK rfl,?_⟩)))))
       refine ZI ?_
       rcases hc with hc | hc
       all_goals simp only [YW,YO,hc,if_true,if_false,Int.reduceEq,Int.reduceMul,Int.reduceAdd]
       all_goals (repeat' split) <;> omega
     ·refine ZD rfl (ZC rfl (Zo rfl (Yb (ZA rfl (Yg (Zd (Yp rfl (Yb (Yh (⟨_,ZK rfl,?_⟩))))))))))
      refine ZI ?_
      rcases hc with hc | hc
      all_goals simp only [YW,YO,hc,if_true,if_false,Int.reduceEq,Int.reduceMul,Int.reduceAdd]
      all_goals (repeat' split) <;> omega
 ·refine Yg (Yd (Zd (Zx rfl (Yl (x:=P (sqI (m 0))) rfl rfl ZL (rfl) (Zq rfl (Zj rfl (Yr (t:=20) rfl (fun h48=>?_) (fun h48=>?_)))))))) <;> simp only [NM] at h48
  ·refine ZD rfl (Zo rfl (Yb (Zz rfl (Zd (Yp rfl (Yb (Yh (⟨_,ZK rfl,?_⟩))))))))
   refine ZI ?_
   rcases hc with hc | hc
   all_goals simp only [YW,YO,hc,if_true,if_false,Int.reduceEq,Int.reduceMul,Int.reduceAdd]
   all_goals (repeat' split) <;> omega
  ·refine Ya rfl (Zx rfl (Ya rfl (Yl (x:=m 0) rfl rfl ZM (rfl) (Ya rfl (Zi rfl (Ya rfl (Zq rfl (Zo rfl (Yb (Yi rfl (fun h49=>?_) (fun h49=>?_))))))))))) <;> simp only [NM] at h49
   ·refine Zd (Yp rfl (Yb (Yh (⟨_,ZK rfl,?_⟩))))
    refine ZI ?_
    rcases hc with hc | hc
    all_goals simp only [YW,YO,hc,if_true,if_false,Int.reduceEq,Int.reduceMul,Int.reduceAdd]
    all_goals (repeat' split) <;> omega
   ·refine Yg (Yd (Zd (Zy rfl (Yl (x:=m 1) rfl rfl ZM (rfl) (Zi rfl (Zr rfl rfl (Zq rfl (Zj rfl (Yr (t:=31) rfl (fun h50=>?_) (fun h50=>?_)))))))))) <;> simp only [NM] at h50
    ·refine Ya rfl (Yn rfl rfl ZN (Ya rfl (Ys rfl (YF (Vv _)) rfl rfl rfl (Ya rfl (Zi rfl (Ya rfl (Zt rfl rfl (Ya rfl (Zu rfl rfl (Ya rfl (Zq rfl (Zo rfl (Yb (Yi rfl (fun h51=>?_) (fun h51=>?_))))))))))))))) <;> simp only [NM] at h51
     ·refine Zd (Yp rfl (Yb (Yh (⟨_,ZK rfl,?_⟩))))
      refine ZI ?_
      rcases hc with hc | hc
      all_goals simp only [YW,YO,hc,if_true,if_false,Int.reduceEq,Int.reduceMul,Int.reduceAdd]
      all_goals (repeat' split) <;> omega
     ·refine Yg (Yd (Zd (Zy rfl (Yl (x:=m 1) rfl rfl ZM (rfl) (Zi rfl (Zs rfl rfl (Zq rfl (Zj rfl (Yr (t:=44) rfl (fun h52=>?_) (fun h52=>?_)))))))))) <;> simp only [NM] at h52
      ·refine Ya rfl (Yn rfl rfl ZN (Ya rfl (Ys rfl (YF (Vv _)) rfl rfl rfl (Ya rfl (Zi rfl (Ya rfl (Zt rfl rfl (Ya rfl (Zu rfl rfl (Ya rfl (Zq rfl (Zo rfl (Yb (Yi rfl (fun h53=>?_) (fun h53=>?_))))))))))))))) <;> simp only [NM] at h53
       ·refine Zd (Yp rfl (Yb (Yh (⟨_,ZK rfl,?_⟩))))
        refine ZI ?_
        rcases hc with hc | hc
        all_goals simp only [YW,YO,hc,if_true,if_false,Int.reduceEq,Int.reduceMul,Int.reduceAdd]
        all_goals (repeat' split) <;> omega
       ·refine Yg (Zd (Yp rfl (Yb (Yh (⟨_,ZK rfl,?_⟩)))))
        refine ZI ?_
        rcases hc with hc | hc
        all_goals simp only [YW,YO,hc,if_true,if_false,Int.reduceEq,Int.reduceMul,Int.reduceAdd]
        all_goals (repeat' split) <;> omega
      ·refine ZD rfl (ZC rfl (Zo rfl (Yb (ZA rfl (Yg (Zd (Yp rfl (Yb (Yh (⟨_,ZK rfl,?_⟩))))))))))
       refine ZI ?_
       rcases hc with hc | hc
       all_goals simp only [YW,YO,hc,if_true,if_false,Int.reduceEq,Int.reduceMul,Int.reduceAdd]
       all_goals (repeat' split) <;> omega
    ·refine ZD rfl (ZC rfl (Zo rfl (Yb (ZA rfl (Yg (Yd (Zd (Zy rfl (Yl (x:=m 1) rfl rfl ZM (rfl) (Zi rfl (Zs rfl rfl (Zq rfl (Zj rfl (Yr (t:=44) rfl (fun h54=>?_) (fun h54=>?_))))))))))))))) <;> simp only [NM] at h54
     ·refine Ya rfl (Yn rfl rfl ZN (Ya rfl (Ys rfl (YF (Vv _)) rfl rfl rfl (Ya rfl (Zi rfl (Ya rfl (Zt rfl rfl (Ya rfl (Zu rfl rfl (Ya rfl (Zq rfl (Zo rfl (Yb (Yi rfl (fun h55=>?_) (fun h55=>?_))))))))))))))) <;> simp only [NM] at h55
      ·refine Zd (Yp rfl (Yb (Yh (⟨_,ZK rfl,?_⟩))))
       refine ZI ?_
       rcases hc with hc | hc
       all_goals simp only [YW,YO,hc,if_true,if_false,Int.reduceEq,Int.reduceMul,Int.reduceAdd]
       all_goals (repeat' split) <;> omega
      ·refine Yg (Zd (Yp rfl (Yb (Yh (⟨_,ZK rfl,?_⟩)))))
       refine ZI ?_
       rcases hc with hc | hc
       all_goals simp only [YW,YO,hc,if_true,if_false,Int.reduceEq,Int.reduceMul,Int.reduceAdd]
       all_goals (repeat' split) <;> omega
     ·refine ZD rfl (ZC rfl (Zo rfl (Yb (ZA rfl (Yg (Zd (Yp rfl (Yb (Yh (⟨_,ZK rfl,?_⟩))))))))))
      refine ZI ?_
      rcases hc with hc | hc
      all_goals simp only [YW,YO,hc,if_true,if_false,Int.reduceEq,Int.reduceMul,Int.reduceAdd]
      all_goals (repeat' split) <;> omega
theorem vJ (P m:Nat→Int):WR AM 80 [.agg 133 (ia P),.agg 3 (ia m)] [] (fun v _ _=>v = .s (.int .i64 (if Wk P (m 0) (m 1) (m 2) = 0 then Y5 P (P (sqI (m 0))) (m 0) (m 1) else -1))):=by
 refine YI (a:=a80) rfl rfl (YH _) (ZP rfl) (m:=0) rfl (Zd (YB rfl (YB rfl (Yp rfl (Yb (Yd (Zd (Zx rfl (Yl rfl rfl ZL rfl (Ys rfl (YF (Dc _)) rfl rfl rfl (Yu (r:=.bool _) rfl rfl (Zj rfl (Yr (t:=10) rfl (fun h56=>?_) (fun h56=>?_)))))))))))))) <;> simp only [NM] at h56
 ·try simp only [isM,decide_eq_true_eq,decide_eq_false_iff_not] at h56
  refine ZD rfl (Zo rfl (Zj rfl (ZD rfl (ZB rfl (Zo rfl (Zj rfl (ZD rfl (Zo rfl (Yb (Zz rfl (Zd (Yp rfl (Yb (Yh (⟨_,ZK rfl,?_⟩)))))))))))))))
  refine ZI ?_
  (rw [Uk (by omega)]; rfl)
 ·try simp only [isM,decide_eq_true_eq,decide_eq_false_iff_not] at h56
  refine Ya rfl (Zy rfl (Ya rfl (Yl rfl rfl ZL rfl (Ya rfl (Ys rfl (YF (Dc _)) rfl rfl rfl (Ya rfl (Yu (r:=.bool _) rfl rfl (Zo rfl (Zj rfl (Yr (t:=16) rfl (fun h57=>?_) (fun h57=>?_))))))))))) <;> simp only [NM] at h57
  ·try simp only [isM,decide_eq_true_eq,decide_eq_false_iff_not] at h57
   refine ZD rfl (ZB rfl (Zo rfl (Zj rfl (ZD rfl (Zo rfl (Yb (Zz rfl (Zd (Yp rfl (Yb (Yh (⟨_,ZK rfl,?_⟩))))))))))))
   refine ZI ?_
   (rw [Uk (by omega)]; rfl)
  ·try simp only [isM,decide_eq_true_eq,decide_eq_false_iff_not] at h57
   refine Ya rfl (Zx rfl (Ya rfl (Yl rfl rfl ZL rfl (Ya rfl (Zy rfl (Ya rfl (Yl rfl rfl ZL rfl (Ya rfl (Zq rfl (Zo rfl (Zj rfl (Yr (t:=23) rfl (fun h58=>?_) (fun h58=>?_))))))))))))) <;> simp only [NM] at h58
   ·refine ZD rfl (Zo rfl (Yb (Zz rfl (Zd (Yp rfl (Yb (Yh (⟨_,ZK rfl,?_⟩))))))))
    refine ZI ?_
    (rw [Uk (by omega)]; rfl)
   ·refine Ya rfl (Yn rfl rfl ZM (Ya rfl (Yn rfl rfl ZL (Ya rfl (Ys rfl (YF (je _ _ (by assumption) (by assumption))) rfl rfl rfl (Ya rfl (Yu (r:=.bool _) rfl rfl (Zo rfl (Yb (Yi rfl (fun h59=>?_) (fun h59=>?_))))))))))) <;> simp only [NM] at h59
    ·refine Zd (Yp rfl (Yb (Yh (⟨_,ZK rfl,?_⟩))))
     refine ZI ?_
     (rw [Wf (by omega) (by assumption)]; rfl)
    ·refine Yg (Zd (Zy rfl (Yl rfl rfl ZL rfl (Zi rfl (Yb (WE (fun f n L=>(Wk P (m 0) (m 1) (m 2) = 0)∧(0≤m 0∧m 0 < 64)∧(0≤m 1∧m 1 < 64)∧(f 2 = .ptr 0 0 133)∧(f 3 = .ptr 1 0 3)∧(f 4 = .s (.int .i64 0))∧(f 5 = .s (.int .i64 (atT P (P (sqI (m 0))) (m 0) (m 1))))∧(L = [(1,.sc .var 3 (ia m)),(0,.sc .var 133 (ia P))])∧(n = 2)) ?_ (fun f nb L hI=>?_)))))))
     ·refine Zd (Yn rfl rfl ZM (Yn rfl rfl ZL (Ys rfl (YF (uo _ _ (by assumption) (by assumption))) rfl rfl rfl (Yb (Yi rfl (fun h60=>?_) (fun h60=>?_)))))) <;> simp only [NM] at h60
      ·refine Ye (Zx rfl (Yl rfl rfl ZL rfl (Zt rfl rfl (X9 rfl rfl (by omega) (Zy rfl (Yl rfl rfl ZL rfl (Zu rfl rfl (Zr rfl rfl (Zi rfl (Yb (⟨_,(.refl _),?_,by assumption,by assumption,rfl,rfl,rfl,?_,rfl,rfl⟩)))))))))))
       ·exact W8 (by omega) (by assumption)
       ·refine ZI ?_
        unfold atT
        exact (if_pos (by assumption)).symm
      ·refine Yg (⟨_,(.refl _),?_,by assumption,by assumption,rfl,rfl,rfl,?_,rfl,rfl⟩)
       ·exact W8 (by omega) (by assumption)
       ·refine ZI ?_
        unfold atT
        exact (if_neg (by assumption)).symm
     ·obtain ⟨ge,ha,ht,k2,k3,k4,k5,rfl,rfl⟩:=hI
      refine pH 2 k2 (pH 3 k3 (pH 4 k4 (pH 5 k5 ?_)))
      have hat:=yl (P:=P) (k:=P (sqI (m 0))) ha ht
      refine Yd (Zd (Zi rfl (Zx rfl (Zv rfl rfl rfl (Yo rfl rfl ZM (YA rfl .nil (Yv rfl rfl (Yb (Yi rfl (fun h61=>?_) (fun h61=>?_)))))))))) <;> simp only [NM] at h61
      ·refine Zd (Yp rfl (Yb (Yh (⟨_,ZK rfl,?_⟩))))
       refine ZI ?_
       (rw [if_pos ge,Y5,show YP P (atT P (P (sqI (m 0))) (m 0) (m 1)) = true from (by assumption)]; rfl)
      ·refine Yg (Zd (Zi rfl (Zi rfl (Yb (Yh (⟨_,ZK rfl,?_⟩))))))
       refine ZI ?_
       (rw [if_pos ge,Y5,show YP P (atT P (P (sqI (m 0))) (m 0) (m 1)) = false from (by assumption)]; rfl)
def straightL:List (Int × Int):=[(1,0),(-1,0),(0,1),(0,-1)]
def slantL:List (Int × Int):=[(1,1),(1,-1),(-1,1),(-1,-1)]
def jumpL:List (Int × Int):=[(1,2),(2,1),(2,-1),(1,-2),(-1,-2),(-2,-1),(-2,1),(-1,2)]
def WV (f r:Int):Nat→Int→List Int
 | 0,_=>[]
 | k+1,s=>if YN s f r = -1 then [] else YN s f r::WV f r k (YN s f r)
def VL (P:Nat→Int):List Int→List Int
 | []=>[]
 | t::l=>if YP P t = true then t::VL P l else [t]
def XS (P:Nat→Int) (s:Int) (ways:List (Int × Int)):List Int:=ways.flatMap fun w=>VL P (WV w.1 w.2 8 s)
def XP (s:Int) (ways:List (Int × Int)):List Int:=(ways.map fun w=>YN s w.1 w.2).filter fun t=>t != -1
def VV (P:Nat→Int) (s k c:Int):List Int :=
 if c = 0∨c = 1 then
  if k = 1 then XP s [(-1,1 - 2*c),(1,1 - 2*c)]
  else if k = 2 then XP s jumpL
  else if k = 6 then XP s (straightL++slantL)
  else if k = 4 then XS P s straightL
  else if k = 3 then XS P s slantL
  else if k = 5 then XS P s (straightL++slantL)
  else []
 else []
def XY (P:Nat→Int) (s:Int):List Int:=VV P s (P (sqI s)) (P (sqI s+1))
def Wb (P:Nat→Int) (s:Int):List Int:=if 0≤s∧s < 64 then QW (XY P s) else []
def XF (n:Int):Int:=if n < 0 then -n else n
def Q7 (n:Int):Int:=if n < 0 then -1 else if 0 < n then 1 else 0
def V9 (a b:Int):Int:=8*Q7 (b / 8 - a / 8)+Q7 (b % 8 - a % 8)
def UC (a b:Int):Nat:=max (XF (b / 8 - a / 8)).toNat (XF (b % 8 - a % 8)).toNat
def UE (P:Nat→Int) (a b:Int):Bool:=(List.range (UC a b - 1)).all fun (j:Nat)=>YP P (a+V9 a b*((j:Int)+1))
def Wt (a b:Int):Bool:=decide (b % 8 - a % 8 = 0∨b / 8 - a / 8 = 0)
def Wq (a b:Int):Bool:=decide (XF (b % 8 - a % 8) = XF (b / 8 - a / 8))
def KI (P:Nat→Int) (a b k c:Int):Bool :=
 if YU k c = false∨a = b then false
 else if k = 1 then decide (XF (b % 8 - a % 8) = 1∧b / 8 - a / 8 = 1 - 2*c)
 else if k = 2 then decide (XF (b % 8 - a % 8)*XF (b / 8 - a / 8) = 2)
 else if k = 6 then decide (XF (b % 8 - a % 8)≤1∧XF (b / 8 - a / 8)≤1)
 else if k = 4 then Wt a b && UE P a b
 else if k = 3 then Wq a b && UE P a b
 else (Wt a b || Wq a b) && UE P a b
def Xb (P:Nat→Int) (a b:Int):Bool:=KI P a b (P (sqI a)) (P (sqI a+1))
def Q3 (a b:Int):Int × Int:=(Q7 (b % 8 - a % 8),Q7 (b / 8 - a / 8))
def ED (a b:Int):List Int:=(List.range (UC a b - 1)).map fun (j:Nat)=>a+V9 a b*((j:Int)+1)
def QH (f:Nat→Bool):Bool:=Xi 64 f
theorem Ve {f:Nat→Bool} (h:QH f = true) (x:Fin 64):f x.val = true:=by
 have:∀ n,Xi n f = true→∀ i,i < n→f i = true:=by
  intro n
  induction n with
  | zero=>intro _ i hi; omega
  | succ n ih =>
   intro h i hi
   simp only [Xi,Bool.and_eq_true] at h
   by_cases e:i = n
   ·subst e; exact h.2
   ·exact ih h.1 i (by omega)
 exact this 64 h x.val x.isLt
def ja:List Int→List Int→Bool
 | [],[]=>true
 | x::l,y::r=>decide (x = y) && ja l r
 | _,_=>false
theorem kb:∀ {l r:List Int},ja l r = true→l = r
 | [],[],_=>rfl
 | x::l,y::r,h=>by
  simp only [ja,Bool.and_eq_true,decide_eq_true_eq] at h
  rw [h.1,kb h.2]
 | [],_::_,h=>by cases h
 | _::_,[],h=>by cases h
def J9 (b:Int):List Int→Bool
 | []=>false
 | x::l=>decide (b = x) || J9 b l
theorem QB {b:Int}:∀ {l:List Int},J9 b l = decide (b∈l)
 | []=>by simp [J9]
 | x::l=>by simp only [J9,QB (l:=l),List.mem_cons,Bool.decide_or]
def prefL (b:Int):List Int→List Int
 | []=>[]
 | x::l=>if x = b then [] else x::prefL b l
def chk (a:Int) (w:Int × Int):List Int→List Int→Bool
 | _,[]=>true
 | pre,b::l=>(decide (a ≠ b) && (decide ((Q3 a b).1 = w.1) && decide ((Q3 a b).2 = w.2)) && (Wt a b || Wq a b)) && ja pre (ED a b) && !J9 b pre && chk a w (pre++[b]) l
theorem tV {a b:Int} {w:Int × Int}:∀ {r pre:List Int},chk a w pre r = true→b∈r→(a ≠ b∧Q3 a b = w∧(Wt a b || Wq a b) = true)∧(b ∉ pre∧pre++r.takeWhile (fun t=>t != b) = ED a b)
 | [],_,_,h=>by cases h
 | x::r,pre,h,hm=>by
  simp only [chk,Bool.and_eq_true,decide_eq_true_eq,Bool.not_eq_true',QB,decide_eq_false_iff_not] at h
  obtain ⟨⟨⟨⟨⟨h1,h2,h3⟩,h4⟩,h5⟩,h6⟩,h7⟩:=h
  by_cases e:x = b
  ·subst e
   refine ⟨⟨h1,Prod.ext h2 h3,h4⟩,h6,?_⟩
   have:(x::r).takeWhile (fun t=>t != x) = []:=by simp
   rw [this,List.append_nil]
   exact kb h5
  ·rcases List.mem_cons.1 hm with e' | hm
   ·exact absurd e'.symm e
   ·obtain ⟨k1,k2,k3⟩:=tV h7 hm
    refine ⟨k1,fun h=>k2 (List.mem_append_left _ h),?_⟩
    have:(x::r).takeWhile (fun t=>t != b) = x::r.takeWhile (fun t=>t != b):=by simp [e]
    rw [this,← k3,List.append_assoc]; rfl
def rayOK (a b:Int):Bool:=decide (a = b) || (!(Wt a b || Wq a b) || J9 b (WV (Q3 a b).1 (Q3 a b).2 8 a))
theorem ray_all:(QH fun a=>QH fun b=>rayOK a b) = true:=by decide +kernel
theorem chk_all:(QH fun a=>(straightL++slantL).all fun w=>chk a w [] (WV w.1 w.2 8 a)) = true:=by decide +kernel
theorem ray_to (a b:Fin 64) (hn:(a.val:Int) ≠ b.val) (h:(Wt a.val b.val || Wq a.val b.val) = true):(b.val:Int)∈WV (Q3 a.val b.val).1 (Q3 a.val b.val).2 8 a.val:=by
 have h1:=Ve (Ve ray_all a) b
 unfold rayOK at h1
 rw [decide_eq_false hn,Bool.false_or,h,Bool.not_true,Bool.false_or,QB] at h1
 exact of_decide_eq_true h1
theorem tz {a:Fin 64} {b:Int} {w:Int × Int} (hw:w∈straightL++slantL) (h:b∈WV w.1 w.2 8 a.val):((a.val:Int) ≠ b∧Q3 a.val b = w∧(Wt a.val b || Wq a.val b) = true)∧(WV w.1 w.2 8 a.val).takeWhile (fun t=>t != b) = ED a.val b:=by
 have h2:=tV (List.all_eq_true.1 (Ve chk_all a) w hw) h
 exact ⟨h2.1,by simpa using h2.2.2⟩
def kZ (a b:Int):Bool:=decide (a = b) || (Wt a b == (decide (Q3 a b∈straightL) && (Wt a b || Wq a b)) && (Wq a b == (decide (Q3 a b∈slantL) && (Wt a b || Wq a b))))
def Ep (a b:Int):Bool :=
 (J9 b (XP a jumpL) == (decide (a ≠ b) && decide (XF (b % 8 - a % 8)*XF (b / 8 - a / 8) = 2))) &&
 (J9 b (XP a (straightL++slantL)) == (decide (a ≠ b) && (decide (XF (b % 8 - a % 8)≤1) && decide (XF (b / 8 - a / 8)≤1)))) &&
 [0,1].all fun c=>J9 b (XP a [(-1,1 - 2*c),(1,1 - 2*c)]) == (decide (a ≠ b) && (decide (XF (b % 8 - a % 8) = 1) && decide (b / 8 - a / 8 = 1 - 2*c)))
theorem kr:(QH fun a=>QH fun b=>kZ a b) = true:=by decide +kernel
theorem pB:(QH fun a=>QH fun b=>Ep a b) = true:=by decide +kernel
theorem rT (a b:Fin 64) (hn:(a.val:Int) ≠ b.val):Wt a.val b.val = decide (Q3 a.val b.val∈straightL∧(Wt a.val b.val || Wq a.val b.val) = true):=by
 have h:=Ve (Ve kr a) b
 unfold kZ at h
 rw [decide_eq_false hn,Bool.false_or,Bool.and_eq_true,beq_iff_eq,beq_iff_eq] at h
 rw [Bool.decide_and]
 exact h.1.trans (by simp)
theorem pD (a b:Fin 64) (hn:(a.val:Int) ≠ b.val):Wq a.val b.val = decide (Q3 a.val b.val∈slantL∧(Wt a.val b.val || Wq a.val b.val) = true):=by
 have h:=Ve (Ve kr a) b
 unfold kZ at h
 rw [decide_eq_false hn,Bool.false_or,Bool.and_eq_true,beq_iff_eq,beq_iff_eq] at h
 rw [Bool.decide_and]
 exact h.2.trans (by simp)
theorem yM (a b:Fin 64):Ep a.val b.val = true:=Ve (Ve pB a) b
theorem xL (a b:Fin 64) (c:Int) (hc:c∈[0,1]):decide ((b.val:Int)∈XP a.val [(-1,1 - 2*c),(1,1 - 2*c)]) = decide ((a.val:Int) ≠ b.val∧XF ((b.val:Int) % 8 - (a.val:Int) % 8) = 1∧(b.val:Int) / 8 - (a.val:Int) / 8 = 1 - 2*c):=by
 have h:=yM a b
 unfold Ep at h
 rw [Bool.and_eq_true] at h
 have h:=List.all_eq_true.1 h.2 c hc
 rw [beq_iff_eq,QB] at h
 rw [h,Bool.decide_and,Bool.decide_and]
theorem xA (a b:Fin 64):decide ((b.val:Int)∈XP a.val jumpL) = decide ((a.val:Int) ≠ b.val∧XF ((b.val:Int) % 8 - (a.val:Int) % 8)*XF ((b.val:Int) / 8 - (a.val:Int) / 8) = 2):=by
 have h:=yM a b
 unfold Ep at h
 rw [Bool.and_eq_true,Bool.and_eq_true,beq_iff_eq,QB] at h
 rw [h.1.1,Bool.decide_and]
theorem wm (a b:Fin 64):decide ((b.val:Int)∈XP a.val (straightL++slantL)) = decide ((a.val:Int) ≠ b.val∧XF ((b.val:Int) % 8 - (a.val:Int) % 8)≤1∧XF ((b.val:Int) / 8 - (a.val:Int) / 8)≤1):=by
 have h:=yM a b
 unfold Ep at h
 rw [Bool.and_eq_true,Bool.and_eq_true,beq_iff_eq,beq_iff_eq,QB,QB] at h
 rw [h.1.2,Bool.decide_and,Bool.decide_and]
def DX:List Int→Bool
 | []=>true
 | x::l=>!J9 x l && DX l
theorem Rn:∀ {l:List Int},DX l = true→l.Nodup
 | [],_=>.nil
 | x::l,h=>by
  simp only [DX,Bool.and_eq_true,Bool.not_eq_true',QB,decide_eq_false_iff_not] at h
  exact List.nodup_cons.2 ⟨h.1,Rn h.2⟩
theorem nod_all:(QH fun a=>DX (XP a jumpL) && DX (XP a (straightL++slantL)) && ([0,1].all fun c=>DX (XP a [(-1,1 - 2*c),(1,1 - 2*c)])) && DX ((straightL++slantL).flatMap fun w=>WV w.1 w.2 8 a)) = true:=by decide +kernel
theorem zB (a:Fin 64):(XP a.val jumpL).Nodup∧(XP a.val (straightL++slantL)).Nodup∧(∀ c∈[0,1],(XP a.val [(-1,1 - 2*c),(1,1 - 2*c)]).Nodup)∧((straightL++slantL).flatMap fun w=>WV w.1 w.2 8 a.val).Nodup:=by
 have h:=Ve nod_all a
 simp only [Bool.and_eq_true] at h
 exact ⟨Rn h.1.1.1,Rn h.1.1.2,fun c hc=>Rn (List.all_eq_true.1 h.1.2 c hc),Rn h.2⟩
theorem upto_mem {P:Nat→Int} {b:Int}:∀ {l:List Int},b∈VL P l↔b∈l∧(l.takeWhile (fun t=>t != b)).all (fun t=>YP P t) = true
 | []=>by simp [VL]
 | t::l=>by
  unfold VL
  by_cases e:t = b
  ·subst e
   have h:(t::l).takeWhile (fun s=>s != t) = []:=by simp
   rw [h]
   by_cases h:YP P t = true
   ·rw [if_pos h]; simp
   ·rw [if_neg h]; simp
  ·have h1:(t::l).takeWhile (fun s=>s != b) = t::l.takeWhile (fun s=>s != b):=by simp [e]
   rw [h1]
   by_cases h:YP P t = true
   ·rw [if_pos h,List.mem_cons,List.mem_cons,upto_mem,List.all_cons,h,Bool.true_and]
    have:b ≠ t:=Ne.symm e
    simp [this]
   ·rw [if_neg h,List.all_cons]
    have:b ≠ t:=Ne.symm e
    simp [this,h]
theorem R2 (P:Nat→Int):∀ l:List Int,List.Sublist (VL P l) l
 | []=>.slnil
 | t::l=>by
  unfold VL
  by_cases h:YP P t = true
  ·rw [if_pos h]; exact (R2 P l).cons_cons _
  ·rw [if_neg h]; exact (List.nil_sublist l).cons_cons _
theorem jo {α β:Type} {f g:α→List β} (h:∀ x,List.Sublist (f x) (g x)):∀ l:List α,List.Sublist (l.flatMap f) (l.flatMap g)
 | []=>by simp
 | x::l=>by rw [List.flatMap_cons,List.flatMap_cons]; exact (h x).append (jo h l)
theorem rL {α β:Type} {f:α→List β} {l1 l2:List α} (h:List.Sublist l1 l2):List.Sublist (l1.flatMap f) (l2.flatMap f):=by
 induction h with
 | slnil=>exact .refl _
 | cons x _ ih=>rw [List.flatMap_cons]; exact ih.trans (List.sublist_append_right _ _)
 | cons_cons x _ ih=>rw [List.flatMap_cons,List.flatMap_cons]; exact (List.Sublist.refl _).append ih
theorem QM {a:Int} (h:0≤a∧a < 64):∃ x:Fin 64,(x.val:Int) = a:=⟨⟨a.toNat,by omega⟩,by simp; omega⟩
theorem Rg {P:Nat→Int} {s:Int} (hs:0≤s∧s < 64) {ways:List (Int × Int)} (hw:List.Sublist ways (straightL++slantL)):(XS P s ways).Nodup:=by
 obtain ⟨x,rfl⟩:=QM hs
 exact ((jo (fun w=>R2 P _) ways).trans (rL hw)).nodup (zB x).2.2.2
theorem zN {P:Nat→Int} {s:Int} (hs:0≤s∧s < 64):(XY P s).Nodup:=by
 have hn:∀ k c,(VV P s k c).Nodup:=by
  intro k c
  unfold VV
  obtain ⟨x,hx⟩:=QM hs
  have h:=zB x
  rw [hx] at h
  by_cases hc:c = 0∨c = 1
  ·rw [if_pos hc]
   have h3:=h.2.2.1 c (by rcases hc with rfl | rfl <;> simp)
   repeat' split
   ·exact h3
   ·exact h.1
   ·exact h.2.1
   ·exact Rg hs (List.sublist_append_left _ _)
   ·exact Rg hs (List.sublist_append_right _ _)
   ·exact Rg hs (.refl _)
   ·exact .nil
  ·rw [if_neg hc]; exact .nil
 exact hn _ _
theorem JX {P:Nat→Int} {a b:Int} (ha:0≤a∧a < 64) (hb:0≤b∧b < 64) {ways:List (Int × Int)} (hw:∀ w∈ways,w∈straightL++slantL) :
  b∈XS P a ways↔a ≠ b∧Q3 a b∈ways∧(Wt a b || Wq a b) = true∧UE P a b = true:=by
 obtain ⟨x,rfl⟩:=QM ha
 obtain ⟨y,rfl⟩:=QM hb
 have ho:UE P x.val y.val = (ED x.val y.val).all fun t=>YP P t:=by
  unfold UE ED
  rw [List.all_map]; rfl
 unfold XS
 rw [List.mem_flatMap]
 constructor
 ·rintro ⟨w,hm,hu⟩
  obtain ⟨h1,h2⟩:=upto_mem.1 hu
  obtain ⟨⟨f1,f2,f3⟩,f4⟩:=tz (hw w hm) h1
  rw [f4,← ho] at h2
  exact ⟨f1,by rw [f2]; exact hm,f3,h2⟩
 ·rintro ⟨h1,h2,h3,h4⟩
  have f1:=ray_to x y h1 h3
  obtain ⟨_,f4⟩:=tz (hw _ h2) f1
  exact ⟨_,h2,upto_mem.2 ⟨f1,by rw [f4,← ho]; exact h4⟩⟩
theorem TH {P:Nat→Int} {a b:Int} (ha:0≤a∧a < 64) (hb:0≤b∧b < 64):b∈XY P a↔Xb P a b = true:=by
 have hk:∀ k c,b∈VV P a k c↔KI P a b k c = true:=by
  intro k c
  unfold VV KI
  by_cases hab:a = b
  ·have hor:YU k c = false∨a = b:=.inr hab
   rw [if_pos hor]
   clear hor
   subst hab
   have e1:=xL; have e2:=xA; have e3:=wm
   obtain ⟨x,hx⟩:=QM ha
   have g2:=e2 x x; have g3:=e3 x x
   rw [hx] at g2 g3
   simp only [ne_eq,not_true_eq_false,false_and,decide_false,decide_eq_false_iff_not] at g2 g3
   simp only [Bool.false_eq_true,iff_false]
   by_cases hc:c = 0∨c = 1
   ·rw [if_pos hc]
    have g1:=e1 x x c (by rcases hc with rfl | rfl <;> simp)
    rw [hx] at g1
    simp only [ne_eq,not_true_eq_false,false_and,decide_false,decide_eq_false_iff_not] at g1
    have ga:∀ ways:List (Int × Int),(∀ w∈ways,w∈straightL++slantL)→a ∉ XS P a ways:=fun ways hw h=>((JX ha ha hw).1 h).1 rfl
    repeat' split
    ·exact g1
    ·exact g2
    ·exact g3
    ·exact ga _ fun w h=>List.mem_append_left _ h
    ·exact ga _ fun w h=>List.mem_append_right _ h
    ·exact ga _ fun w h=>h
    ·simp
   ·rw [if_neg hc]; simp
  ·obtain ⟨x,hx⟩:=QM ha
   obtain ⟨y,hy⟩:=QM hb
   have hxy:(x.val:Int) ≠ y.val:=by rw [hx,hy]; exact hab
   by_cases hc:c = 0∨c = 1
   ·rw [if_pos hc]
    by_cases hm:YU k c = true
    ·have hn:¬ (YU k c = false∨a = b):=by
      rintro (h | h)
      ·rw [hm] at h; cases h
      ·exact hab h
     rw [if_neg hn]
     have hk:1≤k∧k≤6:=by
      unfold YU at hm
      simp only [decide_eq_true_eq] at hm
      omega
     have g1:=xL x y c (by rcases hc with rfl | rfl <;> simp)
     have g2:=xA x y
     have g3:=wm x y
     have g4:=rT x y hxy
     have g5:=pD x y hxy
     rw [hx,hy] at g1 g2 g3 g4 g5
     simp only [ne_eq,hab,not_false_eq_true,true_and] at g1 g2 g3
     by_cases k1:k = 1
     ·rw [if_pos k1,if_pos k1,← g1,decide_eq_true_eq]
     rw [if_neg k1,if_neg k1]
     by_cases k2:k = 2
     ·rw [if_pos k2,if_pos k2,← g2,decide_eq_true_eq]
     rw [if_neg k2,if_neg k2]
     by_cases k6:k = 6
     ·rw [if_pos k6,if_pos k6,← g3,decide_eq_true_eq]
     rw [if_neg k6,if_neg k6]
     by_cases k4:k = 4
     ·rw [if_pos k4,if_pos k4,JX ha hb fun w h=>List.mem_append_left _ h,Bool.and_eq_true]
      constructor
      ·rintro ⟨_,h1,h2,h3⟩
       exact ⟨g4.trans (decide_eq_true ⟨h1,h2⟩),h3⟩
      ·rintro ⟨h1,h2⟩
       obtain ⟨h3,h4⟩:=of_decide_eq_true (g4.symm.trans h1)
       exact ⟨hab,h3,h4,h2⟩
     rw [if_neg k4,if_neg k4]
     by_cases k3:k = 3
     ·rw [if_pos k3,if_pos k3,JX ha hb fun w h=>List.mem_append_right _ h,Bool.and_eq_true]
      constructor
      ·rintro ⟨_,h1,h2,h3⟩
       exact ⟨g5.trans (decide_eq_true ⟨h1,h2⟩),h3⟩
      ·rintro ⟨h1,h2⟩
       obtain ⟨h3,h4⟩:=of_decide_eq_true (g5.symm.trans h1)
       exact ⟨hab,h3,h4,h2⟩
     rw [if_neg k3,if_neg k3,if_pos (show k = 5 by omega),JX ha hb fun w h=>h,Bool.and_eq_true]
     simp only [ne_eq,hab,not_false_eq_true,true_and]
     constructor
     ·rintro ⟨_,h⟩; exact h
     ·rintro ⟨h1,h2⟩
      refine ⟨?_,h1,h2⟩
      rw [Bool.or_eq_true] at h1
      rcases h1 with h | h
      ·rw [g4] at h
       exact List.mem_append_left _ (of_decide_eq_true h).1
      ·rw [g5] at h
       exact List.mem_append_right _ (of_decide_eq_true h).1
    ·have hm':YU k c = false:=by simpa using hm
     rw [if_pos (show YU k c = false∨a = b from .inl hm')]
     unfold YU at hm
     simp only [decide_eq_true_eq] at hm
     rw [if_neg (by omega),if_neg (by omega),if_neg (by omega),if_neg (by omega),if_neg (by omega),if_neg (by omega)]
     simp
   ·rw [if_neg hc]
    have hm':YU k c = false:=by
     unfold YU
     simp only [decide_eq_false_iff_not]
     omega
    rw [if_pos (show YU k c = false∨a = b from .inl hm')]
    simp
 exact hk _ _
theorem ring_bd {s t:Int} {ways:List (Int × Int)} (h:t∈XP s ways):0≤t∧t < 64:=by
 unfold XP at h
 rw [List.mem_filter,List.mem_map] at h
 obtain ⟨⟨w,_,rfl⟩,h⟩:=h
 have:=VT s w.1 w.2
 have:YN s w.1 w.2 ≠ -1:=by simpa using h
 omega
theorem zX {f r:Int}:∀ {k:Nat} {s t:Int},t∈WV f r k s→0≤t∧t < 64
 | 0,s,t,h=>by cases h
 | k+1,s,t,h=>by
  unfold WV at h
  split at h
  ·cases h
  ·rename_i hn
   rcases List.mem_cons.1 h with rfl | h
   ·have:=VT s f r; omega
   ·exact zX h
theorem kA {P:Nat→Int} {s t:Int} (h:t∈XY P s):0≤t∧t < 64:=by
 have ha:∀ ways,t∈XS P s ways→0≤t∧t < 64:=by
  intro ways h
  unfold XS at h
  rw [List.mem_flatMap] at h
  obtain ⟨w,_,h⟩:=h
  exact zX ((R2 P _).subset h)
 have hk:∀ k c,t∈VV P s k c→0≤t∧t < 64:=by
  intro k c h
  unfold VV at h
  repeat' split at h
  all_goals first | exact ring_bd h | exact ha _ h | cases h
 exact hk _ _ h
def X4 (n:Nat):List Int:=(List.range n).map fun (i:Nat)=>(i:Int)
def attL (P:Nat→Int) (s:Int):List Int:=if 0≤s∧s < 64 then (X4 64).filter (Xb P s) else []
theorem sS (p:Int→Bool) (n:Nat):((X4 n).filter p).Pairwise (· < ·):=by
 refine List.Pairwise.filter _ ?_
 unfold X4
 rw [List.pairwise_map]
 exact List.pairwise_lt_range.imp (fun h=>by omega)
theorem rV (P:Nat→Int) (s:Int):Wb P s = attL P s:=by
 unfold Wb attL
 by_cases h:0≤s∧s < 64
 ·rw [if_pos h,if_pos h]
  refine srtM_is (zN h) (sS _ _) fun x=>?_
  rw [List.mem_filter]
  unfold X4
  rw [List.mem_map]
  constructor
  ·intro hx
   have hb:=kA hx
   exact ⟨⟨x.toNat,List.mem_range.2 (by omega),by omega⟩,(TH h hb).1 hx⟩
  ·rintro ⟨⟨i,hi,rfl⟩,hx⟩
   exact (TH h ⟨by omega,by have:=List.mem_range.1 hi; omega⟩).2 hx
 ·rw [if_neg h,if_neg h]
end Go.Proofs.YtlkighkfkdpncaaGreat
namespace Go.Am
open Go
section
variable {A:AP} {N:Nat} {f:FE} {n:Nat} {L:HA} {K:KN} {Zp:V→KN} {l:List I} {d:Nat}
def bytes2 (a b:Int):Nat→S:=WU (WU (fun _=>.int .u8 0) (0*1) 1 (fun _=>.int .u8 a)) (1*1) 1 (fun _=>.int .u8 b)
end
end Go.Am
namespace Go.Proofs.YtlkighkfkdpncaaGreat
open Go Go.Am
def darkM (x:Int):Bool:=decide ((0≤x∧x < 64)∧(x % 8+x / 8) % 2 = 0)
def nameS (x:Int):ByteArray:=if 0≤x∧x < 64 then ⟨#[UInt8.ofNat (97+(x % 8).toNat),UInt8.ofNat (49+(x / 8).toNat)]⟩ else ⟨#[]⟩
def rayF (s f r:Int):Nat→Int
 | 0=>YN s f r
 | k+1=>YN (rayF s f r k) f r
def muM (s f r:Int):Nat:=if s < 0 then 0 else if 0 < f then (8 - s % 8).toNat else if f < 0 then (s % 8+1).toNat else if 0 < r then (8 - s / 8).toNat else (s / 8+1).toNat
theorem rE {s f r:Int} (h:YN s f r ≠ -1):(0≤s∧s < 64)∧(0≤s % 8+f∧s % 8+f < 8)∧(0≤s / 8+r∧s / 8+r < 8)∧YN s f r = (s / 8+r)*8+(s % 8+f):=by
 unfold YN atM at h ⊢
 by_cases c:(0≤s∧s < 64)∧(-8 < f∧f < 8)∧(-8 < r∧r < 8)
 ·rw [if_pos c] at h ⊢
  by_cases e:0≤s % 8+f∧s % 8+f < 8∧0≤s / 8+r∧s / 8+r < 8
  ·rw [if_pos e]; exact ⟨c.1,⟨e.1,e.2.1⟩,⟨e.2.2.1,e.2.2.2⟩,rfl⟩
  ·rw [if_neg e] at h; exact absurd rfl h
 ·rw [if_neg c] at h; exact absurd rfl h
theorem DV {s f r:Int} (hz:¬ (f = 0∧r = 0)) (hs:s ≠ -1) (hb:-1≤s∧s < 64):muM (YN s f r) f r < muM s f r:=by
 have h0:=VT s f r
 by_cases h:YN s f r = -1
 ·rw [h,show muM (-1) f r = 0 from if_pos (by decide)]
  have n2:¬ s < 0:=by omega
  unfold muM
  rw [if_neg n2]
  by_cases a:0 < f
  ·rw [if_pos a]; omega
  ·rw [if_neg a]
   by_cases b:f < 0
   ·rw [if_pos b]; omega
   ·rw [if_neg b]
    by_cases c:0 < r
    ·rw [if_pos c]; omega
    ·rw [if_neg c]; omega
 ·have ⟨h1,h2,h3,h4⟩:=rE h
  have e1:YN s f r % 8 = s % 8+f:=by omega
  have e2:YN s f r / 8 = s / 8+r:=by omega
  have n1:¬ YN s f r < 0:=by omega
  have n2:¬ s < 0:=by omega
  unfold muM
  rw [if_neg n1,if_neg n2,e1,e2]
  by_cases a:0 < f
  ·rw [if_pos a,if_pos a]; omega
  ·rw [if_neg a,if_neg a]
   by_cases b:f < 0
   ·rw [if_pos b,if_pos b]; omega
   ·rw [if_neg b,if_neg b]
    by_cases c:0 < r
    ·rw [if_pos c,if_pos c]; omega
    ·rw [if_neg c,if_neg c]; omega
theorem uA {s f r:Int} (h:s < 64):muM s f r≤8:=by
 unfold muM
 split
 ·omega
 ·split
  ·omega
  ·split
   ·omega
   ·split <;> omega
structure RayOf (s f r:Int) (n:Nat):Prop where
 on:∀ j:Nat,j < n→rayF s f r j ≠ -1
 off:rayF s f r n = -1
def wN (s:Int) (K:Nat→Int):Nat→Nat × (Nat→Int)
 | 0=>(0,fun _=>0)
 | i+1=>if YN s (dp K (0+(i:Int).toNat*2) 0) (dp K (0+(i:Int).toNat*2) 1) = -1 then wN s K i else ((wN s K i).1+1,fun j=>if j < (wN s K i).1 then (wN s K i).2 j else YN s (dp K (0+(i:Int).toNat*2) 0) (dp K (0+(i:Int).toNat*2) 1))
theorem sx {c:Int} (h:0≤c∧c≤15):WX .shr (.int .i64 c) (.int .i64 0) = some (.int .i64 (c / 1)):=by
 have:c = 0∨c = 1∨c = 2∨c = 3∨c = 4∨c = 5∨c = 6∨c = 7∨c = 8∨c = 9∨c = 10∨c = 11∨c = 12∨c = 13∨c = 14∨c = 15:=by omega
 rcases this with rfl | rfl | rfl | rfl | rfl | rfl | rfl | rfl | rfl | rfl | rfl | rfl | rfl | rfl | rfl | rfl <;> rfl
theorem sy {c:Int} (h:0≤c∧c≤15):WX .shr (.int .i64 c) (.int .i64 1) = some (.int .i64 (c / 2)):=by
 have:c = 0∨c = 1∨c = 2∨c = 3∨c = 4∨c = 5∨c = 6∨c = 7∨c = 8∨c = 9∨c = 10∨c = 11∨c = 12∨c = 13∨c = 14∨c = 15:=by omega
 rcases this with rfl | rfl | rfl | rfl | rfl | rfl | rfl | rfl | rfl | rfl | rfl | rfl | rfl | rfl | rfl | rfl <;> rfl
theorem tT {c:Int} (h:0≤c∧c≤15):WX .shr (.int .i64 c) (.int .i64 2) = some (.int .i64 (c / 4)):=by
 have:c = 0∨c = 1∨c = 2∨c = 3∨c = 4∨c = 5∨c = 6∨c = 7∨c = 8∨c = 9∨c = 10∨c = 11∨c = 12∨c = 13∨c = 14∨c = 15:=by omega
 rcases this with rfl | rfl | rfl | rfl | rfl | rfl | rfl | rfl | rfl | rfl | rfl | rfl | rfl | rfl | rfl | rfl <;> rfl
theorem tS {c:Int} (h:0≤c∧c≤15):WX .shr (.int .i64 c) (.int .i64 3) = some (.int .i64 (c / 8)):=by
 have:c = 0∨c = 1∨c = 2∨c = 3∨c = 4∨c = 5∨c = 6∨c = 7∨c = 8∨c = 9∨c = 10∨c = 11∨c = 12∨c = 13∨c = 14∨c = 15:=by omega
 rcases this with rfl | rfl | rfl | rfl | rfl | rfl | rfl | rfl | rfl | rfl | rfl | rfl | rfl | rfl | rfl | rfl <;> rfl
theorem JO {c:Int} (h:0≤c∧c≤15):WX .and (.int .i64 c) (.int .i64 1) = some (.int .i64 (c % 2)):=by
 have:c = 0∨c = 1∨c = 2∨c = 3∨c = 4∨c = 5∨c = 6∨c = 7∨c = 8∨c = 9∨c = 10∨c = 11∨c = 12∨c = 13∨c = 14∨c = 15:=by omega
 rcases this with rfl | rfl | rfl | rfl | rfl | rfl | rfl | rfl | rfl | rfl | rfl | rfl | rfl | rfl | rfl | rfl <;> rfl
def YY (P:Nat→Int) (x k c:Int):Bool:=decide (P (sqI x) = k∧P (sqI x+1) = c)
theorem X3 {X Y:Nat→Int}:eqI 2 X Y = decide (X 0 = Y 0∧X 1 = Y 1):=by
 rw [Bool.eq_iff_iff,Qx,decide_eq_true_eq]
 constructor
 ·intro h; exact ⟨h 0 (by omega),h 1 (by omega)⟩
 ·rintro ⟨h0,h1⟩ i hi
  have:i = 0∨i = 1:=by omega
  rcases this with rfl | rfl
  ·exact h0
  ·exact h1
def okM (P:Nat→Int) (s:Nat):Prop:=(P (sqI s) = 0∧P (sqI s+1) = 0)∨((1≤P (sqI s)∧P (sqI s)≤6∧(P (sqI s+1) = 0∨P (sqI s+1) = 1))∧¬ (P (sqI s) = 1∧(s < 8∨56≤s)))
def kM (P:Nat→Int) (c:Int):Nat→Int
 | 0=>0
 | n+1=>kM P c n+(if P (sqI n) = 6∧P (sqI n+1) = c then 1 else 0)
theorem wJ (P:Nat→Int) (c:Int):∀ n:Nat,0≤kM P c n∧kM P c n≤n
 | 0=>⟨Int.le_refl _,Int.le_refl _⟩
 | n+1=>by
  have:=wJ P c n
  unfold kM
  split <;> omega
instance (P:Nat→Int) (s:Nat):Decidable (okM P s):=by unfold okM; infer_instance
def Wz (P:Nat→Int):Bool:=decide ((∀ s:Nat,s < 64→okM P s)∧kM P 0 64 = 1∧kM P 1 64 = 1∧(P 128 = 0∨P 128 = 1))
theorem XX {P:Nat→Int} (h:¬ ((∀ s:Nat,s < 64→okM P s)∧kM P 0 64 = 1∧kM P 1 64 = 1∧(P 128 = 0∨P 128 = 1))):Wz P = false:=by
 unfold Wz; exact decide_eq_false h
theorem Uh {P:Nat→Int} (h:(∀ s:Nat,s < 64→okM P s)∧kM P 0 64 = 1∧kM P 1 64 = 1∧(P 128 = 0∨P 128 = 1)):Wz P = true:=by
 unfold Wz; exact decide_eq_true h
theorem JW {P:Nat→Int} (h:Wz P = true):(∀ s:Nat,s < 64→okM P s)∧kM P 0 64 = 1∧kM P 1 64 = 1∧(P 128 = 0∨P 128 = 1):=by
 unfold Wz at h; exact of_decide_eq_true h
theorem WI {P:Nat→Int} {i:Nat} (h:∀ s:Nat,s < i→okM P s) (hi:okM P i):∀ s:Nat,s < i+1→okM P s:=fun s hs=>by
 by_cases e:s = i
 ·subst e; exact hi
 ·exact h s (by omega)
theorem UO {P C:Nat→Int} {i:Nat} (h0:C 0 = kM P 0 i) (h1:C 1 = kM P 1 i) (hk:¬ P (sqI i) = 6):C 0 = kM P 0 (i+1)∧C 1 = kM P 1 (i+1):=by
 unfold kM
 rw [if_neg (fun q=>hk q.1),if_neg (fun q=>hk q.1)]
 omega
theorem UM {P C:Nat→Int} {i:Nat} (h0:C 0 = kM P 0 i) (h1:C 1 = kM P 1 i) (hk:P (sqI i) = 6) (hc:P (sqI i+1) = 0∨P (sqI i+1) = 1):ov C (0+(P (sqI i+1)).toNat*1) (C (0+(P (sqI i+1)).toNat*1)+1) 0 = kM P 0 (i+1)∧ov C (0+(P (sqI i+1)).toNat*1) (C (0+(P (sqI i+1)).toNat*1)+1) 1 = kM P 1 (i+1):=by
 unfold kM
 rcases hc with hc | hc
 ·rw [if_pos ⟨hk,hc⟩,if_neg (by omega),hc]
  exact ⟨by show C 0+1 = _; omega,by show C 1 = _; omega⟩
 ·rw [if_neg (by omega),if_pos ⟨hk,hc⟩,hc]
  exact ⟨by show C 0 = _; omega,by show C 1+1 = _; omega⟩
theorem Kc {P C:Nat→Int} {i:Nat} (h0:C 0 = kM P 0 i) (h1:C 1 = kM P 1 i) (hi:i≤64) (hc:P (sqI i+1) = 0∨P (sqI i+1) = 1):-9223372036854775808≤C (0+(P (sqI i+1)).toNat*1)+1∧C (0+(P (sqI i+1)).toNat*1)+1≤9223372036854775807:=by
 have:=wJ P 0 i
 have:=wJ P 1 i
 rcases hc with hc | hc
 ·rw [hc]; show _≤C 0+1∧C 0+1≤_; omega
 ·rw [hc]; show _≤C 1+1∧C 1+1≤_; omega
theorem dp_ix {P:Nat→Int} {i:Nat}:(fun j=>ia P ((i:Int).toNat*2+j)) = ia (dp P (sqI i)):=by
 funext j
 show _ = ia P (0+(i:Int).toNat*2+j)
 rw [Nat.zero_add]
theorem ovA2 {F X:Nat→Int}:ovA F 0 2 X 0 = X 0∧ovA F 0 2 X 1 = X 1:=⟨rfl,rfl⟩
def Y3 (P:Nat→Int) (s a b:Int):Bool:=decide (P (sqI a) = 6∧P (sqI a+1) = s∧P (sqI b) = 4∧P (sqI b+1) = s)
def YX (P:Nat→Int):Bool:=decide ((0≤P 129∧P 129≤15)∧(P 129 % 2 = 0∨Y3 P 0 4 7 = true)∧(P 129 / 2 % 2 = 0∨Y3 P 0 4 0 = true)∧(P 129 / 4 % 2 = 0∨Y3 P 1 60 63 = true)∧(P 129 / 8 = 0∨Y3 P 1 60 56 = true))
def Xh (P:Nat→Int):Bool:=decide (P 130 = -1∨((0≤P 130∧P 130 < 64)∧P 131 = 0∧((P 128 = 1∧P 130 / 8 = 2∧YY P (P 130) 0 0 = true∧YY P (P 130 - 8) 0 0 = true∧YY P (P 130+8) 1 0 = true)∨(P 128 = 0∧P 130 / 8 = 5∧YY P (P 130) 0 0 = true∧YY P (P 130+8) 0 0 = true∧YY P (P 130 - 8) 1 1 = true))))
def Vq (P:Nat→Int):Bool:=Wz P && YX P && Xh P && decide (0≤P 131∧P 131≤1024∧1≤P 132∧P 132≤16384)
theorem QC {x r:Int} (h:X6 x = r) (hr:0≤r):(0≤x∧x < 64)∧x / 8 = r:=by
 unfold X6 at h
 split at h
 ·exact ⟨by assumption,h⟩
 ·omega
theorem kh {x d:Int} (hx:0≤x∧x < 64) (h:0≤x / 8+d∧x / 8+d < 8):YN x 0 d = x+8*d:=by
 unfold YN atM
 rw [if_pos ⟨hx,by omega,by omega⟩,if_pos (by omega)]
 omega
theorem WM (P:Nat→Int) (k s x:Int) (hx:0≤x∧x < 64):WR AM 54 [.agg 133 (ia P),.s (.int .i64 k),.s (.int .i64 s),.s (.int .i64 x)] [] (fun v _ _=>v = .s (.bool (YY P x k s))):=by
 refine YI (a:=a54) rfl rfl (YH _) (ZP rfl) (m:=0) rfl (Zd (YB rfl (Yp rfl (Ze (Zi rfl (Zx rfl (Zx rfl (Zv rfl rfl rfl (Yo rfl rfl ZL (Zi rfl (Zi rfl (YA rfl (.one rfl (.one rfl .nil)) (Yv rfl rfl (Zj rfl (Zf rfl (ZH ?_))))))))))))))))
 exact X3
theorem Jd (X:Nat→Int):WR AM 86 [.agg 2 (ia X)] [] (fun v _ _=>v = .s (.bool (decide (X 0 = 0∧X 1 = 0)))):=by
 refine YI (a:=a86) rfl rfl (YH _) (ZP rfl) (m:=0) rfl (Zd (YB rfl (Yp rfl (Ze (Yn rfl rfl ZL (YA rfl .nil (Yv rfl rfl (Zj rfl (Zf rfl (ZH ?_))))))))))
 exact X3
theorem Ti {md:Md} (P:Nat→Int) (x:Int) (hx:0≤x∧x < 64):WR AM 55 [.s (.int .i64 x),.ptr 0 0 133] [.sc md 133 (ia P)] (fun v _ L=>v = .s (.bool (YY P x 0 0))∧(0,Blk.sc md 133 (ia P))∈L):=by
 refine YI (a:=a55) rfl rfl (YH _) (ZP rfl) (m:=1) rfl (Zd (Yp rfl (Ze (Zi rfl (Zx rfl (Zx rfl (Zv rfl rfl rfl (Yo rfl rfl ZL (YA rfl .nil (Yv rfl rfl (Zj rfl (Zf rfl (⟨ZH ?_,ZL⟩)))))))))))))
 exact X3
theorem Wl (P:Nat→Int) (s a b:Int) (ha:0≤a∧a < 64) (hb:0≤b∧b < 64):WR AM 88 [.agg 133 (ia P),.s (.int .i64 s),.s (.int .i64 a),.s (.int .i64 b)] [] (fun v _ _=>v = .s (.bool (Y3 P s a b))):=by
 refine YI (a:=a88) rfl rfl (YH _) (ZP rfl) (m:=0) rfl (Zd (YB rfl (Yp rfl (Ze (Zi rfl (Zx rfl (Zv rfl rfl rfl (Yo rfl rfl ZL (Zi rfl (YA rfl (.one rfl (.one rfl .nil)) (Yv rfl rfl (Zj rfl (Yr (t:=16) rfl (fun h1=>?_) (fun h1=>?_)))))))))))))) <;> simp only [NM] at h1
 ·try simp only [X3,decide_eq_true_eq,decide_eq_false_iff_not,YU,isM] at h1
  refine Ya rfl (Zi rfl (Ya rfl (Zx rfl (Ya rfl (Zv rfl rfl rfl (Ya rfl (Yo rfl rfl ZL (Ya rfl (Zi rfl (Ya rfl (YA rfl (.one rfl (.one rfl .nil)) (Ya rfl (Yv rfl rfl (Zo rfl (Zj rfl (Zf rfl (ZH ?_)))))))))))))))))
  (show eqI 2 _ _ = _; rw [X3])
  rw [Bool.eq_iff_iff]
  simp only [Y3,decide_eq_true_eq,Bool.false_eq_true,false_iff]
  have q0:ov (ov (fun _=>0) 0 6) 1 s 0 = 6:=rfl
  have q1:ov (ov (fun _=>0) 0 6) 1 s 1 = s:=rfl
  have q2:ov (ov (fun _=>0) 0 4) 1 s 0 = 4:=rfl
  have q3:ov (ov (fun _=>0) 0 4) 1 s 1 = s:=rfl
  simp only [q0,q1,q2,q3,dp,Nat.add_zero,sqI] at *
  omega
 ·try simp only [X3,decide_eq_true_eq,decide_eq_false_iff_not,YU,isM] at h1
  refine ZD rfl (ZC rfl (ZB rfl (Zo rfl (Zj rfl (Zf rfl (ZH ?_))))))
  skip
  rw [Bool.eq_iff_iff]
  simp only [Y3,decide_eq_true_eq,Bool.false_eq_true,false_iff]
  have q0:ov (ov (fun _=>0) 0 6) 1 s 0 = 6:=rfl
  have q1:ov (ov (fun _=>0) 0 6) 1 s 1 = s:=rfl
  have q2:ov (ov (fun _=>0) 0 4) 1 s 0 = 4:=rfl
  have q3:ov (ov (fun _=>0) 0 4) 1 s 1 = s:=rfl
  simp only [q0,q1,q2,q3,dp,Nat.add_zero,sqI] at *
  omega
theorem jz (P:Nat→Int):WR AM 63 [.agg 133 (ia P)] [] (fun v _ _=>v = .s (.bool (YX P))):=by
 refine YI (a:=a63) rfl rfl (YH _) (ZP rfl) (m:=0) rfl (Zd (YB rfl (Yp rfl (Ze (Yc (o':=129) rfl rfl rfl (Yl rfl rfl ZL rfl (Zi rfl (Yb (Yd (Zd (Zi rfl (Zq rfl (Zj rfl (Yr (t:=8) rfl (fun h2=>?_) (fun h2=>?_))))))))))))))) <;> simp only [NM] at h2
 ·refine ZC rfl (Zo rfl (Yb (Zz rfl (Zd (Yp rfl (Zf rfl (ZH ?_)))))))
  rw [Bool.eq_iff_iff]
  simp only [YX,Y3,decide_eq_true_eq,Bool.false_eq_true,false_iff,true_iff]
  omega
 ·refine Ya rfl (Zi rfl (Ya rfl (Zq rfl (Zo rfl (Yb (Yi rfl (fun h3=>?_) (fun h3=>?_))))))) <;> simp only [NM] at h3
  ·refine Zd (Yp rfl (Zf rfl (ZH ?_)))
   rw [Bool.eq_iff_iff]
   simp only [YX,Y3,decide_eq_true_eq,Bool.false_eq_true,false_iff,true_iff]
   omega
  ·refine Yg (Zd (Zi rfl (Zu rfl rfl (Zq rfl (Zj rfl (Yr (t:=15) rfl (fun h4=>?_) (fun h4=>?_))))))) <;> simp only [NM] at h4
   ·refine ZC rfl (Zo rfl (Zj rfl (Ya rfl (Zi rfl (Ya rfl (Zt rfl rfl (Ya rfl (Zu rfl rfl (Ya rfl (Zq rfl (Ya rfl (Zj rfl (Yr (t:=24) rfl (fun h5=>?_) (fun h5=>?_)))))))))))))) <;> simp only [NM] at h5
    ·refine ZC rfl (Ya rfl (Zo rfl (Zo rfl (Zj rfl (Ya rfl (Zi rfl (Ya rfl (Zt rfl rfl (Ya rfl (Zu rfl rfl (Ya rfl (Zq rfl (Ya rfl (Zj rfl (Yr (t:=34) rfl (fun h6=>?_) (fun h6=>?_)))))))))))))))) <;> simp only [NM] at h6
     ·refine ZC rfl (Ya rfl (Zo rfl (Zo rfl (Zj rfl (Ya rfl (Zi rfl (Ya rfl (Zt rfl rfl (Ya rfl (Zq rfl (Ya rfl (Zj rfl (Yr (t:=43) rfl (fun h7=>?_) (fun h7=>?_)))))))))))))) <;> simp only [NM] at h7
      ·refine ZC rfl (Ya rfl (Zo rfl (Zo rfl (Zj rfl (Zf rfl (ZH ?_))))))
       rw [Bool.eq_iff_iff]
       simp only [YX,Y3,decide_eq_true_eq,Bool.false_eq_true,false_iff,true_iff]
       omega
      ·refine Ya rfl (Yn rfl rfl ZL (Ya rfl (Ys rfl (YF (Wl _ _ _ _ (by omega) (by omega))) rfl rfl rfl (Ya rfl (Zo rfl (Zo rfl (Zj rfl (Zf rfl (ZH ?_)))))))))
       rw [Bool.eq_iff_iff]
       simp only [YX,Y3,decide_eq_true_eq,Bool.false_eq_true,false_iff,true_iff]
       omega
     ·refine Ya rfl (Yn rfl rfl ZL (Ya rfl (Ys rfl (YF (Wl _ _ _ _ (by omega) (by omega))) rfl rfl rfl (Ya rfl (Zo rfl (Zo rfl (Zj rfl (Yr (t:=39) rfl (fun h8=>?_) (fun h8=>?_)))))))))
      ·try simp only [Y3,decide_eq_true_eq,decide_eq_false_iff_not] at h8
       refine Ya rfl (Zi rfl (Ya rfl (Zt rfl rfl (Ya rfl (Zq rfl (Ya rfl (Zj rfl (Yr (t:=43) rfl (fun h9=>?_) (fun h9=>?_))))))))) <;> simp only [NM] at h9
       ·refine ZC rfl (Ya rfl (Zo rfl (Zo rfl (Zj rfl (Zf rfl (ZH ?_))))))
        rw [Bool.eq_iff_iff]
        simp only [YX,Y3,decide_eq_true_eq,Bool.false_eq_true,false_iff,true_iff]
        omega
       ·refine Ya rfl (Yn rfl rfl ZL (Ya rfl (Ys rfl (YF (Wl _ _ _ _ (by omega) (by omega))) rfl rfl rfl (Ya rfl (Zo rfl (Zo rfl (Zj rfl (Zf rfl (ZH ?_)))))))))
        rw [Bool.eq_iff_iff]
        simp only [YX,Y3,decide_eq_true_eq,Bool.false_eq_true,false_iff,true_iff]
        omega
      ·try simp only [Y3,decide_eq_true_eq,decide_eq_false_iff_not] at h8
       refine ZD rfl (YG rfl (YG rfl (ZB rfl (Zo rfl (Zj rfl (Zf rfl (ZH ?_)))))))
       rw [Bool.eq_iff_iff]
       simp only [YX,Y3,decide_eq_true_eq,Bool.false_eq_true,false_iff,true_iff]
       omega
    ·refine Ya rfl (Yn rfl rfl ZL (Ya rfl (Ys rfl (YF (Wl _ _ _ _ (by omega) (by omega))) rfl rfl rfl (Ya rfl (Zo rfl (Zo rfl (Zj rfl (Yr (t:=29) rfl (fun h10=>?_) (fun h10=>?_)))))))))
     ·try simp only [Y3,decide_eq_true_eq,decide_eq_false_iff_not] at h10
      refine Ya rfl (Zi rfl (Ya rfl (Zt rfl rfl (Ya rfl (Zu rfl rfl (Ya rfl (Zq rfl (Ya rfl (Zj rfl (Yr (t:=34) rfl (fun h11=>?_) (fun h11=>?_))))))))))) <;> simp only [NM] at h11
      ·refine ZC rfl (Ya rfl (Zo rfl (Zo rfl (Zj rfl (Ya rfl (Zi rfl (Ya rfl (Zt rfl rfl (Ya rfl (Zq rfl (Ya rfl (Zj rfl (Yr (t:=43) rfl (fun h12=>?_) (fun h12=>?_)))))))))))))) <;> simp only [NM] at h12
       ·refine ZC rfl (Ya rfl (Zo rfl (Zo rfl (Zj rfl (Zf rfl (ZH ?_))))))
        rw [Bool.eq_iff_iff]
        simp only [YX,Y3,decide_eq_true_eq,Bool.false_eq_true,false_iff,true_iff]
        omega
       ·refine Ya rfl (Yn rfl rfl ZL (Ya rfl (Ys rfl (YF (Wl _ _ _ _ (by omega) (by omega))) rfl rfl rfl (Ya rfl (Zo rfl (Zo rfl (Zj rfl (Zf rfl (ZH ?_)))))))))
        rw [Bool.eq_iff_iff]
        simp only [YX,Y3,decide_eq_true_eq,Bool.false_eq_true,false_iff,true_iff]
        omega
      ·refine Ya rfl (Yn rfl rfl ZL (Ya rfl (Ys rfl (YF (Wl _ _ _ _ (by omega) (by omega))) rfl rfl rfl (Ya rfl (Zo rfl (Zo rfl (Zj rfl (Yr (t:=39) rfl (fun h13=>?_) (fun h13=>?_)))))))))
       ·try simp only [Y3,decide_eq_true_eq,decide_eq_false_iff_not] at h13
        refine Ya rfl (Zi rfl (Ya rfl (Zt rfl rfl (Ya rfl (Zq rfl (Ya rfl (Zj rfl (Yr (t:=43) rfl (fun h14=>?_) (fun h14=>?_))))))))) <;> simp only [NM] at h14
        ·refine ZC rfl (Ya rfl (Zo rfl (Zo rfl (Zj rfl (Zf rfl (ZH ?_))))))
         rw [Bool.eq_iff_iff]
         simp only [YX,Y3,decide_eq_true_eq,Bool.false_eq_true,false_iff,true_iff]
         omega
        ·refine Ya rfl (Yn rfl rfl ZL (Ya rfl (Ys rfl (YF (Wl _ _ _ _ (by omega) (by omega))) rfl rfl rfl (Ya rfl (Zo rfl (Zo rfl (Zj rfl (Zf rfl (ZH ?_)))))))))
         rw [Bool.eq_iff_iff]
         simp only [YX,Y3,decide_eq_true_eq,Bool.false_eq_true,false_iff,true_iff]
         omega
       ·try simp only [Y3,decide_eq_true_eq,decide_eq_false_iff_not] at h13
        refine ZD rfl (YG rfl (YG rfl (ZB rfl (Zo rfl (Zj rfl (Zf rfl (ZH ?_)))))))
        rw [Bool.eq_iff_iff]
        simp only [YX,Y3,decide_eq_true_eq,Bool.false_eq_true,false_iff,true_iff]
        omega
     ·try simp only [Y3,decide_eq_true_eq,decide_eq_false_iff_not] at h10
      refine ZD rfl (ZB rfl (YG rfl (YG rfl (ZB rfl (Zo rfl (Zj rfl (ZD rfl (YG rfl (YG rfl (ZB rfl (Zo rfl (Zj rfl (Zf rfl (ZH ?_))))))))))))))
      rw [Bool.eq_iff_iff]
      simp only [YX,Y3,decide_eq_true_eq,Bool.false_eq_true,false_iff,true_iff]
      omega
   ·refine Ya rfl (Yn rfl rfl ZL (Ya rfl (Ys rfl (YF (Wl _ _ _ _ (by omega) (by omega))) rfl rfl rfl (Zo rfl (Zj rfl (Yr (t:=19) rfl (fun h15=>?_) (fun h15=>?_)))))))
    ·try simp only [Y3,decide_eq_true_eq,decide_eq_false_iff_not] at h15
     refine Ya rfl (Zi rfl (Ya rfl (Zt rfl rfl (Ya rfl (Zu rfl rfl (Ya rfl (Zq rfl (Ya rfl (Zj rfl (Yr (t:=24) rfl (fun h16=>?_) (fun h16=>?_))))))))))) <;> simp only [NM] at h16
     ·refine ZC rfl (Ya rfl (Zo rfl (Zo rfl (Zj rfl (Ya rfl (Zi rfl (Ya rfl (Zt rfl rfl (Ya rfl (Zu rfl rfl (Ya rfl (Zq rfl (Ya rfl (Zj rfl (Yr (t:=34) rfl (fun h17=>?_) (fun h17=>?_)))))))))))))))) <;> simp only [NM] at h17
      ·refine ZC rfl (Ya rfl (Zo rfl (Zo rfl (Zj rfl (Ya rfl (Zi rfl (Ya rfl (Zt rfl rfl (Ya rfl (Zq rfl (Ya rfl (Zj rfl (Yr (t:=43) rfl (fun h18=>?_) (fun h18=>?_)))))))))))))) <;> simp only [NM] at h18
       ·refine ZC rfl (Ya rfl (Zo rfl (Zo rfl (Zj rfl (Zf rfl (ZH ?_))))))
        rw [Bool.eq_iff_iff]
        simp only [YX,Y3,decide_eq_true_eq,Bool.false_eq_true,false_iff,true_iff]
        omega
       ·refine Ya rfl (Yn rfl rfl ZL (Ya rfl (Ys rfl (YF (Wl _ _ _ _ (by omega) (by omega))) rfl rfl rfl (Ya rfl (Zo rfl (Zo rfl (Zj rfl (Zf rfl (ZH ?_)))))))))
        rw [Bool.eq_iff_iff]
        simp only [YX,Y3,decide_eq_true_eq,Bool.false_eq_true,false_iff,true_iff]
        omega
      ·refine Ya rfl (Yn rfl rfl ZL (Ya rfl (Ys rfl (YF (Wl _ _ _ _ (by omega) (by omega))) rfl rfl rfl (Ya rfl (Zo rfl (Zo rfl (Zj rfl (Yr (t:=39) rfl (fun h19=>?_) (fun h19=>?_)))))))))
       ·try simp only [Y3,decide_eq_true_eq,decide_eq_false_iff_not] at h19
        refine Ya rfl (Zi rfl (Ya rfl (Zt rfl rfl (Ya rfl (Zq rfl (Ya rfl (Zj rfl (Yr (t:=43) rfl (fun h20=>?_) (fun h20=>?_))))))))) <;> simp only [NM] at h20
        ·refine ZC rfl (Ya rfl (Zo rfl (Zo rfl (Zj rfl (Zf rfl (ZH ?_))))))
         rw [Bool.eq_iff_iff]
         simp only [YX,Y3,decide_eq_true_eq,Bool.false_eq_true,false_iff,true_iff]
         omega
        ·refine Ya rfl (Yn rfl rfl ZL (Ya rfl (Ys rfl (YF (Wl _ _ _ _ (by omega) (by omega))) rfl rfl rfl (Ya rfl (Zo rfl (Zo rfl (Zj rfl (Zf rfl (ZH ?_)))))))))
         rw [Bool.eq_iff_iff]
         simp only [YX,Y3,decide_eq_true_eq,Bool.false_eq_true,false_iff,true_iff]
         omega
       ·try simp only [Y3,decide_eq_true_eq,decide_eq_false_iff_not] at h19
        refine ZD rfl (YG rfl (YG rfl (ZB rfl (Zo rfl (Zj rfl (Zf rfl (ZH ?_)))))))
        rw [Bool.eq_iff_iff]
        simp only [YX,Y3,decide_eq_true_eq,Bool.false_eq_true,false_iff,true_iff]
        omega
     ·refine Ya rfl (Yn rfl rfl ZL (Ya rfl (Ys rfl (YF (Wl _ _ _ _ (by omega) (by omega))) rfl rfl rfl (Ya rfl (Zo rfl (Zo rfl (Zj rfl (Yr (t:=29) rfl (fun h21=>?_) (fun h21=>?_)))))))))
      ·try simp only [Y3,decide_eq_true_eq,decide_eq_false_iff_not] at h21
       refine Ya rfl (Zi rfl (Ya rfl (Zt rfl rfl (Ya rfl (Zu rfl rfl (Ya rfl (Zq rfl (Ya rfl (Zj rfl (Yr (t:=34) rfl (fun h22=>?_) (fun h22=>?_))))))))))) <;> simp only [NM] at h22
       ·refine ZC rfl (Ya rfl (Zo rfl (Zo rfl (Zj rfl (Ya rfl (Zi rfl (Ya rfl (Zt rfl rfl (Ya rfl (Zq rfl (Ya rfl (Zj rfl (Yr (t:=43) rfl (fun h23=>?_) (fun h23=>?_)))))))))))))) <;> simp only [NM] at h23
        ·refine ZC rfl (Ya rfl (Zo rfl (Zo rfl (Zj rfl (Zf rfl (ZH ?_))))))
         rw [Bool.eq_iff_iff]
         simp only [YX,Y3,decide_eq_true_eq,Bool.false_eq_true,false_iff,true_iff]
         omega
        ·refine Ya rfl (Yn rfl rfl ZL (Ya rfl (Ys rfl (YF (Wl _ _ _ _ (by omega) (by omega))) rfl rfl rfl (Ya rfl (Zo rfl (Zo rfl (Zj rfl (Zf rfl (ZH ?_)))))))))
         rw [Bool.eq_iff_iff]
         simp only [YX,Y3,decide_eq_true_eq,Bool.false_eq_true,false_iff,true_iff]
         omega
       ·refine Ya rfl (Yn rfl rfl ZL (Ya rfl (Ys rfl (YF (Wl _ _ _ _ (by omega) (by omega))) rfl rfl rfl (Ya rfl (Zo rfl (Zo rfl (Zj rfl (Yr (t:=39) rfl (fun h24=>?_) (fun h24=>?_)))))))))
        ·try simp only [Y3,decide_eq_true_eq,decide_eq_false_iff_not] at h24
         refine Ya rfl (Zi rfl (Ya rfl (Zt rfl rfl (Ya rfl (Zq rfl (Ya rfl (Zj rfl (Yr (t:=43) rfl (fun h25=>?_) (fun h25=>?_))))))))) <;> simp only [NM] at h25
         ·refine ZC rfl (Ya rfl (Zo rfl (Zo rfl (Zj rfl (Zf rfl (ZH ?_))))))
          rw [Bool.eq_iff_iff]
          simp only [YX,Y3,decide_eq_true_eq,Bool.false_eq_true,false_iff,true_iff]
          omega
         ·refine Ya rfl (Yn rfl rfl ZL (Ya rfl (Ys rfl (YF (Wl _ _ _ _ (by omega) (by omega))) rfl rfl rfl (Ya rfl (Zo rfl (Zo rfl (Zj rfl (Zf rfl (ZH ?_)))))))))
          rw [Bool.eq_iff_iff]
          simp only [YX,Y3,decide_eq_true_eq,Bool.false_eq_true,false_iff,true_iff]
          omega
        ·try simp only [Y3,decide_eq_true_eq,decide_eq_false_iff_not] at h24
         refine ZD rfl (YG rfl (YG rfl (ZB rfl (Zo rfl (Zj rfl (Zf rfl (ZH ?_)))))))
         rw [Bool.eq_iff_iff]
         simp only [YX,Y3,decide_eq_true_eq,Bool.false_eq_true,false_iff,true_iff]
         omega
      ·try simp only [Y3,decide_eq_true_eq,decide_eq_false_iff_not] at h21
       refine ZD rfl (ZB rfl (YG rfl (YG rfl (ZB rfl (Zo rfl (Zj rfl (ZD rfl (YG rfl (YG rfl (ZB rfl (Zo rfl (Zj rfl (Zf rfl (ZH ?_))))))))))))))
       rw [Bool.eq_iff_iff]
       simp only [YX,Y3,decide_eq_true_eq,Bool.false_eq_true,false_iff,true_iff]
       omega
    ·try simp only [Y3,decide_eq_true_eq,decide_eq_false_iff_not] at h15
     refine ZD rfl (ZB rfl (YG rfl (YG rfl (ZB rfl (Zo rfl (Zj rfl (ZD rfl (ZB rfl (YG rfl (YG rfl (ZB rfl (Zo rfl (Zj rfl (ZD rfl (YG rfl (YG rfl (ZB rfl (Zo rfl (Zj rfl (Zf rfl (ZH ?_)))))))))))))))))))))
     rw [Bool.eq_iff_iff]
     simp only [YX,Y3,decide_eq_true_eq,Bool.false_eq_true,false_iff,true_iff]
     omega
theorem ub (P:Nat→Int):WR AM 36 [.agg 133 (ia P)] [] (fun v _ _=>v = .s (.bool (YX P))):=by
 refine YI (a:=a36) rfl rfl (YH _) (ZP rfl) (m:=0) rfl (Zd (YB rfl (Yp rfl (Yb (Yd (Zd (Zx rfl (Yc (o':=129) rfl rfl rfl (Yl rfl rfl ZL rfl (Zq rfl (Zj rfl (Yr (t:=10) rfl (fun h26=>?_) (fun h26=>?_))))))))))))) <;> simp only [NM] at h26
 ·refine ZD rfl (Zo rfl (Yb (Zz rfl (Zd (Yp rfl (Zf rfl (ZH ?_)))))))
  rw [Bool.eq_iff_iff]
  simp only [YX,Y3,YY,decide_eq_true_eq,decide_eq_false_iff_not,Bool.false_eq_true,false_iff,true_iff] at *
  omega
 ·refine Ya rfl (Zx rfl (Ya rfl (Yc (o':=129) rfl rfl rfl (Ya rfl (Yl rfl rfl ZL rfl (Ya rfl (Zq rfl (Zo rfl (Yb (Yi rfl (fun h27=>?_) (fun h27=>?_))))))))))) <;> simp only [NM] at h27
  ·refine Zd (Yp rfl (Zf rfl (ZH ?_)))
   rw [Bool.eq_iff_iff]
   simp only [YX,Y3,YY,decide_eq_true_eq,decide_eq_false_iff_not,Bool.false_eq_true,false_iff,true_iff] at *
   omega
  ·refine Yg (Yd (Zd (YA rfl (.one rfl (.one rfl (.one rfl (.one rfl .nil)))) (Yp rfl (Yb (Yj (KX (fun f n L=>(0≤P 129∧P 129≤15)∧(P 129 / 1 % 2 = 0∨(P (sqI 4) = 6∧P (sqI 4+1) = 0∧P (sqI 7) = 4∧P (sqI 7+1) = 0))∧(f 1 = .ptr 0 0 133)∧(f 16 = .agg 4 (ia (ov (ov (ov (ov (fun _=>0) 0 7) 1 0) 2 63) 3 56)))∧(f 17 = .s (.int .i64 1))∧(L = [(0,.sc .var 133 (ia P))])∧(n = 1)) ?_ (fun f nb L hI=>?_))))))))
   ·refine Zd (Zq rfl (Yb (Yd (Yi rfl (fun h28=>?_) (fun h28=>?_))))) <;> simp only [NM] at h28
    ·refine Yg (Yd (Yj (Zd (Zi rfl (zj (a:=.int .i64 7) rfl rfl rfl (by omega) rfl (Zi rfl (Zi rfl (Yb (Yd (Zd (Zx rfl (Yc (o':=129) rfl rfl rfl (Yl rfl rfl ZL rfl (Zi rfl (Yq rfl rfl (sx ⟨by omega,by omega⟩) (Yq rfl rfl (JO ⟨by omega,by omega⟩) (Zq rfl (Yb (Yi rfl (fun h29=>?_) (fun h29=>?_)))))))))))))))))))) <;> simp only [NM] at h29
     ·refine YZ (Xc (Ye (Yq (r:=.int .i64 1) rfl rfl rfl (Zi rfl (Yb (⟨_,(.refl _),⟨by omega,by omega⟩,?_,rfl,rfl,rfl,rfl,rfl⟩))))))
      omega
     ·refine Yg (Zd (Zi rfl (Yq (r:=.int .i64 0) rfl rfl rfl (Zi rfl (Ze (Yn rfl rfl ZL (Zi rfl (Zi rfl (Ys rfl (YF (WM _ _ _ _ (by omega))) rfl rfl rfl (Yu (r:=.bool _) rfl rfl (Zj rfl (Yr (t:=35) rfl (fun h30=>?_) (fun h30=>?_))))))))))))) <;> simp only [NM] at h30
      ·refine ZE rfl (Zo rfl (Yb (Zz rfl (Zd (Yp rfl (Zf rfl (ZH ?_)))))))
       rw [Bool.eq_iff_iff]
       simp only [YX,Y3,YY,decide_eq_true_eq,decide_eq_false_iff_not,Bool.false_eq_true,false_iff,true_iff] at *
       omega
      ·refine Ya rfl (Yn rfl rfl ZL (Ya rfl (Zi rfl (Ya rfl (Zi rfl (Ya rfl (Yq (r:=.int .i64 0) rfl rfl rfl (Ya rfl (Yq (r:=.int .i64 0) rfl rfl rfl (Ya rfl (Yq (r:=.int .i64 4) rfl rfl rfl (Ya rfl (Ys rfl (YF (WM _ _ _ _ (by omega))) rfl rfl rfl (Ya rfl (Yu (r:=.bool _) rfl rfl (Zo rfl (Yb (Yi rfl (fun h31=>?_) (fun h31=>?_))))))))))))))))))) <;> simp only [NM] at h31
       ·refine Zd (Yp rfl (Zf rfl (ZH ?_)))
        rw [Bool.eq_iff_iff]
        simp only [YX,Y3,YY,decide_eq_true_eq,decide_eq_false_iff_not,Bool.false_eq_true,false_iff,true_iff] at *
        omega
       ·refine Yg (Ye (Yq (r:=.int .i64 1) rfl rfl rfl (Zi rfl (Yb (⟨_,(.refl _),⟨by omega,by omega⟩,?_,rfl,rfl,rfl,rfl,rfl⟩)))))
        try simp only [YY,decide_eq_true_eq,decide_eq_false_iff_not] at *
        omega
    ·exfalso; omega
   ·obtain ⟨hC,hf0,k1,k16,k17,rfl,rfl⟩:=hI
    refine pH 1 k1 (pH 16 k16 (pH 17 k17 (KX (fun f n L=>(P 129 / 2 % 2 = 0∨(P (sqI 4) = 6∧P (sqI 4+1) = 0∧P (sqI 0) = 4∧P (sqI 0+1) = 0))∧(f 1 = .ptr 0 0 133)∧(f 16 = .agg 4 (ia (ov (ov (ov (ov (fun _=>0) 0 7) 1 0) 2 63) 3 56)))∧(f 17 = .s (.int .i64 2))∧(L = [(0,.sc .var 133 (ia P))])∧(n = 1)) ?_ (fun f nb L hI=>?_))))
    ·refine Zd (Zq rfl (Yb (Yd (Yi rfl (fun h32=>?_) (fun h32=>?_))))) <;> simp only [NM] at h32
     ·refine Yg (Yd (Yj (Zd (Zi rfl (zj (a:=.int .i64 0) rfl rfl rfl (by omega) rfl (Zi rfl (Zi rfl (Yb (Yd (Zd (Zx rfl (Yc (o':=129) rfl rfl rfl (Yl rfl rfl ZL rfl (Zi rfl (Yq rfl rfl (sy ⟨by omega,by omega⟩) (Yq rfl rfl (JO ⟨by omega,by omega⟩) (Zq rfl (Yb (Yi rfl (fun h33=>?_) (fun h33=>?_)))))))))))))))))))) <;> simp only [NM] at h33
      ·refine YZ (Xc (Ye (Yq (r:=.int .i64 2) rfl rfl rfl (Zi rfl (Yb (⟨_,(.refl _),?_,rfl,rfl,rfl,rfl,rfl⟩))))))
       omega
      ·refine Yg (Zd (Zi rfl (Yq (r:=.int .i64 0) rfl rfl rfl (Zi rfl (Ze (Yn rfl rfl ZL (Zi rfl (Zi rfl (Ys rfl (YF (WM _ _ _ _ (by omega))) rfl rfl rfl (Yu (r:=.bool _) rfl rfl (Zj rfl (Yr (t:=35) rfl (fun h34=>?_) (fun h34=>?_))))))))))))) <;> simp only [NM] at h34
       ·refine ZE rfl (Zo rfl (Yb (Zz rfl (Zd (Yp rfl (Zf rfl (ZH ?_)))))))
        rw [Bool.eq_iff_iff]
        simp only [YX,Y3,YY,decide_eq_true_eq,decide_eq_false_iff_not,Bool.false_eq_true,false_iff,true_iff] at *
        omega
       ·refine Ya rfl (Yn rfl rfl ZL (Ya rfl (Zi rfl (Ya rfl (Zi rfl (Ya rfl (Yq (r:=.int .i64 0) rfl rfl rfl (Ya rfl (Yq (r:=.int .i64 0) rfl rfl rfl (Ya rfl (Yq (r:=.int .i64 4) rfl rfl rfl (Ya rfl (Ys rfl (YF (WM _ _ _ _ (by omega))) rfl rfl rfl (Ya rfl (Yu (r:=.bool _) rfl rfl (Zo rfl (Yb (Yi rfl (fun h35=>?_) (fun h35=>?_))))))))))))))))))) <;> simp only [NM] at h35
        ·refine Zd (Yp rfl (Zf rfl (ZH ?_)))
         rw [Bool.eq_iff_iff]
         simp only [YX,Y3,YY,decide_eq_true_eq,decide_eq_false_iff_not,Bool.false_eq_true,false_iff,true_iff] at *
         omega
        ·refine Yg (Ye (Yq (r:=.int .i64 2) rfl rfl rfl (Zi rfl (Yb (⟨_,(.refl _),?_,rfl,rfl,rfl,rfl,rfl⟩)))))
         try simp only [YY,decide_eq_true_eq,decide_eq_false_iff_not] at *
         omega
     ·exfalso; omega
    ·obtain ⟨hf1,k1,k16,k17,rfl,rfl⟩:=hI
     refine pH 1 k1 (pH 16 k16 (pH 17 k17 (KX (fun f n L=>(P 129 / 4 % 2 = 0∨(P (sqI 60) = 6∧P (sqI 60+1) = 1∧P (sqI 63) = 4∧P (sqI 63+1) = 1))∧(f 1 = .ptr 0 0 133)∧(f 16 = .agg 4 (ia (ov (ov (ov (ov (fun _=>0) 0 7) 1 0) 2 63) 3 56)))∧(f 17 = .s (.int .i64 3))∧(L = [(0,.sc .var 133 (ia P))])∧(n = 1)) ?_ (fun f nb L hI=>?_))))
     ·refine Zd (Zq rfl (Yb (Yd (Yi rfl (fun h36=>?_) (fun h36=>?_))))) <;> simp only [NM] at h36
      ·refine Yg (Yd (Yj (Zd (Zi rfl (zj (a:=.int .i64 63) rfl rfl rfl (by omega) rfl (Zi rfl (Zi rfl (Yb (Yd (Zd (Zx rfl (Yc (o':=129) rfl rfl rfl (Yl rfl rfl ZL rfl (Zi rfl (Yq rfl rfl (tT ⟨by omega,by omega⟩) (Yq rfl rfl (JO ⟨by omega,by omega⟩) (Zq rfl (Yb (Yi rfl (fun h37=>?_) (fun h37=>?_)))))))))))))))))))) <;> simp only [NM] at h37
       ·refine YZ (Xc (Ye (Yq (r:=.int .i64 3) rfl rfl rfl (Zi rfl (Yb (⟨_,(.refl _),?_,rfl,rfl,rfl,rfl,rfl⟩))))))
        omega
       ·refine Yg (Zd (Zi rfl (Yq (r:=.int .i64 1) rfl rfl rfl (Zi rfl (Ze (Yn rfl rfl ZL (Zi rfl (Zi rfl (Ys rfl (YF (WM _ _ _ _ (by omega))) rfl rfl rfl (Yu (r:=.bool _) rfl rfl (Zj rfl (Yr (t:=35) rfl (fun h38=>?_) (fun h38=>?_))))))))))))) <;> simp only [NM] at h38
        ·refine ZE rfl (Zo rfl (Yb (Zz rfl (Zd (Yp rfl (Zf rfl (ZH ?_)))))))
         rw [Bool.eq_iff_iff]
         simp only [YX,Y3,YY,decide_eq_true_eq,decide_eq_false_iff_not,Bool.false_eq_true,false_iff,true_iff] at *
         omega
        ·refine Ya rfl (Yn rfl rfl ZL (Ya rfl (Zi rfl (Ya rfl (Zi rfl (Ya rfl (Yq (r:=.int .i64 7) rfl rfl rfl (Ya rfl (Yq (r:=.int .i64 56) rfl rfl rfl (Ya rfl (Yq (r:=.int .i64 60) rfl rfl rfl (Ya rfl (Ys rfl (YF (WM _ _ _ _ (by omega))) rfl rfl rfl (Ya rfl (Yu (r:=.bool _) rfl rfl (Zo rfl (Yb (Yi rfl (fun h39=>?_) (fun h39=>?_))))))))))))))))))) <;> simp only [NM] at h39
         ·refine Zd (Yp rfl (Zf rfl (ZH ?_)))
          rw [Bool.eq_iff_iff]
          simp only [YX,Y3,YY,decide_eq_true_eq,decide_eq_false_iff_not,Bool.false_eq_true,false_iff,true_iff] at *
          omega
         ·refine Yg (Ye (Yq (r:=.int .i64 3) rfl rfl rfl (Zi rfl (Yb (⟨_,(.refl _),?_,rfl,rfl,rfl,rfl,rfl⟩)))))
          try simp only [YY,decide_eq_true_eq,decide_eq_false_iff_not] at *
          omega
      ·exfalso; omega
     ·obtain ⟨hf2,k1,k16,k17,rfl,rfl⟩:=hI
      refine pH 1 k1 (pH 16 k16 (pH 17 k17 (KX (fun f n L=>(P 129 / 8 % 2 = 0∨(P (sqI 60) = 6∧P (sqI 60+1) = 1∧P (sqI 56) = 4∧P (sqI 56+1) = 1))∧(f 1 = .ptr 0 0 133)∧(f 16 = .agg 4 (ia (ov (ov (ov (ov (fun _=>0) 0 7) 1 0) 2 63) 3 56)))∧(f 17 = .s (.int .i64 4))∧(L = [(0,.sc .var 133 (ia P))])∧(n = 1)) ?_ (fun f nb L hI=>?_))))
      ·refine Zd (Zq rfl (Yb (Yd (Yi rfl (fun h40=>?_) (fun h40=>?_))))) <;> simp only [NM] at h40
       ·refine Yg (Yd (Yj (Zd (Zi rfl (zj (a:=.int .i64 56) rfl rfl rfl (by omega) rfl (Zi rfl (Zi rfl (Yb (Yd (Zd (Zx rfl (Yc (o':=129) rfl rfl rfl (Yl rfl rfl ZL rfl (Zi rfl (Yq rfl rfl (tS ⟨by omega,by omega⟩) (Yq rfl rfl (JO ⟨by omega,by omega⟩) (Zq rfl (Yb (Yi rfl (fun h41=>?_) (fun h41=>?_)))))))))))))))))))) <;> simp only [NM] at h41
        ·refine YZ (Xc (Ye (Yq (r:=.int .i64 4) rfl rfl rfl (Zi rfl (Yb (⟨_,(.refl _),?_,rfl,rfl,rfl,rfl,rfl⟩))))))
         omega
        ·refine Yg (Zd (Zi rfl (Yq (r:=.int .i64 1) rfl rfl rfl (Zi rfl (Ze (Yn rfl rfl ZL (Zi rfl (Zi rfl (Ys rfl (YF (WM _ _ _ _ (by omega))) rfl rfl rfl (Yu (r:=.bool _) rfl rfl (Zj rfl (Yr (t:=35) rfl (fun h42=>?_) (fun h42=>?_))))))))))))) <;> simp only [NM] at h42
         ·refine ZE rfl (Zo rfl (Yb (Zz rfl (Zd (Yp rfl (Zf rfl (ZH ?_)))))))
          rw [Bool.eq_iff_iff]
          simp only [YX,Y3,YY,decide_eq_true_eq,decide_eq_false_iff_not,Bool.false_eq_true,false_iff,true_iff] at *
          omega
         ·refine Ya rfl (Yn rfl rfl ZL (Ya rfl (Zi rfl (Ya rfl (Zi rfl (Ya rfl (Yq (r:=.int .i64 7) rfl rfl rfl (Ya rfl (Yq (r:=.int .i64 56) rfl rfl rfl (Ya rfl (Yq (r:=.int .i64 60) rfl rfl rfl (Ya rfl (Ys rfl (YF (WM _ _ _ _ (by omega))) rfl rfl rfl (Ya rfl (Yu (r:=.bool _) rfl rfl (Zo rfl (Yb (Yi rfl (fun h43=>?_) (fun h43=>?_))))))))))))))))))) <;> simp only [NM] at h43
          ·refine Zd (Yp rfl (Zf rfl (ZH ?_)))
           rw [Bool.eq_iff_iff]
           simp only [YX,Y3,YY,decide_eq_true_eq,decide_eq_false_iff_not,Bool.false_eq_true,false_iff,true_iff] at *
           omega
          ·refine Yg (Ye (Yq (r:=.int .i64 4) rfl rfl rfl (Zi rfl (Yb (⟨_,(.refl _),?_,rfl,rfl,rfl,rfl,rfl⟩)))))
           try simp only [YY,decide_eq_true_eq,decide_eq_false_iff_not] at *
           omega
       ·exfalso; omega
      ·obtain ⟨hf3,k1,k16,k17,rfl,rfl⟩:=hI
       refine pH 1 k1 (pH 16 k16 (pH 17 k17 (Uf (Zd (Zq rfl (Yb (Yd (Yi rfl (fun h44=>?_) (fun h44=>?_))))))))) <;> simp only [NM] at h44
       ·exfalso; omega
       ·refine YZ (Xc (Zd (Yp rfl (Zf rfl (ZH ?_)))))
        rw [Bool.eq_iff_iff]
        simp only [YX,Y3,YY,decide_eq_true_eq,decide_eq_false_iff_not,Bool.false_eq_true,false_iff,true_iff] at *
        omega
end Go.Proofs.YtlkighkfkdpncaaGreat
