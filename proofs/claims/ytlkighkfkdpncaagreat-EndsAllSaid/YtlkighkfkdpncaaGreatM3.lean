/- Texts of this seat, joined. -/
import Derived.Test.YtlkighkfkdpncaaGreatAm0
import Derived.Test.YtlkighkfkdpncaaGreatAm1
import Derived.Test.YtlkighkfkdpncaaGreatAm2
import Derived.Test.YtlkighkfkdpncaaGreatM0
import Derived.Test.YtlkighkfkdpncaaGreatM1
import Derived.Test.YtlkighkfkdpncaaGreatM2
set_option linter.unusedSimpArgs false
set_option linter.unusedVariables false
namespace Go.Proofs.YtlkighkfkdpncaaGreat
open Go Go.Am
theorem ovK {F:Nat→Int} {x y:Int}:ov (ov F 0 x) 1 y 0 = x∧ov (ov F 0 x) 1 y 1 = y:=⟨rfl,rfl⟩
theorem jt (s:Nat) (h:s < 64):RF AM 41 [.s (.int .i64 (s:Int))] (.s (.int .i64 ((s:Int) / 8))):=by
 have:=QY (s:Int)
 rw [X6,if_pos (by omega)] at this
 exact this
theorem sB (P:Nat→Int):WR AM 35 [.agg 133 (ia P)] [] (fun v _ _=>v = .s (.bool (Wz P))):=by
 refine YI (a:=a35) rfl rfl (YH _) (ZP rfl) (m:=0) rfl (Zd (YB rfl (Yp rfl (Ze (Yx (Yb (Yd (Zd (Zx rfl (Zx rfl (Yn rfl rfl ZM (Yp rfl (Yb (Yj (Xe (L':=[_,_]) (.refl _) (Xg (fun m f _ L=>∃ (i:Nat) (C:Nat→Int),(i≤64)∧(m = 64 - i)∧(∀ s:Nat,s < i→okM P s)∧(C 0 = kM P 0 i)∧(C 1 = kM P 1 i)∧(f 1 = .ptr 0 0 133)∧(f 3 = .ptr 1 0 2)∧(f 9 = .agg 128 (ia P))∧(f 10 = .s (.int .i64 i))∧(L = [(1,.sc .var 2 (ia C)),(0,.sc .var 133 (ia P))])) (fun m f nb L hI=>?_) (64) ⟨0,fun _=>0,by omega,rfl,fun s h=>by omega,rfl,rfl,rfl,rfl,rfl,rfl,rfl⟩))))))))))))))))
 obtain ⟨i,C,hi,hm,hok,hc0,hc1,k1,k3,k9,k10,rfl⟩:=hI
 refine pH 1 k1 (pH 3 k3 (pH 9 k9 (pH 10 k10 (Zd (Zq rfl (Yb (Yd (Yi rfl (fun h1=>?_) (fun h1=>?_))))))))) <;> simp only [NM] at h1
 ·refine Yg (Yd (Yj (Zd (Zi rfl ?_))))
  refine zq rfl rfl rfl (by first | omega | (simp only [YU,decide_eq_true_eq] at *; omega)) ?_
  rw [dp_ix]
  refine Yx (Zi rfl (Yy rfl rfl rfl rfl .here (Yb (Yd (Zd (Yn rfl rfl ZL (YA rfl .nil (Yv rfl rfl (Yb (Yi rfl (fun h2=>?_) (fun h2=>?_))))))))))) <;> simp only [NM] at h2
  ·try simp only [X3,ovA2.1,ovA2.2,ovK.1,ovK.2,decide_eq_true_eq,decide_eq_false_iff_not,YU,dp,Nat.add_zero] at h2
   refine YZ (Xc (Ye (Zr rfl rfl (Zi rfl (Yb ?_)))))
   (have hk:=UO hc0 hc1 (by omega); refine ⟨64 - (i+1),_,by omega,(.cons _ (.refl _)),i+1,_,by omega,rfl,WI hok (by unfold okM; omega),hk.1,hk.2,rfl,rfl,rfl,rfl,rfl⟩)
  ·try simp only [X3,ovA2.1,ovA2.2,ovK.1,ovK.2,decide_eq_true_eq,decide_eq_false_iff_not,YU,dp,Nat.add_zero] at h2
   refine Yg (Zd (Zi rfl (Ys rfl (jt i (by omega)) rfl rfl rfl (Zq rfl (Zj rfl (Yr (t:=20) rfl (fun h3=>?_) (fun h3=>?_))))))) <;> simp only [NM] at h3
   ·refine ZC rfl (ZB rfl (Zo rfl (Zj rfl (Yb (Yd (Zd (Yn rfl rfl ZL (Ys rfl (show RF AM 42 _ (.s (.bool (YU (P (sqI i)) (P (sqI i+1))))) from YF (Zay (ovA (fun _=>0) 0 2 (dp P (sqI i))))) rfl rfl rfl (Yu (r:=.bool _) rfl rfl (Zj rfl (Yr (t:=28) rfl (fun h4=>?_) (fun h4=>?_)))))))))))) <;> simp only [NM] at h4
    ·try simp only [X3,ovA2.1,ovA2.2,ovK.1,ovK.2,decide_eq_true_eq,decide_eq_false_iff_not,YU,dp,Nat.add_zero] at h4
     refine ZC rfl (YG rfl (YG rfl (YG rfl (ZB rfl (Zo rfl (Yb (Zz rfl (Zd (Yp rfl (Zf rfl ?_))))))))))
     exact congrArg (fun b=>V.s (S.bool b)) (XX (fun q=>absurd (q.1 i (by omega)) (by unfold okM; omega))).symm
    ·try simp only [X3,ovA2.1,ovA2.2,ovK.1,ovK.2,decide_eq_true_eq,decide_eq_false_iff_not,YU,dp,Nat.add_zero] at h4
     refine Ya rfl (Zj rfl (Ya rfl (Zj rfl (Ya rfl (Zx rfl (Ya rfl (Yl (x:=P (sqI i)) rfl rfl ZL (rfl) (Ya rfl (Zq rfl (Ya rfl (Zo rfl (Zo rfl (Yb (Yi rfl (fun h5=>?_) (fun h5=>?_))))))))))))))) <;> simp only [NM] at h5
     ·refine Zd (Yp rfl (Zf rfl ?_))
      exact congrArg (fun b=>V.s (S.bool b)) (XX (fun q=>absurd (q.1 i (by omega)) (by unfold okM; omega))).symm
     ·refine Yg (Zd (Zx rfl (Yl (x:=P (sqI i)) rfl rfl ZL (rfl) (Zq rfl (Yb (Yi rfl (fun h6=>?_) (fun h6=>?_))))))) <;> simp only [NM] at h6
      ·refine Ye (Zy rfl (Yl (x:=P (sqI i+1)) rfl rfl ZL (rfl) ?_))
       refine XL rfl rfl rfl (by first | omega | (simp only [YU,decide_eq_true_eq] at *; omega)) ?_
       refine Yl rfl rfl ZM rfl (WZ rfl rfl (Kc hc0 hc1 hi (by omega)) ?_)
       refine XL rfl rfl rfl (by first | omega | (simp only [YU,decide_eq_true_eq] at *; omega)) ?_
       refine Yz rfl rfl rfl rfl (.there .here) (Yb (Ye (Zr rfl rfl (Zi rfl (Yb ?_)))))
       (have hk:=UM hc0 hc1 (by omega) (by omega); refine ⟨64 - (i+1),_,by omega,(.cons _ (.refl _)),i+1,_,by omega,rfl,WI hok (by unfold okM; omega),hk.1,hk.2,rfl,rfl,rfl,rfl,rfl⟩)
      ·refine Yg (Ye (Zr rfl rfl (Zi rfl (Yb ?_))))
       (have hk:=UO hc0 hc1 (by omega); refine ⟨64 - (i+1),_,by omega,(.cons _ (.refl _)),i+1,_,by omega,rfl,WI hok (by unfold okM; omega),hk.1,hk.2,rfl,rfl,rfl,rfl,rfl⟩)
   ·refine Ya rfl (Zi rfl (Ya rfl (Ys rfl (jt i (by omega)) rfl rfl rfl (Ya rfl (Zq rfl (Zo rfl (Zj rfl (Yb (Yd (Zd (Yn rfl rfl ZL (Ys rfl (show RF AM 42 _ (.s (.bool (YU (P (sqI i)) (P (sqI i+1))))) from YF (Zay (ovA (fun _=>0) 0 2 (dp P (sqI i))))) rfl rfl rfl (Yu (r:=.bool _) rfl rfl (Zj rfl (Yr (t:=28) rfl (fun h7=>?_) (fun h7=>?_)))))))))))))))) <;> simp only [NM] at h7
    ·try simp only [X3,ovA2.1,ovA2.2,ovK.1,ovK.2,decide_eq_true_eq,decide_eq_false_iff_not,YU,dp,Nat.add_zero] at h7
     refine ZC rfl (YG rfl (YG rfl (YG rfl (ZB rfl (Zo rfl (Yb (Zz rfl (Zd (Yp rfl (Zf rfl ?_))))))))))
     exact congrArg (fun b=>V.s (S.bool b)) (XX (fun q=>absurd (q.1 i (by omega)) (by unfold okM; omega))).symm
    ·try simp only [X3,ovA2.1,ovA2.2,ovK.1,ovK.2,decide_eq_true_eq,decide_eq_false_iff_not,YU,dp,Nat.add_zero] at h7
     refine Ya rfl (Zj rfl (Ya rfl (Zj rfl (Yr (t:=30) rfl (fun h8=>?_) (fun h8=>?_))))) <;> simp only [NM] at h8
     ·refine Ya rfl (Zx rfl (Ya rfl (Yl (x:=P (sqI i)) rfl rfl ZL (rfl) (Ya rfl (Zq rfl (Ya rfl (Zo rfl (Zo rfl (Yb (Yi rfl (fun h9=>?_) (fun h9=>?_))))))))))) <;> simp only [NM] at h9
      ·refine Zd (Yp rfl (Zf rfl ?_))
       exact congrArg (fun b=>V.s (S.bool b)) (XX (fun q=>absurd (q.1 i (by omega)) (by unfold okM; omega))).symm
      ·refine Yg (Zd (Zx rfl (Yl (x:=P (sqI i)) rfl rfl ZL (rfl) (Zq rfl (Yb (Yi rfl (fun h10=>?_) (fun h10=>?_))))))) <;> simp only [NM] at h10
       ·refine Ye (Zy rfl (Yl (x:=P (sqI i+1)) rfl rfl ZL (rfl) ?_))
        refine XL rfl rfl rfl (by first | omega | (simp only [YU,decide_eq_true_eq] at *; omega)) ?_
        refine Yl rfl rfl ZM rfl (WZ rfl rfl (Kc hc0 hc1 hi (by omega)) ?_)
        refine XL rfl rfl rfl (by first | omega | (simp only [YU,decide_eq_true_eq] at *; omega)) ?_
        refine Yz rfl rfl rfl rfl (.there .here) (Yb (Ye (Zr rfl rfl (Zi rfl (Yb ?_)))))
        (have hk:=UM hc0 hc1 (by omega) (by omega); refine ⟨64 - (i+1),_,by omega,(.cons _ (.refl _)),i+1,_,by omega,rfl,WI hok (by unfold okM; omega),hk.1,hk.2,rfl,rfl,rfl,rfl,rfl⟩)
       ·refine Yg (Ye (Zr rfl rfl (Zi rfl (Yb ?_))))
        (have hk:=UO hc0 hc1 (by omega); refine ⟨64 - (i+1),_,by omega,(.cons _ (.refl _)),i+1,_,by omega,rfl,WI hok (by unfold okM; omega),hk.1,hk.2,rfl,rfl,rfl,rfl,rfl⟩)
     ·refine ZC rfl (ZB rfl (Ya rfl (Zo rfl (Zo rfl (Yb (ZA rfl (Yg (Zd (Zx rfl (Yl (x:=P (sqI i)) rfl rfl ZL (rfl) (Zq rfl (Yb (Yi rfl (fun h11=>?_) (fun h11=>?_)))))))))))))) <;> simp only [NM] at h11
      ·refine Ye (Zy rfl (Yl (x:=P (sqI i+1)) rfl rfl ZL (rfl) ?_))
       refine XL rfl rfl rfl (by first | omega | (simp only [YU,decide_eq_true_eq] at *; omega)) ?_
       refine Yl rfl rfl ZM rfl (WZ rfl rfl (Kc hc0 hc1 hi (by omega)) ?_)
       refine XL rfl rfl rfl (by first | omega | (simp only [YU,decide_eq_true_eq] at *; omega)) ?_
       refine Yz rfl rfl rfl rfl (.there .here) (Yb (Ye (Zr rfl rfl (Zi rfl (Yb ?_)))))
       (have hk:=UM hc0 hc1 (by omega) (by omega); refine ⟨64 - (i+1),_,by omega,(.cons _ (.refl _)),i+1,_,by omega,rfl,WI hok (by unfold okM; omega),hk.1,hk.2,rfl,rfl,rfl,rfl,rfl⟩)
      ·refine Yg (Ye (Zr rfl rfl (Zi rfl (Yb ?_))))
       (have hk:=UO hc0 hc1 (by omega); refine ⟨64 - (i+1),_,by omega,(.cons _ (.refl _)),i+1,_,by omega,rfl,WI hok (by unfold okM; omega),hk.1,hk.2,rfl,rfl,rfl,rfl,rfl⟩)
 ·refine YZ (Xc (Zd (Yn rfl rfl ZL (YA rfl (.one rfl (.one rfl .nil)) (Yv rfl rfl (Zj rfl (Yr (t:=49) rfl (fun h12=>?_) (fun h12=>?_)))))))) <;> simp only [NM] at h12
  ·try simp only [X3,ovA2.1,ovA2.2,ovK.1,ovK.2,decide_eq_true_eq,decide_eq_false_iff_not,YU,dp,Nat.add_zero] at h12
   refine Ya rfl (Zx rfl (Ya rfl (Yc (o':=128) rfl rfl rfl (Ya rfl (Yl rfl rfl ZM rfl (Ya rfl (Zq rfl (Ya rfl (Zj rfl (Yr (t:=54) rfl (fun h13=>?_) (fun h13=>?_))))))))))) <;> simp only [NM] at h13
   ·refine ZD rfl (Ya rfl (Zo rfl (Zo rfl (Zj rfl (Zf rfl ?_)))))
    obtain rfl:i = 64:=by omega
    refine ZH ?_
    by_cases hq:(∀ s:Nat,s < 64→okM P s)∧kM P 0 64 = 1∧kM P 1 64 = 1∧(P 128 = 0∨P 128 = 1)
    · refine Eq.trans (b:=true) ?_ (Uh hq).symm; have hq2:=hq.2; first | rfl | (exfalso; omega) | exact beq_iff_eq.2 (by omega)
    · refine Eq.trans (b:=false) ?_ (XX hq).symm; have hn:¬ (kM P 0 64 = 1∧kM P 1 64 = 1∧(P 128 = 0∨P 128 = 1)):=fun e=>hq ⟨hok,e⟩; first | rfl | (exfalso; omega) | exact beq_eq_false_iff_ne.2 (by omega)
   ·refine Ya rfl (Zx rfl (Ya rfl (Yc (o':=128) rfl rfl rfl (Ya rfl (Yl rfl rfl ZM rfl (Ya rfl (Zq rfl (Ya rfl (Zo rfl (Zo rfl (Zj rfl (Zf rfl ?_))))))))))))
    obtain rfl:i = 64:=by omega
    refine ZH ?_
    by_cases hq:(∀ s:Nat,s < 64→okM P s)∧kM P 0 64 = 1∧kM P 1 64 = 1∧(P 128 = 0∨P 128 = 1)
    · refine Eq.trans (b:=true) ?_ (Uh hq).symm; have hq2:=hq.2; first | rfl | (exfalso; omega) | exact beq_iff_eq.2 (by omega)
    · refine Eq.trans (b:=false) ?_ (XX hq).symm; have hn:¬ (kM P 0 64 = 1∧kM P 1 64 = 1∧(P 128 = 0∨P 128 = 1)):=fun e=>hq ⟨hok,e⟩; first | rfl | (exfalso; omega) | exact beq_eq_false_iff_ne.2 (by omega)
  ·try simp only [X3,ovA2.1,ovA2.2,ovK.1,ovK.2,decide_eq_true_eq,decide_eq_false_iff_not,YU,dp,Nat.add_zero] at h12
   refine ZD rfl (ZB rfl (YG rfl (YG rfl (YG rfl (YG rfl (ZB rfl (Zo rfl (Zj rfl (Zf rfl ?_)))))))))
   obtain rfl:i = 64:=by omega
   refine ZH ?_
   by_cases hq:(∀ s:Nat,s < 64→okM P s)∧kM P 0 64 = 1∧kM P 1 64 = 1∧(P 128 = 0∨P 128 = 1)
   · refine Eq.trans (b:=true) ?_ (Uh hq).symm; have hq2:=hq.2; first | rfl | (exfalso; omega) | exact beq_iff_eq.2 (by omega)
   · refine Eq.trans (b:=false) ?_ (XX hq).symm; have hn:¬ (kM P 0 64 = 1∧kM P 1 64 = 1∧(P 128 = 0∨P 128 = 1)):=fun e=>hq ⟨hok,e⟩; first | rfl | (exfalso; omega) | exact beq_eq_false_iff_ne.2 (by omega)
theorem ud (P:Nat→Int):WR AM 62 [.agg 133 (ia P)] [] (fun v _ _=>v = .s (.bool (Wz P))):=by
 refine YI (a:=a62) rfl rfl (YH _) (ZP rfl) (m:=0) rfl (Zd (YB rfl (Yp rfl (Ze (YA rfl .nil (Yx (Yy rfl rfl rfl rfl .here (Yb (Yd (Zd (Yp rfl (Yb (Yj (Xe (L':=[_,_]) (.refl _) (Xg (fun m f _ L=>∃ (i:Nat) (C:Nat→Int),(i≤64)∧(m = 64 - i)∧(∀ s:Nat,s < i→okM P s)∧(C 0 = kM P 0 i)∧(C 1 = kM P 1 i)∧(f 1 = .ptr 0 0 133)∧(f 3 = .ptr 1 0 2)∧(f 4 = .s (.int .i64 i))∧(L = [(1,.sc .var 2 (ia C)),(0,.sc .var 133 (ia P))])) (fun m f nb L hI=>?_) (64) ⟨0,ovA (fun _=>0) 0 2 (fun _=>0),by omega,rfl,fun s h=>by omega,rfl,rfl,rfl,rfl,rfl,rfl⟩)))))))))))))))
 obtain ⟨i,C,hi,hm,hok,hc0,hc1,k1,k3,k4,rfl⟩:=hI
 refine pH 1 k1 (pH 3 k3 (pH 4 k4 (Yd (Zd (Zi rfl (Zq rfl (Yb (Yi rfl (fun h14=>?_) (fun h14=>?_))))))))) <;> simp only [NM] at h14
 ·refine Yg (Yd (Yj (Zd (Zi rfl (Zx rfl ?_)))))
  refine XL rfl rfl rfl (by first | omega | (simp only [YU,decide_eq_true_eq] at *; omega)) ?_
  refine Yo rfl rfl ZM (Yx (Yy rfl rfl rfl rfl .here (Yb (Yd (Zd (Yn rfl rfl ZL (Ys rfl (show RF AM 86 _ (.s (.bool (decide (P (sqI i) = 0∧P (sqI i+1) = 0)))) from YF (Jd (ovA (fun _=>0) 0 2 (dp P (sqI i))))) rfl rfl rfl (Yu (r:=.bool _) rfl rfl (Zj rfl (Yr (t:=18) rfl (fun h15=>?_) (fun h15=>?_))))))))))) <;> simp only [NM] at h15
  ·refine Ya rfl (Yn rfl rfl ZL (Ya rfl (Ys rfl (show RF AM 87 _ (.s (.bool (YU (P (sqI i)) (P (sqI i+1))))) from YF (TF (ovA (fun _=>0) 0 2 (dp P (sqI i))))) rfl rfl rfl (Ya rfl (Yu (r:=.bool _) rfl rfl (Zo rfl (Zj rfl (Yr (t:=23) rfl (fun h16=>?_) (fun h16=>?_))))))))) <;> simp only [NM] at h16
   ·try simp only [X3,ovA2.1,ovA2.2,ovK.1,ovK.2,decide_eq_true_eq,decide_eq_false_iff_not,YU,dp,Nat.add_zero] at h16
    refine ZD rfl (YG rfl (YG rfl (YG rfl (YG rfl (YG rfl (YG rfl (ZB rfl (Zo rfl (Yb (Zz rfl (Zd (Yp rfl (Zf rfl ?_)))))))))))))
    exact congrArg (fun b=>V.s (S.bool b)) (XX (fun q=>absurd (q.1 i (by omega)) (by unfold okM; omega))).symm
   ·try simp only [X3,ovA2.1,ovA2.2,ovK.1,ovK.2,decide_eq_true_eq,decide_eq_false_iff_not,YU,dp,Nat.add_zero] at h16
    refine Ya rfl (Zx rfl (Ya rfl (Yl (x:=P (sqI i)) rfl rfl ZL (rfl) (Ya rfl (Zq rfl (Ya rfl (Zj rfl (Yr (t:=27) rfl (fun h17=>?_) (fun h17=>?_))))))))) <;> simp only [NM] at h17
    ·refine Ya rfl (Zi rfl (Ya rfl (Zq rfl (Ya rfl (Zj rfl (Yr (t:=30) rfl (fun h18=>?_) (fun h18=>?_))))))) <;> simp only [NM] at h18
     ·refine ZC rfl (Ya rfl (Zo rfl (Ya rfl (Zo rfl (Zo rfl (Yb (Zz rfl (Zd (Yp rfl (Zf rfl ?_))))))))))
      exact congrArg (fun b=>V.s (S.bool b)) (XX (fun q=>absurd (q.1 i (by omega)) (by unfold okM; omega))).symm
     ·refine Ya rfl (Zi rfl (Ya rfl (Zq rfl (Ya rfl (Zo rfl (Ya rfl (Zo rfl (Zo rfl (Yb (Yi rfl (fun h19=>?_) (fun h19=>?_))))))))))) <;> simp only [NM] at h19
      ·refine Zd (Yp rfl (Zf rfl ?_))
       exact congrArg (fun b=>V.s (S.bool b)) (XX (fun q=>absurd (q.1 i (by omega)) (by unfold okM; omega))).symm
      ·refine Yg (Zd (Zx rfl (Yl (x:=P (sqI i)) rfl rfl ZL (rfl) (Zq rfl (Yb (Yi rfl (fun h20=>?_) (fun h20=>?_))))))) <;> simp only [NM] at h20
       ·refine Ye (Zy rfl (Yl (x:=P (sqI i+1)) rfl rfl ZL (rfl) ?_))
        refine XL rfl rfl rfl (by first | omega | (simp only [YU,decide_eq_true_eq] at *; omega)) ?_
        refine Yl rfl rfl ZM rfl (WZ rfl rfl (Kc hc0 hc1 hi (by omega)) ?_)
        refine XL rfl rfl rfl (by first | omega | (simp only [YU,decide_eq_true_eq] at *; omega)) ?_
        refine Yz rfl rfl rfl rfl (.there .here) (Yb (Ye (Zi rfl (Zr rfl rfl (Zi rfl (Yb ?_))))))
        (have hk:=UM hc0 hc1 (by omega) (by omega); refine ⟨64 - (i+1),_,by omega,(.cons _ (.refl _)),i+1,_,by omega,rfl,WI hok (by unfold okM; omega),hk.1,hk.2,rfl,rfl,rfl,rfl⟩)
       ·refine Yg (Ye (Zi rfl (Zr rfl rfl (Zi rfl (Yb ?_)))))
        (have hk:=UO hc0 hc1 (by omega); refine ⟨64 - (i+1),_,by omega,(.cons _ (.refl _)),i+1,_,by omega,rfl,WI hok (by unfold okM; omega),hk.1,hk.2,rfl,rfl,rfl,rfl⟩)
    ·refine ZC rfl (ZB rfl (YG rfl (YG rfl (ZB rfl (Ya rfl (Zo rfl (Zo rfl (Yb (ZA rfl (Yg (Zd (Zx rfl (Yl (x:=P (sqI i)) rfl rfl ZL (rfl) (Zq rfl (Yb (Yi rfl (fun h21=>?_) (fun h21=>?_))))))))))))))))) <;> simp only [NM] at h21
     ·refine Ye (Zy rfl (Yl (x:=P (sqI i+1)) rfl rfl ZL (rfl) ?_))
      refine XL rfl rfl rfl (by first | omega | (simp only [YU,decide_eq_true_eq] at *; omega)) ?_
      refine Yl rfl rfl ZM rfl (WZ rfl rfl (Kc hc0 hc1 hi (by omega)) ?_)
      refine XL rfl rfl rfl (by first | omega | (simp only [YU,decide_eq_true_eq] at *; omega)) ?_
      refine Yz rfl rfl rfl rfl (.there .here) (Yb (Ye (Zi rfl (Zr rfl rfl (Zi rfl (Yb ?_))))))
      (have hk:=UM hc0 hc1 (by omega) (by omega); refine ⟨64 - (i+1),_,by omega,(.cons _ (.refl _)),i+1,_,by omega,rfl,WI hok (by unfold okM; omega),hk.1,hk.2,rfl,rfl,rfl,rfl⟩)
     ·refine Yg (Ye (Zi rfl (Zr rfl rfl (Zi rfl (Yb ?_)))))
      (have hk:=UO hc0 hc1 (by omega); refine ⟨64 - (i+1),_,by omega,(.cons _ (.refl _)),i+1,_,by omega,rfl,WI hok (by unfold okM; omega),hk.1,hk.2,rfl,rfl,rfl,rfl⟩)
  ·refine ZC rfl (ZB rfl (Zo rfl (Zj rfl (Ya rfl (Zx rfl (Ya rfl (Yl (x:=P (sqI i)) rfl rfl ZL (rfl) (Ya rfl (Zq rfl (Ya rfl (Zj rfl (Yr (t:=27) rfl (fun h22=>?_) (fun h22=>?_))))))))))))) <;> simp only [NM] at h22
   ·refine Ya rfl (Zi rfl (Ya rfl (Zq rfl (Ya rfl (Zj rfl (Yr (t:=30) rfl (fun h23=>?_) (fun h23=>?_))))))) <;> simp only [NM] at h23
    ·refine ZC rfl (Ya rfl (Zo rfl (Ya rfl (Zo rfl (Zo rfl (Yb (Zz rfl (Zd (Yp rfl (Zf rfl ?_))))))))))
     exact congrArg (fun b=>V.s (S.bool b)) (XX (fun q=>absurd (q.1 i (by omega)) (by unfold okM; omega))).symm
    ·refine Ya rfl (Zi rfl (Ya rfl (Zq rfl (Ya rfl (Zo rfl (Ya rfl (Zo rfl (Zo rfl (Yb (Yi rfl (fun h24=>?_) (fun h24=>?_))))))))))) <;> simp only [NM] at h24
     ·refine Zd (Yp rfl (Zf rfl ?_))
      exact congrArg (fun b=>V.s (S.bool b)) (XX (fun q=>absurd (q.1 i (by omega)) (by unfold okM; omega))).symm
     ·refine Yg (Zd (Zx rfl (Yl (x:=P (sqI i)) rfl rfl ZL (rfl) (Zq rfl (Yb (Yi rfl (fun h25=>?_) (fun h25=>?_))))))) <;> simp only [NM] at h25
      ·refine Ye (Zy rfl (Yl (x:=P (sqI i+1)) rfl rfl ZL (rfl) ?_))
       refine XL rfl rfl rfl (by first | omega | (simp only [YU,decide_eq_true_eq] at *; omega)) ?_
       refine Yl rfl rfl ZM rfl (WZ rfl rfl (Kc hc0 hc1 hi (by omega)) ?_)
       refine XL rfl rfl rfl (by first | omega | (simp only [YU,decide_eq_true_eq] at *; omega)) ?_
       refine Yz rfl rfl rfl rfl (.there .here) (Yb (Ye (Zi rfl (Zr rfl rfl (Zi rfl (Yb ?_))))))
       (have hk:=UM hc0 hc1 (by omega) (by omega); refine ⟨64 - (i+1),_,by omega,(.cons _ (.refl _)),i+1,_,by omega,rfl,WI hok (by unfold okM; omega),hk.1,hk.2,rfl,rfl,rfl,rfl⟩)
      ·refine Yg (Ye (Zi rfl (Zr rfl rfl (Zi rfl (Yb ?_)))))
       (have hk:=UO hc0 hc1 (by omega); refine ⟨64 - (i+1),_,by omega,(.cons _ (.refl _)),i+1,_,by omega,rfl,WI hok (by unfold okM; omega),hk.1,hk.2,rfl,rfl,rfl,rfl⟩)
   ·refine ZC rfl (ZB rfl (YG rfl (YG rfl (ZB rfl (Ya rfl (Zo rfl (Zo rfl (Yb (ZA rfl (Yg (Zd (Zx rfl (Yl (x:=P (sqI i)) rfl rfl ZL (rfl) (Zq rfl (Yb (Yi rfl (fun h26=>?_) (fun h26=>?_))))))))))))))))) <;> simp only [NM] at h26
    ·refine Ye (Zy rfl (Yl (x:=P (sqI i+1)) rfl rfl ZL (rfl) ?_))
     refine XL rfl rfl rfl (by first | omega | (simp only [YU,decide_eq_true_eq] at *; omega)) ?_
     refine Yl rfl rfl ZM rfl (WZ rfl rfl (Kc hc0 hc1 hi (by omega)) ?_)
     refine XL rfl rfl rfl (by first | omega | (simp only [YU,decide_eq_true_eq] at *; omega)) ?_
     refine Yz rfl rfl rfl rfl (.there .here) (Yb (Ye (Zi rfl (Zr rfl rfl (Zi rfl (Yb ?_))))))
     (have hk:=UM hc0 hc1 (by omega) (by omega); refine ⟨64 - (i+1),_,by omega,(.cons _ (.refl _)),i+1,_,by omega,rfl,WI hok (by unfold okM; omega),hk.1,hk.2,rfl,rfl,rfl,rfl⟩)
    ·refine Yg (Ye (Zi rfl (Zr rfl rfl (Zi rfl (Yb ?_)))))
     (have hk:=UO hc0 hc1 (by omega); refine ⟨64 - (i+1),_,by omega,(.cons _ (.refl _)),i+1,_,by omega,rfl,WI hok (by unfold okM; omega),hk.1,hk.2,rfl,rfl,rfl,rfl⟩)
 ·refine YZ (Xc (Zd ?_))
  refine XL rfl rfl rfl (by first | omega | (simp only [YU,decide_eq_true_eq] at *; omega)) ?_
  refine Yl (x:=C 0) rfl rfl ZL (rfl) (Zq rfl (Zj rfl (Yr (t:=48) rfl (fun h27=>?_) (fun h27=>?_)))) <;> simp only [NM] at h27
  ·refine Ya rfl ?_
   refine XL rfl rfl rfl (by first | omega | (simp only [YU,decide_eq_true_eq] at *; omega)) ?_
   refine Ya rfl (Yl (x:=C 1) rfl rfl ZL (rfl) (Ya rfl (Zq rfl (Zo rfl (Zj rfl (Yr (t:=53) rfl (fun h28=>?_) (fun h28=>?_))))))) <;> simp only [NM] at h28
   ·refine Ya rfl (Yc (o':=128) rfl rfl rfl (Ya rfl (Yl (x:=P 128) rfl rfl ZM (rfl) (Ya rfl (Zq rfl (Ya rfl (Zj rfl (Yr (t:=57) rfl (fun h29=>?_) (fun h29=>?_))))))))) <;> simp only [NM] at h29
    ·refine ZC rfl (ZB rfl (Ya rfl (Zo rfl (Zo rfl (Zj rfl (Zf rfl ?_))))))
     obtain rfl:i = 64:=by omega
     refine ZH ?_
     by_cases hq:(∀ s:Nat,s < 64→okM P s)∧kM P 0 64 = 1∧kM P 1 64 = 1∧(P 128 = 0∨P 128 = 1)
     · refine Eq.trans (b:=true) ?_ (Uh hq).symm; have hq2:=hq.2; first | rfl | (exfalso; omega) | exact beq_iff_eq.2 (by omega)
     · refine Eq.trans (b:=false) ?_ (XX hq).symm; have hn:¬ (kM P 0 64 = 1∧kM P 1 64 = 1∧(P 128 = 0∨P 128 = 1)):=fun e=>hq ⟨hok,e⟩; first | rfl | (exfalso; omega) | exact beq_eq_false_iff_ne.2 (by omega)
    ·refine Ya rfl (Yc (o':=128) rfl rfl rfl (Ya rfl (Yl (x:=P 128) rfl rfl ZM (rfl) (Ya rfl (Zq rfl (Ya rfl (Zo rfl (Zo rfl (Zj rfl (Zf rfl ?_))))))))))
     obtain rfl:i = 64:=by omega
     refine ZH ?_
     by_cases hq:(∀ s:Nat,s < 64→okM P s)∧kM P 0 64 = 1∧kM P 1 64 = 1∧(P 128 = 0∨P 128 = 1)
     · refine Eq.trans (b:=true) ?_ (Uh hq).symm; have hq2:=hq.2; first | rfl | (exfalso; omega) | exact beq_iff_eq.2 (by omega)
     · refine Eq.trans (b:=false) ?_ (XX hq).symm; have hn:¬ (kM P 0 64 = 1∧kM P 1 64 = 1∧(P 128 = 0∨P 128 = 1)):=fun e=>hq ⟨hok,e⟩; first | rfl | (exfalso; omega) | exact beq_eq_false_iff_ne.2 (by omega)
   ·refine ZD rfl (YG rfl (YG rfl (YG rfl (ZB rfl (Zo rfl (Zj rfl (Zf rfl ?_)))))))
    obtain rfl:i = 64:=by omega
    refine ZH ?_
    by_cases hq:(∀ s:Nat,s < 64→okM P s)∧kM P 0 64 = 1∧kM P 1 64 = 1∧(P 128 = 0∨P 128 = 1)
    · refine Eq.trans (b:=true) ?_ (Uh hq).symm; have hq2:=hq.2; first | rfl | (exfalso; omega) | exact beq_iff_eq.2 (by omega)
    · refine Eq.trans (b:=false) ?_ (XX hq).symm; have hn:¬ (kM P 0 64 = 1∧kM P 1 64 = 1∧(P 128 = 0∨P 128 = 1)):=fun e=>hq ⟨hok,e⟩; first | rfl | (exfalso; omega) | exact beq_eq_false_iff_ne.2 (by omega)
  ·refine ZC rfl (ZB rfl (Zo rfl (Zj rfl (ZD rfl (YG rfl (YG rfl (YG rfl (ZB rfl (Zo rfl (Zj rfl (Zf rfl ?_)))))))))))
   obtain rfl:i = 64:=by omega
   refine ZH ?_
   by_cases hq:(∀ s:Nat,s < 64→okM P s)∧kM P 0 64 = 1∧kM P 1 64 = 1∧(P 128 = 0∨P 128 = 1)
   · refine Eq.trans (b:=true) ?_ (Uh hq).symm; have hq2:=hq.2; first | rfl | (exfalso; omega) | exact beq_iff_eq.2 (by omega)
   · refine Eq.trans (b:=false) ?_ (XX hq).symm; have hn:¬ (kM P 0 64 = 1∧kM P 1 64 = 1∧(P 128 = 0∨P 128 = 1)):=fun e=>hq ⟨hok,e⟩; first | rfl | (exfalso; omega) | exact beq_eq_false_iff_ne.2 (by omega)
theorem ku {x:Int} (hx:0≤x∧x < 64) (h:x / 8 < 7):RF AM 56 [.s (.int .i64 x),.s (.int .i64 0),.s (.int .i64 1)] (.s (.int .i64 (x+8))):=by
 have:=Uo x 0 1
 rw [kh hx (by omega)] at this
 exact this
theorem ko {x:Int} (hx:0≤x∧x < 64) (h:1≤x / 8):RF AM 56 [.s (.int .i64 x),.s (.int .i64 0),.s (.int .i64 (-1))] (.s (.int .i64 (x - 8))):=by
 have:=Uo x 0 (-1)
 rw [kh hx (by omega)] at this
 exact this
theorem V5 {x:Int} (h:x = 0∨x = 1):Y0 x = 1 - x:=by
 unfold Y0; split <;> omega
theorem Vr (x:Int):(0≤x∧x < 64∧X6 x = x / 8)∨(¬ (0≤x∧x < 64)∧X6 x = -1):=by
 unfold X6; split
 ·exact .inl ⟨by omega,by omega,rfl⟩
 ·exact .inr ⟨by assumption,rfl⟩
theorem over_ok (P:Nat→Int) (hs:P 128 = 0∨P 128 = 1):WR AM 37 [.agg 133 (ia P)] [] (fun v _ _=>v = .s (.bool (Xh P))):=by
 refine YI (a:=a37) rfl rfl (YH _) (ZP rfl) (m:=0) rfl (Zd (YB rfl (Yp rfl (Yb (Yd (Zd (Zx rfl (Yc (o':=130) rfl rfl rfl (Yl rfl rfl ZL rfl (Zq rfl (Yb (Yi rfl (fun h30=>?_) (fun h30=>?_))))))))))))) <;> simp only [NM] at h30
 ·refine Zd (Yp rfl (Zf rfl (ZH ?_)))
  have ho:=V5 hs
  have hra:=Vr (P 130)
  rw [Bool.eq_iff_iff]
  simp only [Xh,YY,decide_eq_true_eq,Bool.false_eq_true,false_iff,true_iff,ho] at *
  omega
 ·refine Yg (Zd (Yp rfl (Yp rfl (Yb (Yd (Zd (Zx rfl (Yc (o':=128) rfl rfl rfl (Yl rfl rfl ZL rfl (Zq rfl (Yb (Yi rfl (fun h31=>?_) (fun h31=>?_))))))))))))) <;> simp only [NM] at h31
  ·refine Ye (Yp rfl (Yp rfl (Yb (Yd (Zd (Zx rfl (Yc (o':=130) rfl rfl rfl (Yl rfl rfl ZL rfl (Ys rfl (QY _) rfl rfl rfl (Zi rfl (Zq rfl (Zj rfl (Yr (t:=20) rfl (fun h32=>?_) (fun h32=>?_)))))))))))))) <;> simp only [NM] at h32
   ·refine ZD rfl (Zo rfl (Yb (Zz rfl (Zd (Yp rfl (Zf rfl (ZH ?_)))))))
    have ho:=V5 hs
    have hra:=Vr (P 130)
    rw [Bool.eq_iff_iff]
    simp only [Xh,YY,decide_eq_true_eq,Bool.false_eq_true,false_iff,true_iff,ho] at *
    omega
   ·refine Ya rfl (Zx rfl (Ya rfl (Yc (o':=131) rfl rfl rfl (Ya rfl (Yl rfl rfl ZL rfl (Ya rfl (Zq rfl (Zo rfl (Yb (Yi rfl (fun h33=>?_) (fun h33=>?_))))))))))) <;> simp only [NM] at h33
    ·refine Zd (Yp rfl (Zf rfl (ZH ?_)))
     have ho:=V5 hs
     have hra:=Vr (P 130)
     rw [Bool.eq_iff_iff]
     simp only [Xh,YY,decide_eq_true_eq,Bool.false_eq_true,false_iff,true_iff,ho] at *
     omega
    ·refine Yg (Zd (Qz rfl (Yp (v:=.fn _ _) rfl (Yb (Yd (Yf (Yp (v:=.fn _ _) rfl (Zx rfl (Yc (o':=130) rfl rfl rfl (Yl rfl rfl ZL rfl ?_))))))))))
     have hin31:=QC (x:=P 130) (by assumption) (by omega)
     refine Vd (rs:=[0]) (Bs:=[_]) rfl (Ua (Ti (md:=.var) P _ (by omega))) rfl rfl (YE rfl) (fun _ h=>h) rfl ⟨ZL,⟨_,_,_,rfl⟩,trivial⟩ rfl rfl rfl (.cons .here .nil) (Zj rfl (Yr (t:=32) rfl (fun h34=>?_) (fun h34=>?_)))
     ·try simp only [YY,decide_eq_true_eq,decide_eq_false_iff_not] at h34
      refine Ya rfl (Yp (v:=.fn _ _) rfl (Ya rfl (Zx rfl (Ya rfl (Yc (o':=130) rfl rfl rfl (Ya rfl (Yl rfl rfl ZL rfl (Ya rfl (Zi rfl (Ya rfl ?_))))))))))
      have hin38:=QC (x:=P 130) (by assumption) (by omega)
      refine Ys rfl (ko hin38.1 (by omega)) rfl rfl rfl (Ya rfl ?_)
      have hin39:=QC (x:=P 130) (by assumption) (by omega)
      refine Vd (rs:=[0]) (Bs:=[_]) rfl (Ua (Ti (md:=.var) P _ (by omega))) rfl rfl (YE rfl) (fun _ h=>h) rfl ⟨ZL,⟨_,_,_,rfl⟩,trivial⟩ rfl rfl rfl (.cons .here .nil) (Zo rfl (Zj rfl (Yr (t:=41) rfl (fun h35=>?_) (fun h35=>?_))))
      ·try simp only [YY,decide_eq_true_eq,decide_eq_false_iff_not] at h35
       refine Ya rfl (Yn rfl rfl ZL (Ya rfl (Zx rfl (Ya rfl (Yc (o':=128) rfl rfl rfl (Ya rfl (Yl rfl rfl ZL rfl (Ya rfl (Yt rfl (YF (VH _)) rfl rfl rfl (Ya rfl (Zx rfl (Ya rfl (Yc (o':=130) rfl rfl rfl (Ya rfl (Yl rfl rfl ZL rfl (Ya rfl (Zi rfl (Ya rfl (qo rfl (by omega) (Ya rfl ?_))))))))))))))))))))
       have hin52:=QC (x:=P 130) (by assumption) (by omega)
       refine Yt rfl (ku hin52.1 (by omega)) rfl rfl rfl (Ya rfl (Ys rfl (YF (WM _ _ _ _ (by omega))) rfl rfl rfl (Zo rfl (Zj rfl (Zf rfl (ZH ?_))))))
       have ho:=V5 hs
       have hra:=Vr (P 130)
       rw [Bool.eq_iff_iff]
       simp only [Xh,YY,decide_eq_true_eq,Bool.false_eq_true,false_iff,true_iff,ho] at *
       omega
      ·try simp only [YY,decide_eq_true_eq,decide_eq_false_iff_not] at h35
       refine ZE rfl (ZD rfl (Zo rfl (Zj rfl (Zf rfl (ZH ?_)))))
       have ho:=V5 hs
       have hra:=Vr (P 130)
       rw [Bool.eq_iff_iff]
       simp only [Xh,YY,decide_eq_true_eq,Bool.false_eq_true,false_iff,true_iff,ho] at *
       omega
     ·try simp only [YY,decide_eq_true_eq,decide_eq_false_iff_not] at h34
      refine ZD rfl (ZC rfl (ZB rfl (Zo rfl (Zj rfl (ZE rfl (ZD rfl (Zo rfl (Zj rfl (Zf rfl (ZH ?_))))))))))
      have ho:=V5 hs
      have hra:=Vr (P 130)
      rw [Bool.eq_iff_iff]
      simp only [Xh,YY,decide_eq_true_eq,Bool.false_eq_true,false_iff,true_iff,ho] at *
      omega
  ·refine Yg (Yd (Zd (Zx rfl (Yc (o':=130) rfl rfl rfl (Yl rfl rfl ZL rfl (Ys rfl (QY _) rfl rfl rfl (Zi rfl (Zq rfl (Zj rfl (Yr (t:=20) rfl (fun h36=>?_) (fun h36=>?_))))))))))) <;> simp only [NM] at h36
   ·refine ZD rfl (Zo rfl (Yb (Zz rfl (Zd (Yp rfl (Zf rfl (ZH ?_)))))))
    have ho:=V5 hs
    have hra:=Vr (P 130)
    rw [Bool.eq_iff_iff]
    simp only [Xh,YY,decide_eq_true_eq,Bool.false_eq_true,false_iff,true_iff,ho] at *
    omega
   ·refine Ya rfl (Zx rfl (Ya rfl (Yc (o':=131) rfl rfl rfl (Ya rfl (Yl rfl rfl ZL rfl (Ya rfl (Zq rfl (Zo rfl (Yb (Yi rfl (fun h37=>?_) (fun h37=>?_))))))))))) <;> simp only [NM] at h37
    ·refine Zd (Yp rfl (Zf rfl (ZH ?_)))
     have ho:=V5 hs
     have hra:=Vr (P 130)
     rw [Bool.eq_iff_iff]
     simp only [Xh,YY,decide_eq_true_eq,Bool.false_eq_true,false_iff,true_iff,ho] at *
     omega
    ·refine Yg (Zd (Qz rfl (Yp (v:=.fn _ _) rfl (Yb (Yd (Yf (Yp (v:=.fn _ _) rfl (Zx rfl (Yc (o':=130) rfl rfl rfl (Yl rfl rfl ZL rfl ?_))))))))))
     have hin31:=QC (x:=P 130) (by assumption) (by omega)
     refine Vd (rs:=[0]) (Bs:=[_]) rfl (Ua (Ti (md:=.var) P _ (by omega))) rfl rfl (YE rfl) (fun _ h=>h) rfl ⟨ZL,⟨_,_,_,rfl⟩,trivial⟩ rfl rfl rfl (.cons .here .nil) (Zj rfl (Yr (t:=32) rfl (fun h38=>?_) (fun h38=>?_)))
     ·try simp only [YY,decide_eq_true_eq,decide_eq_false_iff_not] at h38
      refine Ya rfl (Yp (v:=.fn _ _) rfl (Ya rfl (Zx rfl (Ya rfl (Yc (o':=130) rfl rfl rfl (Ya rfl (Yl rfl rfl ZL rfl (Ya rfl (Zi rfl (Ya rfl ?_))))))))))
      have hin38:=QC (x:=P 130) (by assumption) (by omega)
      refine Ys rfl (ku hin38.1 (by omega)) rfl rfl rfl (Ya rfl ?_)
      have hin39:=QC (x:=P 130) (by assumption) (by omega)
      refine Vd (rs:=[0]) (Bs:=[_]) rfl (Ua (Ti (md:=.var) P _ (by omega))) rfl rfl (YE rfl) (fun _ h=>h) rfl ⟨ZL,⟨_,_,_,rfl⟩,trivial⟩ rfl rfl rfl (.cons .here .nil) (Zo rfl (Zj rfl (Yr (t:=41) rfl (fun h39=>?_) (fun h39=>?_))))
      ·try simp only [YY,decide_eq_true_eq,decide_eq_false_iff_not] at h39
       refine Ya rfl (Yn rfl rfl ZL (Ya rfl (Zx rfl (Ya rfl (Yc (o':=128) rfl rfl rfl (Ya rfl (Yl rfl rfl ZL rfl (Ya rfl (Yt rfl (YF (VH _)) rfl rfl rfl (Ya rfl (Zx rfl (Ya rfl (Yc (o':=130) rfl rfl rfl (Ya rfl (Yl rfl rfl ZL rfl (Ya rfl (Zi rfl (Ya rfl (qo rfl (by omega) (Ya rfl ?_))))))))))))))))))))
       have hin52:=QC (x:=P 130) (by assumption) (by omega)
       refine Yt rfl (ko hin52.1 (by omega)) rfl rfl rfl (Ya rfl (Ys rfl (YF (WM _ _ _ _ (by omega))) rfl rfl rfl (Zo rfl (Zj rfl (Zf rfl (ZH ?_))))))
       have ho:=V5 hs
       have hra:=Vr (P 130)
       rw [Bool.eq_iff_iff]
       simp only [Xh,YY,decide_eq_true_eq,Bool.false_eq_true,false_iff,true_iff,ho] at *
       omega
      ·try simp only [YY,decide_eq_true_eq,decide_eq_false_iff_not] at h39
       refine ZE rfl (ZD rfl (Zo rfl (Zj rfl (Zf rfl (ZH ?_)))))
       have ho:=V5 hs
       have hra:=Vr (P 130)
       rw [Bool.eq_iff_iff]
       simp only [Xh,YY,decide_eq_true_eq,Bool.false_eq_true,false_iff,true_iff,ho] at *
       omega
     ·try simp only [YY,decide_eq_true_eq,decide_eq_false_iff_not] at h38
      refine ZD rfl (ZC rfl (ZB rfl (Zo rfl (Zj rfl (ZE rfl (ZD rfl (Zo rfl (Zj rfl (Zf rfl (ZH ?_))))))))))
      have ho:=V5 hs
      have hra:=Vr (P 130)
      rw [Bool.eq_iff_iff]
      simp only [Xh,YY,decide_eq_true_eq,Bool.false_eq_true,false_iff,true_iff,ho] at *
      omega
theorem pm (P:Nat→Int) (hs:P 128 = 0∨P 128 = 1):WR AM 64 [.agg 133 (ia P)] [] (fun v _ _=>v = .s (.bool (Xh P))):=by
 refine YI (a:=a64) rfl rfl (YH _) (ZP rfl) (m:=0) rfl (Zd (YB rfl (Yp rfl (Yb (Yd (Zd (Yc (o':=130) rfl rfl rfl (Yl (x:=P 130) rfl rfl ZL (rfl) (Zq rfl (Yb (Yi rfl (fun h40=>?_) (fun h40=>?_)))))))))))) <;> simp only [NM] at h40
 ·refine Zd (Yp rfl (Zf rfl (ZH ?_)))
  rw [Bool.eq_iff_iff]
  try simp only [X3,ovA2.1,ovA2.2,ovK.1,ovK.2,cond_false,cond_true] at *
  simp only [Xh,YY,decide_eq_true_eq,Bool.false_eq_true,false_iff,true_iff,dp,Nat.add_zero,sqI] at *
  omega
 ·refine Yg (Yd (Zd (Yc (o':=130) rfl rfl rfl (Yl (x:=P 130) rfl rfl ZL (rfl) (Zq rfl (Zj rfl (Yr (t:=12) rfl (fun h41=>?_) (fun h41=>?_)))))))) <;> simp only [NM] at h41
  ·refine ZC rfl (ZB rfl (Zo rfl (Zj rfl (ZC rfl (ZB rfl (Zo rfl (Yb (Zz rfl (Zd (Yp rfl (Zf rfl (ZH ?_))))))))))))
   rw [Bool.eq_iff_iff]
   try simp only [X3,ovA2.1,ovA2.2,ovK.1,ovK.2,cond_false,cond_true] at *
   simp only [Xh,YY,decide_eq_true_eq,Bool.false_eq_true,false_iff,true_iff,dp,Nat.add_zero,sqI] at *
   omega
  ·refine Ya rfl (Yc (o':=130) rfl rfl rfl (Ya rfl (Yl (x:=P 130) rfl rfl ZL (rfl) (Ya rfl (Zq rfl (Zo rfl (Zj rfl (Yr (t:=17) rfl (fun h42=>?_) (fun h42=>?_))))))))) <;> simp only [NM] at h42
   ·refine ZC rfl (ZB rfl (Zo rfl (Yb (Zz rfl (Zd (Yp rfl (Zf rfl (ZH ?_))))))))
    rw [Bool.eq_iff_iff]
    try simp only [X3,ovA2.1,ovA2.2,ovK.1,ovK.2,cond_false,cond_true] at *
    simp only [Xh,YY,decide_eq_true_eq,Bool.false_eq_true,false_iff,true_iff,dp,Nat.add_zero,sqI] at *
    omega
   ·refine Ya rfl (Yc (o':=131) rfl rfl rfl (Ya rfl (Yl (x:=P 131) rfl rfl ZL (rfl) (Ya rfl (Zq rfl (Zo rfl (Yb (Yi rfl (fun h43=>?_) (fun h43=>?_))))))))) <;> simp only [NM] at h43
    ·refine Zd (Yp rfl (Zf rfl (ZH ?_)))
     rw [Bool.eq_iff_iff]
     simp only [Xh,YY,decide_eq_true_eq,Bool.false_eq_true,false_iff,true_iff,dp,Nat.add_zero,sqI] at *
     omega
    ·refine Yg (Zd (YA rfl (.one rfl (.one rfl .nil)) (Yx (Yp rfl (Yp rfl (Yy rfl rfl rfl rfl .here (Yb (Yd (Zd (Yc (o':=128) rfl rfl rfl (Yl (x:=P 128) rfl rfl ZM (rfl) (Zq rfl (Yb (Yi rfl (fun h44=>?_) (fun h44=>?_))))))))))))))) <;> simp only [NM] at h44
     ·refine Ye (YA rfl (.one rfl (.one rfl .nil)) (Yp rfl (Yp rfl (Yy rfl rfl rfl rfl .here (Yb (Yd (Yf (Yc (o':=130) rfl rfl rfl (Yl (x:=P 130) rfl rfl ZM (rfl) (Zt rfl rfl (Zi rfl (Zq rfl (Zj rfl (Yr (t:=32) rfl (fun h45=>?_) (fun h45=>?_))))))))))))))) <;> simp only [NM] at h45
      ·refine Ya rfl (Yc (o':=130) rfl rfl rfl (Ya rfl (Yl (x:=P 130) rfl rfl ZM (rfl) (Ya rfl (Zx rfl (Ya rfl (Zv rfl rfl rfl (Ya rfl (Yo rfl rfl ZM (Ya rfl (Ys rfl (YF (Jd _)) rfl rfl rfl (Zo rfl (Zj rfl (Yr (t:=40) rfl (fun h46=>?_) (fun h46=>?_))))))))))))))) <;> simp only [NM] at h46
       ·refine Ya rfl (Yc (o':=130) rfl rfl rfl (Ya rfl (Yl (x:=P 130) rfl rfl ZM (rfl) (Ya rfl (Zi rfl (Ya rfl (Zr rfl rfl ?_)))))))
        rw [show P 130+-8 = P 130 - 8 from rfl]
        refine Ya rfl (Zx rfl (Ya rfl (Zv rfl rfl rfl (Ya rfl (Yo rfl rfl ZM (Ya rfl (Ys rfl (YF (Jd _)) rfl rfl rfl (Zo rfl (Zj rfl (Yr (t:=50) rfl (fun h47=>?_) (fun h47=>?_))))))))))) <;> simp only [NM] at h47
        ·refine Ya rfl (Yc (o':=130) rfl rfl rfl (Ya rfl (Yl (x:=P 130) rfl rfl ZM (rfl) (Ya rfl (Zi rfl (Ya rfl (Zs rfl rfl ?_)))))))
         rw [show P 130 - -8 = P 130+8 by omega]
         refine Ya rfl (Zx rfl (Ya rfl (Zv rfl rfl rfl (Ya rfl (Yo rfl rfl ZM (Ya rfl (Yn rfl rfl ZL (Ya rfl (Yv rfl rfl (Zo rfl (Zj rfl (Zf rfl (ZH ?_)))))))))))))
         rw [Bool.eq_iff_iff]
         try simp only [X3,ovA2.1,ovA2.2,ovK.1,ovK.2,cond_false,cond_true] at *
         simp only [Xh,YY,decide_eq_true_eq,Bool.false_eq_true,false_iff,true_iff,dp,Nat.add_zero,sqI] at *
         omega
        ·refine ZE rfl (ZB rfl (Zo rfl (Zj rfl (Zf rfl (ZH ?_)))))
         rw [Bool.eq_iff_iff]
         simp only [Xh,YY,decide_eq_true_eq,Bool.false_eq_true,false_iff,true_iff,dp,Nat.add_zero,sqI] at *
         omega
       ·refine ZE rfl (Zo rfl (Zj rfl (ZE rfl (ZB rfl (Zo rfl (Zj rfl (Zf rfl (ZH ?_))))))))
        rw [Bool.eq_iff_iff]
        simp only [Xh,YY,decide_eq_true_eq,Bool.false_eq_true,false_iff,true_iff,dp,Nat.add_zero,sqI] at *
        omega
      ·refine ZD rfl (ZC rfl (Zo rfl (Zj rfl (ZE rfl (Zo rfl (Zj rfl (ZE rfl (ZB rfl (Zo rfl (Zj rfl (Zf rfl (ZH ?_))))))))))))
       rw [Bool.eq_iff_iff]
       simp only [Xh,YY,decide_eq_true_eq,Bool.false_eq_true,false_iff,true_iff,dp,Nat.add_zero,sqI] at *
       omega
     ·refine Yg (Yd (Yf (Yc (o':=130) rfl rfl rfl (Yl (x:=P 130) rfl rfl ZM (rfl) (Zt rfl rfl (Zi rfl (Zq rfl (Zj rfl (Yr (t:=32) rfl (fun h48=>?_) (fun h48=>?_)))))))))) <;> simp only [NM] at h48
      ·refine Ya rfl (Yc (o':=130) rfl rfl rfl (Ya rfl (Yl (x:=P 130) rfl rfl ZM (rfl) (Ya rfl (Zx rfl (Ya rfl (Zv rfl rfl rfl (Ya rfl (Yo rfl rfl ZM (Ya rfl (Ys rfl (YF (Jd _)) rfl rfl rfl (Zo rfl (Zj rfl (Yr (t:=40) rfl (fun h49=>?_) (fun h49=>?_))))))))))))))) <;> simp only [NM] at h49
       ·refine Ya rfl (Yc (o':=130) rfl rfl rfl (Ya rfl (Yl (x:=P 130) rfl rfl ZM (rfl) (Ya rfl (Zi rfl (Ya rfl (Zr rfl rfl (Ya rfl (Zx rfl (Ya rfl (Zv rfl rfl rfl (Ya rfl (Yo rfl rfl ZM (Ya rfl (Ys rfl (YF (Jd _)) rfl rfl rfl (Zo rfl (Zj rfl (Yr (t:=50) rfl (fun h50=>?_) (fun h50=>?_))))))))))))))))))) <;> simp only [NM] at h50
        ·refine Ya rfl (Yc (o':=130) rfl rfl rfl (Ya rfl (Yl (x:=P 130) rfl rfl ZM (rfl) (Ya rfl (Zi rfl (Ya rfl (Zs rfl rfl (Ya rfl (Zx rfl (Ya rfl (Zv rfl rfl rfl (Ya rfl (Yo rfl rfl ZM (Ya rfl (Yn rfl rfl ZL (Ya rfl (Yv rfl rfl (Zo rfl (Zj rfl (Zf rfl (ZH ?_)))))))))))))))))))))
         rw [Bool.eq_iff_iff]
         try simp only [X3,ovA2.1,ovA2.2,ovK.1,ovK.2,cond_false,cond_true] at *
         simp only [Xh,YY,decide_eq_true_eq,Bool.false_eq_true,false_iff,true_iff,dp,Nat.add_zero,sqI] at *
         omega
        ·refine ZE rfl (ZB rfl (Zo rfl (Zj rfl (Zf rfl (ZH ?_)))))
         rw [Bool.eq_iff_iff]
         simp only [Xh,YY,decide_eq_true_eq,Bool.false_eq_true,false_iff,true_iff,dp,Nat.add_zero,sqI] at *
         omega
       ·refine ZE rfl (Zo rfl (Zj rfl (ZE rfl (ZB rfl (Zo rfl (Zj rfl (Zf rfl (ZH ?_))))))))
        rw [Bool.eq_iff_iff]
        simp only [Xh,YY,decide_eq_true_eq,Bool.false_eq_true,false_iff,true_iff,dp,Nat.add_zero,sqI] at *
        omega
      ·refine ZD rfl (ZC rfl (Zo rfl (Zj rfl (ZE rfl (Zo rfl (Zj rfl (ZE rfl (ZB rfl (Zo rfl (Zj rfl (Zf rfl (ZH ?_))))))))))))
       rw [Bool.eq_iff_iff]
       simp only [Xh,YY,decide_eq_true_eq,Bool.false_eq_true,false_iff,true_iff,dp,Nat.add_zero,sqI] at *
       omega
theorem y4 {P Q:Nat→Int} (h:∀ i,i < 128→P i = Q i) (c:Int):∀ n:Nat,n≤64→kM P c n = kM Q c n
 | 0,_=>rfl
 | n+1,hn=>by
  have hq:sqI n = 0+(n:Int).toNat*2:=rfl
  unfold kM
  rw [y4 h c n (by omega),h (sqI n) (by omega),h (sqI n+1) (by omega)]
theorem qX {P Q:Nat→Int} (h:∀ i,i < 128→P i = Q i) {s:Nat} (hs:s < 64):okM P s = okM Q s:=by
 have hq:sqI s = 0+(s:Int).toNat*2:=rfl
 unfold okM
 rw [h (sqI s) (by omega),h (sqI s+1) (by omega)]
theorem jr {P Q:Nat→Int} (h:∀ i,i < 133→P i = Q i):Wz P = Wz Q:=by
 have hl:∀ i,i < 128→P i = Q i:=fun i hi=>h i (by omega)
 have ho:(∀ s:Nat,s < 64→okM P s)↔(∀ s:Nat,s < 64→okM Q s):=⟨fun a s hs=>(qX hl hs) ▸ a s hs,fun a s hs=>(qX hl hs).symm ▸ a s hs⟩
 unfold Wz
 rw [Bool.eq_iff_iff,decide_eq_true_eq,decide_eq_true_eq,ho,y4 hl 0 64 (by omega),y4 hl 1 64 (by omega),h 128 (by omega)]
theorem Qe {P Q:Nat→Int} (h:∀ i,i < 133→P i = Q i) {x k c:Int} (hx:0≤x∧x < 64):YY P x k c = YY Q x k c:=by
 have hq:sqI x = 0+x.toNat*2:=rfl
 unfold YY
 rw [h (sqI x) (by omega),h (sqI x+1) (by omega)]
theorem KP {P Q:Nat→Int} (h:∀ i,i < 133→P i = Q i) {s a b:Int} (ha:0≤a∧a < 64) (hb:0≤b∧b < 64):Y3 P s a b = Y3 Q s a b:=by
 have hq:sqI a = 0+a.toNat*2:=rfl
 have hq2:sqI b = 0+b.toNat*2:=rfl
 unfold Y3
 rw [h (sqI a) (by omega),h (sqI a+1) (by omega),h (sqI b) (by omega),h (sqI b+1) (by omega)]
theorem wu {P Q:Nat→Int} (h:∀ i,i < 133→P i = Q i):YX P = YX Q:=by
 unfold YX
 rw [h 129 (by omega),KP h (by omega) (by omega),KP h (by omega) (by omega),KP h (by omega) (by omega),KP h (by omega) (by omega)]
theorem jQ {P Q:Nat→Int} (h:∀ i,i < 133→P i = Q i):Xh P = Xh Q:=by
 unfold Xh
 rw [h 130 (by omega),h 131 (by omega),h 128 (by omega)]
 by_cases hx:(0≤Q 130∧Q 130 < 64)∧(Q 130 / 8 = 2∨Q 130 / 8 = 5)
 ·rw [Qe h (x:=Q 130) (by omega),Qe h (x:=Q 130 - 8) (by omega),Qe h (x:=Q 130+8) (by omega),Qe h (x:=Q 130+8) (by omega),Qe h (x:=Q 130 - 8) (by omega)]
 ·rw [Bool.eq_iff_iff,decide_eq_true_eq,decide_eq_true_eq]
  constructor
  ·rintro (e | ⟨e,_,⟨_,f,_⟩ | ⟨_,f,_⟩⟩)
   ·exact .inl e
   ·exact absurd ⟨e,.inl f⟩ hx
   ·exact absurd ⟨e,.inr f⟩ hx
  ·rintro (e | ⟨e,_,⟨_,f,_⟩ | ⟨_,f,_⟩⟩)
   ·exact .inl e
   ·exact absurd ⟨e,.inl f⟩ hx
   ·exact absurd ⟨e,.inr f⟩ hx
theorem TG (P:Nat→Int):∀ i,i < 133→ovA (fun _=>0) 0 133 (ovA (fun _=>0) 0 133 P) i = P i:=fun i hi=>by
 rw [XR (by omega),Nat.sub_zero,XR (by omega),Nat.sub_zero]
theorem Wy {P:Nat→Int} {a b c r:Bool} (ha:a = Wz P) (hb:a = true→b = YX P) (hc:a = true→b = true→c = Xh P) (hr:r = (a && b && c && decide (0≤P 131∧P 131≤1024∧1≤P 132∧P 132≤16384))):r = Vq P:=by
 subst hr ha
 unfold Vq
 cases hp:Wz P with
 | false=>simp
 | true =>
  have hb:=hb hp
  subst hb
  cases hq:YX P with
  | false=>simp
  | true =>
   have hc:=hc hp hq
   subst hc
   simp
theorem sK (P:Nat→Int):WR AM 23 [.agg 133 (ia P)] [] (fun v _ _=>v = .s (.bool (Vq P))):=by
 refine YI (a:=a23) rfl rfl (YH _) (ZP rfl) (m:=0) rfl (Zd (YB rfl (Yp rfl (Ze (Yn rfl rfl ZL (YA rfl (.agg rfl .nil) (Yx (Yy rfl rfl rfl rfl .here (Ze (Yn rfl rfl ZL ?_))))))))))
 obtain ⟨bp,hbp⟩:∃ b,b = Wz P:=⟨_,rfl⟩
 have hP:=YF (sB (ovA (fun _=>0) 0 133 (ovA (fun _=>0) 0 133 P)))
 rw [jr (TG P),← hbp] at hP
 refine Ys rfl (hP) rfl rfl rfl (Zj rfl (Yr (t:=8) rfl (fun h51=>?_) (fun h51=>?_)))
 ·refine Ya rfl (Yn rfl rfl ZL (Ya rfl ?_))
  obtain ⟨bc,hbc⟩:∃ b,b = YX P:=⟨_,rfl⟩
  have hC:=YF (ub (ovA (fun _=>0) 0 133 (ovA (fun _=>0) 0 133 P)))
  rw [wu (TG P),← hbc] at hC
  refine Ys rfl (hC) rfl rfl rfl (Zo rfl (Zj rfl (Yr (t:=12) rfl (fun h52=>?_) (fun h52=>?_))))
  ·refine Ya rfl (Yn rfl rfl ZL (Ya rfl ?_))
   have hbt:bp = true:=by assumption
   have hs:=(JW (P:=P) (by rw [← hbp]; exact hbt)).2.2.2
   obtain ⟨bo,hbo⟩:∃ b,b = Xh P:=⟨_,rfl⟩
   have hO:=YF (over_ok (ovA (fun _=>0) 0 133 (ovA (fun _=>0) 0 133 P)) hs)
   rw [jQ (TG P),← hbo] at hO
   refine Ys rfl (hO) rfl rfl rfl (Zo rfl (Zj rfl (Yr (t:=16) rfl (fun h53=>?_) (fun h53=>?_))))
   ·refine Ya rfl (Yc (o':=131) rfl rfl rfl (Ya rfl (Yl (x:=P 131) rfl rfl ZM (rfl) (Ya rfl (Zq rfl (Zo rfl (Zj rfl (Yr (t:=21) rfl (fun h54=>?_) (fun h54=>?_))))))))) <;> simp only [NM] at h54
    ·refine Ya rfl (Yc (o':=131) rfl rfl rfl (Ya rfl (Yl (x:=P 131) rfl rfl ZM (rfl) (Ya rfl (Zq rfl (Zo rfl (Zj rfl (Yr (t:=26) rfl (fun h55=>?_) (fun h55=>?_))))))))) <;> simp only [NM] at h55
     ·refine Ya rfl (Yc (o':=132) rfl rfl rfl (Ya rfl (Yl (x:=P 132) rfl rfl ZM (rfl) (Ya rfl (Zq rfl (Zo rfl (Zj rfl (Yr (t:=31) rfl (fun h56=>?_) (fun h56=>?_))))))))) <;> simp only [NM] at h56
      ·refine Ya rfl (Yc (o':=132) rfl rfl rfl (Ya rfl (Yl (x:=P 132) rfl rfl ZM (rfl) (Ya rfl (Zq rfl (Zo rfl (Zj rfl (Zf rfl (congrArg (fun b=>V.s (S.bool b)) (Wy (b:=bc) (c:=bo) hbp (fun _=>hbc) (fun _ _=>hbo) ?_))))))))))
       clear hbp hbc hbo hP hC hO
       (simp [*]; done)
      ·refine ZC rfl (ZB rfl (Zo rfl (Zj rfl (Zf rfl (congrArg (fun b=>V.s (S.bool b)) (Wy (b:=bc) (c:=bo) hbp (fun _=>hbc) (fun _ _=>hbo) ?_))))))
       clear hbp hbc hbo hP hC hO
       (subst_vars; simp only [Bool.true_and]; rw [Bool.eq_iff_iff]; simp only [decide_eq_true_eq,Bool.false_eq_true,false_iff,true_iff]; omega)
     ·refine ZC rfl (ZB rfl (Zo rfl (Zj rfl (ZC rfl (ZB rfl (Zo rfl (Zj rfl (Zf rfl (congrArg (fun b=>V.s (S.bool b)) (Wy (b:=bc) (c:=bo) hbp (fun _=>hbc) (fun _ _=>hbo) ?_))))))))))
      clear hbp hbc hbo hP hC hO
      (subst_vars; simp only [Bool.true_and]; rw [Bool.eq_iff_iff]; simp only [decide_eq_true_eq,Bool.false_eq_true,false_iff,true_iff]; omega)
    ·refine ZC rfl (ZB rfl (Zo rfl (Zj rfl (ZC rfl (ZB rfl (Zo rfl (Zj rfl (ZC rfl (ZB rfl (Zo rfl (Zj rfl (Zf rfl (congrArg (fun b=>V.s (S.bool b)) (Wy (b:=bc) (c:=bo) hbp (fun _=>hbc) (fun _ _=>hbo) ?_))))))))))))))
     clear hbp hbc hbo hP hC hO
     (subst_vars; simp only [Bool.true_and]; rw [Bool.eq_iff_iff]; simp only [decide_eq_true_eq,Bool.false_eq_true,false_iff,true_iff]; omega)
   ·refine Z9 rfl rfl (ZC rfl (Zo rfl (Zj rfl (ZC rfl (ZB rfl (Zo rfl (Zj rfl (ZC rfl (ZB rfl (Zo rfl (Zj rfl (ZC rfl (ZB rfl (Zo rfl (Zj rfl (Zf rfl (congrArg (fun b=>V.s (S.bool b)) (Wy (b:=bc) (c:=bo) hbp (fun _=>hbc) (fun _ _=>hbo) ?_))))))))))))))))))
    clear hbp hbc hbo hP hC hO
    (simp [*]; done)
  ·refine Z9 rfl rfl (ZB rfl (Zo rfl (Zj rfl (ZC rfl (ZB rfl (Zo rfl (Zj rfl (ZC rfl (ZB rfl (Zo rfl (Zj rfl (ZC rfl (ZB rfl (Zo rfl (Zj rfl (ZC rfl (ZB rfl (Zo rfl (Zj rfl (Zf rfl ?_))))))))))))))))))))
   exact congrArg (fun b=>V.s (S.bool b)) (Wy (b:=bc) (c:=Xh P) hbp (fun _=>hbc) (fun _ _=>rfl) (by clear hbp hbc hP hC; simp [*]))
 ·refine Z9 rfl rfl (ZB rfl (Zo rfl (Zj rfl (ZC rfl (Zo rfl (Zj rfl (ZC rfl (ZB rfl (Zo rfl (Zj rfl (ZC rfl (ZB rfl (Zo rfl (Zj rfl (ZC rfl (ZB rfl (Zo rfl (Zj rfl (ZC rfl (ZB rfl (Zo rfl (Zj rfl (Zf rfl ?_)))))))))))))))))))))))
  exact congrArg (fun b=>V.s (S.bool b)) (Wy (b:=YX P) (c:=Xh P) hbp (fun _=>rfl) (fun _ _=>rfl) (by clear hbp hP; simp [*]))
theorem vy (P:Nat→Int):WR AM 46 [.agg 133 (ia P)] [] (fun v _ _=>v = .s (.bool (Vq P))):=by
 refine YI (a:=a46) rfl rfl (YH _) (ZP rfl) (m:=0) rfl (Zd (YB rfl (Yp rfl (Ze (Yn rfl rfl ZL ?_)))))
 obtain ⟨bp,hbp⟩:∃ b,b = Wz P:=⟨_,rfl⟩
 have hP:=YF (ud P)
 rw [← hbp] at hP
 refine Ys rfl (hP) rfl rfl rfl (Zj rfl (Yr (t:=5) rfl (fun h57=>?_) (fun h57=>?_)))
 ·refine Ya rfl (Yn rfl rfl ZL (Ya rfl ?_))
  obtain ⟨bc,hbc⟩:∃ b,b = YX P:=⟨_,rfl⟩
  have hC:=YF (jz P)
  rw [← hbc] at hC
  refine Ys rfl (hC) rfl rfl rfl (Zo rfl (Zj rfl (Yr (t:=9) rfl (fun h58=>?_) (fun h58=>?_))))
  ·refine Ya rfl (Yn rfl rfl ZL (Ya rfl ?_))
   have hbt:bp = true:=by assumption
   have hs:=(JW (P:=P) (by rw [← hbp]; exact hbt)).2.2.2
   obtain ⟨bo,hbo⟩:∃ b,b = Xh P:=⟨_,rfl⟩
   have hO:=YF (pm P hs)
   rw [← hbo] at hO
   refine Ys rfl (hO) rfl rfl rfl (Zo rfl (Zj rfl (Yr (t:=13) rfl (fun h59=>?_) (fun h59=>?_))))
   ·refine Ya rfl (Yc (o':=131) rfl rfl rfl (Ya rfl (Yl rfl rfl ZL rfl (Ya rfl (Zq rfl (Zo rfl (Zj rfl (Yr (t:=18) rfl (fun h60=>?_) (fun h60=>?_))))))))) <;> simp only [NM] at h60
    ·refine Ya rfl (Yc (o':=131) rfl rfl rfl (Ya rfl (Yl rfl rfl ZL rfl (Ya rfl (Zq rfl (Zo rfl (Zj rfl (Yr (t:=23) rfl (fun h61=>?_) (fun h61=>?_))))))))) <;> simp only [NM] at h61
     ·refine Ya rfl (Yc (o':=132) rfl rfl rfl (Ya rfl (Yl rfl rfl ZL rfl (Ya rfl (Zq rfl (Zo rfl (Zj rfl (Yr (t:=28) rfl (fun h62=>?_) (fun h62=>?_))))))))) <;> simp only [NM] at h62
      ·refine Ya rfl (Yc (o':=132) rfl rfl rfl (Ya rfl (Yl rfl rfl ZL rfl (Ya rfl (Zq rfl (Zo rfl (Zj rfl (Zf rfl (congrArg (fun b=>V.s (S.bool b)) (Wy (b:=bc) (c:=bo) hbp (fun _=>hbc) (fun _ _=>hbo) ?_))))))))))
       clear hbp hbc hbo hP hC hO
       (simp [*]; done)
      ·refine ZC rfl (ZB rfl (Zo rfl (Zj rfl (Zf rfl (congrArg (fun b=>V.s (S.bool b)) (Wy (b:=bc) (c:=bo) hbp (fun _=>hbc) (fun _ _=>hbo) ?_))))))
       clear hbp hbc hbo hP hC hO
       (subst_vars; simp only [Bool.true_and]; rw [Bool.eq_iff_iff]; simp only [decide_eq_true_eq,Bool.false_eq_true,false_iff,true_iff]; omega)
     ·refine ZC rfl (ZB rfl (Zo rfl (Zj rfl (ZC rfl (ZB rfl (Zo rfl (Zj rfl (Zf rfl (congrArg (fun b=>V.s (S.bool b)) (Wy (b:=bc) (c:=bo) hbp (fun _=>hbc) (fun _ _=>hbo) ?_))))))))))
      clear hbp hbc hbo hP hC hO
      (subst_vars; simp only [Bool.true_and]; rw [Bool.eq_iff_iff]; simp only [decide_eq_true_eq,Bool.false_eq_true,false_iff,true_iff]; omega)
    ·refine ZC rfl (ZB rfl (Zo rfl (Zj rfl (ZC rfl (ZB rfl (Zo rfl (Zj rfl (ZC rfl (ZB rfl (Zo rfl (Zj rfl (Zf rfl (congrArg (fun b=>V.s (S.bool b)) (Wy (b:=bc) (c:=bo) hbp (fun _=>hbc) (fun _ _=>hbo) ?_))))))))))))))
     clear hbp hbc hbo hP hC hO
     (subst_vars; simp only [Bool.true_and]; rw [Bool.eq_iff_iff]; simp only [decide_eq_true_eq,Bool.false_eq_true,false_iff,true_iff]; omega)
   ·refine Z9 rfl rfl (ZC rfl (Zo rfl (Zj rfl (ZC rfl (ZB rfl (Zo rfl (Zj rfl (ZC rfl (ZB rfl (Zo rfl (Zj rfl (ZC rfl (ZB rfl (Zo rfl (Zj rfl (Zf rfl (congrArg (fun b=>V.s (S.bool b)) (Wy (b:=bc) (c:=bo) hbp (fun _=>hbc) (fun _ _=>hbo) ?_))))))))))))))))))
    clear hbp hbc hbo hP hC hO
    (simp [*]; done)
  ·refine Z9 rfl rfl (ZB rfl (Zo rfl (Zj rfl (ZC rfl (ZB rfl (Zo rfl (Zj rfl (ZC rfl (ZB rfl (Zo rfl (Zj rfl (ZC rfl (ZB rfl (Zo rfl (Zj rfl (ZC rfl (ZB rfl (Zo rfl (Zj rfl (Zf rfl ?_))))))))))))))))))))
   exact congrArg (fun b=>V.s (S.bool b)) (Wy (b:=bc) (c:=Xh P) hbp (fun _=>hbc) (fun _ _=>rfl) (by clear hbp hbc hP hC; simp [*]))
 ·refine Z9 rfl rfl (ZB rfl (Zo rfl (Zj rfl (ZC rfl (Zo rfl (Zj rfl (ZC rfl (ZB rfl (Zo rfl (Zj rfl (ZC rfl (ZB rfl (Zo rfl (Zj rfl (ZC rfl (ZB rfl (Zo rfl (Zj rfl (ZC rfl (ZB rfl (Zo rfl (Zj rfl (Zf rfl ?_)))))))))))))))))))))))
  exact congrArg (fun b=>V.s (S.bool b)) (Wy (b:=YX P) (c:=Xh P) hbp (fun _=>rfl) (fun _ _=>rfl) (by clear hbp hP; simp [*]))
end Go.Proofs.YtlkighkfkdpncaaGreat
namespace Go.Am
open Go
section
variable {A:AP} {N:Nat} {f:FE} {n:Nat} {L:HA} {K:KN} {Zp:V→KN} {l:List I} {d:Nat}
theorem Q6 {len z:Nat} {x:O} {b o z':Nat} (hx:x.fv N f = .ptr b o z') (hz:Nat.ble (len*z) z' = true) (h0:0 < len) (k:WO A N l (upd f d (.sl b o len z (.ex len))) n L K Zp):WO A N (⟨some d,none,.p (.slA len z x none none)⟩::l) f n L K Zp :=
 Vu (v:=.sl b o len z (.ex len)) (by
  simp only [YT,Y7,hx,bound_E,fvb,if_pos (YE hz)]
  rw [if_pos (by omega),if_pos (by omega)]
  simp) k
end
end Go.Am
namespace Go.Proofs.YtlkighkfkdpncaaGreat
open Go Go.Am
def IsFst (S1:Nat→Bool) (n:Nat) (x:Int):Prop:=(x = -1∧∀ j:Nat,j < n→S1 j = false)∨(∃ i:Nat,i < n∧x = i∧S1 i = true∧∀ j:Nat,j < i→S1 j = false)
def lstM (S1:Nat→Bool):Nat→Nat × (Nat→Int)
 | 0=>(0,fun _=>0)
 | i+1=>if S1 i = true then ((lstM S1 i).1+1,fun j=>if j < (lstM S1 i).1 then (lstM S1 i).2 j else i) else lstM S1 i
def stB (P X:Nat→Int) (s:Nat):Bool:=YY P s (X 0) (X 1)
abbrev kgX (s:Int):Nat→Int:=ov (ov (fun _=>0) 0 6) 1 s
def Qp (x:Int):List Int→Int
 | []=>-1
 | y::l=>if x = y then 0 else if Qp x l = -1 then -1 else Qp x l+1
theorem kG (x:Int):∀ l:List Int,-1≤Qp x l∧Qp x l < l.length
 | []=>⟨Int.le_refl _,by simp [Qp]⟩
 | y::l=>by
  have:=kG x l
  unfold Qp
  rw [List.length_cons]
  split
  ·omega
  ·split <;> omega
theorem kg {x:Int}:∀ {l:List Int},(∀ i:Nat,i < l.length→l.getD i 0 ≠ x)→Qp x l = -1
 | [],_=>rfl
 | y::l,h=>by
  unfold Qp
  have h0:=h 0 (by simp)
  have ih:=kg (x:=x) (l:=l) fun i hi=>by have:=h (i+1) (by simpa using hi); simpa using this
  rw [if_neg (fun e=>h0 (by simp [e])),if_pos ih]
theorem kz {x:Int}:∀ {l:List Int} {i:Nat},i < l.length→l.getD i 0 = x→(∀ j:Nat,j < i→l.getD j 0 ≠ x)→Qp x l = i
 | [],i,h,_,_=>by simp at h
 | y::l,0,_,h,_=>by
  unfold Qp
  rw [if_pos (by simpa using h.symm)]; rfl
 | y::l,i+1,hi,h,hn=>by
  unfold Qp
  have h0:=hn 0 (by omega)
  have ih:=kz (x:=x) (l:=l) (i:=i) (by simpa using hi) (by simpa using h) fun j hj=>by have:=hn (j+1) (by omega); simpa using this
  rw [if_neg (fun e=>h0 (by simp [e])),if_neg (by omega),ih]; omega
theorem qq {x:Int}:∀ {l:List Int},0≤Qp x l↔x∈l
 | []=>by simp [Qp]
 | y::l=>by
  have ih:=qq (x:=x) (l:=l)
  have:=kG x l
  unfold Qp
  rw [List.mem_cons]
  by_cases e:x = y
  ·rw [if_pos e]; simp [e]
  ·rw [if_neg e]
   simp only [e,false_or]
   rw [← ih]
   split <;> omega
theorem ld1 {F:Nat→Int} {l:List Int} (hF:∀ i,i < l.length→F i = l.getD i 0) {i:Nat} (hi:i < l.length):F (0+(i:Int).toNat*1) = l.getD i 0:=by
 rw [show 0+(i:Int).toNat*1 = i by omega]; exact hF i hi
theorem Ka {l:List Int}:l.length = l.length*1:=(Nat.mul_one _).symm
theorem u5 (x:Int) (l:List Int) (hlen:l.length≤1000000):RdR AM 97 1 [] [.s (.int .i64 x)] l (.s (.int .i64 (Qp x l))):=by
 refine ER fun v Bs hc=>?_
 refine YI (a:=a97) rfl rfl (YH _) (ZP rfl) rfl ?_ (by first | rfl | (cases hc <;> rfl))
 have hr0:=hc.rx
 rw [show Xj 0 Bs = Xj 0 Bs++[] from (List.append_nil _).symm]
 generalize hown:Xj 0 Bs = own0 at hr0 ⊢
 refine Zd (Yp rfl (Yb (Yd (Zd (Yp (v:=v) rfl (Vn rfl hr0 (by decide) Ka (Yp rfl (Yb (Yj (Xe (List.Sublist.append (.refl _) .slnil) (Xg (fun m f _ L=>∃ (i:Nat),(i≤l.length)∧(m = l.length - i)∧(∀ j:Nat,j < i→l.getD j 0 ≠ x)∧(f 0 = v)∧(f 1 = .s (.int .i64 x))∧(f 7 = .s (.int .i64 l.length))∧(f 8 = .s (.int .i64 i))∧(L = (own0++[]))) (fun m f nb L hI=>?_) (l.length) (⟨0,by omega,by omega,fun j hj=>by omega,rfl,rfl,rfl,rfl,rfl⟩))))))))))))
 obtain ⟨i,hi,hm,hn,k0,k1,k7,k8,rfl⟩:=hI
 refine pH 0 k0 (pH 1 k1 (pH 7 k7 (pH 8 k8 (Zd (Zq rfl (Yb (Yd (Yi rfl (fun h1=>?_) (fun h1=>?_))))))))) <;> simp only [NM] at h1
 ·refine Yg (Yd (Yj (Zd (Zi rfl (Zi rfl (Ze (Zi rfl (Yp (v:=v) rfl (Zi rfl ?_)))))))))
  obtain ⟨b0,q0,md0,c0,F0,rfl,rfl,hF0⟩:=hr0.at (by decide) Ka (by omega)
  refine Zw rfl rfl (Yl (x:=l.getD i 0) rfl rfl ZL (ld1 hF0 (by omega)) (Zq rfl (Yb (Yi rfl (fun h2=>?_) (fun h2=>?_))))) <;> simp only [NM] at h2
  ·refine Zd (Zi rfl (Zi rfl (Yb (Yh (⟨_,ZK rfl,?_⟩)))))
   refine ⟨ZI ?_,(fun _ h=>h)⟩
   exact (kz (by omega) (by omega) hn).symm
  ·refine Yg (Ye (Zr rfl rfl (Zi rfl (Yb (⟨l.length - (i+1),_,by omega,(.refl _),i+1,by omega,rfl,?_,rfl,rfl,rfl,rfl,rfl⟩)))))
   intro j hj
   by_cases e:j = i
   ·subst e; exact fun e=>by omega
   ·exact hn j (by omega)
 ·refine YZ (Xc (Zd (Yp rfl (Yb (Yh (⟨_,ZK rfl,?_⟩))))))
  refine ⟨ZI ?_,(fun _ h=>h)⟩
  exact (kg fun j hj=>hn j (by omega)).symm
theorem qO (x:Int) (l:List Int) (hlen:l.length≤1000000):RdR AM 73 1 [] [.s (.int .i64 x)] l (.s (.bool (decide (x∈l)))):=by
 refine ER fun v Bs hc=>?_
 refine YI (a:=a73) rfl rfl (YH _) (ZP rfl) rfl ?_ (by first | rfl | (cases hc <;> rfl))
 have hr0:=hc.rx
 rw [show Xj 0 Bs = Xj 0 Bs++[] from (List.append_nil _).symm]
 generalize hown:Xj 0 Bs = own0 at hr0 ⊢
 refine Zd (Yp rfl (Ze (Yp (v:=v) rfl (Zi rfl (VF (caps:=[]) rfl (u5 x l hlen) rfl (hr0) (fun _ h=>(List.mem_append_left _ h)) rfl rfl rfl (Zq rfl (Zj rfl (Zf rfl (⟨ZH ?_,(fun _ h=>h)⟩)))))))))
 exact decide_eq_decide.2 qq
theorem muM_pos {s f r:Int} (h:0≤s∧s < 64):1≤muM s f r:=by
 unfold muM
 rw [if_neg (by omega)]
 split
 ·omega
 ·split
  ·omega
  ·split <;> omega
theorem qc {p r t:Int} {k:Nat} (hz:¬ (p = 0∧r = 0)) (ht:t ≠ -1) (hb:-1≤t∧t < 64) (hk:muM t p r≤k+1):∃ k',WV p r k t = (if YN t p r = -1 then [] else YN t p r::WV p r k' (YN t p r))∧muM (YN t p r) p r≤k'+1:=by
 have hs:=DV hz ht hb
 match k with
 | 0 =>
  have hb':=VT t p r
  have:YN t p r = -1:=by
   by_cases e:YN t p r = -1
   ·exact e
   ·have:=muM_pos (f:=p) (r:=r) (s:=YN t p r) (by omega); omega
  exact ⟨0,by rw [if_pos this]; rfl,by omega⟩
 | k+1=>exact ⟨k,rfl,by omega⟩
theorem Jq (f r:Int):∀ (k:Nat) (s:Int),(WV f r k s).length≤k
 | 0,_=>Nat.le_refl _
 | k+1,s=>by
  unfold WV
  split
  ·simp
  ·have:=Jq f r k (YN s f r); rw [List.length_cons]; omega
theorem uu {a b:List Int} {n:Nat} (h:(a++b).length≤n):a.length≤n:=by rw [List.length_append] at h; omega
theorem ray_rt (s p r:Int) (hz:¬ (p = 0∧r = 0)):RtR AM 127 1 [.s (.int .i64 s),.s (.int .i64 p),.s (.int .i64 r)] [] (WV p r 8 s) []:=by
 refine W7 (YI (a:=a127) rfl rfl (YH _) (ZP rfl) (m:=0) rfl (Zd (Yp rfl (Yb (Yd (Zd (Zi rfl (Zq rfl (Zj rfl (Yr (t:=9) rfl (fun h1=>?_) (fun h1=>?_))))))))))) <;> simp only [NM] at h1
 ·refine Ya rfl (Zi rfl (Ya rfl (Zq rfl (Zo rfl (Yb (Yi rfl (fun h2=>?_) (fun h2=>?_))))))) <;> simp only [NM] at h2
  ·refine Zd (Yp rfl (Yb (Yh (⟨_,YK (v:=.snil) rfl (YS),?_⟩))))
   exfalso; omega
  ·refine Yg (Yd (Zd (Zi rfl (Zi rfl (Zi rfl (Ys rfl (Uo _ _ _) rfl rfl rfl (Zi rfl (Yb (Yj (Xe .slnil (Xg (fun m f _ L=>∃ (t:Int) (acc:List Int) (k:Nat) (vO:V) (ownO:HA),(WV p r 8 s = acc++(if t = -1 then [] else t::WV p r k t))∧(muM t p r≤k+1)∧(m = muM t p r)∧(-1≤t∧t < 64)∧(Rw 1 (acc) vO ownO)∧(f 0 = .s (.int .i64 t))∧(f 1 = .s (.int .i64 p))∧(f 2 = .s (.int .i64 r))∧(f 6 = vO)∧(L = (ownO++[]))) (fun m f nb L hI=>?_) (muM (YN s p r) p r) (⟨YN s p r,[],7,.snil,[],rfl,uA (VT s p r).2,rfl,VT s p r,.nil rfl,rfl,rfl,rfl,rfl,rfl⟩))))))))))))
   obtain ⟨t,acc,k,vO,ownO,hacc,hk,hm,hb,hrO,k0,k1,k2,k6,rfl⟩:=hI
   refine pH 0 k0 (pH 1 k1 (pH 2 k2 (pH 6 k6 (Yd (Zd (Zi rfl (Zq rfl (Yb (Yi rfl (fun h3=>?_) (fun h3=>?_)))))))))) <;> simp only [NM] at h3
   ·refine Yg (Yd (Yj (Ye (Yp (v:=vO) rfl (Zi rfl (Xd rfl (.one rfl .nil) (Xx (c:=[t]) rfl hrO rfl ZL (.there .here) (by decide) (by decide) rfl (QT) (by have:=uu (b:=if t = -1 then [] else t::WV p r k t) (by rw [← hacc]; exact Jq p r 8 s); omega) (fun v1 own1 n1 hr1=>Yp (v:=v1) rfl (Yb (Ye (Zi rfl (Zi rfl (Zi rfl (Ys rfl (Uo _ _ _) rfl rfl rfl (Zi rfl (Yb ?_))))))))))))))))
    have ht:t ≠ -1:=by omega
    obtain ⟨k2,hk1,hk2⟩:=qc hz ht hb hk
    refine ⟨muM (YN t p r) p r,_,by rw [hm]; exact DV hz ht hb,(List.Sublist.append (.refl _) (.cons _ .slnil)),YN t p r,acc++[t],k2,_,_,?_,hk2,rfl,VT t p r,hr1,rfl,rfl,rfl,rfl,rfl⟩
    rw [hacc,if_neg ht,hk1,List.append_assoc]; rfl
   ·refine YZ (Xc (Zd (Yp (v:=vO) rfl (Yp (v:=vO) rfl (Yb (Yh (⟨_,YK (v:=vO) rfl (YS),?_⟩)))))))
    have ht:t = -1:=by omega
    rw [if_pos ht,List.append_nil] at hacc
    exact ⟨_,hacc ▸ hrO,(fun _ h=>(List.mem_append_left _ h))⟩
 ·refine ZC rfl (Zo rfl (Yb (ZA rfl (Yg (Yd (Zd (Zi rfl (Zi rfl (Zi rfl (Ys rfl (Uo _ _ _) rfl rfl rfl (Zi rfl (Yb (Yj (Xe .slnil (Xg (fun m f _ L=>∃ (t:Int) (acc:List Int) (k:Nat) (vO:V) (ownO:HA),(WV p r 8 s = acc++(if t = -1 then [] else t::WV p r k t))∧(muM t p r≤k+1)∧(m = muM t p r)∧(-1≤t∧t < 64)∧(Rw 1 (acc) vO ownO)∧(f 0 = .s (.int .i64 t))∧(f 1 = .s (.int .i64 p))∧(f 2 = .s (.int .i64 r))∧(f 6 = vO)∧(L = (ownO++[]))) (fun m f nb L hI=>?_) (muM (YN s p r) p r) (⟨YN s p r,[],7,.snil,[],rfl,uA (VT s p r).2,rfl,VT s p r,.nil rfl,rfl,rfl,rfl,rfl,rfl⟩))))))))))))))))
  obtain ⟨t,acc,k,vO,ownO,hacc,hk,hm,hb,hrO,k0,k1,k2,k6,rfl⟩:=hI
  refine pH 0 k0 (pH 1 k1 (pH 2 k2 (pH 6 k6 (Yd (Zd (Zi rfl (Zq rfl (Yb (Yi rfl (fun h4=>?_) (fun h4=>?_)))))))))) <;> simp only [NM] at h4
  ·refine Yg (Yd (Yj (Ye (Yp (v:=vO) rfl (Zi rfl (Xd rfl (.one rfl .nil) (Xx (c:=[t]) rfl hrO rfl ZL (.there .here) (by decide) (by decide) rfl (QT) (by have:=uu (b:=if t = -1 then [] else t::WV p r k t) (by rw [← hacc]; exact Jq p r 8 s); omega) (fun v2 own2 n2 hr2=>Yp (v:=v2) rfl (Yb (Ye (Zi rfl (Zi rfl (Zi rfl (Ys rfl (Uo _ _ _) rfl rfl rfl (Zi rfl (Yb ?_))))))))))))))))
   have ht:t ≠ -1:=by omega
   obtain ⟨k2,hk1,hk2⟩:=qc hz ht hb hk
   refine ⟨muM (YN t p r) p r,_,by rw [hm]; exact DV hz ht hb,(List.Sublist.append (.refl _) (.cons _ .slnil)),YN t p r,acc++[t],k2,_,_,?_,hk2,rfl,VT t p r,hr2,rfl,rfl,rfl,rfl,rfl⟩
   rw [hacc,if_neg ht,hk1,List.append_assoc]; rfl
  ·refine YZ (Xc (Zd (Yp (v:=vO) rfl (Yp (v:=vO) rfl (Yb (Yh (⟨_,YK (v:=vO) rfl (YS),?_⟩)))))))
   have ht:t = -1:=by omega
   rw [if_pos ht,List.append_nil] at hacc
   exact ⟨_,hacc ▸ hrO,(fun _ h=>(List.mem_append_left _ h))⟩
theorem xy (i:Nat):X4 (i+1) = X4 i++[(i:Int)]:=by
 unfold X4
 rw [List.range_succ,List.map_append]; rfl
theorem TS (p:Int→Bool) (i:Nat):((X4 i).filter p).length≤i:=by
 refine Nat.le_trans (List.length_filter_le _ _) ?_
 unfold X4
 rw [List.length_map,List.length_range]; exact Nat.le_refl _
theorem D7 {p:Int→Bool} {i:Nat} (h:p i = true):(X4 (i+1)).filter p = (X4 i).filter p++[(i:Int)]:=by
 rw [xy,List.filter_append]; simp [h]
theorem yG {p:Int→Bool} {i:Nat} (h:p i = false):(X4 (i+1)).filter p = (X4 i).filter p:=by
 rw [xy,List.filter_append]; simp [h]
def isX (P X:Nat→Int) (s:Int):Bool:=decide (P (sqI s) = X 0∧P (sqI s+1) = X 1)
def R8 (P X:Nat→Int):List Int:=(X4 64).filter (isX P X)
theorem tF {P X Q:Nat→Int} {s:Nat} (hQ:∀ j,j < 2→Q j = P (sqI s+j)):eqI 2 X Q = isX P X s:=by
 unfold isX
 rw [Bool.eq_iff_iff,Qx,decide_eq_true_eq]
 constructor
 ·intro h
  have h0:=h 0 (by omega); have h1:=h 1 (by omega)
  rw [hQ 0 (by omega)] at h0; rw [hQ 1 (by omega)] at h1
  exact ⟨h0.symm,h1.symm⟩
 ·rintro ⟨h0,h1⟩ i hi
  rw [hQ i hi]
  match i,hi with
  | 0,_=>exact h0.symm
  | 1,_=>exact h1.symm
theorem kj (P X:Nat→Int):RtR AM 34 1 [.agg 133 (ia P),.agg 2 (ia X)] [] (R8 P X) []:=by
 refine W7 (YI (a:=a34) rfl rfl (YH _) (ZP rfl) (m:=0) rfl (Zd (YB rfl (YB rfl (Yp rfl (Yb (Yd (Zd (Zx rfl (Yn rfl rfl ZM (Yp rfl (Yb (Yj (Xe (.cons_cons _ (.cons _ .slnil)) (Xg (fun m f _ L=>∃ (i:Nat) (vO:V) (ownO:HA),(i≤64)∧(m = 64 - i)∧(Rw 1 ((X4 i).filter (isX P X)) vO ownO)∧(f 3 = .ptr 1 0 2)∧(f 4 = vO)∧(f 8 = .agg 128 (ia P))∧(f 9 = .s (.int .i64 i))∧(L = (ownO++[(1,.sc .var 2 (ia X))]))) (fun m f nb L hI=>?_) (64) (⟨0,.snil,[],by omega,rfl,.nil rfl,rfl,rfl,rfl,rfl,rfl⟩))))))))))))))))
 obtain ⟨i,vO,ownO,hi,hm,hrO,k3,k4,k8,k9,rfl⟩:=hI
 refine pH 3 k3 (pH 4 k4 (pH 8 k8 (pH 9 k9 (Zd (Zq rfl (Yb (Yd (Yi rfl (fun h5=>?_) (fun h5=>?_))))))))) <;> simp only [NM] at h5
 ·refine Yg (Yd (Yj (Zd (Zi rfl (zq rfl rfl rfl (by omega) (Yx (Zi rfl (Yy rfl rfl rfl rfl .here (Ze (Yn rfl rfl (.tail _ (List.mem_append_right _ ZL)) (Yn rfl rfl ZL (Yv rfl rfl (Yb (Yi rfl (fun h6=>?_) (fun h6=>?_))))))))))))))) <;> simp only [NM] at h6
  ·refine Ye (Yp (v:=vO) rfl (Zi rfl (Xd rfl (.one rfl .nil) (Xx (c:=[(i:Int)]) rfl hrO rfl ZL (.there (.there .here)) (by decide) (by decide) rfl (QT) (by have:=TS (isX P X) i; omega) (fun v1 own1 n1 hr1=>Yp (v:=v1) rfl (Yb (Ye (Zr rfl rfl (Zi rfl (Yb ?_))))))))))
   have e0:∀ j,j < 2→ovA (fun _=>0) 0 2 (dp P ((i:Int).toNat*2)) j = P (sqI i+j):=fun j hj=>by rw [XR (by omega)]; have hq:sqI (i:Int) = 0+(i:Int).toNat*2:=rfl; exact congrArg P (by omega)
   refine ⟨64 - (i+1),_,by omega,(List.Sublist.append (.refl _) (.cons _ (.cons _ (.refl _)))),i+1,_,_,by omega,rfl,?_,rfl,rfl,rfl,rfl,rfl⟩
   exact (D7 (p:=isX P X) (i:=i) (by rw [← tF e0]; assumption)).symm ▸ hr1
  ·refine Yg (Ye (Zr rfl rfl (Zi rfl (Yb ?_))))
   have e0:∀ j,j < 2→ovA (fun _=>0) 0 2 (dp P ((i:Int).toNat*2)) j = P (sqI i+j):=fun j hj=>by rw [XR (by omega)]; have hq:sqI (i:Int) = 0+(i:Int).toNat*2:=rfl; exact congrArg P (by omega)
   refine ⟨64 - (i+1),_,by omega,(.cons _ (List.Sublist.append (.refl _) (.refl _))),i+1,_,_,by omega,rfl,?_,rfl,rfl,rfl,rfl,rfl⟩
   exact (yG (p:=isX P X) (i:=i) (by rw [← tF e0]; assumption)).symm ▸ hrO
 ·refine YZ (Xc (Zd (Yp (v:=vO) rfl (Yp (v:=vO) rfl (Yb (Yh (⟨_,YK (v:=vO) rfl (YS),?_⟩)))))))
  obtain rfl:i = 64:=by omega
  exact ⟨_,hrO,(fun _ h=>(List.mem_append_left _ h))⟩
def X7 (l:List (Int × Int)):List Int:=l.flatMap fun w=>[w.1,w.2]
theorem UT:∀ l:List (Int × Int),(X7 l).length = l.length*2
 | []=>rfl
 | w::l=>by
  have:=UT l
  unfold X7 at *
  rw [List.flatMap_cons,List.length_append,this]
  simp only [List.length_cons,List.length_nil]
  omega
theorem DR:∀ {l:List (Int × Int)} {i:Nat},i < l.length→(X7 l).getD (i*2) 0 = (l.getD i (0,0)).1∧(X7 l).getD (i*2+1) 0 = (l.getD i (0,0)).2
 | [],i,h=>absurd (show i < 0 from h) (by omega)
 | w::l,0,_=>⟨rfl,rfl⟩
 | w::l,i+1,h=>by
  have:=DR (l:=l) (i:=i) (by simpa using h)
  have e:X7 (w::l) = w.1::w.2::X7 l:=rfl
  rw [e,show (i+1)*2 = i*2+1+1 by omega,show i*2+1+1+1 = i*2+1+1+1 from rfl]
  simpa using this
theorem way0 {F:Nat→Int} {l:List (Int × Int)} (hF:∀ i,i < (X7 l).length→F i = (X7 l).getD i 0) {i:Nat} (hi:i < l.length):F (0+(i:Int).toNat*2+0) = (l.getD i (0,0)).1:=by
 rw [show 0+(i:Int).toNat*2+0 = i*2 by omega,hF _ (by rw [UT]; omega),(DR hi).1]
theorem way1 {F:Nat→Int} {l:List (Int × Int)} (hF:∀ i,i < (X7 l).length→F i = (X7 l).getD i 0) {i:Nat} (hi:i < l.length):F (0+(i:Int).toNat*2+1) = (l.getD i (0,0)).2:=by
 rw [show 0+(i:Int).toNat*2+1 = i*2+1 by omega,hF _ (by rw [UT]; omega),(DR hi).2]
theorem W5 {α:Type} {l:List α} {i:Nat} (d:α) (hi:i < l.length):l.take (i+1) = l.take i++[l.getD i d]:=by
 rw [List.take_succ_eq_append_getElem hi,List.getD_eq_getElem?_getD,List.getElem?_eq_getElem hi]; rfl
theorem sE {s:Int} {l:List (Int × Int)} {i:Nat} (hi:i < l.length) (h:YN s (l.getD i (0,0)).1 (l.getD i (0,0)).2 ≠ -1):XP s (l.take (i+1)) = XP s (l.take i)++[YN s (l.getD i (0,0)).1 (l.getD i (0,0)).2]:=by
 unfold XP
 rw [W5 (0,0) hi,List.map_append,List.filter_append]
 generalize l.getD i (0,0) = w at h ⊢
 simp [h]
theorem pi {s:Int} {l:List (Int × Int)} {i:Nat} (hi:i < l.length) (h:YN s (l.getD i (0,0)).1 (l.getD i (0,0)).2 = -1):XP s (l.take (i+1)) = XP s (l.take i):=by
 unfold XP
 rw [W5 (0,0) hi,List.map_append,List.filter_append]
 generalize l.getD i (0,0) = w at h ⊢
 simp [h]
theorem JY (s:Int) (l:List (Int × Int)):(XP s l).length≤l.length:=by
 unfold XP
 exact Nat.le_trans (List.length_filter_le _ _) (by simp)
theorem rI (s:Int) (l:List (Int × Int)) (i:Nat):(XP s (l.take i)).length≤l.length:=Nat.le_trans (JY _ _) (by rw [List.length_take]; exact Nat.min_le_right _ _)
theorem yN (s:Int) (l:List (Int × Int)) (hlen:l.length≤1000000):yQ AM 100 2 1 [.s (.int .i64 s)] [] (X7 l) (XP s l):=by
 refine DW fun v Bs hc=>?_
 refine YI (a:=a100) rfl rfl (YH _) (ZP rfl) rfl ?_ (by first | rfl | (cases hc <;> rfl))
 have hr0:=hc.rx
 rw [show Xj 0 Bs = Xj 0 Bs++[] from (List.append_nil _).symm]
 generalize hown:Xj 0 Bs = own0 at hr0 ⊢
 refine Zd (Yp rfl (Yb (Yd (Zd (Yp (v:=v) rfl (Vn rfl hr0 (by decide) (UT l) (Yp rfl (Yb (Yj (Xe (List.Sublist.append (.refl _) .slnil) (Xg (fun m f _ L=>∃ (i:Nat) (vO:V) (ownO:HA),(i≤l.length)∧(m = l.length - i)∧(Rw 1 (XP s (l.take i)) vO ownO)∧(f 0 = .s (.int .i64 s))∧(f 4 = vO)∧(f 8 = v)∧(f 9 = .s (.int .i64 l.length))∧(f 10 = .s (.int .i64 i))∧(L = (ownO++(own0++[])))) (fun m f nb L hI=>?_) (l.length) (⟨0,.snil,[],by omega,rfl,.nil rfl,rfl,rfl,rfl,rfl,rfl,rfl⟩))))))))))))
 obtain ⟨i,vO,ownO,hi,hm,hrO,k0,k4,k8,k9,k10,rfl⟩:=hI
 refine pH 0 k0 (pH 4 k4 (pH 8 k8 (pH 9 k9 (pH 10 k10 (Zd (Zq rfl (Yb (Yd (Yi rfl (fun h7=>?_) (fun h7=>?_)))))))))) <;> simp only [NM] at h7
 ·refine Yg (Yd (Yj (Zd ?_)))
  obtain ⟨b0,q0,md0,c0,F0,rfl,rfl,hF0⟩:=hr0.at (by decide) (UT l) (by omega)
  refine Zw rfl rfl (Yo rfl rfl (List.mem_append_right _ ZL) (Yx (Yy rfl rfl rfl rfl .here (Ze (Zi rfl (Zv rfl rfl rfl (Yl (x:=(l.getD i (0,0)).1) rfl rfl ZL (way0 hF0 (by omega)) (Zv rfl rfl rfl (Yl (x:=(l.getD i (0,0)).2) rfl rfl ZL (way1 hF0 (by omega)) (Ys rfl (Uo _ _ _) rfl rfl rfl (Zi rfl (Ze (Zi rfl (Zq rfl (Yb (Yi rfl (fun h8=>?_) (fun h8=>?_))))))))))))))))) <;> simp only [NM] at h8
  ·refine Ye (Yp (v:=vO) rfl (Zi rfl (Xd rfl (.one rfl .nil) (Xx (c:=[YN s (l.getD i (0,0)).1 (l.getD i (0,0)).2]) rfl hrO rfl ZL (.there (.there .here)) (by decide) (by decide) rfl (QT) (by have:=rI s l i; omega) (fun v1 own1 n1 hr1=>Yp (v:=v1) rfl (Yb (Ye (Zr rfl rfl (Zi rfl (Yb (⟨l.length - (i+1),_,by omega,(List.Sublist.append (.refl _) (.cons _ (.cons _ (.refl _)))),i+1,_,_,by omega,rfl,?_,rfl,rfl,rfl,rfl,rfl,rfl⟩)))))))))))
   exact (sE (l:=l) (i:=i) (by omega) (by omega)).symm ▸ hr1
  ·refine Yg (Ye (Zr rfl rfl (Zi rfl (Yb (⟨l.length - (i+1),_,by omega,(.cons _ (List.Sublist.append (.refl _) (.refl _))),i+1,_,_,by omega,rfl,?_,rfl,rfl,rfl,rfl,rfl,rfl⟩)))))
   exact (pi (l:=l) (i:=i) (by omega) (by omega)).symm ▸ hrO
 ·refine YZ (Xc (Zd (Yp (v:=vO) rfl (Yp (v:=vO) rfl (Yb (Yh (⟨_,YK (v:=vO) rfl (YS),?_⟩)))))))
  obtain rfl:i = l.length:=by omega
  rw [List.take_length] at hrO
  exact ⟨_,_,hrO,.here,(fun _ h=>h)⟩
theorem q8 :WR AM 98 [] [] (fun v' _ _=>∃ P:Nat→Int,v' = .agg 8 (ia P)∧∀ i,i < 8→P i = (X7 straightL).getD i 0):=by
 refine YI (a:=a98) rfl rfl (YH _) (ZP rfl) (m:=0) rfl (Zd (Yx (Ze (YA rfl (.one rfl (.one rfl .nil)) (YA rfl (.one rfl (.one rfl .nil)) (YA rfl (.one rfl (.one rfl .nil)) (YA rfl (.one rfl (.one rfl .nil)) (YA rfl (.agg rfl (.agg rfl (.agg rfl (.agg rfl .nil)))) (Yy rfl rfl rfl rfl .here (Yb (Yh (⟨_,X5 rfl rfl ZL (YS),?_⟩))))))))))))
 refine ⟨_,rfl,?_⟩
 decide
theorem uO :WR AM 99 [] [] (fun v' _ _=>∃ P:Nat→Int,v' = .agg 8 (ia P)∧∀ i,i < 8→P i = (X7 slantL).getD i 0):=by
 refine YI (a:=a99) rfl rfl (YH _) (ZP rfl) (m:=0) rfl (Zd (Yx (Ze (YA rfl (.one rfl (.one rfl .nil)) (YA rfl (.one rfl (.one rfl .nil)) (YA rfl (.one rfl (.one rfl .nil)) (YA rfl (.one rfl (.one rfl .nil)) (YA rfl (.agg rfl (.agg rfl (.agg rfl (.agg rfl .nil)))) (Yy rfl rfl rfl rfl .here (Yb (Yh (⟨_,X5 rfl rfl ZL (YS),?_⟩))))))))))))
 refine ⟨_,rfl,?_⟩
 decide
theorem tn :WR AM 101 [] [] (fun v' _ _=>∃ P:Nat→Int,v' = .agg 16 (ia P)∧∀ i,i < 16→P i = (X7 jumpL).getD i 0):=by
 refine YI (a:=a101) rfl rfl (YH _) (ZP rfl) (m:=0) rfl (Zd (Yx (Ze (YA rfl (.one rfl (.one rfl .nil)) (YA rfl (.one rfl (.one rfl .nil)) (YA rfl (.one rfl (.one rfl .nil)) (YA rfl (.one rfl (.one rfl .nil)) (YA rfl (.one rfl (.one rfl .nil)) (YA rfl (.one rfl (.one rfl .nil)) (YA rfl (.one rfl (.one rfl .nil)) (YA rfl (.one rfl (.one rfl .nil)) (YA rfl (.agg rfl (.agg rfl (.agg rfl (.agg rfl (.agg rfl (.agg rfl (.agg rfl (.agg rfl .nil)))))))) (Yy rfl rfl rfl rfl .here (Yb (Yh (⟨_,X5 rfl rfl ZL (YS),?_⟩))))))))))))))))
 refine ⟨_,rfl,?_⟩
 decide
theorem wb {P:Nat→Int}:∀ {r:List Int} {j:Nat},(∀ u,u < j→YP P (r.getD u 0) = true)→j < r.length→YP P (r.getD j 0) = false→VL P r = r.take (j+1)
 | [],j,_,h,_=>absurd (show j < 0 from h) (by omega)
 | t::r,0,_,_,h=>by
  have h:YP P t = false:=h
  unfold VL
  rw [if_neg (by rw [h]; decide)]; simp
 | t::r,j+1,hu,hj,h=>by
  have h0:YP P t = true:=hu 0 (by omega)
  have ih:=wb (P:=P) (r:=r) (j:=j) (fun u h=>by have:=hu (u+1) (by omega); simpa using this) (by simpa using hj) (by simpa using h)
  unfold VL
  rw [if_pos h0,ih]; rfl
theorem qZ {P:Nat→Int}:∀ {r:List Int} {j:Nat},(∀ u,u < j→YP P (r.getD u 0) = true)→j = r.length→VL P r = r.take j
 | [],j,_,h=>by simp [VL]
 | t::r,0,_,h=>by simp at h
 | t::r,j+1,hu,h=>by
  have h0:YP P t = true:=hu 0 (by omega)
  have ih:=qZ (P:=P) (r:=r) (j:=j) (fun u h=>by have:=hu (u+1) (by omega); simpa using this) (by simpa using h)
  unfold VL
  rw [if_pos h0,ih]; rfl
theorem zf {P:Nat→Int} {s:Int} {l:List (Int × Int)} {i:Nat} (hi:i < l.length):XS P s (l.take (i+1)) = XS P s (l.take i)++VL P (WV (l.getD i (0,0)).1 (l.getD i (0,0)).2 8 s):=by
 unfold XS
 rw [W5 (0,0) hi,List.flatMap_append]
 simp
theorem Es (P:Nat→Int) (s:Int):∀ l:List (Int × Int),(XS P s l).length≤l.length*8
 | []=>Nat.zero_le _
 | w::l=>by
  have h1:=Es P s l
  have h2:=(R2 P (WV w.1 w.2 8 s)).length_le
  have h3:=Jq w.1 w.2 8 s
  unfold XS at *
  rw [List.flatMap_cons,List.length_append,List.length_cons]
  omega
theorem rb (P:Nat→Int) (s:Int) (l:List (Int × Int)) (i:Nat):(XS P s (l.take i)).length≤l.length*8:=Nat.le_trans (Es P s _) (Nat.mul_le_mul_right 8 (by rw [List.length_take]; exact Nat.min_le_right _ _))
theorem ray_in {p q s:Int} {r:List Int} {j:Nat} (h:r = WV p q 8 s) (hj:j < r.length):0≤r.getD j 0∧r.getD j 0 < 64:=by
 refine zX (f:=p) (r:=q) (k:=8) (s:=s) ?_
 rw [← h,List.getD_eq_getElem?_getD,List.getElem?_eq_getElem hj]
 exact List.getElem_mem hj
theorem hu_next {P:Nat→Int} {r:List Int} {j:Nat} (hu:∀ u,u < j→YP P (r.getD u 0) = true) (h:YP P (r.getD j 0) = true):∀ u,u < j+1→YP P (r.getD u 0) = true:=fun u hu'=>by
 by_cases e:u = j
 ·subst e; exact h
 ·exact hu u (by omega)
theorem wV {r:List Int} {j:Nat} (a:List Int) (hj:j < r.length):a++r.take j++[r.getD j 0] = a++r.take (j+1):=by
 rw [W5 0 hj,List.append_assoc]
theorem D0 (P:Nat→Int) (s:Int) (l:List (Int × Int)) (hlen:l.length≤1000) (hw:∀ i,i < l.length→¬ ((l.getD i (0,0)).1 = 0∧(l.getD i (0,0)).2 = 0)):yQ AM 103 2 1 [.agg 133 (ia P),.s (.int .i64 s)] [] (X7 l) (XS P s l):=by
 refine DW fun v Bs hc=>?_
 refine YI (a:=a103) rfl rfl (YH _) (ZP rfl) rfl ?_ (by first | rfl | (cases hc <;> rfl))
 have hr0:=hc.rx
 rw [show Xj 0 Bs = Xj 0 Bs++[] from (List.append_nil _).symm]
 generalize hown:Xj 0 Bs = own0 at hr0 ⊢
 refine Zd (YB rfl (Yp rfl (Yb (Yd (Zd (Yp (v:=v) rfl (Vn rfl hr0 (by decide) (UT l) (Yp rfl (Yb (Yj (Xe (.cons_cons _ (List.Sublist.append (.refl _) .slnil)) (Xg (fun m f _ L=>∃ (i:Nat) (vO:V) (ownO:HA),(i≤l.length)∧(m = l.length - i)∧(Rw 1 (XS P s (l.take i)) vO ownO)∧(f 1 = .s (.int .i64 s))∧(f 3 = .ptr Bs.length 0 133)∧(f 6 = vO)∧(f 11 = v)∧(f 12 = .s (.int .i64 l.length))∧(f 13 = .s (.int .i64 i))∧(L = (ownO++(Bs.length,.sc .var 133 (ia P))::(own0++[])))) (fun m f nb L hI=>?_) (l.length) (⟨0,.snil,[],by omega,rfl,.nil rfl,rfl,rfl,rfl,rfl,rfl,rfl,rfl⟩)))))))))))))
 obtain ⟨i,vO,ownO,hi,hm,hrO,k1,k3,k6,k11,k12,k13,rfl⟩:=hI
 refine pH 1 k1 (pH 3 k3 (pH 6 k6 (pH 11 k11 (pH 12 k12 (pH 13 k13 (Zd (Zq rfl (Yb (Yd (Yi rfl (fun h1=>?_) (fun h1=>?_))))))))))) <;> simp only [NM] at h1
 ·refine Yg (Yd (Yj (Zd ?_)))
  obtain ⟨b0,q0,md0,c0,F0,rfl,rfl,hF0⟩:=hr0.at (by decide) (UT l) (by omega)
  refine Zw rfl rfl (Yo rfl rfl (List.mem_append_right _ ZM) (Yx (Yy rfl rfl rfl rfl .here (Ze (Zi rfl (Zv rfl rfl rfl (Yl (x:=(l.getD i (0,0)).1) rfl rfl ZL (way0 hF0 (by omega)) (Zv rfl rfl rfl (Yl (x:=(l.getD i (0,0)).2) rfl rfl ZL (way1 hF0 (by omega)) ?_)))))))))
  obtain ⟨r,hreq⟩:∃ r,r = WV (l.getD i (0,0)).1 (l.getD i (0,0)).2 8 s:=⟨_,rfl⟩
  have hray:=ray_rt s _ _ (hw i (by omega))
  rw [← hreq] at hray
  have hrl:r.length≤8:=by rw [hreq]; exact Jq _ _ _ _
  refine YD rfl (hray) rfl rfl (fun v1 own1 n1 hr1=>Vn rfl hr1.rx (by decide) Ka (Yp rfl (Yb (Yj (yD (Dr.appR _ (.there .here)).all (Xe (List.Sublist.append (.refl _) (List.Sublist.append (.refl _) (.cons _ (.refl _)))) (Xg (fun m f _ L=>∃ (j:Nat) (vP:V) (ownP:HA),(j≤r.length)∧(m = r.length - j)∧(∀ u,u < j→YP P (r.getD u 0) = true)∧(Rw 1 (XS P s (l.take i)++r.take j) vP ownP)∧(f 1 = .s (.int .i64 s))∧(f 3 = .ptr Bs.length 0 133)∧(f 6 = vP)∧(f 11 = .sl b0 0 l.length 2 c0)∧(f 12 = .s (.int .i64 l.length))∧(f 13 = .s (.int .i64 i))∧(f 22 = v1)∧(f 23 = .s (.int .i64 r.length))∧(f 24 = .s (.int .i64 j))∧(L = (ownP++(own1++[(Bs.length,.sc .var 133 (ia P)),(b0,.sc md0 q0 (ia F0))])))) (fun m f nb L hI=>?_) (r.length) (⟨0,vO,ownO,by omega,by omega,fun u h=>by omega,by rw [List.take_zero,List.append_nil]; exact hrO,rfl,rfl,rfl,rfl,rfl,rfl,rfl,rfl,rfl,rfl⟩))))))))
  obtain ⟨j,vP,ownP,hj,hm2,hu,hrP,k1,k3,k6,k11,k12,k13,k22,k23,k24,rfl⟩:=hI
  refine pH 1 k1 (pH 3 k3 (pH 6 k6 (pH 11 k11 (pH 12 k12 (pH 13 k13 (pH 22 k22 (pH 23 k23 (pH 24 k24 (Zd (Zq rfl (Yb (Yd (Yi rfl (fun h2=>?_) (fun h2=>?_)))))))))))))) <;> simp only [NM] at h2
  ·refine Yg (Yd (Yj (Zd ?_)))
   have hjb:=ray_in hreq (j:=j) (by omega)
   obtain ⟨b1,q1,md1,c1,F1,rfl,rfl,hF1⟩:=hr1.rx.at (by decide) Ka (by omega)
   refine Zw rfl rfl (Yl (x:=r.getD j 0) rfl rfl (List.mem_append_right _ ZL) (ld1 hF1 (by omega)) (Zi rfl (Ze (Yp (v:=vP) rfl (Zi rfl (Xd rfl (.one rfl .nil) (Xx (c:=[r.getD j 0]) rfl hrP rfl ZL (.there .here) (by decide) (by decide) rfl (QT) (by have:=rb P s l i; rw [List.length_append,List.length_take]; omega) (fun v2 own2 n2 hr2=>Yp (v:=v2) rfl (Ze (Zi rfl (Zx rfl (Zx rfl (Zv rfl rfl rfl (Yo rfl rfl (List.mem_append_right _ ZN) (YA rfl .nil (Yv rfl rfl (Yb (Yi rfl (fun h3=>?_) (fun h3=>?_))))))))))))))))))) <;> simp only [NM] at h3
   ·refine YZ (xthere rfl (Xc (Ye (Zr rfl rfl (Zi rfl (Yb (⟨l.length - (i+1),_,by omega,(List.Sublist.append (.refl _) (.cons _ (.cons _ (.refl _)))),i+1,_,_,by omega,rfl,?_,rfl,rfl,rfl,rfl,rfl,rfl,rfl⟩)))))))
    rw [zf (l:=l) (i:=i) (by omega),← hreq]
    (rw [wb hu (by omega) (by assumption),← wV _ (by omega)]; exact hr2)
   ·refine Yg (Ye (Zr rfl rfl (Zi rfl (Yb (⟨r.length - (j+1),_,by omega,(List.Sublist.append (.refl _) (.cons _ (.refl _))),j+1,_,_,by omega,rfl,hu_next hu (by assumption),?_,rfl,rfl,rfl,rfl,rfl,rfl,rfl,rfl,rfl,rfl⟩)))))
    rw [← wV _ (by omega)]; exact hr2
  ·refine YZ (Xc (Ye (Zr rfl rfl (Zi rfl (Yb (⟨l.length - (i+1),_,by omega,(List.Sublist.append (.refl _) (List.sublist_append_of_sublist_right (.refl _))),i+1,_,_,by omega,rfl,?_,rfl,rfl,rfl,rfl,rfl,rfl,rfl⟩))))))
   rw [zf (l:=l) (i:=i) (by omega),← hreq]
   (rw [qZ hu (by omega)]; exact hrP)
 ·refine YZ (Xc (Zd (Yp (v:=vO) rfl (Yp (v:=vO) rfl (Yb (Yh (⟨_,YK (v:=vO) rfl (YS),?_⟩)))))))
  obtain rfl:i = l.length:=by omega
  rw [List.take_length] at hrO
  exact ⟨_,_,hrO,.here,(fun _ h=>(.tail _ h))⟩
end Go.Proofs.YtlkighkfkdpncaaGreat
namespace Go.Am
open Go
def wF (A:AP) (fid:FuncId) (z m:Nat) (md m1 m2:Md) (c c1 c2:Cp) (P Q:Nat→Int) (l:List Int):Prop :=
 ∃ b k q F σ1,Run A fid [.sl 0 0 2 1 c] [.vs md [.sl 1 0 m z c1,.sl 2 0 m z c2],.sc m1 (m*z) (ia P),.sc m2 (m*z) (ia Q)] = some (.sl b 0 k z .whole,σ1)∧3≤b∧l.length = k*z∧(∀ i,i < l.length→F i = l.getD i 0)∧σ1[b]? = some (.sc .grow q (ia F)) ∧
  σ1[0]? = some (.vs md [.sl 1 0 m z c1,.sl 2 0 m z c2])∧σ1[1]? = some (.sc m1 (m*z) (ia P))∧σ1[2]? = some (.sc m2 (m*z) (ia Q))
theorem take3 {σ:Heap} {B C D:Blk} (h:σ[0]? = some B) (h2:σ[1]? = some C) (h3:σ[2]? = some D):σ.take 3 = [B,C,D]:=by
 cases σ with
 | nil=>cases h
 | cons x l =>
  simp only [List.getElem?_cons_zero,Option.some.injEq] at h; subst h
  simp only [List.getElem?_cons_succ] at h2 h3
  rw [List.take_succ_cons,take2 h2 h3]
section
variable {A:AP} {N:Nat} {f:FE} {n:Nat} {L:HA} {K:KN} {Zp:V→KN} {rest:List I} {d:Nat}
theorem qN {fid:FuncId} {q0:Bool} {z m b0 b1 b2:Nat} {md m1 m2:Md} {c c1 c2:Cp} {P Q:Nat→Int} {l:List Int} (hs:wF A fid z m (XW q0 md) (XW q0 m1) (XW q0 m2) c c1 c2 P Q l)
  (h0:(b0,Blk.vs md [.sl b1 0 m z c1,.sl b2 0 m z c2])∈L) (h1:(b1,Blk.sc m1 (m*z) (ia P))∈L) (h2:(b2,Blk.sc m2 (m*z) (ia Q))∈L) (hne:b1 ≠ b2) {σ:Heap} (h:Hp σ n L) :
  ∃ v B σ',Y4 (Run A) q0 (.fn fid []) [.sl b0 0 2 1 c] σ = some (v,σ')∧Rw z l v [(n,B)]∧Hp σ' (n+1) ((n,B)::L):=by
 obtain ⟨b,k,q,F,σ1,hrun,hb,hl,hF,e3,e0,e1,e2⟩:=hs
 have k0:=(h.2.mem h0).2
 have k1:=(h.2.mem h1).2
 have k2:=(h.2.mem h2).2
 have n01:b1 ≠ b0:=fun e=>by subst e; rw [k0] at k1; cases k1
 have n02:b2 ≠ b0:=fun e=>by subst e; rw [k0] at k2; cases k2
 have hre:Y6 σ 64 [b0] [] = [b0,b1,b2]:=by
  have c1':([b0]:List Nat).contains b1 = false:=by simp [n01]
  have c2':([b0,b1]:List Nat).contains b2 = false:=by simp [n02,Ne.symm hne]
  show (bif ([]:List Nat).contains b0 then Y6 σ 63 [] [] else Y6 σ 63 ((σ.getD b0 .dead).refs++[]) ([]++[b0])) = _
  rw [K9 k0]
  show (bif ([b0]:List Nat).contains b1 then Y6 σ 62 [b2] [b0] else Y6 σ 62 ((σ.getD b1 .dead).refs++[b2]) ([b0]++[b1])) = _
  rw [c1',K9 k1]
  show (bif ([b0,b1]:List Nat).contains b2 then Y6 σ 61 [] [b0,b1] else Y6 σ 61 ((σ.getD b2 .dead).refs++[]) ([b0,b1]++[b2])) = _
  rw [c2',K9 k2]; rfl
 have p0:pos b0 [b0,b1,b2] = some 0:=by simp [pos]
 have p1:pos b1 [b0,b1,b2] = some 1:=by
  have:(b0 == b1) = false:=by simpa using Ne.symm n01
  simp [pos,this]
 have p2:pos b2 [b0,b1,b2] = some 2:=by
  have a1:(b0 == b2) = false:=by simpa using Ne.symm n02
  have a2:(b1 == b2) = false:=by simpa using hne
  simp [pos,a1,a2]
 have hen:XJ q0 [.sl b0 0 2 1 c] σ = some ([b0,b1,b2],[.sl 0 0 2 1 c],[.vs (XW q0 md) [.sl 1 0 m z c1,.sl 2 0 m z c2],.sc (XW q0 m1) (m*z) (ia P),.sc (XW q0 m2) (m*z) (ia Q)]):=by
  have hrefs:V.refsL [.sl b0 0 2 1 c] = [b0]:=by simp [V.refsL,V.refs]
  unfold XJ
  rw [hrefs,hre]
  simp only [V.renL,V.ren,p0,p1,p2,Option.map_some,Y9,k0,k1,k2,Option.bind_some,Blk.ren]
 have hns:X2 q0 3 (.sl b 0 k z .whole) σ1 = [b]:=by
  unfold X2
  have hd:σ1.getD b .dead = .sc .grow q (ia F):=K9 e3
  have hbr:Y6 σ1 64 ((V.sl b 0 k z .whole).refs++bif q0 then [] else (σ1.take 3).flatMap Blk.refs) [] = bif q0 then [b] else [b,1,2]:=by
   cases q0 with
   | true =>
    show (bif ([]:List Nat).contains b then Y6 σ1 63 [] [] else Y6 σ1 63 ((σ1.getD b .dead).refs++[]) ([]++[b])) = _
    rw [hd]; rfl
   | false =>
    rw [cond_false,take3 e0 e1 e2]
    have x1:([b]:List Nat).contains 1 = false:=by simp; omega
    have x2:([b,1]:List Nat).contains 2 = false:=by simp; omega
    show (bif ([]:List Nat).contains b then Y6 σ1 63 [1,2] [] else Y6 σ1 63 ((σ1.getD b .dead).refs++[1,2]) ([]++[b])) = _
    rw [hd]
    show (bif ([b]:List Nat).contains 1 then Y6 σ1 62 [2] [b] else Y6 σ1 62 ((σ1.getD 1 .dead).refs++[2]) ([b]++[1])) = _
    rw [x1,K9 e1]
    show (bif ([b,1]:List Nat).contains 2 then Y6 σ1 61 [] [b,1] else Y6 σ1 61 ((σ1.getD 2 .dead).refs++[]) ([b,1]++[2])) = _
    rw [x2,K9 e2]; rfl
  rw [hbr]
  have hbb:Nat.ble 3 b = true:=Nat.ble_eq_true_of_le hb
  cases q0 with
  | true=>simp [hbb]
  | false=>simp [hbb]
 have hlt:=zC e2
 have hble:Nat.ble 3 σ1.length = true:=Nat.ble_eq_true_of_le (by omega)
 have hnd:nodup [b0,b1,b2] = true:=by simp [nodup,n01,n02,hne,Ne.symm n01,Ne.symm n02]
 have bb:Xs [b0,b1,b2] [b] σ.length 3 b = some n:=by
  have:Nat.blt b 3 = false:=by
   cases hx:Nat.blt b 3 with
   | false=>rfl
   | true=>have:=YE hx; omega
  unfold Xs
  rw [this,h.1]
  simp [pos]
 have f0:Xs [b0,b1,b2] [b] σ.length 3 0 = some b0:=rfl
 have f1:Xs [b0,b1,b2] [b] σ.length 3 1 = some b1:=rfl
 have f2:Xs [b0,b1,b2] [b] σ.length 3 2 = some b2:=rfl
 have hn1:nodup [b] = true:=rfl
 have hpk:Y9 false (Xs [b0,b1,b2] [b] σ.length 3) σ1 [b] = some [.sc .grow q (ia F)]:=by
  simp only [Y9,e3,Option.bind_some,Blk.ren,XW,cond_false]
 have hrn:(V.sl b 0 k z .whole).ren (Xs [b0,b1,b2] [b] σ.length 3) = some (.sl n 0 k z .whole):=by
  simp only [V.ren,bb,Option.map_some]
 have hlv:XE q0 σ [b0,b1,b2] (.sl b 0 k z .whole) σ1 = some (.sl n 0 k z .whole,σ++[.sc .grow q (ia F)]):=by
  unfold XE
  simp only [List.length_cons,List.length_nil,Nat.zero_add,Nat.reduceAdd,hns,hnd,hble,hn1,Bool.and_self,cond_true,hrn,hpk]
  cases q0 with
  | true=>rfl
  | false =>
   have hset:((σ.set b0 (.vs md [.sl b1 0 m z c1,.sl b2 0 m z c2])).set b1 (.sc m1 (m*z) (ia P))).set b2 (.sc m2 (m*z) (ia Q)) = σ:=by
    have s0:σ.set b0 (.vs md [.sl b1 0 m z c1,.sl b2 0 m z c2]) = σ:=set_same k0
    have s1:σ.set b1 (.sc m1 (m*z) (ia P)) = σ:=set_same k1
    have s2:σ.set b2 (.sc m2 (m*z) (ia Q)) = σ:=set_same k2
    rw [s0,s1,s2]
   have hrg:List.range 3 = [0,1,2]:=rfl
   simp only [XW,cond_false] at e0 e1 e2
   simp only [hrg,Y9,e0,e1,e2,Option.bind_some,Blk.ren,V.renL,V.ren,f0,f1,f2,Option.map_some,XW,cond_false,XM,hset]
 refine ⟨.sl n 0 k z .whole,.sc .grow q (ia F),σ++[.sc .grow q (ia F)],?_,.row hl hF,h.new _⟩
 simp only [Y4,target,List.append_nil,Option.bind_some,hen,hrun,hlv]
 where
 set_same {σ:Heap} {b:Nat} {B:Blk} (h:σ[b]? = some B):σ.set b B = σ:=by
  refine List.ext_getElem? fun i=>?_
  by_cases e:b = i
  ·subst e; rw [List.getElem?_set_self (zC h),h]
  ·rw [List.getElem?_set_ne e]
theorem WO_cat {x y:O} {fid:FuncId} {z m b0 b1 b2:Nat} {md m1 m2:Md} {c c1 c2:Cp} {P Q:Nat→Int} {l:List Int} (hf:x.fv N f = .fn fid []) (hy:y.fv N f = .sl b0 0 2 1 c) (hs:wF A fid z m md m1 m2 c c1 c2 P Q l)
  (h0:(b0,Blk.vs md [.sl b1 0 m z c1,.sl b2 0 m z c2])∈L) (h1:(b1,Blk.sc m1 (m*z) (ia P))∈L) (h2:(b2,Blk.sc m2 (m*z) (ia Q))∈L) (hne:b1 ≠ b2) (k:∀ v own n',Rw z l v own→WO A N rest (upd f d v) n' (own++L) K Zp):WO A N (⟨some d,none,.h (.call x [y])⟩::rest) f n L K Zp:=fun σ h=>by
 obtain ⟨v,B,σ',e1,e2,e3⟩:=qN (q0:=false) hs h0 h1 h2 hne h
 obtain ⟨ex,f',σ2,n2,L2,e4,e5,e6⟩:=k v [(n,B)] (n+1) e2 σ' e3
 refine ⟨ex,f',σ2,n2,L2,?_,e5,e6⟩
 rw [← e4]
 simp only [Ww,XA,Xk,YJ,Y7,hf,List.map_cons,List.map_nil,hy,e1,Option.map_some,JE]
 rfl
theorem WO_catq {x y:O} {fid:FuncId} {z m b0 b1 b2:Nat} {md m1 m2:Md} {c c1 c2:Cp} {P Q:Nat→Int} {l:List Int} (hf:x.fv N f = .fn fid []) (hy:y.fv N f = .sl b0 0 2 1 c) (hs:wF A fid z m .ro .ro .ro c c1 c2 P Q l)
  (h0:(b0,Blk.vs md [.sl b1 0 m z c1,.sl b2 0 m z c2])∈L) (h1:(b1,Blk.sc m1 (m*z) (ia P))∈L) (h2:(b2,Blk.sc m2 (m*z) (ia Q))∈L) (hne:b1 ≠ b2) (k:∀ v own n',Rw z l v own→WO A N rest (upd f d v) n' (own++L) K Zp):WO A N (⟨some d,none,.h (.callq x [y])⟩::rest) f n L K Zp:=fun σ h=>by
 obtain ⟨v,B,σ',e1,e2,e3⟩:=qN (q0:=true) hs h0 h1 h2 hne h
 obtain ⟨ex,f',σ2,n2,L2,e4,e5,e6⟩:=k v [(n,B)] (n+1) e2 σ' e3
 refine ⟨ex,f',σ2,n2,L2,?_,e5,e6⟩
 rw [← e4]
 simp only [Ww,XA,Xk,YJ,Y7,hf,List.map_cons,List.map_nil,hy,e1,Option.map_some,JE]
 rfl
end
end Go.Am
namespace Go.Proofs.YtlkighkfkdpncaaGreat
open Go Go.Am
theorem grow_rt (n:Int) (h:0 < n∧n≤1000000):RtR AM 126 2 [.snil,.s (.int .i64 n)] [] [] []:=by
 refine .inr ⟨0,0,fun _=>0,rfl,fun i h=>absurd (show i < 0 from h) (by omega),0,[.sc .grow 0 (ia fun _=>0)],?_,Nat.zero_le _,rfl,trivial⟩
 rw [Qm (pf:=Rk) rfl _ _ rfl]
 simp only [Rk,if_pos h]
 rfl
theorem rB {md m1 m2:Md} {c c1 c2:Cp} (P Q:Nat→Int) (la lb:List Int) (ha:la.length = 8) (hb:lb.length = 8) (hP:∀ i,i < la.length→P i = la.getD i 0) (hQ:∀ i,i < lb.length→Q i = lb.getD i 0):WR AM 102 [.sl 0 0 2 1 c] [.vs md [.sl 1 0 4 2 c1,.sl 2 0 4 2 c2],.sc m1 (4*2) (ia P),.sc m2 (4*2) (ia Q)] (fun v _ L'=>∃ own L0,Rw 2 (la++lb) v own∧Dr own L' L0∧(0,Blk.vs md [.sl 1 0 4 2 c1,.sl 2 0 4 2 c2])∈L0∧(1,Blk.sc m1 (4*2) (ia P))∈L0∧(2,Blk.sc m2 (4*2) (ia Q))∈L0):=by
 refine YI (a:=a102) rfl rfl (YH _) (ZP rfl) (m:=3) rfl (Zd (Yp rfl (Ze (Yp rfl (Yb (Yd (Zd (Zm rfl (QR rfl (Yp rfl (Yb (Yj (Uf (Zd (Yq (r:=.bool true) rfl rfl rfl (Yb (Yd (Zz rfl (Yg (Yd (Yj (Zd (T2 rfl rfl (by decide) (UX (v:=.sl 1 0 4 2 c1) rfl rfl ZL rfl (Zm rfl (Ze (Zi rfl (Zm rfl (QR rfl ?_)))))))))))))))))))))))))))))
 refine WZ rfl rfl (by decide) (Zi rfl (Ze (Zi rfl (Yq (r:=.bool false) rfl rfl rfl (Yb (ZA rfl (Yg (Ye (WZ rfl rfl (by decide) (Zi rfl (Yb (Uf (Zd (Yq (r:=.bool true) rfl rfl rfl (Yb (Yd (Zz rfl (Yg (Yd (Yj (Zd (T2 rfl rfl (by decide) (UX (v:=.sl 2 0 4 2 c2) rfl rfl ZL rfl (Zm rfl (Ze (Zi rfl (Zm rfl (QR rfl (WZ rfl rfl (by decide) ?_)))))))))))))))))))))))))))))
 refine Zi rfl (Ze (Zi rfl (Yq (r:=.bool false) rfl rfl rfl (Yb (ZA rfl (Yg (Ye (WZ rfl rfl (by decide) (Zi rfl (Yb (Uf (Zd (Yq (r:=.bool false) rfl rfl rfl (Yb (Yd (ZA rfl (YZ (Xc (Zd (Zi rfl (YD rfl (grow_rt _ (by decide)) rfl rfl (fun v1 own1 n1 hr1=>Yp (v:=v1) rfl (Yb (Yd (Zd (Zm rfl (QR rfl (Yp rfl (Yb ?_)))))))))))))))))))))))))))))
 refine Yj (Uf (Zd (Yq (r:=.bool true) rfl rfl rfl (Yb (Yd (Zz rfl (Yg (Yd (Yj (Zd (T2 rfl rfl (by decide) (UX (v:=.sl 1 0 4 2 c1) rfl rfl (List.mem_append_right _ ZL) rfl (Zm rfl (Yb (Ye (Yp (v:=v1) rfl (Zm rfl (TQ rfl hr1 rfl (Rx.row (l:=la) (by rw [ha]) hP) (KG (List.mem_append_right _ ZM)) .here (by decide) (by simp only [List.length_append,List.length_nil,ha,hb]; omega) (fun v2 own2 n2 hr2=>Yp (v:=v2) rfl (Yb (Ye (WZ rfl rfl (by decide) (Zi rfl (Yb (Uf (Zd (Yq (r:=.bool true) rfl rfl rfl (Yb (Yd ?_)))))))))))))))))))))))))))))
 refine Zz rfl (Yg (Yd (Yj (Zd (T2 rfl rfl (by decide) (UX (v:=.sl 2 0 4 2 c2) rfl rfl (List.mem_append_right _ ZL) rfl (Zm rfl (Yb (Ye (Yp (v:=v2) rfl (Zm rfl (TQ rfl hr2 rfl (Rx.row (l:=lb) (by rw [hb]) hQ) (KG (List.mem_append_right _ ZN)) .here (by decide) (by simp only [List.length_append,List.length_nil,ha,hb]; omega) (fun v3 own3 n3 hr3=>Yp (v:=v3) rfl (Yb (Ye (WZ rfl rfl (by decide) (Zi rfl (Yb (Uf (Zd (Yq (r:=.bool false) rfl rfl rfl (Yb (Yd (ZA rfl (YZ (Xc (Zd (Yp (v:=v3) rfl (Yp (v:=v3) rfl ?_)))))))))))))))))))))))))))))
 refine Yb (Yh (⟨_,YK (v:=v3) rfl (YS),?_⟩))
 refine ⟨_,_,hr3,.here,?_,?_,?_⟩
 ·exact ZL
 ·exact ZM
 ·exact ZN
theorem uJ {md m1 m2:Md} {c c1 c2:Cp} (P Q:Nat→Int) (la lb:List Int) (ha:la.length = 8) (hb:lb.length = 8) (hP:∀ i,i < la.length→P i = la.getD i 0) (hQ:∀ i,i < lb.length→Q i = lb.getD i 0):wF AM 102 2 4 md m1 m2 c c1 c2 P Q (la++lb):=by
 obtain ⟨v,σ',n',L',h1,h2,own,L0,hr,hd,e0,e1,e2⟩:=rB (md:=md) (m1:=m1) (m2:=m2) (c:=c) (c1:=c1) (c2:=c2) P Q la lb ha hb hP hQ
 have hge:=hd.ge (Bs:=[.vs md [.sl 1 0 4 2 c1,.sl 2 0 4 2 c2],.sc m1 (4*2) (ia P),.sc m2 (4*2) (ia Q)]) h2 (fun p hp=>by
  rcases List.mem_cons.1 hp with rfl | hp
  ·exact e0
  ·rcases List.mem_cons.1 hp with rfl | hp
   ·exact e1
   ·rcases List.mem_cons.1 hp with rfl | hp
    ·exact e2
    ·cases hp)
 have hm:=fun p hp=>h2.2.mem (hd.mem p hp)
 have m0:=fun {b B} h=>(h2.2.mem (b:=b) (B:=B) (hd.sub.subset h)).2
 cases hr with
 | nil h=>have:=congrArg List.length h; rw [List.length_append,ha,hb] at this; cases this
 | row hl hF=>exact ⟨_,_,_,_,σ',h1,hge _ ZL,hl,hF,(hm _ ZL).2,m0 e0,m0 e1,m0 e2⟩
theorem jS:∃ P:Nat→Int,RF AM 98 [] (.agg 8 (ia P))∧∀ i,i < 8→P i = (X7 straightL).getD i 0:=by
 obtain ⟨v,σ',n',L',h1,h2,P,rfl,hP⟩:=q8
 exact ⟨P,⟨σ',h1⟩,hP⟩
theorem sT:∃ P:Nat→Int,RF AM 99 [] (.agg 8 (ia P))∧∀ i,i < 8→P i = (X7 slantL).getD i 0:=by
 obtain ⟨v,σ',n',L',h1,h2,P,rfl,hP⟩:=uO
 exact ⟨P,⟨σ',h1⟩,hP⟩
theorem rN:∃ P:Nat→Int,RF AM 101 [] (.agg 16 (ia P))∧∀ i,i < 16→P i = (X7 jumpL).getD i 0:=by
 obtain ⟨v,σ',n',L',h1,h2,P,rfl,hP⟩:=tn
 exact ⟨P,⟨σ',h1⟩,hP⟩
theorem Jj {m:Nat} {S:Nat→Int} {l:List Int} (hl:l.length = m) (h:∀ i,i < m→S i = l.getD i 0):∀ i,i < l.length→ovA (fun _=>0) 0 m S i = l.getD i 0:=fun i hi=>by
 rw [XR (by omega),Nat.sub_zero]; exact h i (by omega)
theorem rU (on:Int):∀ i,i < (X7 [(-1,on),(1,on)]).length→ovA (ovA (fun _=>0) (0*2) 2 (ov (ov (fun _=>0) 0 (-1)) 1 on)) (1*2) 2 (ov (ov (fun _=>0) 0 1) 1 on) i = (X7 [(-1,on),(1,on)]).getD i 0
 | 0,_=>rfl
 | 1,_=>rfl
 | 2,_=>rfl
 | 3,_=>rfl
 | i+4,h=>absurd (show i+4 < 4 from h) (by omega)
section
variable {P:Nat→Int} {s:Int} (hc:P (sqI s+1) = 0∨P (sqI s+1) = 1)
include hc
theorem tM (hk:P (sqI s) = 1):XY P s = XP s [(-1,1 - 2*P (sqI s+1)),(1,1 - 2*P (sqI s+1))]:=by
 unfold XY VV
 rw [if_pos hc,hk]; rfl
theorem sF (hk:P (sqI s) = 2):XY P s = XP s jumpL:=by
 unfold XY VV
 rw [if_pos hc,hk]; rfl
theorem uZ (hk:P (sqI s) = 6):XY P s = XP s (straightL++slantL):=by
 unfold XY VV
 rw [if_pos hc,hk]; rfl
theorem te (hk:P (sqI s) = 4):XY P s = XS P s straightL:=by
 unfold XY VV
 rw [if_pos hc,hk]; rfl
theorem th (hk:P (sqI s) = 3):XY P s = XS P s slantL:=by
 unfold XY VV
 rw [if_pos hc,hk]; rfl
theorem tD (hk:P (sqI s) = 5):XY P s = XS P s (straightL++slantL):=by
 unfold XY VV
 rw [if_pos hc,hk]; rfl
theorem sn (h1:¬ P (sqI s) = 1) (h2:¬ P (sqI s) = 2) (h3:¬ P (sqI s) = 3) (h4:¬ P (sqI s) = 4) (h5:¬ P (sqI s) = 5) (h6:¬ P (sqI s) = 6):XY P s = []:=by
 unfold XY VV
 rw [if_pos hc,if_neg h1,if_neg h2,if_neg h6,if_neg h4,if_neg h3,if_neg h5]
end
theorem rQ {P:Nat→Int} {s:Int} (hc:¬ (P (sqI s+1) = 0∨P (sqI s+1) = 1)):XY P s = []:=if_neg hc
end Go.Proofs.YtlkighkfkdpncaaGreat
namespace Go.Am
open Go
theorem xB {A:AP} {N:Nat} {f:FE} {n:Nat} {L:HA} {K:KN} {Zp:V→KN} {l:List I} {d:Nat} {x y:O} {b o m z b' o' m' z':Nat} {c c':Cp} (hx:x.fv N f = .sl b o m z c) (hy:y.fv N f = .sl b' o' m' z' c') (k:WO A N l (upd f d (.sl n 0 2 1 (.ex 2))) (n+1) ((n,.vs .var [.sl b o m z c,.sl b' o' m' z' c'])::L) K Zp):WO A N (⟨some d,none,.h (.mksl 2 1 (.one .snil) [(0,x),(1,y)])⟩::l) f n L K Zp :=
 Wj (v:=.sl n 0 2 1 (.ex 2)) (fun σ hσ=>⟨σ++[.vs .var [.sl b o m z c,.sl b' o' m' z' c']],by
  simp only [YJ,Z.row,VB,List.map_cons,List.map_nil,U5,Y7,hx,hy,hσ.1]
  rfl,hσ.new _⟩) k
end Go.Am
namespace Go.Proofs.YtlkighkfkdpncaaGreat
open Go Go.Am
theorem xf (P:Nat→Int) (s:Int) (hs:0≤s∧s < 64):RtR AM 74 1 [.agg 133 (ia P),.s (.int .i64 s)] [] (XY P s) []:=by
 refine W7 (YI (a:=a74) rfl rfl (YH _) (ZP rfl) (m:=0) rfl (Zd (YB rfl (Yp rfl (Ze (Zi rfl (Zx rfl (Zx rfl (Zv rfl rfl rfl (Yo rfl rfl ZL (Yx (Yy rfl rfl rfl rfl .here (Ze (Yp rfl (Yb (WE (fun f n L=>(P (sqI s+1) = 0∨P (sqI s+1) = 1)∧(f 1 = .s (.int .i64 s))∧(f 2 = .ptr 0 0 133)∧(f 5 = .ptr 1 0 2)∧(f 6 = .s (.int .i64 (1 - 2*P (sqI s+1))))∧(L = [(1,.sc .var 2 (ia (ovA (fun _=>0) 0 2 (dp P (0+s.toNat*2))))),(0,.sc .var 133 (ia P))])) ?_ (fun f nb L hI=>?_)))))))))))))))))
 ·refine Zd (Zy rfl (Yl (x:=P (sqI s+1)) rfl rfl ZL (rfl) (Yb (Yj (Zd (Zq rfl (Zj rfl (Yb (Yi rfl (fun h1=>?_) (fun h1=>?_)))))))))) <;> simp only [NM] at h1
  ·refine Ye (Yp rfl (Yb ?_))
   exact ⟨_,(.refl _),by omega,rfl,rfl,rfl,congrArg (fun x=>V.s (S.int .i64 x)) (by omega),rfl⟩
  ·refine Zd (Zq rfl (Zj rfl (Yb (Yi rfl (fun h2=>?_) (fun h2=>?_))))) <;> simp only [NM] at h2
   ·refine Yg ?_
    exact ⟨_,(.refl _),by omega,rfl,rfl,rfl,congrArg (fun x=>V.s (S.int .i64 x)) (by omega),rfl⟩
   ·refine Zd (Yp rfl (Yb (Yh (⟨_,YK (v:=.snil) rfl (YS),?_⟩))))
    exact ⟨[],.nil (rQ (by omega)),fun _ h=>by cases h⟩
 ·obtain ⟨hc,k1,k2,k5,k6,rfl⟩:=hI
  refine pH 1 k1 (pH 2 k2 (pH 5 k5 (pH 6 k6 (Zd ?_))))
  obtain ⟨S1,hR1,hS1⟩:=jS
  obtain ⟨S2,hR2,hS2⟩:=sT
  refine Ys rfl (hR1) rfl rfl rfl (Ys rfl (hR2) rfl rfl rfl (Yx (Yx (Yy rfl rfl rfl rfl (.there .here) (Yy rfl rfl rfl rfl .here (Yb (Yd (Zd (Zx rfl (Yl (x:=P (sqI s)) rfl rfl ZN (rfl) (Yb (Yj (Zd (Zq rfl (Zj rfl (Yb (Yi rfl (fun h3=>?_) (fun h3=>?_)))))))))))))))))) <;> simp only [NM] at h3
  ·refine Zd (Zi rfl (Zi rfl (YA rfl (.one rfl (.one rfl .nil)) (Zi rfl (YA rfl (.one rfl (.one rfl .nil)) (Wm rfl (.agg rfl (.agg rfl .nil)) (Uy (caps:=[]) rfl (yN s [(-1,1 - 2*P (sqI s+1)),(1,1 - 2*P (sqI s+1))] (YE rfl)) rfl (Rx.row (l:=X7 [(-1,1 - 2*P (sqI s+1)),(1,1 - 2*P (sqI s+1))]) rfl (rU _)) (KG ZL) rfl rfl (fun v1 own1 n1 hr1=>Yp (v:=v1) rfl (Yb (Yh (⟨_,YK (v:=v1) rfl (YS),?_⟩)))))))))))
   exact ⟨_,(tM hc (by assumption)).symm ▸ hr1,(fun _ h=>(List.mem_append_left _ h))⟩
  ·refine Zd (Zq rfl (Zj rfl (Yb (Yi rfl (fun h4=>?_) (fun h4=>?_))))) <;> simp only [NM] at h4
   ·refine Zd ?_
    obtain ⟨S3,hR3,hS3⟩:=rN
    refine Ys rfl (hR3) rfl rfl rfl (Yx (Yy rfl rfl rfl rfl .here (Ze (Zi rfl (Q6 rfl rfl (by decide) (Uy (caps:=[]) rfl (yN s jumpL (YE rfl)) rfl (Rx.row (l:=X7 jumpL) rfl (Jj rfl hS3)) (KG ZL) rfl rfl (fun v2 own2 n2 hr2=>Yp (v:=v2) rfl (Yb (Yh (⟨_,YK (v:=v2) rfl (YS),?_⟩))))))))))
    exact ⟨_,(sF hc (by assumption)).symm ▸ hr2,(fun _ h=>(List.mem_append_left _ h))⟩
   ·refine Zd (Zq rfl (Zj rfl (Yb (Yi rfl (fun h5=>?_) (fun h5=>?_))))) <;> simp only [NM] at h5
    ·refine Yd (Yf (Zi rfl (Q6 rfl rfl (by decide) (Q6 rfl rfl (by decide) (xB rfl rfl (WO_cat (z:=2) (m:=4) rfl rfl (uJ _ _ (X7 straightL) (X7 slantL) rfl rfl (Jj rfl hS1) (Jj rfl hS2)) ZL ZN ZM (by omega) (fun v3 own3 n3 hr3=>Uy (caps:=[]) rfl (yN s (straightL++slantL) (YE rfl)) rfl (hr3.rx) (fun _ h=>(List.mem_append_left _ h)) rfl rfl (fun v4 own4 n4 hr4=>Yp (v:=v4) rfl (Yb (Yh (⟨_,YK (v:=v4) rfl (YS),?_⟩)))))))))))
     exact ⟨_,(uZ hc (by assumption)).symm ▸ hr4,(fun _ h=>(List.mem_append_left _ h))⟩
    ·refine Zd (Zq rfl (Zj rfl (Yb (Yi rfl (fun h6=>?_) (fun h6=>?_))))) <;> simp only [NM] at h6
     ·refine Yd (Yf (Yn rfl rfl ZO (Zi rfl (Q6 rfl rfl (by decide) (Uy (caps:=[]) rfl (D0 P s straightL (by decide) (by decide)) rfl (Rx.row (l:=X7 straightL) rfl (Jj rfl hS1)) (KG ZM) rfl rfl (fun v5 own5 n5 hr5=>Yp (v:=v5) rfl (Yb (Yh (⟨_,YK (v:=v5) rfl (YS),?_⟩)))))))))
      exact ⟨_,(te hc (by assumption)).symm ▸ hr5,(fun _ h=>(List.mem_append_left _ h))⟩
     ·refine Zd (Zq rfl (Zj rfl (Yb (Yi rfl (fun h7=>?_) (fun h7=>?_))))) <;> simp only [NM] at h7
      ·refine Yd (Yf (Yn rfl rfl ZO (Zi rfl (Q6 rfl rfl (by decide) (Uy (caps:=[]) rfl (D0 P s slantL (by decide) (by decide)) rfl (Rx.row (l:=X7 slantL) rfl (Jj rfl hS2)) (KG ZL) rfl rfl (fun v6 own6 n6 hr6=>Yp (v:=v6) rfl (Yb (Yh (⟨_,YK (v:=v6) rfl (YS),?_⟩)))))))))
       exact ⟨_,(th hc (by assumption)).symm ▸ hr6,(fun _ h=>(List.mem_append_left _ h))⟩
      ·refine Zd (Zq rfl (Zj rfl (Yb (Yi rfl (fun h8=>?_) (fun h8=>?_))))) <;> simp only [NM] at h8
       ·refine Yd (Yf (Yn rfl rfl ZO (Zi rfl (Q6 rfl rfl (by decide) (Q6 rfl rfl (by decide) (xB rfl rfl (WO_catq (z:=2) (m:=4) rfl rfl (uJ _ _ (X7 straightL) (X7 slantL) rfl rfl (Jj rfl hS1) (Jj rfl hS2)) ZL ZN ZM (by omega) (fun v7 own7 n7 hr7=>Uy (caps:=[]) rfl (D0 P s (straightL++slantL) (by decide) (by decide)) rfl (hr7.rx) (fun _ h=>(List.mem_append_left _ h)) rfl rfl (fun v8 own8 n8 hr8=>Yp (v:=v8) rfl (Yb (Yh (⟨_,YK (v:=v8) rfl (YS),?_⟩))))))))))))
        exact ⟨_,(tD hc (by assumption)).symm ▸ hr8,(fun _ h=>(List.mem_append_left _ h))⟩
       ·refine Yg (Zd (Yp rfl (Yb (Yh (⟨_,YK (v:=.snil) rfl (YS),?_⟩)))))
        exact ⟨[],.nil (sn hc (by assumption) (by assumption) (by assumption) (by assumption) (by assumption) (by assumption)),fun _ h=>by cases h⟩
theorem xR {F:Nat→Int} {l:List Int} {m:Nat} (hl:l.length = m) (hF:∀ i,i < l.length→F i = l.getD i 0):XK (ia F) m = l:=by
 unfold XK
 refine List.ext_getElem (by simp [hl]) fun i h1 h2=>?_
 rw [List.getElem_map,List.getElem_range]
 show F i = _
 rw [hF i h2,List.getD_eq_getElem?_getD,List.getElem?_eq_getElem h2]; rfl
theorem allI {F:Nat→Int} (m:Nat):Xi m (fun i=>Vy (ia F i)) = true:=allB_true (fun _=>rfl) m
theorem kH (l:List Int) (F:Nat→Int):TO l (ia F) = ia (fun i=>bif Nat.blt i l.length then l.getD i 0 else F i):=by
 funext i
 unfold TO
 show _ = S.int .i64 (bif Nat.blt i l.length then l.getD i 0 else F i)
 cases Nat.blt i l.length <;> rfl
theorem tK {l:List Int} {F:Nat→Int}:∀ i,i < l.length→(bif Nat.blt i l.length then l.getD i 0 else F i) = l.getD i 0:=fun i hi=>by
 rw [show Nat.blt i l.length = true from Nat.ble_eq_true_of_le hi]; rfl
theorem sort_st (l:List Int) (hlen:l.length≤1000000):StR AM 131 1 [] [] l (QW l):=by
 refine ⟨(Qs l).length_eq,fun _=>⟨[],?_,trivial⟩,fun m q F hl hF=>⟨_,tK (F:=F),[_],?_,rfl,⟨_,_,_,rfl⟩,trivial⟩⟩
 ·rw [Qm (pf:=Ro) rfl _ _ rfl]; rfl
 ·rw [Qm (pf:=Ro) rfl _ _ rfl]
  have hl':l.length = m:=by rw [hl,Nat.mul_one]
  have hlt:Nat.blt m 4611686018427387904 = true:=Nat.ble_eq_true_of_le (by omega)
  show (bif Xi m (fun i=>Vy (ia F i)) && Nat.blt m 4611686018427387904 then some (V.tup [],[Blk.sc .grow q (TO (QW (XK (ia F) m)) (ia F))]) else none) = _
  rw [allI,hlt,xR hl' hF,kH]; rfl
theorem rA (P:Nat→Int) (s:Int) (l:List (Int × Int)) (h:l.length≤8):(XS P s l).length≤64:=Nat.le_trans (Es P s l) (by omega)
theorem Ez (P:Nat→Int) (s:Int):(XY P s).length≤64:=by
 have h1:=fun l=>JY s l
 unfold XY VV
 repeat' split
 all_goals first
  | exact rA P s _ (by decide)
  | exact Nat.le_trans (JY s _) (by decide)
  | exact Nat.le_trans (JY s _) (YE rfl)
  | exact Nat.zero_le _
theorem KU {P Q:Nat→Int} (h:∀ i,i < 133→Q i = P i) {t:Int} (ht:0≤t∧t < 64):YP Q t = YP P t:=J0 ht fun i hi=>h i (by omega)
theorem Zah {P Q:Nat→Int} (h:∀ i,i < 133→Q i = P i):∀ {l:List Int},(∀ t∈l,0≤t∧t < 64)→VL Q l = VL P l
 | [],_=>rfl
 | t::l,hl=>by
  unfold VL
  rw [KU h (hl t ZL),Zah h fun u hu=>hl u (.tail _ hu)]
theorem vX {P Q:Nat→Int} (h:∀ i,i < 133→Q i = P i) (s:Int) (l:List (Int × Int)):XS Q s l = XS P s l:=by
 unfold XS
 exact congrArg (fun f=>l.flatMap f) (funext fun w=>Zah h fun t ht=>zX ht)
theorem Ec {P Q:Nat→Int} (h:∀ i,i < 133→Q i = P i) {s:Int} (hs:0≤s∧s < 64):XY Q s = XY P s:=by
 have hq:sqI s = 0+s.toNat*2:=rfl
 unfold XY VV
 rw [h (sqI s) (by omega),h (sqI s+1) (by omega)]
 simp only [vX h]
theorem ke (P:Nat→Int) (s:Int):RtR AM 114 1 [.agg 133 (ia P),.s (.int .i64 s)] [] (Wb P s) []:=by
 refine W7 (YI (a:=a114) rfl rfl (YH _) (ZP rfl) (m:=0) rfl (Zd (YB rfl (Yp rfl (Yb (Yd (Zd (Zi rfl (Ys rfl (Ju _) rfl rfl rfl (Yu (r:=.bool _) rfl rfl (Yb (Yi rfl (fun h1=>?_) (fun h1=>?_))))))))))))) <;> simp only [NM] at h1
 ·try simp only [isM,decide_eq_true_eq,decide_eq_false_iff_not] at h1
  refine Zd (Yp rfl (Yb (Yh (⟨_,YK (v:=.snil) rfl (YS),?_⟩))))
  have e:Wb P s = []:=if_neg (by assumption)
  exact ⟨[],.nil e,fun _ h=>by cases h⟩
 ·try simp only [isM,decide_eq_true_eq,decide_eq_false_iff_not] at h1
  refine Yg (Zd (Yn rfl rfl ZL (YA (Q:=ovA (fun _=>0) 0 133 P) rfl (.agg rfl .nil) (Zi rfl ?_))))
  have hcut:∀ i,i < 133→ovA (fun _=>0) 0 133 P i = P i:=fun i hi=>by rw [XR (by omega),Nat.sub_zero]
  have hfrom:=Ec hcut (by omega) ▸ xf (ovA (fun _=>0) 0 133 P) s (by omega)
  refine YD rfl (hfrom) rfl rfl (fun v1 own1 n1 hr1=>Yp (v:=v1) rfl (Ze (Yp (v:=v1) rfl (wg (caps:=[]) rfl (sort_st (XY P s) (Nat.le_trans (Ez P s) (by decide))) rfl hr1 .here rfl rfl (fun own2 hr2=>Ze (Yp (v:=v1) rfl (Yp (v:=v1) rfl (Yb (Yh (⟨_,YK (v:=v1) rfl (YS),?_⟩))))))))))
  have e:Wb P s = QW (XY P s):=if_pos (by assumption)
  exact ⟨_,e ▸ hr2,(fun _ h=>(List.mem_append_left _ h))⟩
def QJ (P:Nat→Int) (c s a:Int):Bool:=decide (P (sqI a+1) = c) && decide (s∈XY P a)
def Vx (P:Nat→Int) (c s:Int):Bool:=(X4 64).any (QJ P c s)
theorem any_no {p:Int→Bool} {i:Nat} (h:∀ a:Nat,a < i→p a = false):(X4 i).any p = false:=by
 unfold X4
 rw [List.any_map,List.any_eq_false]
 intro a ha
 have:=h a (List.mem_range.1 ha)
 simpa using this
theorem any_yes {p:Int→Bool} {i k:Nat} (hi:i < k) (h:p i = true):(X4 k).any p = true:=by
 unfold X4
 rw [List.any_map,List.any_eq_true]
 exact ⟨i,List.mem_range.2 hi,h⟩
def optV:Option S→V
 | none=>.undef
 | some x=>.s x
def Jf (g0 g10 g11 g18:Nat→S) (x1 x9 x13 x14 x15 x17 x19 x20:S) (ml o:Nat) (c:Cp) (u:Option S):List V:=[.agg 133 g0,.s x1,.sl 4 0 ml 1 c,.ptr 1 0 133,.undef,.undef,.ptr 2 0 1,.ptr 3 0 133,.undef,.s x9,.agg 133 g10,.agg 133 g11,.sl 4 0 ml 1 c,.s x13,.s x14,.s x15,.ptr 4 o 1,.s x17,.agg 133 g18,.s x19,.s x20,.fn 72 [.ptr 5 0 133,.ptr 6 0 1,.ptr 7 0 1],.undef,optV u]
section
variable (g0 g10 g11 g18:Nat→S) (x1 x9 x13 x14 x15 x17 x19 x20:S) (ml o:Nat) (c:Cp) (u:Option S)
noncomputable def UU (st:Nat) (r:Nat→S) (B1 B3 B4:Blk) (P:Nat→Int) (b s:Int):List Blk:=[.lp 22 yA (Jf g0 g10 g11 g18 x1 x9 x13 x14 x15 x17 x19 x20 ml o c u) st,B1,.sc .var 1 r,B3,B4,.sc .var 133 (ia P),.sc .var 1 (fun _=>.int .i64 b),.sc .var 1 (fun _=>.int .i64 s)]
theorem rF {r:Nat→S} {B1 B3 B4:Blk} {P:Nat→Int} {b s a:Int}:WR AM 22 [.pan .undef,.yv 0,.s (.int .i64 a)] (UU g0 g10 g11 g18 x1 x9 x13 x14 x15 x17 x19 x20 ml o c u 0 r B1 B3 B4 P b s) (fun v n L=>v = .s (.bool false)∧UQ L 0 (UU g0 g10 g11 g18 x1 x9 x13 x14 x15 x17 x19 x20 ml o c u 2 (WU r 0 1 fun _=>.bool true) B1 B3 B4 P b s)):=by
 refine RC (N:=24) (B:=B33) (f:=YH ((Jf g0 g10 g11 g18 x1 x9 x13 x14 x15 x17 x19 x20 ml o c u).set 22 (.s (.int .i64 a)))) (caps:=Jf g0 g10 g11 g18 x1 x9 x13 x14 x15 x17 x19 x20 ml o c u) rfl rfl rfl (Ek rfl) rfl (Yg ⟨22,yA,Jf g0 g10 g11 g18 x1 x9 x13 x14 x15 x17 x19 x20 ml o c u,rfl,?_⟩)
 refine Yj (Yd (Ye (RO rfl rfl rfl rfl rfl rfl (.there (.there .here)) (Yb (Yh ⟨22,yA,Jf g0 g10 g11 g18 x1 x9 x13 x14 x15 x17 x19 x20 ml o c u,rfl,rfl,?_⟩)))))
 exact ⟨.head _,.tail _ ZL,.tail _ ZM,.tail _ ZN,.tail _ ZO,.tail _ (.tail _ ZO),.tail _ (.tail _ (.tail _ ZO)),.tail _ (.tail _ (.tail _ (.tail _ ZO))),trivial⟩
theorem qG {st:Nat} {r G1 G3 G4:Nat→S} {md:Md} {q:Nat} {P:Nat→Int} {b s:Int}:Xn [0,1,2,3,4,5,6,7] (UU g0 g10 g11 g18 x1 x9 x13 x14 x15 x17 x19 x20 ml o c u st r (.sc .var 133 G1) (.sc .var 133 G3) (.sc md q G4) P b s) = some (UU g0 g10 g11 g18 x1 x9 x13 x14 x15 x17 x19 x20 ml o c u st r (.sc .var 133 G1) (.sc .var 133 G3) (.sc md q G4) P b s):=by cases u <;> rfl
theorem vF {st:Nat} {r G1 G3 G4:Nat→S} {md:Md} {q:Nat} {P:Nat→Int} {b s:Int}:Y6 (UU g0 g10 g11 g18 x1 x9 x13 x14 x15 x17 x19 x20 ml o c u st r (.sc .var 133 G1) (.sc .var 133 G3) (.sc md q G4) P b s) 64 [0] [] = List.range 8:=by cases u <;> rfl
theorem jA {st:Nat} {r G1 G3 G4:Nat→S} {md:Md} {q:Nat} {P:Nat→Int} {b s:Int}:Y6 (UU g0 g10 g11 g18 x1 x9 x13 x14 x15 x17 x19 x20 ml o c u st r (.sc .var 133 G1) (.sc .var 133 G3) (.sc md q G4) P b s) 64 [0,5,6,7] [] = List.range 8:=by cases u <;> rfl
end
theorem wy (P:Nat→Int) (s b:Int):WR AM 53 [.agg 133 (ia P),.s (.int .i64 s),.s (.int .i64 b)] [] (fun v n L=>v = .fn 72 [.ptr 0 0 133,.ptr 2 0 1,.ptr 1 0 1]∧n = 3∧L = [(2,.sc .var 1 fun _=>.int .i64 b),(1,.sc .var 1 fun _=>.int .i64 s),(0,.sc .var 133 (ia P))]):=by
 refine YI (a:=a53) rfl rfl (YH _) (ZP rfl) (m:=0) rfl (Yd (Ye (YB rfl (kC rfl (kC rfl (Yp rfl (Yb (Yd (Ye (Qz rfl (Yp rfl (Yb ?_))))))))))))
 exact Yh ⟨_,YK rfl YS,rfl,rfl,rfl⟩
theorem rR {A:AP} {fid:FuncId} {z:Nat} {av:List V} {l:List Int} (hs:RtR A fid z av [] l []) (h1:V.looseL av = true) {n:Nat} {L:HA}:∀ σ,Hp σ n L→∃ r,Y4 (Run A) false (.fn fid []) av σ = some r:=fun σ hσ=>by
 have hk:=YD (A:=A) (N:=0) (f:=fun _=>.undef) (n:=n) (L:=L) (K:=fun _ _ _=>True) (Zp:=fun _ _ _ _=>False) (rest:=[]) (d:=0) (x:=.k (.fn fid [])) (xs:=av.map .k) rfl hs (by rw [List.map_map]; exact List.map_id'' (fun _=>rfl) _) h1 (fun _ _ _ _=>Yb trivial)
 obtain ⟨x,f',σ',n',L',e1,e2,e3⟩:=hk σ hσ
 have hev:(av.map O.k).map (fun x=>x.ev (E 0 fun _=>.undef)) = av:=by rw [List.map_map]; exact List.map_id'' (fun _=>rfl) _
 cases hc:Y4 (Run A) false (.fn fid []) av σ with
 | some r=>exact ⟨r,rfl⟩
 | none =>
  exfalso
  simp only [Ww,XA,Xk,YJ,hev] at e1
  rw [show (O.k (.fn fid [])).ev (E 0 fun _=>.undef) = .fn fid [] from rfl,hc] at e1
  simp only [Option.map_none,Option.map_eq_some_iff,Prod.mk.injEq] at e1
  obtain ⟨y,_,h,_⟩:=e1
  subst h
  exact e3
theorem iter_is (g0 g10 g11 g18:Nat→S) (x1 x9 x13 x14 x15 x17 x19 x20:S) (ml o:Nat) (c:Cp) (u:Option S) {r G1 G3 G4:Nat→S} {md:Md} {q:Nat} (P:Nat→Int) (b s:Int):WR AM 72 [.yv 0,.ptr 5 0 133,.ptr 6 0 1,.ptr 7 0 1] (UU g0 g10 g11 g18 x1 x9 x13 x14 x15 x17 x19 x20 ml o c u 0 r (.sc .var 133 G1) (.sc .var 133 G3) (.sc md q G4) P b s) (fun v _ L=>v = .tup []∧UQ L 0 (if Vx P b s = true then UU g0 g10 g11 g18 x1 x9 x13 x14 x15 x17 x19 x20 ml o c u 2 (WU r 0 1 fun _=>.bool true) (.sc .var 133 G1) (.sc .var 133 G3) (.sc md q G4) P b s else UU g0 g10 g11 g18 x1 x9 x13 x14 x15 x17 x19 x20 ml o c u 0 r (.sc .var 133 G1) (.sc .var 133 G3) (.sc md q G4) P b s)):=by
 refine YI (a:=a72) rfl rfl (YH _) (ZP rfl) (m:=8) rfl (Zd (Zx rfl (Zx rfl (Yn rfl rfl (.tail _ (.tail _ ZO)) (Yp rfl (Yb (Yj (Xe (.refl _) (Xg (fun m f _ L=>∃ (i:Nat),(i≤64)∧(m = 64 - i)∧(∀ a:Nat,a < i→QJ P b s a = false)∧(f 0 = .yv 0)∧(f 1 = .ptr 5 0 133)∧(f 2 = .ptr 6 0 1)∧(f 3 = .ptr 7 0 1)∧(f 9 = .agg 128 (ia P))∧(f 10 = .s (.int .i64 i))∧(L = [(0,.lp 22 yA (Jf g0 g10 g11 g18 x1 x9 x13 x14 x15 x17 x19 x20 ml o c u) 0),(1,.sc .var 133 G1),(2,.sc .var 1 r),(3,.sc .var 133 G3),(4,.sc md q G4),(5,.sc .var 133 (ia P)),(6,.sc .var 1 (fun _=>.int .i64 b)),(7,.sc .var 1 (fun _=>.int .i64 s))])) (fun m f nb L hI=>?_) (64) (⟨0,by omega,rfl,fun a h=>by omega,rfl,rfl,rfl,rfl,rfl,rfl,rfl⟩))))))))))
 obtain ⟨i,hi,hm,hn,k0,k1,k2,k3,k9,k10,rfl⟩:=hI
 refine pH 0 k0 (pH 1 k1 (pH 2 k2 (pH 3 k3 (pH 9 k9 (pH 10 k10 (Zd (Zq rfl (Yb (Yd (Yi rfl (fun h1=>?_) (fun h1=>?_))))))))))) <;> simp only [NM] at h1
 ·refine Yg (Yd (Yj (Zd (Zi rfl (zq rfl rfl rfl (by omega) (Yx (Zi rfl (Yy rfl rfl rfl rfl .here (Yb (Yd (WP_parcO2' [0,1,2,3,4,5,6] [7,8,9,10,11,12,13,14,15,16] [8,7,9,10,11,12,13,14,15,16] rfl (by decide +kernel) ?_)))))))))))
  simp only [Xr,List.getElem?_cons_zero,List.getElem?_cons_succ]
  refine Zy rfl (Yl (x:=P (sqI i+1)) rfl rfl ZL (show P ((i:Int).toNat*2+1) = _ from congrArg P (by have hq:sqI (i:Int) = 0+(i:Int).toNat*2:=rfl; omega)) (Ym (x:=.int _ _) rfl rfl (.tail _ (.tail _ (.tail _ (.tail _ ZO)))) rfl (Zq rfl (Zj rfl (Yr (t:=18) rfl (fun h2=>?_) (fun h2=>?_)))))) <;> simp only [NM] at h2
  ·refine Ya rfl (Yn rfl rfl (.tail _ (.tail _ (.tail _ ZO))) (Ya rfl (Zi rfl (Yb (⟨wq (t:=18) (b:=7) rfl rfl rfl rfl (.tail _ (.tail _ (.tail _ (.tail _ (.tail _ ZO))))) ⟨.s (.int .i64 s),fun σ h=>by simp only [rdV,h,cond_false]⟩ rfl rfl (rR (xf P i (by omega)) rfl),?_⟩)))))
   refine Ki (l1:=[_,_,_,_,_,_,_]) (l2:=[_,_,_]) (Ya rfl (YD rfl (xf P i (by omega)) rfl rfl (fun v1 own1 n1 hr1=>Ya rfl (Ym (x:=.int _ _) rfl rfl (List.mem_append_right _ (.tail _ (.tail _ (.tail _ (.tail _ (.tail _ ZO)))))) rfl (Ya rfl (VF (caps:=[]) rfl (qO s (XY P i) (Nat.le_trans (Ez P i) (by decide))) rfl (hr1.rx) (fun _ h=>(List.mem_append_left _ h)) rfl rfl rfl (Zo rfl (Zj rfl (Yr (t:=25) rfl (fun h3=>?_) (fun h3=>?_)))))))))) <;> simp only [NM] at h3
   ·refine Ya rfl (Yp (v:=.yv _) rfl (Ya rfl (Zi rfl (Yb (Qn (List.sublist_append_of_sublist_right (.cons _ (.refl _))) (Eo rfl ?_))))))
    refine pv (Lr:=[(0,_),(1,_),(2,_),(3,_),(4,_),(5,_),(6,_),(7,_)]) (L0:=[]) (vs:=[.yv 0,.s (.int .i64 i)]) (Bs:=UU g0 g10 g11 g18 x1 x9 x13 x14 x15 x17 x19 x20 ml o c u 0 r (.sc .var 133 G1) (.sc .var 133 G3) (.sc md q G4) P b s) (by first | (rw [List.append_nil]; done) | (rw [List.append_nil]; exact .refl _)) rfl rfl ZL rfl (qG g0 g10 g11 g18 x1 x9 x13 x14 x15 x17 x19 x20 ml o c u) rfl (vF g0 g10 g11 g18 x1 x9 x13 x14 x15 x17 x19 x20 ml o c u) ?_
    refine U0 (rF g0 g10 g11 g18 x1 x9 x13 x14 x15 x17 x19 x20 ml o c u) ?_
    rintro v n1 L1 ⟨rfl,hfa⟩
    refine ⟨UU g0 g10 g11 g18 x1 x9 x13 x14 x15 x17 x19 x20 ml o c u 2 (WU r 0 1 fun _=>.bool true) (.sc .var 133 G1) (.sc .var 133 G3) (.sc md q G4) P b s,.s (.bool false),_,hfa,rfl,rfl,rfl,qG g0 g10 g11 g18 x1 x9 x13 x14 x15 x17 x19 x20 ml o c u,?_⟩
    refine WY (Ya rfl (Yu (r:=.bool _) rfl rfl (Zo rfl (Yb (Zz rfl (Yh (⟨_,YS,?_⟩)))))))
    refine ⟨rfl,?_⟩
    rw [if_pos (show Vx P b s = true from any_yes (p:=QJ P b s) (i:=i) (by omega) (by unfold QJ; rw [Bool.and_eq_true,decide_eq_true_eq,decide_eq_true_eq]; exact ⟨by assumption,by assumption⟩))]
    exact ⟨ZL,ZM,ZN,ZO,(.tail _ ZO),(.tail _ (.tail _ ZO)),(.tail _ (.tail _ (.tail _ ZO))),(.tail _ (.tail _ (.tail _ (.tail _ ZO)))),trivial⟩
   ·refine ZC rfl (Yb (WY (ZC rfl (Zo rfl (Yb (ZA rfl (Yg (Ye (Zr rfl rfl (Zi rfl (Yb (⟨64 - (i+1),_,by omega,(List.sublist_append_of_sublist_right (.cons _ (.refl _))),i+1,by omega,rfl,?_,rfl,rfl,rfl,rfl,rfl,rfl,rfl⟩))))))))))))
    intro a ha
    by_cases e:a = i
    · subst e; unfold QJ; rw [Bool.and_eq_false_iff,decide_eq_false_iff_not,decide_eq_false_iff_not]; first | exact .inl (by assumption) | exact .inr (by assumption)
    · exact hn a (by omega)
  ·refine ZC rfl (Yb (⟨ta (t:=18) rfl rfl rfl rfl rfl rfl,WY ?_⟩))
   refine ZC rfl (ZB rfl (Zo rfl (Zj rfl (ZD rfl (Zo rfl (Yb (ZA rfl (Yg (Ye (Zr rfl rfl (Zi rfl (Yb (⟨64 - (i+1),_,by omega,(.cons _ (.refl _)),i+1,by omega,rfl,?_,rfl,rfl,rfl,rfl,rfl,rfl,rfl⟩)))))))))))))
   intro a ha
   by_cases e:a = i
   · subst e; unfold QJ; rw [Bool.and_eq_false_iff,decide_eq_false_iff_not,decide_eq_false_iff_not]; first | exact .inl (by assumption) | exact .inr (by assumption)
   · exact hn a (by omega)
 ·refine YZ (Xc (⟨_,YS,?_⟩))
  obtain rfl:i = 64:=by omega
  refine ⟨rfl,?_⟩
  have hno:=any_no (p:=QJ P b s) hn
  rw [if_neg (show ¬ Vx P b s = true by unfold Vx; rw [hno]; decide)]
  exact ⟨ZL,ZM,ZN,ZO,(.tail _ ZO),(.tail _ (.tail _ ZO)),(.tail _ (.tail _ (.tail _ ZO))),(.tail _ (.tail _ (.tail _ (.tail _ ZO)))),trivial⟩
theorem perm7 {α:Type} (a b c d e f g:α):[g,f,e,a,b,c,d].Perm [a,b,c,d,e,f,g]:=by
 have h:([g,f,e]++[a,b,c,d]).Perm ([a,b,c,d]++[g,f,e]):=List.perm_append_comm
 exact h.trans (List.Perm.append_left [a,b,c,d] (List.reverse_perm [e,f,g]))
theorem perm3 {α:Type} (a b c:α) (l:List α):(c::b::a::l).Perm (a::b::c::l):=(List.reverse_perm [a,b,c]).append_right l
theorem cut2 (P:Nat→Int):∀ i,i < 133→ovA (fun _=>0) 0 133 (ovA (fun _=>0) 0 133 P) i = P i:=TG P
theorem xq {P Q:Nat→Int} (h:∀ i,i < 133→Q i = P i) (c s:Int):Vx Q c s = Vx P c s:=by
 have hh:∀ a:Nat,a < 64→QJ Q c s a = QJ P c s a:=fun a ha=>by
  have hq:sqI (a:Int) = 0+(a:Int).toNat*2:=rfl
  unfold QJ
  rw [h (sqI (a:Int)+1) (by omega),Ec h (by omega)]
 unfold Vx X4
 rw [List.any_map,List.any_map,Bool.eq_iff_iff,List.any_eq_true,List.any_eq_true]
 constructor
 ·rintro ⟨a,ha,hx⟩; exact ⟨a,ha,by show QJ P c s a = true; rw [← hh a (List.mem_range.1 ha)]; exact hx⟩
 ·rintro ⟨a,ha,hx⟩; exact ⟨a,ha,by show QJ Q c s a = true; rw [hh a (List.mem_range.1 ha)]; exact hx⟩
theorem uK {p:Int→Bool} {l:List Int} {i:Nat} (hi:i < l.length) (h:p (l.getD i 0) = true):l.any p = true:=by
 rw [List.any_eq_true]
 rw [List.getD_eq_getElem?_getD,List.getElem?_eq_getElem hi] at h
 exact ⟨l[i],List.getElem_mem hi,h⟩
theorem wX {p:Int→Bool} {l:List Int} (h:∀ j:Nat,j < l.length→p (l.getD j 0) = false):l.any p = false:=by
 rw [List.any_eq_false]
 intro x hx
 obtain ⟨j,hj,rfl⟩:=List.mem_iff_getElem.1 hx
 have:=h j hj
 rw [List.getD_eq_getElem?_getD,List.getElem?_eq_getElem hj] at this
 simpa using this
theorem kY (P:Nat→Int) (c:Int) (l:List Int) (hlen:l.length≤1000000):RdR AM 33 1 [.agg 133 (ia P),.s (.int .i64 c)] [] l (.s (.bool (l.any (Vx P c)))):=by
 refine ER fun v Bs hc=>?_
 refine YI (a:=a33) rfl rfl (YH _) (ZP rfl) rfl ?_ (by first | rfl | (cases hc <;> rfl))
 have hr0:=hc.rx
 rw [show Xj 0 Bs = Xj 0 Bs++[] from (List.append_nil _).symm]
 generalize hown:Xj 0 Bs = own0 at hr0 ⊢
 refine Zd (YB rfl (um (Ze (Yn rfl rfl ZM (YA (Q:=ovA (fun _=>0) 0 133 P) rfl (.agg rfl .nil) (Yx (Yy rfl rfl rfl rfl .here (Yb (Yd (Zd (Yp (v:=v) rfl (Vn rfl hr0 (by decide) Ka (Yp rfl (Yb (Yj (yD (perm3 _ _ _ _) (Xe (.cons_cons _ (.cons_cons _ (.cons_cons _ (List.Sublist.append (.refl _) .slnil)))) (Xg (fun m f _ L=>∃ (i:Nat) (u:Option S),(i≤l.length)∧(m = l.length - i)∧(∀ j:Nat,j < i→Vx P c (l.getD j 0) = false)∧(f 0 = .agg 133 (ia P))∧(f 1 = .s (.int .i64 c))∧(f 2 = v)∧(f 3 = .ptr Bs.length 0 133)∧(f 4 = .undef)∧(f 5 = .undef)∧(f 6 = .ptr (Bs.length+1) 0 1)∧(f 7 = .ptr (Bs.length+1+1) 0 133)∧(f 8 = .undef)∧(f 10 = .agg 133 (ia P))∧(f 11 = .agg 133 (ia (ovA (fun _=>0) 0 133 P)))∧(f 12 = v)∧(f 13 = .s (.int .i64 l.length))∧(f 14 = .s (.int .i64 i))∧(f 22 = .undef)∧(f 23 = optV u)∧(L = (Bs.length,.sc .var 133 (ia P))::(Bs.length+1,.sc .var 1 (fun _=>.bool false))::(Bs.length+1+1,.sc .var 133 (ia (ovA (fun _=>0) 0 133 (ovA (fun _=>0) 0 133 P))))::(own0++[]))) (fun m f nb L hI=>?_) (l.length) (⟨0,none,by omega,by omega,fun j hj=>by omega,rfl,rfl,rfl,rfl,rfl,rfl,rfl,rfl,rfl,rfl,rfl,rfl,rfl,rfl,rfl,rfl,rfl⟩)))))))))))))))))))
 obtain ⟨i,u,hi,hm,hn,k0,k1,k2,k3,k4,k5,k6,k7,k8,k10,k11,k12,k13,k14,k22,k23,rfl⟩:=hI
 refine pH 0 k0 (pH 1 k1 (pH 2 k2 (pH 3 k3 (pH 4 k4 (pH 5 k5 (pH 6 k6 (pH 7 k7 (pH 8 k8 (pH 10 k10 (pH 11 k11 (pH 12 k12 (pH 13 k13 (pH 14 k14 (pH 22 k22 (pH 23 k23 (Zd (Zq rfl (Yb (Yd (Yi rfl (fun h1=>?_) (fun h1=>?_))))))))))))))))))))) <;> simp only [NM] at h1
 ·refine Yg (Yd (Yj (Zd ?_)))
  obtain ⟨b0,q0,md0,c0,F0,rfl,rfl,hF0⟩:=hr0.at (by decide) Ka (by omega)
  refine Zw rfl rfl (Yl (x:=(l.getD i 0)) rfl rfl ZO (ld1 hF0 (by omega)) (Zi rfl (Ze (Yn rfl rfl ZN (Zi rfl (Zi rfl (w5 (fv:=.fn 53 []) (rs:=[]) (vs:=[.agg 133 (ia (ovA (fun _=>0) 0 133 (ovA (fun _=>0) 0 133 P))),.s (.int .i64 (l.getD i 0)),.s (.int .i64 c)]) (Bs:=[]) rfl rfl rfl rfl (U0 (wy (ovA (fun _=>0) 0 133 (ovA (fun _=>0) 0 133 P)) (l.getD i 0) c) ?_))))))))
  rintro v9 n9 L9 ⟨rfl,rfl,rfl⟩
  refine ⟨.fn 72 [.ptr nb 0 133,.ptr (nb+1) 0 1,.ptr (nb+2) 0 1],[],[.sc .var 133 (ia (ovA (fun _=>0) 0 133 (ovA (fun _=>0) 0 133 P))),.sc .var 1 (fun _=>.int .i64 c),.sc .var 1 (fun _=>.int .i64 (l.getD i 0))],rfl,?_⟩
  refine Yb (Yj ?_)
  refine WP_rfnD (Lr:=[(Bs.length,_),(Bs.length+1,_),(Bs.length+1+1,_),(b0,_),(nb,_),(nb+1,_),(nb+2,_)]) (L0:=[]) (vs:=[.yv 0,.ptr 5 0 133,.ptr 6 0 1,.ptr 7 0 1]) (caps:=Jf (ia P) (ia P) (ia (ovA (fun _=>0) 0 133 P)) (ia (ovA (fun _=>0) 0 133 (ovA (fun _=>0) 0 133 P))) (.int .i64 c) (.int .i64 (l.getD i 0)) (.int .i64 l.length) (.int .i64 i) (.bool (decide ((i:Int) < (l.length:Int)))) (.int .i64 (l.getD i 0)) (.int .i64 (l.getD i 0)) (.int .i64 c) l.length (0+(i:Int).toNat*1) c0 u) (Br:=[.sc .var 133 (ia P),.sc .var 1 (fun _=>.bool false),.sc .var 133 (ia (ovA (fun _=>0) 0 133 (ovA (fun _=>0) 0 133 P))),.sc md0 q0 (ia F0),.sc .var 133 (ia (ovA (fun _=>0) 0 133 (ovA (fun _=>0) 0 133 P))),.sc .var 1 (fun _=>.int .i64 c),.sc .var 1 (fun _=>.int .i64 (l.getD i 0))]) (perm7 _ _ _ _ _ _ _) rfl rfl (by cases u <;> rfl) rfl rfl (jA (ia P) (ia P) (ia (ovA (fun _=>0) 0 133 P)) (ia (ovA (fun _=>0) 0 133 (ovA (fun _=>0) 0 133 P))) (.int .i64 c) (.int .i64 (l.getD i 0)) (.int .i64 l.length) (.int .i64 i) (.bool (decide ((i:Int) < (l.length:Int)))) (.int .i64 (l.getD i 0)) (.int .i64 (l.getD i 0)) (.int .i64 c) l.length (0+(i:Int).toNat*1) c0 u) ?_
  refine U0 (iter_is (ia P) (ia P) (ia (ovA (fun _=>0) 0 133 P)) (ia (ovA (fun _=>0) 0 133 (ovA (fun _=>0) 0 133 P))) (.int .i64 c) (.int .i64 (l.getD i 0)) (.int .i64 l.length) (.int .i64 i) (.bool (decide ((i:Int) < (l.length:Int)))) (.int .i64 (l.getD i 0)) (.int .i64 (l.getD i 0)) (.int .i64 c) l.length (0+(i:Int).toNat*1) c0 u (ovA (fun _=>0) 0 133 (ovA (fun _=>0) 0 133 P)) c (l.getD i 0)) ?_
  rintro v9 n9 L9 ⟨rfl,hfa⟩
  by_cases hh:Vx (ovA (fun _=>0) 0 133 (ovA (fun _=>0) 0 133 P)) c (l.getD i 0) = true
  ·rw [if_pos hh] at hfa
   refine ⟨[.sc .var 133 (ia P),.sc .var 1 (WU (fun _=>.bool false) 0 1 fun _=>.bool true),.sc .var 133 (ia (ovA (fun _=>0) 0 133 (ovA (fun _=>0) 0 133 P))),.sc md0 q0 (ia F0),.sc .var 133 (ia (ovA (fun _=>0) 0 133 (ovA (fun _=>0) 0 133 P))),.sc .var 1 (fun _=>.int .i64 c),.sc .var 1 (fun _=>.int .i64 (l.getD i 0))],.tup [],[.sc .var 133 (ia P),.sc .var 1 (WU (fun _=>.bool false) 0 1 fun _=>.bool true),.sc .var 133 (ia (ovA (fun _=>0) 0 133 (ovA (fun _=>0) 0 133 P))),.sc md0 q0 (ia F0),.sc .var 133 (ia (ovA (fun _=>0) 0 133 (ovA (fun _=>0) 0 133 P))),.sc .var 1 (fun _=>.int .i64 c),.sc .var 1 (fun _=>.int .i64 (l.getD i 0))],2,hfa,rfl,rfl,rfl,rfl,?_⟩
   refine ⟨_,ju rfl rfl ZM rfl (YS),?_⟩
   refine ⟨?_,(KG ZO)⟩
   rw [uK (i:=i) (by omega) (by rw [← xq (cut2 P)]; exact hh)]; rfl
  ·rw [if_neg hh] at hfa
   refine ⟨[.sc .var 133 (ia P),.sc .var 1 (fun _=>.bool false),.sc .var 133 (ia (ovA (fun _=>0) 0 133 (ovA (fun _=>0) 0 133 P))),.sc md0 q0 (ia F0),.sc .var 133 (ia (ovA (fun _=>0) 0 133 (ovA (fun _=>0) 0 133 P))),.sc .var 1 (fun _=>.int .i64 c),.sc .var 1 (fun _=>.int .i64 (l.getD i 0))],.tup [],[.sc .var 133 (ia P),.sc .var 1 (fun _=>.bool false),.sc .var 133 (ia (ovA (fun _=>0) 0 133 (ovA (fun _=>0) 0 133 P))),.sc md0 q0 (ia F0),.sc .var 133 (ia (ovA (fun _=>0) 0 133 (ovA (fun _=>0) 0 133 P))),.sc .var 1 (fun _=>.int .i64 c),.sc .var 1 (fun _=>.int .i64 (l.getD i 0))],0,hfa,rfl,rfl,rfl,rfl,?_⟩
   refine Ye (Zr rfl rfl (Zi rfl (Yb (⟨l.length - (i+1),_,by omega,(.cons_cons _ (.cons_cons _ (.cons_cons _ (.cons_cons _ (.cons _ (.cons _ (.cons _ .slnil))))))),i+1,some _,by omega,rfl,?_,rfl,rfl,rfl,rfl,rfl,rfl,rfl,rfl,rfl,rfl,rfl,rfl,rfl,rfl,rfl,rfl,rfl⟩))))
   intro j hj
   by_cases e:j = i
   ·subst e; rw [← xq (cut2 P)]; simpa using hh
   ·exact hn j (by omega)
 ·refine YZ (Xc (Zd (WO_st1 rfl rfl rfl rfl (.there .here) (Yb (Yh (⟨_,ju rfl rfl ZM rfl (YS),?_⟩))))))
  obtain rfl:i = l.length:=by omega
  refine ⟨?_,(fun _ h=>(.tail _ (.tail _ (.tail _ h))))⟩
  rw [wX hn]; rfl
def RV (c:Int):Nat→Int:=ov (ov (fun _=>0) 0 6) 1 c
def Xu (P:Nat→Int) (c:Int):Bool:=if c = 0∨c = 1 then (R8 P (RV c)).any (Vx P (Y0 c)) else false
theorem JP (P X:Nat→Int):(R8 P X).length≤64:=TS _ 64
theorem kX (P:Nat→Int) (c:Int):WR AM 21 [.agg 133 (ia P),.s (.int .i64 c)] [] (fun v _ _=>v = .s (.bool (Xu P c))):=by
 refine YI (a:=a21) rfl rfl (YH _) (ZP rfl) (m:=0) rfl (Zd (YB rfl (Yp rfl (Yb (Yd (Zd (Zi rfl (Zq rfl (Zj rfl (Yr (t:=7) rfl (fun h2=>?_) (fun h2=>?_))))))))))) <;> simp only [NM] at h2
 ·refine Ya rfl (Zi rfl (Ya rfl (Zq rfl (Zo rfl (Yb (Yi rfl (fun h3=>?_) (fun h3=>?_))))))) <;> simp only [NM] at h3
  ·refine Zd (Yp rfl (Zf rfl ?_))
   unfold Xu
   (rw [if_neg (by omega)]; rfl)
  ·refine Yg (Yd (Yf (Yn rfl rfl ZL (Zi rfl (Yt rfl (YF (VH _)) rfl rfl rfl (Yn rfl rfl ZL (Zi rfl (YA rfl (.one rfl (.one rfl .nil)) (Ux rfl (kj P (RV c)) rfl rfl (fun v1 own1 n1 hr1=>VF (caps:=[]) rfl (kY P (Y0 c) _ (Nat.le_trans (JP _ _) (by decide))) rfl (hr1.rx) (fun _ h=>(List.mem_append_left _ h)) rfl rfl rfl (Zj rfl (Zf rfl ?_))))))))))))
   unfold Xu
   (rw [if_pos (by omega)]; rfl)
 ·refine ZC rfl (Zo rfl (Yb (ZA rfl (Yg (Yd (Yf (Yn rfl rfl ZL (Zi rfl (Yt rfl (YF (VH _)) rfl rfl rfl (Yn rfl rfl ZL (Zi rfl (YA rfl (.one rfl (.one rfl .nil)) (Ux rfl (kj P (RV c)) rfl rfl (fun v2 own2 n2 hr2=>VF (caps:=[]) rfl (kY P (Y0 c) _ (Nat.le_trans (JP _ _) (by decide))) rfl (hr2.rx) (fun _ h=>(List.mem_append_left _ h)) rfl rfl rfl (Zj rfl (Zf rfl ?_))))))))))))))))
  unfold Xu
  (rw [if_pos (by omega)]; rfl)
theorem EM (P:Nat→Int) (c:Int):RF AM 21 [.agg 133 (ia P),.s (.int .i64 c)] (.s (.bool (Xu P c))):=YF (kX P c)
def YL (P:Nat→Int) (t:Int):Bool:=isM t && YP P t
def XZ (P:Nat→Int) (t:Int):Int:=P (sqI t+1)
def US (P:Nat→Int) (s c:Int):List Int :=
 (if YL P (YN s 0 (1 - 2*c)) = true then [YN s 0 (1 - 2*c)] else []) ++
 (if X6 s = 1+5*c∧YL P (YN s 0 (1 - 2*c)) = true∧YL P (YN s 0 (2*(1 - 2*c))) = true then [YN s 0 (2*(1 - 2*c))] else []) ++
 (Wb P s).filter fun t=>(!YP P t && decide (XZ P t = Y0 c)) || (YL P t && decide (t = P 130))
def Vj (P:Nat→Int) (c t:Int):Bool:=decide (P (sqI t) = 4∧P (sqI t+1) = c)
def XC (P:Nat→Int) (s k c:Int):List Int :=
 if k ≠ 6∨s ≠ 56*c+4∨P 129 < 0∨15 < P 129 then []
 else (if P 129 / YO c % 2 = 1∧Vj P c (s+3) = true∧YL P (s+1) = true∧YL P (s+2) = true then [s+2] else []) ++
  (if P 129 / (2*YO c) % 2 = 1∧Vj P c (s - 4) = true∧YL P (s - 1) = true∧YL P (s - 2) = true∧YL P (s - 3) = true then [s - 2] else [])
def Vs (P:Nat→Int) (c t:Int):Bool:=!YP P t && decide (XZ P t = c)
def Xy (P:Nat→Int) (s k c:Int):List Int :=
 if k = 1 then US P s c else ((Wb P s).filter fun t=>!Vs P c t)++XC P s k c
def xd (k c t:Int):Bool:=decide (k = 1∧t / 8 = 7*(1 - c))
def toM (s k c t:Int):List Mv:=if xd k c t = true then [(s,t,2),(s,t,3),(s,t,4),(s,t,5)] else [(s,t,0)]
def We (P:Nat→Int) (s:Int):Bool:=YU (P (sqI s)) (P (sqI s+1)) && decide (P (sqI s+1) = P 128)
def VM (P:Nat→Int) (s:Int):List Mv:=(Xy P s (P (sqI s)) (P (sqI s+1))).flatMap (toM s (P (sqI s)) (P (sqI s+1)))
def UG (P:Nat→Int) (n:Nat):List Mv:=(X4 n).flatMap fun s=>if We P s = true then VM P s else []
def Td (P:Nat→Int):List Mv:=Kk (UG P 64)
def fromSv (P:Nat→Int) (s:Int):List Mv:=if (0≤s∧s < 64)∧We P s = true then Kk (VM P s) else []
def goP (P:Nat→Int) (s t c:Int):Bool :=
 if t = s+8*(1 - 2*c) then YL P t
 else if t = s+16*(1 - 2*c)∧s / 8 = 1+5*c then YL P (s+8*(1 - 2*c)) && YL P t
 else Xb P s t && ((!YP P t && decide (XZ P t = Y0 c)) || (YL P t && decide (t = P 130)))
def goC (P:Nat→Int) (s t c:Int):Bool :=
 if s ≠ 56*c+4∨P 129 < 0∨15 < P 129 then false
 else if t = s+2 then decide (P 129 / YO c % 2 = 1) && Vj P c (s+3) && YL P (s+1) && YL P (s+2)
 else decide (t = s - 2) && decide (P 129 / (2*YO c) % 2 = 1) && Vj P c (s - 4) && YL P (s - 1) && YL P (s - 2) && YL P (s - 3)
def goK (P:Nat→Int) (s t k c:Int):Bool :=
 if k = 1 then goP P s t c else (Xb P s t && !Vs P c t) || (decide (k = 6) && goC P s t c)
def WN (P:Nat→Int) (s t:Int):Bool:=We P s && decide (s ≠ t) && goK P s t (P (sqI s)) (P (sqI s+1))
def VN (P:Nat→Int) (s:Int) (n:Nat):List Mv:=(X4 n).flatMap fun t=>if WN P s t = true then toM s (P (sqI s)) (P (sqI s+1)) t else []
def UB (P:Nat→Int) (n:Nat):List Mv:=(X4 n).flatMap fun s=>VN P s 64
theorem qe {P:Nat→Int} {s t:Int} (h:Xb P s t = true):s ≠ t:=by
 intro e
 unfold Xb KI at h
 rw [if_pos (.inr e)] at h
 cases h
theorem D5 {P:Nat→Int} {s t:Int} (h:Xb P s t = true) (hk:P (sqI s) = 1):XF (t % 8 - s % 8) = 1:=by
 unfold Xb KI at h
 rw [hk] at h
 split at h
 ·cases h
 ·rw [if_pos rfl,decide_eq_true_eq] at h; exact h.1
theorem jf {P:Nat→Int} {s t:Int} (h:Xb P s t = true) (hk:P (sqI s) = 6):XF (t % 8 - s % 8)≤1:=by
 unfold Xb KI at h
 rw [hk] at h
 split at h
 ·cases h
 ·rw [if_neg (by decide),if_neg (by decide),if_pos rfl,decide_eq_true_eq] at h; exact h.1
theorem R7 {P:Nat→Int} {s t:Int} (hs:0≤s∧s < 64):t∈Wb P s↔(0≤t∧t < 64)∧Xb P s t = true:=by
 rw [rV]
 unfold attL
 rw [if_pos hs,List.mem_filter]
 unfold X4
 rw [List.mem_map]
 constructor
 ·rintro ⟨⟨i,hi,rfl⟩,h⟩
  exact ⟨⟨by omega,by have:=List.mem_range.1 hi; omega⟩,h⟩
 ·rintro ⟨h1,h2⟩
  exact ⟨⟨t.toNat,List.mem_range.2 (by omega),by omega⟩,h2⟩
theorem fromS_nodup {P:Nat→Int} {s:Int}:(Wb P s).Nodup:=by
 unfold Wb
 split
 ·rename_i h
  exact (Qs _).nodup_iff.2 (zN h)
 ·exact .nil
theorem kP {P:Nat→Int} {t:Int} (h:YL P t = true):0≤t∧t < 64:=by
 unfold YL isM at h
 rw [Bool.and_eq_true,decide_eq_true_eq] at h
 exact h.1
theorem Q5 {s d:Int} (hs:0≤s∧s < 64) (hd:-8 < d∧d < 8):YN s 0 d = if 0≤s+8*d∧s+8*d < 64 then s+8*d else -1:=by
 unfold YN atM
 rw [if_pos ⟨hs,by omega,hd⟩]
 split <;> split <;> omega
theorem KE {p:Prop} [Decidable p] {x t:Int}:t∈(if p then [x] else [])↔p∧t = x:=by
 split
 ·rename_i h; simp [h]
 ·rename_i h; simp [h]
theorem uv {P:Nat→Int} {s t c:Int} (hs:0≤s∧s < 64) (hc:c = 0∨c = 1) (hk:P (sqI s) = 1):t∈US P s c↔(0≤t∧t < 64)∧goP P s t c = true:=by
 unfold US goP
 rw [List.mem_append,List.mem_append,KE,KE,List.mem_filter,R7 hs,Q5 hs (by omega),Q5 hs (by omega)]
 have hr:X6 s = s / 8:=if_pos hs
 rw [hr]
 have f0:YL P (-1) = false:=rfl
 by_cases h1:t = s+8*(1 - 2*c)
 ·rw [if_pos h1]
  subst h1
  have na:¬ Xb P s (s+8*(1 - 2*c)) = true:=fun h=>by
   have:=D5 h hk
   unfold XF at this
   split at this <;> omega
  constructor
  ·rintro ((⟨h2,h3⟩ | ⟨⟨h2,h3,h4⟩,h5⟩) | ⟨⟨_,h⟩,_⟩)
   ·split at h2
    ·rename_i hb; exact ⟨hb,h2⟩
    ·rw [f0] at h2; cases h2
   ·split at h4
    ·split at h5 <;> omega
    ·rw [f0] at h4; cases h4
   ·exact absurd h na
  ·rintro ⟨h2,h3⟩
   rw [if_pos (by omega)]
   exact .inl (.inl ⟨by rw [show s+8*(1 - 2*c) = s+8*(1 - 2*c) from rfl]; exact h3,rfl⟩)
 ·rw [if_neg h1]
  have n1:¬ (YL P (if 0≤s+8*(1 - 2*c)∧s+8*(1 - 2*c) < 64 then s+8*(1 - 2*c) else -1) = true∧t = if 0≤s+8*(1 - 2*c)∧s+8*(1 - 2*c) < 64 then s+8*(1 - 2*c) else -1):=by
   rintro ⟨h2,h3⟩
   split at h2
   ·rename_i hb; rw [if_pos hb] at h3; exact h1 h3
   ·rw [f0] at h2; cases h2
  by_cases h2:t = s+16*(1 - 2*c)∧s / 8 = 1+5*c
  ·rw [if_pos h2]
   obtain ⟨h2,h3⟩:=h2
   have na:¬ Xb P s t = true:=fun h=>by
    have:=D5 h hk
    unfold XF at this
    split at this <;> omega
   rw [if_pos (by omega),if_pos (by omega)]
   constructor
   ·rintro ((h | ⟨⟨_,h4,h5⟩,h6⟩) | ⟨⟨_,h⟩,_⟩)
    ·rw [if_pos (by omega)] at n1; exact absurd h n1
    ·refine ⟨by omega,?_⟩
     rw [h4,Bool.true_and,h6]
     exact h5
    ·exact absurd h na
   ·rintro ⟨h4,h5⟩
    rw [Bool.and_eq_true] at h5
    refine .inl (.inr ⟨⟨h3,h5.1,?_⟩,by omega⟩)
    rw [show s+8*(2*(1 - 2*c)) = t by omega]
    exact h5.2
  ·rw [if_neg h2]
   have n2:¬ ((s / 8 = 1+5*c∧YL P (if 0≤s+8*(1 - 2*c)∧s+8*(1 - 2*c) < 64 then s+8*(1 - 2*c) else -1) = true∧YL P (if 0≤s+8*(2*(1 - 2*c))∧s+8*(2*(1 - 2*c)) < 64 then s+8*(2*(1 - 2*c)) else -1) = true)∧t = if 0≤s+8*(2*(1 - 2*c))∧s+8*(2*(1 - 2*c)) < 64 then s+8*(2*(1 - 2*c)) else -1):=by
    rintro ⟨⟨h3,h4,h5⟩,h6⟩
    split at h5
    ·rename_i hb
     rw [if_pos hb] at h6
     exact h2 ⟨by omega,h3⟩
    ·rw [f0] at h5; cases h5
   simp only [n1,n2,false_or,Bool.and_eq_true,and_assoc]
theorem jG {P:Nat→Int} {s c:Int} (hs:0≤s∧s < 64) (hc:c = 0∨c = 1) (hk:P (sqI s) = 1):(US P s c).Nodup:=by
 have f0:YL P (-1) = false:=rfl
 unfold US
 rw [List.nodup_append,List.nodup_append]
 refine ⟨⟨by split <;> simp,by split <;> simp,fun a ha b hb e=>?_⟩,fromS_nodup.filter _,fun a ha b hb e=>?_⟩
 ·rw [KE] at ha hb
  subst e
  have h1:=kP ha.1
  have h2:=kP hb.1.2.2
  have e1:=ha.2
  have e2:=hb.2
  rw [Q5 hs (by omega)] at h1 e1
  rw [Q5 hs (by omega)] at h2 e2
  split at h1 <;> split at h2 <;> omega
 ·subst e
  have hb:=(R7 hs).1 (List.mem_filter.1 hb).1
  have ht:=D5 hb.2 hk
  rw [List.mem_append,KE,KE,Q5 hs (by omega),Q5 hs (by omega)] at ha
  unfold XF at ht
  have hb:=hb.1
  rcases ha with ⟨_,e⟩ | ⟨_,e⟩
  ·split at e <;> split at ht <;> omega
  ·split at e <;> split at ht <;> omega
theorem TW {P:Nat→Int} {s t k c:Int} (hk:k = 6):t∈XC P s k c↔goC P s t c = true:=by
 unfold XC goC
 by_cases h:s ≠ 56*c+4∨P 129 < 0∨15 < P 129
 ·rw [if_pos h,if_pos (.inr h)]; simp
 ·have hn:¬ (k ≠ 6∨s ≠ 56*c+4∨P 129 < 0∨15 < P 129):=by
   rintro (h' | h')
   ·exact h' hk
   ·exact h h'
  rw [if_neg h,if_neg hn,List.mem_append,KE,KE]
  by_cases h2:t = s+2
  ·rw [if_pos h2]
   have:¬ t = s - 2:=by omega
   simp [h2,this,and_assoc]
   omega
  ·rw [if_neg h2]
   simp [h2,and_assoc]
   constructor
   ·rintro ⟨a,b,c,d,e,f⟩; exact ⟨f,a,b,c,d,e⟩
   ·rintro ⟨f,a,b,c,d,e⟩; exact ⟨a,b,c,d,e,f⟩
theorem Rt {P:Nat→Int} {s k c:Int} (hk:k ≠ 6):XC P s k c = []:=if_pos (.inl hk)
theorem goC_bd {P:Nat→Int} {s t c:Int} (hc:c = 0∨c = 1) (h:goC P s t c = true):(0≤t∧t < 64)∧s ≠ t:=by
 unfold goC at h
 split at h
 ·cases h
 ·split at h <;> simp at h <;> omega
theorem Dk {P:Nat→Int} {s t:Int} (hs:0≤s∧s < 64) (hm:We P s = true):t∈Xy P s (P (sqI s)) (P (sqI s+1))↔(0≤t∧t < 64)∧WN P s t = true:=by
 unfold WN
 rw [hm,Bool.true_and,Bool.and_eq_true,decide_eq_true_eq]
 have hc:P (sqI s+1) = 0∨P (sqI s+1) = 1:=by
  unfold We YU at hm
  simp only [Bool.and_eq_true,decide_eq_true_eq] at hm
  omega
 unfold Xy goK
 by_cases hk:P (sqI s) = 1
 ·rw [if_pos hk,if_pos hk,uv hs hc hk]
  constructor
  ·rintro ⟨h1,h2⟩
   refine ⟨h1,fun e=>?_,h2⟩
   subst e
   unfold goP at h2
   rw [if_neg (by omega),if_neg (by omega),Bool.and_eq_true] at h2
   exact qe h2.1 rfl
  ·rintro ⟨h1,_,h2⟩
   exact ⟨h1,h2⟩
 ·rw [if_neg hk,if_neg hk,List.mem_append,List.mem_filter,R7 hs]
  by_cases h6:P (sqI s) = 6
  ·rw [TW h6,Bool.or_eq_true,Bool.and_eq_true,Bool.and_eq_true,decide_eq_true_eq]
   constructor
   ·rintro (⟨⟨h1,h2⟩,h3⟩ | h)
    ·exact ⟨h1,qe h2,.inl ⟨h2,h3⟩⟩
    ·have:=goC_bd hc h
     exact ⟨this.1,this.2,.inr ⟨h6,h⟩⟩
   ·rintro ⟨h1,_,⟨h2,h3⟩ | ⟨_,h⟩⟩
    ·exact .inl ⟨⟨h1,h2⟩,h3⟩
    ·exact .inr h
  ·rw [Rt h6,Bool.or_eq_true,Bool.and_eq_true,Bool.and_eq_true,decide_eq_true_eq]
   constructor
   ·rintro (⟨⟨h1,h2⟩,h3⟩ | h)
    ·exact ⟨h1,qe h2,.inl ⟨h2,h3⟩⟩
    ·cases h
   ·rintro ⟨h1,_,⟨h2,h3⟩ | ⟨h,_⟩⟩
    ·exact .inl ⟨⟨h1,h2⟩,h3⟩
    ·exact absurd h h6
theorem wv {P:Nat→Int} {s:Int} (hs:0≤s∧s < 64) (hm:We P s = true):(Xy P s (P (sqI s)) (P (sqI s+1))).Nodup:=by
 have hc:P (sqI s+1) = 0∨P (sqI s+1) = 1:=by
  unfold We YU at hm
  simp only [Bool.and_eq_true,decide_eq_true_eq] at hm
  omega
 unfold Xy
 by_cases hk:P (sqI s) = 1
 ·rw [if_pos hk]; exact jG hs hc hk
 ·rw [if_neg hk,List.nodup_append]
  refine ⟨fromS_nodup.filter _,?_,fun a ha b hb e=>?_⟩
  ·unfold XC
   split
   ·exact .nil
   ·rw [List.nodup_append]
    refine ⟨by split <;> simp,by split <;> simp,fun a ha b hb e=>?_⟩
    rw [KE] at ha hb
    omega
  ·subst e
   by_cases h6:P (sqI s) = 6
   ·rw [TW h6] at hb
    have ha:=(R7 hs).1 (List.mem_filter.1 ha).1
    have hka:=jf ha.2 h6
    have ha:=ha.1
    unfold goC at hb
    unfold XF at hka
    split at hb
    ·cases hb
    ·split at hb
     ·split at hka <;> omega
     ·simp at hb
      split at hka <;> omega
   ·rw [Rt h6] at hb; cases hb
theorem K3 {s k c t:Int} {m:Mv} (h:m∈toM s k c t):m.1 = s∧m.2.1 = t:=by
 unfold toM at h
 split at h <;> simp at h
 ·rcases h with rfl | rfl | rfl | rfl <;> exact ⟨rfl,rfl⟩
 ·subst h; exact ⟨rfl,rfl⟩
theorem sG (s k c t:Int):(toM s k c t).Pairwise lt3:=by
 unfold toM
 split <;> simp [lt3]
theorem rH (P:Nat→Int) (s:Int) (n:Nat):(VN P s n).Pairwise lt3:=by
 unfold VN
 rw [List.pairwise_flatMap]
 refine ⟨fun t _=>?_,?_⟩
 ·split
  ·exact sG _ _ _ _
  ·exact .nil
 ·unfold X4
  rw [List.pairwise_map]
  refine List.pairwise_lt_range.imp fun h x hx y hy=>?_
  split at hx
  ·split at hy
   ·have h1:=K3 hx; have h2:=K3 hy
    unfold lt3; omega
   ·cases hy
  ·cases hx
theorem KD {P:Nat→Int} {s:Int} {n:Nat} {m:Mv} (h:m∈VN P s n):m.1 = s:=by
 unfold VN at h
 rw [List.mem_flatMap] at h
 obtain ⟨t,_,h⟩:=h
 split at h
 ·exact (K3 h).1
 ·cases h
theorem allR_lt (P:Nat→Int) (n:Nat):(UB P n).Pairwise lt3:=by
 unfold UB
 rw [List.pairwise_flatMap]
 refine ⟨fun s _=>rH P s 64,?_⟩
 unfold X4
 rw [List.pairwise_map]
 refine List.pairwise_lt_range.imp fun h x hx y hy=>?_
 have h1:=KD hx; have h2:=KD hy
 unfold lt3; omega
theorem mem64 {t:Int}:t∈X4 64↔0≤t∧t < 64:=by
 unfold X4
 rw [List.mem_map]
 constructor
 ·rintro ⟨i,hi,rfl⟩; have:=List.mem_range.1 hi; omega
 ·intro h; exact ⟨t.toNat,List.mem_range.2 (by omega),by omega⟩
theorem KT {P:Nat→Int} {s:Int} (hs:0≤s∧s < 64) (hm:We P s = true) (m:Mv):m∈VM P s↔m∈VN P s 64:=by
 unfold VM VN
 rw [List.mem_flatMap,List.mem_flatMap]
 constructor
 ·rintro ⟨t,h1,h2⟩
  obtain ⟨h3,h4⟩:=(Dk hs hm).1 h1
  exact ⟨t,mem64.2 h3,by rw [if_pos h4]; exact h2⟩
 ·rintro ⟨t,h1,h2⟩
  split at h2
  ·rename_i h4
   exact ⟨t,(Dk hs hm).2 ⟨mem64.1 h1,h4⟩,h2⟩
  ·cases h2
theorem wY {P:Nat→Int} {s:Int} (hs:0≤s∧s < 64) (hm:We P s = true):(VM P s).Nodup:=by
 unfold VM
 unfold List.Nodup
 rw [List.pairwise_flatMap]
 refine ⟨fun t _=>(sG _ _ _ _).imp fun h e=>by subst e; exact xi _ _ h h,(wv hs hm).imp fun h x hx y hy e=>?_⟩
 subst e
 exact h ((K3 hx).2.symm.trans (K3 hy).2)
theorem kU {P:Nat→Int} {s:Int} (hm:¬ We P s = true) (n:Nat):VN P s n = []:=by
 unfold VN
 rw [List.flatMap_eq_nil_iff]
 intro t _
 rw [if_neg]
 unfold WN
 simp [hm]
theorem allS_is (P:Nat→Int):Td P = UB P 64:=by
 unfold Td
 refine srt3_is ?_ (allR_lt P 64) fun m=>?_
 ·unfold UG List.Nodup
  rw [List.pairwise_flatMap]
  refine ⟨fun s hs=>?_,?_⟩
  ·split
   ·rename_i hm; exact wY (mem64.1 hs) hm
   ·exact .nil
  ·unfold X4
   rw [List.pairwise_map]
   refine List.pairwise_lt_range.imp_of_mem fun {a b} ha hb h x hx y hy e=>?_
   subst e
   split at hx
   ·split at hy
    ·rename_i m1 m2
     have ha:=List.mem_range.1 ha
     have hb:=List.mem_range.1 hb
     have h1:=KD ((KT (by omega) m1 _).1 hx)
     have h2:=KD ((KT (by omega) m2 _).1 hy)
     omega
    ·cases hy
   ·cases hx
 ·unfold UG UB
  rw [List.mem_flatMap,List.mem_flatMap]
  constructor
  ·rintro ⟨s,hs,h⟩
   split at h
   ·rename_i hm; exact ⟨s,hs,(KT (mem64.1 hs) hm m).1 h⟩
   ·cases h
  ·rintro ⟨s,hs,h⟩
   by_cases hm:We P s = true
   ·exact ⟨s,hs,by rw [if_pos hm]; exact (KT (mem64.1 hs) hm m).2 h⟩
   ·rw [kU hm] at h; cases h
def VS (p:Nat→Bool):Nat→Int
 | 0=>-1
 | n+1=>if VS p n = -1 then (if p n = true then n else -1) else VS p n
theorem JI {p:Nat→Bool}:∀ {n:Nat},(∀ j,j < n→p j = false)→VS p n = -1
 | 0,_=>rfl
 | n+1,h=>by
  unfold VS
  rw [if_pos (JI fun j hj=>h j (by omega)),h n (by omega)]; rfl
theorem y9 {p:Nat→Bool} {i:Nat}:∀ {n:Nat},i < n→p i = true→(∀ j,j < i→p j = false)→VS p n = i
 | 0,h,_,_=>by omega
 | n+1,h,hp,hn=>by
  unfold VS
  by_cases e:i = n
  ·subst e
   rw [if_pos (JI hn),if_pos hp]
  ·rw [y9 (by omega) hp hn,if_neg (by omega)]
theorem yZ {p:Nat→Bool}:∀ {n:Nat},0≤VS p n↔∃ i,i < n∧p i = true
 | 0=>by simp [VS]
 | n+1=>by
  have ih:=yZ (p:=p) (n:=n)
  unfold VS
  by_cases h:VS p n = -1
  ·rw [if_pos h]
   have hn:¬ ∃ i,i < n∧p i = true:=fun hx=>by have:=ih.2 hx; omega
   by_cases hp:p n = true
   ·rw [if_pos hp]; exact ⟨fun _=>⟨n,by omega,hp⟩,fun _=>by omega⟩
   ·rw [if_neg hp]
    constructor
    ·intro h; omega
    ·rintro ⟨i,hi,hx⟩
     by_cases e:i = n
     ·subst e; exact absurd hx hp
     ·exact absurd ⟨i,by omega,hx⟩ hn
  ·rw [if_neg h,ih]
   constructor
   ·rintro ⟨i,hi,h⟩; exact ⟨i,by omega,h⟩
   ·rintro ⟨i,hi,hp⟩
    by_cases e:i = n
    ·have hlo:-1≤VS p n:=fstI_lo n
     exact ih.1 (by omega)
    ·exact ⟨i,by omega,hp⟩
 where
 fstI_lo:∀ n,-1≤VS p n
  | 0=>Int.le_refl _
  | n+1=>by
   have:=fstI_lo n
   unfold VS
   split
   ·split <;> omega
   ·exact this
theorem vj {md:Md} (M:Nat→Int) (t:Int):WR AM 145 [.s (.int .i64 t),.ptr 0 0 136] [.sc md 136 (ia M)] (fun v _ L=>v = .s (.bool (!YL M t))∧(0,Blk.sc md 136 (ia M))∈L):=by
 refine YI (a:=a145) rfl rfl (YH _) (ZP rfl) (m:=1) rfl (Zd (Yp rfl (Ze (Zi rfl (Ys rfl (Ju _) rfl rfl rfl (Yu (r:=.bool _) rfl rfl (Zj rfl (Yr (t:=7) rfl (fun h1=>?_) (fun h1=>?_))))))))) <;> simp only [NM] at h1
 ·try simp only [isM,decide_eq_true_eq,decide_eq_false_iff_not] at h1
  refine ZD rfl (ZC rfl (ZB rfl (Zo rfl (Zj rfl (Zf rfl (⟨ZH ?_,ZL⟩))))))
  unfold YL isM
  (rw [decide_eq_false (by assumption)]; rfl)
 ·try simp only [isM,decide_eq_true_eq,decide_eq_false_iff_not] at h1
  refine Ya rfl (Zi rfl (Ya rfl (Zx rfl (Ya rfl (Zx rfl (Ya rfl (Zv rfl rfl rfl (Ya rfl (Yo rfl rfl ZL (Ya rfl (YA rfl .nil (Ya rfl (Yv rfl rfl (Zo rfl (Zj rfl (Zf rfl (⟨ZH ?_,ZL⟩)))))))))))))))))
  unfold YL isM
  (rw [decide_eq_true (by assumption),Bool.true_and]; rfl)
theorem jV {md md2:Md} {q:Nat} {c:Cp} (K M:Nat→Int) (nn:Nat) (hnn:nn≤1000000):WR AM 66 [.sl 0 0 nn 1 c,.fn 145 [.ptr 1 0 136]] [.sc md q (ia K),.sc md2 136 (ia M)] (fun v _ L=>v = .s (.int .i64 (VS (fun j=>!YL M (K j)) nn))∧(0,Blk.sc md q (ia K))∈L∧(1,Blk.sc md2 136 (ia M))∈L):=by
 refine YI (a:=a66) rfl rfl (YH _) (ZP rfl) (m:=2) rfl (Zd (Yp rfl (Yb (Yd (Zd (Zm rfl (QR rfl (Yp rfl (Yb (Yj (Xe (.refl _) (Xg (fun m f _ L=>∃ (i:Nat),(i≤nn)∧(m = nn - i)∧(∀ j,j < i→(!YL M (K j)) = false)∧(f 0 = .sl 0 0 nn 1 c)∧(f 1 = .fn 145 [.ptr 1 0 136])∧(f 7 = .s (.int .i64 nn))∧(f 8 = .s (.int .i64 i))∧(L = [(0,.sc md q (ia K)),(1,.sc md2 136 (ia M))])) (fun m f nb L hI=>?_) (nn) (⟨0,by omega,by omega,fun j hj=>by omega,rfl,rfl,rfl,rfl,rfl⟩)))))))))))))
 obtain ⟨i,hi,hm,hn,k0,k1,k7,k8,rfl⟩:=hI
 refine pH 0 k0 (pH 1 k1 (pH 7 k7 (pH 8 k8 (Zd (Zq rfl (Yb (Yd (Yi rfl (fun h2=>?_) (fun h2=>?_))))))))) <;> simp only [NM] at h2
 ·refine Yg (Yd (Yj (Zd (Zi rfl (Zi rfl (Ze (Yp (v:=.fn _ _) rfl (Zm rfl (Zi rfl (Zw rfl rfl (Yl (x:=K i) rfl rfl ZL (by rw [show 0+(i:Int).toNat*1 = i by omega]) (Vd (rs:=[1]) (Bs:=[.sc md2 136 (ia M)]) rfl (Ua (vj M (K i))) rfl rfl (YE rfl) (fun _ h=>h) rfl ⟨ZM,⟨_,_,_,rfl⟩,trivial⟩ rfl rfl rfl (.cons (.there .here) .nil) (Yb (Yi rfl (fun h3=>?_) (fun h3=>?_))))))))))))))) <;> simp only [NM] at h3
  ·refine Zd (Zi rfl (Zi rfl (Yb (Yh (⟨_,ZK rfl,?_⟩)))))
   refine ⟨ZI ?_,ZL,ZM⟩
   exact (y9 (i:=i) (by omega) (by simp [*]) hn).symm
  ·refine Yg (Ye (Zr rfl rfl (Zi rfl (Yb (⟨nn - (i+1),_,by omega,(.refl _),i+1,by omega,rfl,?_,rfl,rfl,rfl,rfl,rfl⟩)))))
   intro j hj
   by_cases e:j = i
   ·subst e; simp [*]
   ·exact hn j (by omega)
 ·refine YZ (Xc (Zd (Yp rfl (Yb (Yh (⟨_,ZK rfl,?_⟩))))))
  refine ⟨ZI ?_,ZL,ZM⟩
  exact (JI fun j hj=>hn j (by omega)).symm
theorem yS {md md2:Md} {q:Nat} {c:Cp} (K M:Nat→Int) (nn:Nat) (hnn:nn≤1000000):WR AM 49 [.sl 0 0 nn 1 c,.fn 145 [.ptr 1 0 136]] [.sc md q (ia K),.sc md2 136 (ia M)] (fun v _ L=>v = .s (.bool (decide (0≤VS (fun j=>!YL M (K j)) nn)))∧(0,Blk.sc md q (ia K))∈L∧(1,Blk.sc md2 136 (ia M))∈L):=by
 refine YI (a:=a49) rfl rfl (YH _) (ZP rfl) (m:=2) rfl (Zd (Yp rfl (Ze (Zm rfl (Yp (v:=.fn _ _) rfl (Wn (rs:=[0,1]) (Bs:=[.sc md q (ia K),.sc md2 136 (ia M)]) rfl (Ew (jV K M nn hnn)) rfl rfl (YE rfl) (fun _ h=>h) rfl ⟨ZL,⟨_,_,_,rfl⟩,ZM,⟨_,_,_,rfl⟩,trivial⟩ rfl rfl rfl (.cons .here (.cons (.there .here) .nil)) (Zq rfl (Zj rfl (Zf rfl ?_)))))))))
 exact ⟨rfl,ZL,ZM⟩
theorem sg {md:Md} {q:Nat} {c:Cp} (K M:Nat→Int) (nn:Nat) (hnn:nn≤1000000):WR AM 130 [.agg 136 (ia M),.sl 0 0 nn 1 c] [.sc md q (ia K)] (fun v _ L=>v = .s (.bool (!decide (0≤VS (fun j=>!YL M (K j)) nn)))∧(0,Blk.sc md q (ia K))∈L):=by
 refine YI (a:=a130) rfl rfl (YH _) (ZP rfl) (m:=1) rfl (Zd (YB rfl (Yp rfl (Ze (Zm rfl (Qz rfl (Wn (rs:=[0,1]) (Bs:=[.sc md q (ia K),.sc .var 136 (ia M)]) rfl (Ew (yS K M nn hnn)) rfl rfl (YE rfl) (fun _ h=>h) rfl ⟨ZM,⟨_,_,_,rfl⟩,ZL,⟨_,_,_,rfl⟩,trivial⟩ rfl rfl rfl (.cons (.there .here) (.cons .here .nil)) (Yu (r:=.bool _) rfl rfl (Zj rfl (Zf rfl ?_))))))))))
 exact ⟨rfl,ZM⟩
theorem free_l {M K:Nat→Int} {l:List Int} (hK:∀ i,i < l.length→K i = l.getD i 0):(!decide (0≤VS (fun j=>!YL M (K j)) l.length)) = l.all (YL M):=by
 rw [Bool.eq_iff_iff,Bool.not_eq_true',decide_eq_false_iff_not,yZ,List.all_eq_true]
 constructor
 ·intro h x hx
  obtain ⟨j,hj,rfl⟩:=List.mem_iff_getElem.1 hx
  cases hf:YL M l[j] with
  | true=>rfl
  | false=>exact absurd ⟨j,hj,by rw [hK j hj,List.getD_eq_getElem?_getD,List.getElem?_eq_getElem hj]; simp [hf]⟩ h
 ·rintro h ⟨j,hj,hx⟩
  rw [hK j hj,List.getD_eq_getElem?_getD,List.getElem?_eq_getElem hj] at hx
  have:=h _ (List.getElem_mem hj)
  simp [this] at hx
theorem free_rb {md:Md} {q:Nat} {c:Cp} (K M:Nat→Int) (l:List Int) (hK:∀ i,i < l.length→K i = l.getD i 0) (hl:l.length≤1000000):RB AM 130 [.agg 136 (ia M),.sl 0 0 l.length 1 c] [.sc md q (ia K)] (.s (.bool (l.all (YL M)))) [.sc md q (ia K)]:=by
 have:=Ua (sg (md:=md) (q:=q) (c:=c) K M l.length hl)
 rw [free_l hK] at this
 exact this
end Go.Proofs.YtlkighkfkdpncaaGreat
