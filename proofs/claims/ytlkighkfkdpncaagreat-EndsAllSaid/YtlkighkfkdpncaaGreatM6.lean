/- Texts of this seat, joined. -/
import Derived.Test.YtlkighkfkdpncaaGreatAm0
import Derived.Test.YtlkighkfkdpncaaGreatAm1
import Derived.Test.YtlkighkfkdpncaaGreatAm2
import Derived.Test.YtlkighkfkdpncaaGreatM0
import Derived.Test.YtlkighkfkdpncaaGreatM1
import Derived.Test.YtlkighkfkdpncaaGreatM2
import Derived.Test.YtlkighkfkdpncaaGreatM3
import Derived.Test.YtlkighkfkdpncaaGreatM4
import Derived.Test.YtlkighkfkdpncaaGreatM5
set_option linter.unusedSimpArgs false
set_option linter.unusedVariables false
namespace Go.Proofs.YtlkighkfkdpncaaGreat
open Go Go.Am
theorem pawn_is (P:Nat→Int) (s t:Int) (hs:0≤s∧s < 64) (ht:0≤t∧t < 64) (hc:P (sqI s+1) = 0∨P (sqI s+1) = 1):RF AM 104 [.agg 133 (ia P),.s (.int .i64 s),.s (.int .i64 t)] (.s (.bool (goP P s t (P (sqI s+1))))):=by
 rcases hc with hc | hc
 ·rw [hc]; exact YF (vd P s t hs ht hc)
 ·rw [hc]; exact YF (vu P s t hs ht hc)
theorem xK (P:Nat→Int) (s t:Int) (hs:0≤s∧s < 64) (ht:0≤t∧t < 64) (hc:P (sqI s+1) = 0∨P (sqI s+1) = 1):RF AM 105 [.agg 133 (ia P),.s (.int .i64 s),.s (.int .i64 t)] (.s (.bool (goC P s t (P (sqI s+1))))):=by
 rcases hc with hc | hc
 ·rw [hc]; exact YF (qn P s t hs ht hc)
 ·rw [hc]; exact YF (qH P s t hs ht hc)
theorem xg {P:Nat→Int} {s t:Int} (h:YU (P (sqI s)) (P (sqI s+1)) = false∨P (sqI s+1) ≠ P 128∨s = t):WN P s t = false:=by
 unfold WN We
 rcases h with h | h | h
 ·rw [h]; rfl
 ·rw [decide_eq_false h]; simp
 ·rw [decide_eq_false (show ¬ s ≠ t from fun q=>q h)]; simp
theorem Kf {P:Nat→Int} {s t:Int} (h1:YU (P (sqI s)) (P (sqI s+1)) = true) (h2:P (sqI s+1) = P 128) (h3:¬ s = t):WN P s t = goK P s t (P (sqI s)) (P (sqI s+1)):=by
 unfold WN We
 rw [h1,decide_eq_true h2,decide_eq_true h3]; rfl
theorem DP {k c:Int} (h:YU k c = true):c = 0∨c = 1:=(of_decide_eq_true h).2.2
theorem u9 (P:Nat→Int) (s t:Int) (hs:0≤s∧s < 64) (ht:0≤t∧t < 64):WR AM 77 [.agg 133 (ia P),.s (.int .i64 s),.s (.int .i64 t)] [] (fun v _ _=>v = .s (.bool (WN P s t))):=by
 refine YI (a:=a77) rfl rfl (YH _) (ZP rfl) (m:=0) rfl (Zd (YB rfl (Yp rfl (Ze (Zi rfl (Zx rfl (Zv rfl rfl rfl (Yo rfl rfl ZL (Yx (Yy rfl rfl rfl rfl .here (Yb (Yd (Zd (Yn rfl rfl ZL (Ys rfl (show RF AM 87 _ (.s (.bool (YU (P (sqI s)) (P (sqI s+1))))) from YF (TF _)) rfl rfl rfl (Yu (r:=.bool _) rfl rfl (Zj rfl (Yr (t:=16) rfl (fun h1=>?_) (fun h1=>?_))))))))))))))))))) <;> simp only [NM] at h1
 ·refine ZD rfl (ZB rfl (Zo rfl (Zj rfl (ZC rfl (ZB rfl (Zo rfl (Yb (Zz rfl (Zd (Yp rfl (Zf rfl (ZH ?_))))))))))))
  exact (xg (by first | exact .inl (by assumption) | exact .inr (.inl (by assumption)) | exact .inr (.inr (by assumption)))).symm
 ·refine Ya rfl (Zy rfl (Ya rfl (Yl (x:=P (sqI s+1)) rfl rfl ZL (rfl) (Ya rfl (Yc (o':=128) rfl rfl rfl (Ya rfl (Yl (x:=P 128) rfl rfl ZM (rfl) (Ya rfl (Zq rfl (Zo rfl (Zj rfl (Yr (t:=23) rfl (fun h2=>?_) (fun h2=>?_))))))))))))) <;> simp only [NM] at h2
  ·refine ZC rfl (ZB rfl (Zo rfl (Yb (Zz rfl (Zd (Yp rfl (Zf rfl (ZH ?_))))))))
   exact (xg (by first | exact .inl (by assumption) | exact .inr (.inl (by assumption)) | exact .inr (.inr (by assumption)))).symm
  ·refine Ya rfl (Zi rfl (Ya rfl (Zi rfl (Ya rfl (Zq rfl (Zo rfl (Yb (Yi rfl (fun h3=>?_) (fun h3=>?_))))))))) <;> simp only [NM] at h3
   ·refine Zd (Yp rfl (Zf rfl (ZH ?_)))
    exact (xg (by first | exact .inl (by assumption) | exact .inr (.inl (by assumption)) | exact .inr (.inr (by assumption)))).symm
   ·refine Yg (Yd (Zd (Zx rfl (Yl (x:=P (sqI s)) rfl rfl ZL (rfl) (Zq rfl (Yb (Yi rfl (fun h4=>?_) (fun h4=>?_)))))))) <;> simp only [NM] at h4
    ·refine Zd (Yn rfl rfl ZM (Zi rfl (Zi rfl (Ys rfl (pawn_is P s t hs ht (DP (k:=P (sqI s)) (by assumption))) rfl rfl rfl (Zj rfl (Zf rfl (ZH ?_)))))))
     rw [Kf (by assumption) (by assumption) (by assumption)]
     unfold goK
     rw [if_pos (by assumption)]
    ·refine Yg (Zd (Zi rfl (Zx rfl (Zv rfl rfl rfl (Yo rfl rfl ZM (Yx (Yy rfl rfl rfl rfl .here (Yb (Yd (Zd (Yn rfl rfl ZN (Zi rfl (Zi rfl (Ys rfl (YF (Qu P s t hs ht)) rfl rfl rfl (Zj rfl (Yr (t:=43) rfl (fun h5=>?_) (fun h5=>?_)))))))))))))))))
     ·refine Ya rfl (Yn rfl rfl ZL (Ya rfl (YA rfl .nil (Ya rfl (Yv rfl rfl (Ya rfl (Zj rfl (Yr (t:=47) rfl (fun h6=>?_) (fun h6=>?_))))))))) <;> simp only [NM] at h6
      ·change YP P t = true at h6
       refine ZD rfl (ZB rfl (Ya rfl (Zo rfl (Zo rfl (Yb (Zz rfl (Zd (Yp rfl (Zf rfl (ZH ?_))))))))))
       rw [Kf (by assumption) (by assumption) (by assumption)]
       unfold goK
       rw [if_neg (by assumption)]
       unfold Vs
       rw [show Xb P s t = true by assumption]
       rw [show YP P t = true by assumption]
       rfl
      ·change YP P t = false at h6
       refine Ya rfl (Zy rfl (Ya rfl (Yl (x:=XZ P t) rfl rfl ZL (rfl) (Ya rfl (Zy rfl (Ya rfl (Yl (x:=P (sqI s+1)) rfl rfl ZM (rfl) (Ya rfl (Zq rfl (Ya rfl (Zo rfl (Zo rfl (Yb (Yi rfl (fun h7=>?_) (fun h7=>?_))))))))))))))) <;> simp only [NM] at h7
       ·refine Zd (Yp rfl (Zf rfl (ZH ?_)))
        rw [Kf (by assumption) (by assumption) (by assumption)]
        unfold goK
        rw [if_neg (by assumption)]
        unfold Vs
        rw [show Xb P s t = true by assumption]
        rw [show YP P t = false by assumption]
        rw [decide_eq_false (show ¬ XZ P t = P (sqI s+1) by assumption)]
        rfl
       ·refine Yg (Zd (Zx rfl (Yl (x:=P (sqI s)) rfl rfl ZM (rfl) (Zq rfl (Zj rfl (Yr (t:=58) rfl (fun h8=>?_) (fun h8=>?_))))))) <;> simp only [NM] at h8
        ·refine Ya rfl (Yn rfl rfl ZN (Ya rfl (Zi rfl (Ya rfl (Zi rfl (Ya rfl (Ys rfl (xK P s t hs ht (DP (k:=P (sqI s)) (by assumption))) rfl rfl rfl (Zo rfl (Zj rfl (Zf rfl (ZH ?_)))))))))))
         rw [Kf (by assumption) (by assumption) (by assumption)]
         unfold goK
         rw [if_neg (by assumption)]
         unfold Vs
         rw [show Xb P s t = true by assumption]
         rw [show YP P t = false by assumption]
         rw [decide_eq_true (show XZ P t = P (sqI s+1) by assumption)]
         rw [decide_eq_true (show P (sqI s) = 6 by assumption)]
         rfl
        ·refine ZD rfl (Zo rfl (Zj rfl (Zf rfl (ZH ?_))))
         rw [Kf (by assumption) (by assumption) (by assumption)]
         unfold goK
         rw [if_neg (by assumption)]
         unfold Vs
         rw [show Xb P s t = true by assumption]
         rw [show YP P t = false by assumption]
         rw [decide_eq_true (show XZ P t = P (sqI s+1) by assumption)]
         rw [decide_eq_false (show ¬ P (sqI s) = 6 by assumption)]
         rfl
     ·refine Z9 rfl rfl (ZC rfl (ZB rfl (YG rfl (YG rfl (YG rfl (YG rfl (YG rfl (ZB rfl (Zo rfl (Yb (ZA rfl (Yg (Zd (Zx rfl (Yl (x:=P (sqI s)) rfl rfl ZM (rfl) (Zq rfl (Zj rfl (Yr (t:=58) rfl (fun h9=>?_) (fun h9=>?_))))))))))))))))))) <;> simp only [NM] at h9
      ·refine Ya rfl (Yn rfl rfl ZN (Ya rfl (Zi rfl (Ya rfl (Zi rfl (Ya rfl (Ys rfl (xK P s t hs ht (DP (k:=P (sqI s)) (by assumption))) rfl rfl rfl (Zo rfl (Zj rfl (Zf rfl (ZH ?_)))))))))))
       rw [Kf (by assumption) (by assumption) (by assumption)]
       unfold goK
       rw [if_neg (by assumption)]
       unfold Vs
       rw [show Xb P s t = false by assumption]
       rw [decide_eq_true (show P (sqI s) = 6 by assumption)]
       rfl
      ·refine ZD rfl (Zo rfl (Zj rfl (Zf rfl (ZH ?_))))
       rw [Kf (by assumption) (by assumption) (by assumption)]
       unfold goK
       rw [if_neg (by assumption)]
       unfold Vs
       rw [show Xb P s t = false by assumption]
       rw [decide_eq_false (show ¬ P (sqI s) = 6 by assumption)]
       rfl
def Wd (P:Nat→Int) (s:Int) (n:Nat):List Mv:=if 0≤s∧s < 64 then VN P s n else []
theorem Tb (P:Nat→Int) (s:Int) (n:Nat):VN P s (n+1) = VN P s n++if WN P s n = true then toM s (P (sqI s)) (P (sqI s+1)) n else []:=by
 unfold VN X4
 rw [List.range_succ,List.map_append,List.flatMap_append]
 simp
theorem sP {P:Nat→Int} {s:Int} {n:Nat} (h:WN P s n = false):Wd P s (n+1) = Wd P s n:=by
 unfold Wd
 rw [Tb,h]; simp
theorem Uc {P:Nat→Int} {s:Int} {n:Nat} (hs:0≤s∧s < 64) (h:WN P s n = true):YV (Wd P s (n+1)) = YV (Wd P s n)++YV (toM s (P (sqI s)) (P (sqI s+1)) n):=by
 unfold Wd
 rw [if_pos hs,if_pos hs,Tb,if_pos h,QA]
theorem ES (P:Nat→Int) (s:Int):∀ n:Nat,(Wd P s n).length≤n*4
 | 0=>by unfold Wd; split <;> exact Nat.zero_le _
 | n+1=>by
  have ih:=ES P s n
  unfold Wd at ih ⊢
  split
  ·rename_i h
   rw [if_pos h] at ih
   rw [Tb,List.length_append]
   have:(if WN P s n = true then toM s (P (sqI s)) (P (sqI s+1)) n else []).length≤4:=by
    split
    ·exact j9 _ _ _ _
    ·exact Nat.zero_le _
   omega
  ·exact Nat.zero_le _
theorem Vi (P:Nat→Int) (s:Int) (n:Nat):(YV (Wd P s n)).length≤n*12:=by
 have:=ES P s n
 rw [Xm]; omega
theorem y6 {s k c t:Int} (h:k = 1∧t / 8 = 7*(1 - c)):YV (toM s k c t) = UD s t 4:=by
 unfold toM xd
 rw [if_pos (decide_eq_true h)]; rfl
theorem Rr {s k c t:Int} (h:¬ (k = 1∧t / 8 = 7*(1 - c))):YV (toM s k c t) = [s,t,0]:=by
 unfold toM xd
 rw [if_neg (by rw [decide_eq_true_eq]; exact h)]; rfl
theorem tE {P:Nat→Int} {s t:Int} (h:WN P s t = true):P (sqI s+1) = 0∨P (sqI s+1) = 1:=(RZ h).2.1
theorem rG (P:Nat→Int) (s:Int):RtR AM 59 3 [.agg 133 (ia P),.s (.int .i64 s)] [] (YV (Wd P s 64)) []:=by
 refine W7 (YI (a:=a59) rfl rfl (YH _) (ZP rfl) (m:=0) rfl (Zd (YB rfl (Yp rfl (Ze (Yp rfl (Yb (Yd (Zd (Yp rfl (Yb (Yj (Xe (.refl _) ?_)))))))))))))
 refine Xg (fun m f _ L=>∃ (i:Nat) (vO:V) (ownO:HA),(i≤64)∧(m = 64 - i)∧(Rw 3 (YV (Wd P s i)) vO ownO)∧(f 1 = .s (.int .i64 s))∧(f 2 = .ptr 0 0 133)∧(f 5 = vO)∧(f 6 = .s (.int .i64 i))∧(L = (ownO++[(0,.sc .var 133 (ia P))]))) (fun m f nb L hI=>?_) (64) (⟨0,.snil,[],by omega,rfl,.nil (by unfold Wd; split <;> rfl),rfl,rfl,rfl,rfl,rfl⟩)
 obtain ⟨i,vO,ownO,hi,hm,hrO,k1,k2,k5,k6,rfl⟩:=hI
 refine pH 1 k1 (pH 2 k2 (pH 5 k5 (pH 6 k6 (Yd (Zd (Zi rfl (Zq rfl (Zj rfl (Yr (t:=11) rfl (fun h10=>?_) (fun h10=>?_)))))))))) <;> simp only [NM] at h10
 ·refine Ya rfl (Zi rfl (Ya rfl (Zq rfl (Zo rfl (Zj rfl (Yr (t:=15) rfl (fun h11=>?_) (fun h11=>?_))))))) <;> simp only [NM] at h11
  ·refine Ya rfl (Zi rfl (Ya rfl (Zq rfl (Zo rfl (Yb (Yi rfl (fun h12=>?_) (fun h12=>?_))))))) <;> simp only [NM] at h12
   ·refine Yg (Yd (Yj (Yd (Zd (Yn rfl rfl (List.mem_append_right _ ZL) (Zi rfl (Zi rfl (Ys rfl (YF (u9 P s i ⟨by omega,by omega⟩ (by omega))) rfl rfl rfl (Yu (r:=.bool _) rfl rfl (Yb (Yi rfl (fun h13=>?_) (fun h13=>?_)))))))))))) <;> simp only [NM] at h13
    ·refine YZ (Xc (Ye (Zi rfl (Zr rfl rfl (Zi rfl (Yb (⟨64 - (i+1),_,by omega,(List.Sublist.append (.refl _) (.refl _)),i+1,_,_,by omega,rfl,?_,rfl,rfl,rfl,rfl,rfl⟩)))))))
     (rw [sP (by assumption)]; exact hrO)
    ·refine Yg (Zd ?_)
     have hgo:WN P s i = true:=by assumption
     have hgs:=tE hgo
     refine Zi rfl (Zx rfl (Zv rfl rfl rfl (Yo rfl rfl (List.mem_append_right _ ZL) (Yx (Yy rfl rfl rfl rfl .here (Ze (Zx rfl (Yl (x:=P (sqI s)) rfl rfl ZL (rfl) (Zq rfl (Zj rfl (Yr (t:=33) rfl (fun h14=>?_) (fun h14=>?_)))))))))))) <;> simp only [NM] at h14
     ·refine Ya rfl (Zy rfl (Ya rfl (Yl (x:=P (sqI s+1)) rfl rfl ZL (rfl) (Ya rfl (Zq rfl (Ya rfl (Zj rfl (Yr (t:=37) rfl (fun h15=>?_) (fun h15=>?_))))))))) <;> simp only [NM] at h15
      ·refine Ya rfl (Zi rfl (Ya rfl (Zt rfl rfl (Ya rfl (Zq rfl (Ya rfl (Zo rfl (Ya rfl (Zj rfl (Yr (t:=42) rfl (fun h16=>?_) (fun h16=>?_))))))))))) <;> simp only [NM] at h16
       ·refine ZD rfl (YG rfl (YG rfl (YG rfl (ZB rfl (Ya rfl (Zo rfl (Zo rfl (Yb (Zz rfl (Zd (Yp rfl (Yb (Yj (Xe (.cons _ (List.Sublist.append (.refl _) (.refl _))) (Xg (fun m f _ L=>∃ (j:Nat) (vP:V) (ownP:HA),(j≤4)∧(m = 4 - j)∧(Rw 3 (YV (Wd P s i)++UD s i j) vP ownP)∧(f 1 = .s (.int .i64 s))∧(f 2 = .ptr 0 0 133)∧(f 5 = vP)∧(f 6 = .s (.int .i64 i))∧(f 8 = .s (.int .i64 (2+(j:Int))))∧(L = (ownP++[(0,.sc .var 133 (ia P))]))) (fun m f nb L hI=>?_) (4) (⟨0,vO,ownO,by omega,by omega,by rw [show UD s i 0 = [] from rfl,List.append_nil]; exact hrO,rfl,rfl,rfl,rfl,rfl,rfl⟩))))))))))))))))
        obtain ⟨j,vP,ownP,hj,hm2,hrP,k1,k2,k5,k6,k8,rfl⟩:=hI
        refine pH 1 k1 (pH 2 k2 (pH 5 k5 (pH 6 k6 (pH 8 k8 (Yd (Zd (Zi rfl (Zq rfl (Yb (Yi rfl (fun h17=>?_) (fun h17=>?_))))))))))) <;> simp only [NM] at h17
        ·refine Yg (Yd (Yj (Ye (Yp (v:=vP) rfl (Zi rfl (Zi rfl (Zi rfl (YA rfl (.one rfl (.one rfl (.one rfl .nil))) (Wm rfl (.agg rfl .nil) (Xx (c:=[s,(i:Int),2+(j:Int)]) rfl hrP rfl ZL (.there .here) (by decide) (by decide) rfl ((U7 rfl rfl rfl)) (by have e1:=Vi P s i; have e2:=TL s i j; rw [List.length_append]; omega) (fun v1 own1 n1 hr1=>Yp (v:=v1) rfl (Yb (Ye (Zi rfl (Zr rfl rfl (Zi rfl (Yb (⟨4 - (j+1),_,by omega,(List.Sublist.append (.refl _) (.cons _ (.refl _))),j+1,_,_,by omega,rfl,?_,rfl,rfl,rfl,rfl,by rw [show (2:Int)+((j+1:Nat):Int) = 2+(j:Int)+1 by omega]; rfl,rfl⟩))))))))))))))))))
         rw [JM _ _ _ (by omega),← List.append_assoc]; exact hr1
        ·refine YZ (Xc (Ye (Zi rfl (Zr rfl rfl (Zi rfl (Yb (⟨64 - (i+1),_,by omega,(List.Sublist.append (.refl _) (.refl _)),i+1,_,_,by omega,rfl,?_,rfl,rfl,rfl,rfl,rfl⟩)))))))
         (rw [Uc ⟨by omega,by omega⟩ hgo,y6 (by omega)]; obtain rfl:j = 4:=(by omega); exact hrP)
       ·refine Ya rfl (Zy rfl (Ya rfl (Yl (x:=P (sqI s+1)) rfl rfl ZL (rfl) (Ya rfl (Zq rfl (Ya rfl (Zj rfl (Yr (t:=46) rfl (fun h18=>?_) (fun h18=>?_))))))))) <;> simp only [NM] at h18
        ·refine Ya rfl (Zi rfl (Ya rfl (Zt rfl rfl (Ya rfl (Zq rfl (Ya rfl (Zo rfl (Ya rfl (Zo rfl (Zo rfl (Yb (Yi rfl (fun h19=>?_) (fun h19=>?_))))))))))))) <;> simp only [NM] at h19
         ·refine Zd (Yp rfl (Yb (Yj (Xe (.cons _ (List.Sublist.append (.refl _) (.refl _))) (Xg (fun m f _ L=>∃ (j:Nat) (vP:V) (ownP:HA),(j≤4)∧(m = 4 - j)∧(Rw 3 (YV (Wd P s i)++UD s i j) vP ownP)∧(f 1 = .s (.int .i64 s))∧(f 2 = .ptr 0 0 133)∧(f 5 = vP)∧(f 6 = .s (.int .i64 i))∧(f 8 = .s (.int .i64 (2+(j:Int))))∧(L = (ownP++[(0,.sc .var 133 (ia P))]))) (fun m f nb L hI=>?_) (4) (⟨0,vO,ownO,by omega,by omega,by rw [show UD s i 0 = [] from rfl,List.append_nil]; exact hrO,rfl,rfl,rfl,rfl,rfl,rfl⟩))))))
          obtain ⟨j,vP,ownP,hj,hm2,hrP,k1,k2,k5,k6,k8,rfl⟩:=hI
          refine pH 1 k1 (pH 2 k2 (pH 5 k5 (pH 6 k6 (pH 8 k8 (Yd (Zd (Zi rfl (Zq rfl (Yb (Yi rfl (fun h20=>?_) (fun h20=>?_))))))))))) <;> simp only [NM] at h20
          ·refine Yg (Yd (Yj (Ye (Yp (v:=vP) rfl (Zi rfl (Zi rfl (Zi rfl (YA rfl (.one rfl (.one rfl (.one rfl .nil))) (Wm rfl (.agg rfl .nil) (Xx (c:=[s,(i:Int),2+(j:Int)]) rfl hrP rfl ZL (.there .here) (by decide) (by decide) rfl ((U7 rfl rfl rfl)) (by have e1:=Vi P s i; have e2:=TL s i j; rw [List.length_append]; omega) (fun v2 own2 n2 hr2=>Yp (v:=v2) rfl (Yb (Ye (Zi rfl (Zr rfl rfl (Zi rfl (Yb (⟨4 - (j+1),_,by omega,(List.Sublist.append (.refl _) (.cons _ (.refl _))),j+1,_,_,by omega,rfl,?_,rfl,rfl,rfl,rfl,by rw [show (2:Int)+((j+1:Nat):Int) = 2+(j:Int)+1 by omega]; rfl,rfl⟩))))))))))))))))))
           rw [JM _ _ _ (by omega),← List.append_assoc]; exact hr2
          ·refine YZ (Xc (Ye (Zi rfl (Zr rfl rfl (Zi rfl (Yb (⟨64 - (i+1),_,by omega,(List.Sublist.append (.refl _) (.refl _)),i+1,_,_,by omega,rfl,?_,rfl,rfl,rfl,rfl,rfl⟩)))))))
           (rw [Uc ⟨by omega,by omega⟩ hgo,y6 (by omega)]; obtain rfl:j = 4:=(by omega); exact hrP)
         ·refine Ye (Yp (v:=vO) rfl (Zi rfl (Zi rfl (YA rfl (.one rfl (.one rfl .nil)) (Wm rfl (.agg rfl .nil) (Xx (c:=[s,(i:Int),0]) rfl hrO rfl ZL (.there (.there .here)) (by decide) (by decide) rfl ((U7 rfl rfl rfl)) (by have:=Vi P s i; omega) (fun v3 own3 n3 hr3=>Yp (v:=v3) rfl (Yb (Ye (Zi rfl (Zr rfl rfl (Zi rfl (Yb (⟨64 - (i+1),_,by omega,(List.Sublist.append (.refl _) (.cons _ (.cons _ (.refl _)))),i+1,_,_,by omega,rfl,?_,rfl,rfl,rfl,rfl,rfl⟩))))))))))))))
          (rw [Uc ⟨by omega,by omega⟩ hgo,Rr (by omega)]; exact hr3)
        ·refine ZC rfl (ZB rfl (Ya rfl (Zo rfl (Ya rfl (Zo rfl (Zo rfl (Yb (ZA rfl (Ye (Yp (v:=vO) rfl (Zi rfl (Zi rfl (YA rfl (.one rfl (.one rfl .nil)) (Wm rfl (.agg rfl .nil) (Xx (c:=[s,(i:Int),0]) rfl hrO rfl ZL (.there (.there .here)) (by decide) (by decide) rfl ((U7 rfl rfl rfl)) (by have:=Vi P s i; omega) (fun v4 own4 n4 hr4=>Yp (v:=v4) rfl (Yb (Ye (Zi rfl (Zr rfl rfl (Zi rfl (Yb (⟨64 - (i+1),_,by omega,(List.Sublist.append (.refl _) (.cons _ (.cons _ (.refl _)))),i+1,_,_,by omega,rfl,?_,rfl,rfl,rfl,rfl,rfl⟩)))))))))))))))))))))))
         (rw [Uc ⟨by omega,by omega⟩ hgo,Rr (by omega)]; exact hr4)
      ·refine ZC rfl (ZB rfl (Ya rfl (Zo rfl (Ya rfl (Zj rfl (Ya rfl (Zy rfl (Ya rfl (Yl (x:=P (sqI s+1)) rfl rfl ZL (rfl) (Ya rfl (Zq rfl (Ya rfl (Zj rfl (Yr (t:=46) rfl (fun h21=>?_) (fun h21=>?_))))))))))))))) <;> simp only [NM] at h21
       ·refine Ya rfl (Zi rfl (Ya rfl (Zt rfl rfl (Ya rfl (Zq rfl (Ya rfl (Zo rfl (Ya rfl (Zo rfl (Zo rfl (Yb (Yi rfl (fun h22=>?_) (fun h22=>?_))))))))))))) <;> simp only [NM] at h22
        ·refine Zd (Yp rfl (Yb (Yj (Xe (.cons _ (List.Sublist.append (.refl _) (.refl _))) (Xg (fun m f _ L=>∃ (j:Nat) (vP:V) (ownP:HA),(j≤4)∧(m = 4 - j)∧(Rw 3 (YV (Wd P s i)++UD s i j) vP ownP)∧(f 1 = .s (.int .i64 s))∧(f 2 = .ptr 0 0 133)∧(f 5 = vP)∧(f 6 = .s (.int .i64 i))∧(f 8 = .s (.int .i64 (2+(j:Int))))∧(L = (ownP++[(0,.sc .var 133 (ia P))]))) (fun m f nb L hI=>?_) (4) (⟨0,vO,ownO,by omega,by omega,by rw [show UD s i 0 = [] from rfl,List.append_nil]; exact hrO,rfl,rfl,rfl,rfl,rfl,rfl⟩))))))
         obtain ⟨j,vP,ownP,hj,hm2,hrP,k1,k2,k5,k6,k8,rfl⟩:=hI
         refine pH 1 k1 (pH 2 k2 (pH 5 k5 (pH 6 k6 (pH 8 k8 (Yd (Zd (Zi rfl (Zq rfl (Yb (Yi rfl (fun h23=>?_) (fun h23=>?_))))))))))) <;> simp only [NM] at h23
         ·refine Yg (Yd (Yj (Ye (Yp (v:=vP) rfl (Zi rfl (Zi rfl (Zi rfl (YA rfl (.one rfl (.one rfl (.one rfl .nil))) (Wm rfl (.agg rfl .nil) (Xx (c:=[s,(i:Int),2+(j:Int)]) rfl hrP rfl ZL (.there .here) (by decide) (by decide) rfl ((U7 rfl rfl rfl)) (by have e1:=Vi P s i; have e2:=TL s i j; rw [List.length_append]; omega) (fun v5 own5 n5 hr5=>Yp (v:=v5) rfl (Yb (Ye (Zi rfl (Zr rfl rfl (Zi rfl (Yb (⟨4 - (j+1),_,by omega,(List.Sublist.append (.refl _) (.cons _ (.refl _))),j+1,_,_,by omega,rfl,?_,rfl,rfl,rfl,rfl,by rw [show (2:Int)+((j+1:Nat):Int) = 2+(j:Int)+1 by omega]; rfl,rfl⟩))))))))))))))))))
          rw [JM _ _ _ (by omega),← List.append_assoc]; exact hr5
         ·refine YZ (Xc (Ye (Zi rfl (Zr rfl rfl (Zi rfl (Yb (⟨64 - (i+1),_,by omega,(List.Sublist.append (.refl _) (.refl _)),i+1,_,_,by omega,rfl,?_,rfl,rfl,rfl,rfl,rfl⟩)))))))
          (rw [Uc ⟨by omega,by omega⟩ hgo,y6 (by omega)]; obtain rfl:j = 4:=(by omega); exact hrP)
        ·refine Ye (Yp (v:=vO) rfl (Zi rfl (Zi rfl (YA rfl (.one rfl (.one rfl .nil)) (Wm rfl (.agg rfl .nil) (Xx (c:=[s,(i:Int),0]) rfl hrO rfl ZL (.there (.there .here)) (by decide) (by decide) rfl ((U7 rfl rfl rfl)) (by have:=Vi P s i; omega) (fun v6 own6 n6 hr6=>Yp (v:=v6) rfl (Yb (Ye (Zi rfl (Zr rfl rfl (Zi rfl (Yb (⟨64 - (i+1),_,by omega,(List.Sublist.append (.refl _) (.cons _ (.cons _ (.refl _)))),i+1,_,_,by omega,rfl,?_,rfl,rfl,rfl,rfl,rfl⟩))))))))))))))
         (rw [Uc ⟨by omega,by omega⟩ hgo,Rr (by omega)]; exact hr6)
       ·refine ZC rfl (ZB rfl (Ya rfl (Zo rfl (Ya rfl (Zo rfl (Zo rfl (Yb (ZA rfl (Ye (Yp (v:=vO) rfl (Zi rfl (Zi rfl (YA rfl (.one rfl (.one rfl .nil)) (Wm rfl (.agg rfl .nil) (Xx (c:=[s,(i:Int),0]) rfl hrO rfl ZL (.there (.there .here)) (by decide) (by decide) rfl ((U7 rfl rfl rfl)) (by have:=Vi P s i; omega) (fun v7 own7 n7 hr7=>Yp (v:=v7) rfl (Yb (Ye (Zi rfl (Zr rfl rfl (Zi rfl (Yb (⟨64 - (i+1),_,by omega,(List.Sublist.append (.refl _) (.cons _ (.cons _ (.refl _)))),i+1,_,_,by omega,rfl,?_,rfl,rfl,rfl,rfl,rfl⟩)))))))))))))))))))))))
        (rw [Uc ⟨by omega,by omega⟩ hgo,Rr (by omega)]; exact hr7)
     ·refine ZD rfl (YG rfl (YG rfl (YG rfl (ZC rfl (YG rfl (YG rfl (YG rfl (YG rfl (YG rfl (YG rfl (YG rfl (YG rfl (ZB rfl (Zo rfl (Yb (ZA rfl (Ye (Yp (v:=vO) rfl (Zi rfl (Zi rfl (YA rfl (.one rfl (.one rfl .nil)) (Wm rfl (.agg rfl .nil) (Xx (c:=[s,(i:Int),0]) rfl hrO rfl ZL (.there (.there .here)) (by decide) (by decide) rfl ((U7 rfl rfl rfl)) (by have:=Vi P s i; omega) (fun v8 own8 n8 hr8=>Yp (v:=v8) rfl (Yb (Ye (Zi rfl (Zr rfl rfl (Zi rfl ?_)))))))))))))))))))))))))))))
      refine Yb (⟨64 - (i+1),_,by omega,(List.Sublist.append (.refl _) (.cons _ (.cons _ (.refl _)))),i+1,_,_,by omega,rfl,?_,rfl,rfl,rfl,rfl,rfl⟩)
      (rw [Uc ⟨by omega,by omega⟩ hgo,Rr (by omega)]; exact hr8)
   ·refine YZ (Xc (Zd (Yp (v:=vO) rfl (Yp (v:=vO) rfl (Yb (Yh (⟨_,YK (v:=vO) rfl (YS),?_⟩)))))))
    have e:Wd P s 64 = Wd P s i:=by
     by_cases e:0≤s∧s < 64
     · obtain rfl : i = 64 := by omega
       rfl
     · unfold Wd; rw [if_neg e,if_neg e]
    exact ⟨_,e ▸ hrO,(fun _ h=>(List.mem_append_left _ h))⟩
  ·refine ZC rfl (Zo rfl (Yb (ZA rfl (YZ (Xc (Zd (Yp (v:=vO) rfl (Yp (v:=vO) rfl (Yb (Yh (⟨_,YK (v:=vO) rfl (YS),?_⟩)))))))))))
   have e:Wd P s 64 = Wd P s i:=by
    by_cases e:0≤s∧s < 64
    · obtain rfl : i = 64 := by omega
      rfl
    · unfold Wd; rw [if_neg e,if_neg e]
   exact ⟨_,e ▸ hrO,(fun _ h=>(List.mem_append_left _ h))⟩
 ·refine ZC rfl (Zo rfl (Zj rfl (ZC rfl (Zo rfl (Yb (ZA rfl (YZ (Xc (Zd (Yp (v:=vO) rfl (Yp (v:=vO) rfl (Yb (Yh (⟨_,YK (v:=vO) rfl (YS),?_⟩))))))))))))))
  have e:Wd P s 64 = Wd P s i:=by
   by_cases e:0≤s∧s < 64
   · obtain rfl : i = 64 := by omega
     rfl
   · unfold Wd; rw [if_neg e,if_neg e]
  exact ⟨_,e ▸ hrO,(fun _ h=>(List.mem_append_left _ h))⟩
theorem D2 (P:Nat→Int):∀ n:Nat,n≤64→(UB P n).length≤n*256
 | 0,_=>Nat.zero_le _
 | n+1,hn=>by
  have ih:=D2 P n (by omega)
  rw [xx,List.length_append]
  have h2:=ES P n 64
  unfold Wd at h2
  rw [if_pos (show 0≤(n:Int)∧(n:Int) < 64 by omega)] at h2
  omega
theorem dAll_rt (P:Nat→Int):RtR AM 44 3 [.agg 133 (ia P)] [] (YV (UB P 64)) []:=by
 refine W7 (YI (a:=a44) rfl rfl (YH _) (ZP rfl) (m:=0) rfl (Zd (YB rfl (Yp rfl (Ze (Yp rfl (Yb (Yd (Zd (Yp rfl (Yb (Yj (Xe (.refl _) (Xg (fun m f _ L=>∃ (i:Nat) (vO:V) (ownO:HA),(i≤64)∧(m = 64 - i)∧(Rw 3 (YV (UB P i)) vO ownO)∧(f 1 = .ptr 0 0 133)∧(f 3 = vO)∧(f 4 = .s (.int .i64 i))∧(L = (ownO++[(0,.sc .var 133 (ia P))]))) (fun m f nb L hI=>?_) (64) (⟨0,.snil,[],by omega,rfl,.nil rfl,rfl,rfl,rfl,rfl⟩)))))))))))))))
 obtain ⟨i,vO,ownO,hi,hm,hrO,k1,k3,k4,rfl⟩:=hI
 refine pH 1 k1 (pH 3 k3 (pH 4 k4 (Yd (Zd (Zi rfl (Zq rfl (Yb (Yi rfl (fun h24=>?_) (fun h24=>?_))))))))) <;> simp only [NM] at h24
 ·refine Yg (Yd (Yj (Ye (Yp (v:=vO) rfl (Yn rfl rfl (List.mem_append_right _ ZL) (Zi rfl (YD rfl (rG P i) rfl rfl (fun v1 own1 n1 hr1=>TQ rfl hrO rfl (hr1.rx) (fun _ h=>(List.mem_append_left _ h)) (Dr.appR _ .here) (by decide) (by have e1:=D2 P i (by omega); have e2:=Vi P i 64; rw [Xm]; omega) (fun v2 own2 n2 hr2=>Yp (v:=v2) rfl (Yb (Ye (Zi rfl (Zr rfl rfl (Zi rfl (Yb (⟨64 - (i+1),_,by omega,(List.Sublist.append (.refl _) (List.sublist_append_of_sublist_right (.refl _))),i+1,_,_,by omega,rfl,?_,rfl,rfl,rfl,rfl⟩))))))))))))))))
  rw [xx,QA,show VN P i 64 = Wd P i 64 from (if_pos ⟨by omega,by omega⟩).symm]; exact hr2
 ·refine YZ (Xc (Zd (Yp (v:=vO) rfl (Yp (v:=vO) rfl (Yb (Yh (⟨_,YK (v:=vO) rfl (YS),?_⟩)))))))
  obtain rfl:i = 64:=by omega
  exact ⟨_,hrO,(fun _ h=>(List.mem_append_left _ h))⟩
theorem JV (P:Nat→Int):WR AM 28 [.agg 133 (ia P)] [] (fun v _ _=>v = .s (.bool (XG P))):=by
 refine YI (a:=a28) rfl rfl (YH _) (ZP rfl) (m:=0) rfl (Zd (YB rfl (Yp rfl (Yb (Yd (Yf (Yn rfl rfl ZL (Ys rfl (YF (vy P)) rfl rfl rfl (Zj rfl (Yr (t:=5) rfl (fun h1=>?_) (fun h1=>?_)))))))))))
 ·refine Ya rfl (Yn rfl rfl ZL (Ya rfl (Yc (o':=128) rfl rfl rfl (Ya rfl (Yl (x:=P 128) rfl rfl ZL (rfl) (Ya rfl (Yt rfl (YF (WQ _)) rfl rfl rfl (Ya rfl (Ys rfl (YF (Ks P _)) rfl rfl rfl (Ya rfl (Yu (r:=.bool _) rfl rfl (Zo rfl (Zj rfl (Zf rfl (ZH ?_)))))))))))))))
  unfold XG
  (rw [show Vq P = true by assumption]; rfl)
 ·refine Z9 rfl rfl (ZD rfl (ZB rfl (Zo rfl (Zj rfl (Zf rfl (ZH ?_))))))
  unfold XG
  (rw [show Vq P = false by assumption]; rfl)
theorem vp (P X:Nat→Int) (ha:0≤X 0∧X 0 < 64) (ht:0≤X 1∧X 1 < 64):WR AM 61 [.agg 133 (ia P),.agg 3 (ia X)] [] (fun v _ _=>v = .s (.bool (X8 P (X 0) (X 1)))):=by
 refine YI (a:=a61) rfl rfl (YH _) (ZP rfl) (m:=0) rfl (Zd (YB rfl (YB rfl (Yp rfl (Ze (Zx rfl (Yl rfl rfl ZL rfl (Zx rfl (Zv rfl rfl rfl (Yc rfl rfl rfl (Yl (x:=P (sqI (X 0))) rfl rfl ZM (rfl) (Zq rfl (Zj rfl (Yr (t:=12) rfl (fun h2=>?_) (fun h2=>?_))))))))))))))) <;> simp only [NM] at h2
 ·refine Ya rfl (Zy rfl (Ya rfl (Yl rfl rfl ZL rfl (Ya rfl (Zx rfl (Ya rfl (Yl rfl rfl ZL rfl (Ya rfl (Zr rfl rfl (Ya rfl (Zq rfl (Ya rfl (Zj rfl (Yr (t:=19) rfl (fun h3=>?_) (fun h3=>?_))))))))))))))) <;> simp only [NM] at h3
  ·refine ZD rfl (ZC rfl (Ya rfl (Zo rfl (Zo rfl (Zj rfl (Zf rfl (ZH ?_)))))))
   unfold X8
   (rw [decide_eq_true (by omega)]; done)
  ·refine Ya rfl (Zy rfl (Ya rfl (Yl rfl rfl ZL rfl (Ya rfl (Zx rfl (Ya rfl (Yl rfl rfl ZL rfl (Ya rfl (Zs rfl rfl (Ya rfl (Zq rfl (Ya rfl (Zo rfl (Zo rfl (Zj rfl (Zf rfl (ZH ?_)))))))))))))))))
   unfold X8
   (rw [Bool.eq_iff_iff]; simp only [beq_iff_eq,decide_eq_true_eq]; omega)
 ·refine ZD rfl (ZC rfl (ZB rfl (YG rfl (YG rfl (YG rfl (YG rfl (YG rfl (YG rfl (ZB rfl (Zo rfl (Zj rfl (Zf rfl (ZH ?_)))))))))))))
  unfold X8
  (rw [decide_eq_false (by omega)]; done)
def W6 (P:Nat→Int) (m:Mv):Bool:=decide (Wk P m.1 m.2.1 m.2.2 = 0) && (!Xu (XI P m.1 m.2.1 m.2.2) (P 128) && (!X8 P m.1 m.2.1 || (!Xu P (P 128) && !([(m.1+m.2.1) / 2].any (isR P (Y0 (P 128)))))))
section
variable {P:Nat→Int} {m:Mv}
theorem fine_a (h:Wk P m.1 m.2.1 m.2.2 ≠ 0):W6 P m = false:=by unfold W6; rw [decide_eq_false h]; rfl
theorem fine_b (h:Xu (XI P m.1 m.2.1 m.2.2) (P 128) = true):W6 P m = false:=by unfold W6; rw [h]; simp
theorem qP (h1:Wk P m.1 m.2.1 m.2.2 = 0) (h2:Xu (XI P m.1 m.2.1 m.2.2) (P 128) = false):W6 P m = (!X8 P m.1 m.2.1 || (!Xu P (P 128) && !([(m.1+m.2.1) / 2].any (isR P (Y0 (P 128)))))):=by unfold W6; rw [decide_eq_true h1,h2]; rfl
end
theorem sC (P X:Nat→Int) (ha:0≤X 0∧X 0 < 64) (ht:0≤X 1∧X 1 < 64):WR AM 45 [.agg 133 (ia P),.agg 3 (ia X)] [] (fun v _ _=>v = .s (.bool (W6 P (X 0,X 1,X 2)))):=by
 refine YI (a:=a45) rfl rfl (YH _) (ZP rfl) (m:=0) rfl (Zd (YB rfl (YB rfl (Yp rfl (Ze ?_)))))
 have hmove:=YF (vD P X)
 have hid:ovA (fun _=>0) 0 133 (XI P (X 0) (X 1) (X 2)) = (XI P (X 0) (X 1) (X 2)):=JA (fun i hi=>x6 hi)
 have hchk:=YF (Ks (ovA (fun _=>0) 0 133 (XI P (X 0) (X 1) (X 2))) (P 128))
 rw [show Xu (ovA (fun _=>0) 0 133 (XI P (X 0) (X 1) (X 2))) (P 128) = Xu (XI P (X 0) (X 1) (X 2)) (P 128) by rw [hid]] at hchk
 refine Yn rfl rfl ZM (Yn rfl rfl ZL (Ys rfl (hmove) rfl rfl rfl (Zn rfl (YC (v:=.agg _ _) rfl rfl (YC (v:=.s (.int _ _)) rfl rfl (Yx (Yy rfl rfl rfl rfl .here (Zi rfl (Yb (Yd (Zd (Zi rfl (Zq rfl (Zj rfl (Yr (t:=15) rfl (fun h4=>?_) (fun h4=>?_)))))))))))))))) <;> simp only [NM] at h4
 ·refine ZD rfl (Zo rfl (Yb (Zz rfl (Zd (Yp rfl (Zf rfl (ZH ?_)))))))
  exact (fine_a (m:=(X 0,X 1,X 2)) (by assumption)).symm
 ·refine Ya rfl (Yn rfl rfl ZL (Ya rfl (Yc (o':=128) rfl rfl rfl (Ya rfl (Yl (x:=P 128) rfl rfl ZN (rfl) (Ya rfl (Ys rfl (hchk) rfl rfl rfl (Zo rfl (Yb (Yi rfl (fun h5=>?_) (fun h5=>?_)))))))))))
  ·refine Zd (Yp rfl (Zf rfl (ZH ?_)))
   exact (fine_b (m:=(X 0,X 1,X 2)) (by assumption)).symm
  ·refine Yg (Yd (Zd (Yn rfl rfl ZN (Yn rfl rfl ZM (Ys rfl (YF (vp P X ha ht)) rfl rfl rfl (Yu (r:=.bool _) rfl rfl (Yb (Yi rfl (fun h6=>?_) (fun h6=>?_))))))))) <;> simp only [NM] at h6
   ·refine Zd (Yp rfl (Zf rfl (ZH ?_)))
    rw [qP (m:=(X 0,X 1,X 2)) (by assumption) (by assumption)]
    show _ = (!X8 P (X 0) (X 1) || (!Xu P (P 128) && !([(X 0+X 1) / 2].any (isR P (Y0 (P 128))))))
    rw [show X8 P (X 0) (X 1) = false by assumption]
    rfl
   ·refine Yg (Yd (Yf (Yn rfl rfl ZN (Yc (o':=128) rfl rfl rfl (Yl (x:=P 128) rfl rfl ZN (rfl) (Ys rfl (YF (Ks P (P 128))) rfl rfl rfl (Yu (r:=.bool _) rfl rfl (Zj rfl (Yr (t:=30) rfl (fun h7=>?_) (fun h7=>?_)))))))))) <;> simp only [NM] at h7
    ·refine Ya rfl (Yn rfl rfl ZN (Ya rfl (Yc (o':=128) rfl rfl rfl (Ya rfl (Yl (x:=P 128) rfl rfl ZN (rfl) (Ya rfl (Yt rfl (YF (WQ _)) rfl rfl rfl (Ya rfl (Zx rfl (Ya rfl (Yl (x:=X 0) rfl rfl ZM (rfl) (Ya rfl (Zy rfl (Ya rfl (Yl (x:=X 1) rfl rfl ZM (rfl) (Ya rfl (Zr rfl rfl (Ya rfl (Zt rfl rfl (Ya rfl (Xd rfl (.one rfl .nil) (Ya rfl (VF (caps:=[]) rfl (wQ P (Y0 (P 128)) [(X 0+X 1) / 2] (YE rfl)) rfl ((.row rfl Da)) (KG ZL) rfl rfl rfl (Ya rfl (Yu (r:=.bool _) rfl rfl (Zo rfl (Zj rfl (Zf rfl (ZH ?_)))))))))))))))))))))))))))))
     rw [qP (m:=(X 0,X 1,X 2)) (by assumption) (by assumption)]
     show _ = (!X8 P (X 0) (X 1) || (!Xu P (P 128) && !([(X 0+X 1) / 2].any (isR P (Y0 (P 128))))))
     rw [show X8 P (X 0) (X 1) = true by assumption]
     rw [show Xu P (P 128) = false by assumption]
     rfl
    ·refine ZE rfl (ZD rfl (ZB rfl (Zo rfl (Zj rfl (Zf rfl (ZH ?_))))))
     rw [qP (m:=(X 0,X 1,X 2)) (by assumption) (by assumption)]
     show _ = (!X8 P (X 0) (X 1) || (!Xu P (P 128) && !([(X 0+X 1) / 2].any (isR P (Y0 (P 128))))))
     rw [show X8 P (X 0) (X 1) = true by assumption]
     rw [show Xu P (P 128) = true by assumption]
     rfl
def KC (P:Nat→Int):List Mv:=if XG P = true then (UB P 64).filter (W6 P) else []
theorem fin_yes {P X:Nat→Int} {l:List Mv} {i:Nat} (hi:i < l.length) (h0:X 0 = (l.getD i (0,0,0)).1) (h1:X 1 = (l.getD i (0,0,0)).2.1) (h2:X 2 = (l.getD i (0,0,0)).2.2) (h:W6 P (X 0,X 1,X 2) = true):YV ((l.take i).filter (W6 P))++[X 0,X 1,X 2] = YV ((l.take (i+1)).filter (W6 P)):=by
 have e:(X 0,X 1,X 2) = l.getD i (0,0,0):=Prod.ext h0 (Prod.ext h1 h2)
 rw [W5 (0,0,0) hi,List.filter_append,List.filter_cons,← e,h,if_pos rfl,QA]; rfl
theorem fin_no {P X:Nat→Int} {l:List Mv} {i:Nat} (hi:i < l.length) (h0:X 0 = (l.getD i (0,0,0)).1) (h1:X 1 = (l.getD i (0,0,0)).2.1) (h2:X 2 = (l.getD i (0,0,0)).2.2) (h:W6 P (X 0,X 1,X 2) = false):YV ((l.take (i+1)).filter (W6 P)) = YV ((l.take i).filter (W6 P)):=by
 have e:(X 0,X 1,X 2) = l.getD i (0,0,0):=Prod.ext h0 (Prod.ext h1 h2)
 rw [W5 (0,0,0) hi,List.filter_append,List.filter_cons,← e,h,if_neg (by decide)]; simp
theorem jC (P:Nat→Int) {l:List Mv} (i:Nat):(YV ((l.take i).filter (W6 P))).length≤l.length*3:=by
 have h1:=List.length_filter_le (W6 P) (l.take i)
 rw [List.length_take] at h1
 rw [Xm]; omega
theorem uB (P:Nat→Int):RtR AM 27 3 [.agg 133 (ia P)] [] (YV (KC P)) []:=by
 refine W7 (YI (a:=a27) rfl rfl (YH _) (ZP rfl) (m:=0) rfl (Zd (YB rfl (Yp rfl (Yb (Yd (Zd (Yn rfl rfl ZL (Ys rfl (YF (JV P)) rfl rfl rfl (Yu (r:=.bool _) rfl rfl (Yb (Yi rfl (fun h8=>?_) (fun h8=>?_))))))))))))) <;> simp only [NM] at h8
 ·refine Zd (Yp rfl (Yb (Yh (⟨_,YK (v:=.snil) rfl (YS),?_⟩))))
  have e:KC P = []:=by unfold KC; rw [if_neg (by rw [show XG P = false by assumption]; decide)]
  exact ⟨[],.nil (by rw [e]; rfl),fun _ h=>by cases h⟩
 ·refine Yg (Zd (Yp rfl (Ze ?_)))
  obtain ⟨l,hleq⟩:∃ l,l = UB P 64:=⟨_,rfl⟩
  have hall:=dAll_rt P
  rw [← hleq] at hall
  have hlen:=D2 P 64 (by omega)
  rw [← hleq] at hlen
  refine Yn rfl rfl ZL (YD rfl (hall) rfl rfl (fun v1 own1 n1 hr1=>Yp (v:=v1) rfl (Yb (Yd (Zd (Yp rfl (Yb (Yj (Xe (List.Sublist.append (.refl _) (.refl _)) (Xg (fun m f _ L=>∃ (i:Nat) (vO:V) (ownO:HA),(i≤l.length)∧(m = l.length - i)∧(Rw 3 (YV ((l.take i).filter (W6 P))) vO ownO)∧(f 1 = .ptr 0 0 133)∧(f 3 = vO)∧(f 4 = v1)∧(f 5 = .s (.int .i64 i))∧(L = (ownO++(own1++[(0,.sc .var 133 (ia P))])))) (fun m f nb L hI=>?_) (l.length) (⟨0,.snil,[],by omega,by omega,Rw.nil rfl,rfl,rfl,rfl,rfl,rfl⟩)))))))))))
  obtain ⟨i,vO,ownO,hi,hm,hrO,k1,k3,k4,k5,rfl⟩:=hI
  refine pH 1 k1 (pH 3 k3 (pH 4 k4 (pH 5 k5 (Yd (Zd (Zi rfl (Yp (v:=v1) rfl (Vn rfl hr1.rx (by decide) (Xm l) (Zq rfl (Yb (Yi rfl (fun h9=>?_) (fun h9=>?_)))))))))))) <;> simp only [NM] at h9
  ·refine Yg (Yd (Yj (Yd (Yf (Yn rfl rfl (List.mem_append_right _ (List.mem_append_right _ ZL)) (Yp (v:=v1) rfl (Zi rfl ?_)))))))
   obtain ⟨b1,q1,md1,c1,F1,rfl,rfl,hF1⟩:=hr1.rx.at (by decide) (Xm l) (by omega)
   refine Zw rfl rfl ?_
   obtain ⟨hx0,hx1,hx2⟩:=su hF1 (i:=i) (by omega)
   obtain ⟨hba,hbt,_,_⟩:=D9 (P:=P) (m:=l.getD i (0,0,0)) (by rw [← hleq]; exact mv_in (by omega))
   have hfine:=YF (sC P (dp F1 (0+(i:Int).toNat*3)) (by rw [show (dp F1 (0+(i:Int).toNat*3)) 0 = _ from hx0]; exact hba) (by rw [show (dp F1 (0+(i:Int).toNat*3)) 1 = _ from hx1]; exact hbt))
   refine Yo rfl rfl (List.mem_append_right _ ZL) (Ys rfl (hfine) rfl rfl rfl (Yb (Yi rfl (fun h10=>?_) (fun h10=>?_))))
   ·refine Ye (Yp (v:=vO) rfl (Zm rfl (Zi rfl (Zw rfl rfl (Yo rfl rfl (List.mem_append_right _ ZL) (Wm rfl (.agg rfl .nil) (Xx (c:=[(dp F1 (0+(i:Int).toNat*3)) 0,(dp F1 (0+(i:Int).toNat*3)) 1,(dp F1 (0+(i:Int).toNat*3)) 2]) rfl hrO rfl ZL (.there .here) (by decide) (by decide) rfl ((U7 rfl rfl rfl)) (by have:=jC P (l:=l) i; omega) (fun v2 own2 n2 hr2=>Yp (v:=v2) rfl (Yb (Ye (Zi rfl (Zr rfl rfl (Zi rfl (Yb (⟨l.length - (i+1),_,by omega,(List.Sublist.append (.refl _) (.cons _ (.refl _))),i+1,_,_,by omega,rfl,?_,rfl,rfl,rfl,rfl,rfl⟩)))))))))))))))
    (rw [← fin_yes (P:=P) (by omega) hx0 hx1 hx2 (by assumption)]; exact hr2)
   ·refine Yg (Ye (Zi rfl (Zr rfl rfl (Zi rfl (Yb (⟨l.length - (i+1),_,by omega,(List.Sublist.append (.refl _) (.refl _)),i+1,_,_,by omega,rfl,?_,rfl,rfl,rfl,rfl,rfl⟩))))))
    (rw [fin_no (P:=P) (by omega) hx0 hx1 hx2 (by assumption)]; exact hrO)
  ·refine YZ (Xc (Zd (Yp (v:=vO) rfl (Yp (v:=vO) rfl (Yb (Yh (⟨_,YK (v:=vO) rfl (YS),?_⟩)))))))
   obtain rfl:i = l.length:=by omega
   rw [List.take_length] at hrO
   have e:KC P = l.filter (W6 P):=by rw [hleq]; exact if_pos (by assumption)
   exact ⟨_,e ▸ hrO,(fun _ h=>(List.mem_append_left _ h))⟩
def wE (s:Int):Int:=if s = 1 then 2 else 1
def ofN (P:Nat→Int) (n:Nat):Int × Int:=if XG P = false∨0 < n then (0,0) else if Xu P (P 128) = true then (wE (Y0 (P 128)),1) else (3,2)
section
variable {P:Nat→Int} {n:Nat}
theorem yB (h:XG P = false∨0 < n):ofN P n = (0,0):=if_pos h
theorem of_go (h1:XG P = true) (h2:¬ 0 < n):¬ (XG P = false∨0 < n):=fun h=>h.elim (fun h=>by rw [h1] at h; cases h) h2
theorem x5 (h1:XG P = true) (h2:¬ 0 < n) (h3:Xu P (P 128) = true):ofN P n = (wE (Y0 (P 128)),1):=by
 unfold ofN; rw [if_neg (of_go h1 h2),if_pos h3]
theorem w6 (h1:XG P = true) (h2:¬ 0 < n) (h3:Xu P (P 128) = false):ofN P n = (3,2):=by
 unfold ofN; rw [if_neg (of_go h1 h2),if_neg (by rw [h3]; decide)]
end
theorem zE (s:Int):WR AM 14 [.s (.int .i64 s)] [] (fun v _ _=>v = .s (.int .i64 (wE s))):=by
 refine YI (a:=a14) rfl rfl (YH _) (ZP rfl) (m:=0) rfl (Zd (Yp rfl (Yb (Yd (Zd (Zi rfl (Zq rfl (Yb (Yi rfl (fun h11=>?_) (fun h11=>?_)))))))))) <;> simp only [NM] at h11
 ·refine Zd (Yp rfl (Yb (Yh (⟨_,ZK rfl,?_⟩))))
  refine ZI ?_
  exact (if_pos (by omega)).symm
 ·refine Yg (Zd (Yp rfl (Yb (Yh (⟨_,ZK rfl,?_⟩)))))
  refine ZI ?_
  exact (if_neg (by omega)).symm
theorem rD (P:Nat→Int):WR AM 8 [.agg 133 (ia P)] [] (fun v _ _=>v = .tup [.s (.int .i64 (ofN P (KC P).length).1),.s (.int .i64 (ofN P (KC P).length).2)]):=by
 refine YI (a:=a8) rfl rfl (YH _) (ZP rfl) (m:=0) rfl (Zd (YB rfl (Yp rfl (Yp rfl (Ze (Yn rfl rfl ZL (YD rfl (uB P) rfl rfl (fun v1 own1 n1 hr1=>Yp (v:=v1) rfl (Yb (Yd (Zd (Yn rfl rfl (List.mem_append_right _ ZL) (Ys rfl (YF (JV P)) rfl rfl rfl (Yu (r:=.bool _) rfl rfl (Zj rfl (Yr (t:=10) rfl (fun h12=>?_) (fun h12=>?_))))))))))))))))) <;> simp only [NM] at h12
 ·refine ZC rfl (ZB rfl (Zo rfl (Yb (Zz rfl (Zd (Yp rfl (Yp rfl (Yb (Yh (⟨_,YK (v:=.s (.int _ _)) rfl (ZK rfl),?_⟩))))))))))
  (rw [yB (by first | exact .inl (by assumption) | exact .inr (by omega))]; rfl)
 ·refine Ya rfl (Yp (v:=v1) rfl (Ya rfl (Vn rfl hr1.rx (by decide) (Xm _) (Ya rfl (Zq rfl (Zo rfl (Yb (Yi rfl (fun h13=>?_) (fun h13=>?_))))))))) <;> simp only [NM] at h13
  ·refine Zd (Yp rfl (Yp rfl (Yb (Yh (⟨_,YK (v:=.s (.int _ _)) rfl (ZK rfl),?_⟩)))))
   (rw [yB (by first | exact .inl (by assumption) | exact .inr (by omega))]; rfl)
  ·refine Yg (Yd (Zd (Yn rfl rfl (List.mem_append_right _ ZL) (Yc (o':=128) rfl rfl rfl (Yl (x:=P 128) rfl rfl (List.mem_append_right _ ZL) (rfl) (Ys rfl (YF (Ks P (P 128))) rfl rfl rfl (Yb (Yi rfl (fun h14=>?_) (fun h14=>?_)))))))))
   ·refine Zd (Yc (o':=128) rfl rfl rfl (Yl (x:=P 128) rfl rfl (List.mem_append_right _ ZL) (rfl) (Ys rfl (YF (WQ _)) rfl rfl rfl (Ys rfl (YF (zE _)) rfl rfl rfl (Zi rfl (Yp rfl (Yb (Yh (⟨_,YK (v:=.s (.int _ _)) rfl (ZK rfl),?_⟩)))))))))
    (rw [x5 (by assumption) (by omega) (by assumption)]; rfl)
   ·refine Yg (Zd (Yp rfl (Yp rfl (Yb (Yh (⟨_,YK (v:=.s (.int _ _)) rfl (ZK rfl),?_⟩))))))
    (rw [w6 (by assumption) (by omega) (by assumption)]; rfl)
theorem jW (P:Nat→Int):WR AM 10 [.agg 133 (ia P)] [] (fun v _ _=>v = .s (.bool (XG P && decide (100≤P 131)))):=by
 refine YI (a:=a10) rfl rfl (YH _) (ZP rfl) (m:=0) rfl (Zd (YB rfl (Yp rfl (Ze (Yn rfl rfl ZL (Ys rfl (YF (JV P)) rfl rfl rfl (Zj rfl (Yr (t:=5) rfl (fun h15=>?_) (fun h15=>?_)))))))))
 ·refine Ya rfl (Yc (o':=131) rfl rfl rfl (Ya rfl (Yl (x:=P 131) rfl rfl ZL (rfl) (Ya rfl (Zq rfl (Zo rfl (Zj rfl (Zf rfl (ZH ?_)))))))))
  rw [show XG P = true by assumption]
  rfl
 ·refine Z9 rfl rfl (ZC rfl (Zo rfl (Zj rfl (Zf rfl (ZH ?_)))))
  rw [show XG P = false by assumption]
  rfl
theorem u7 (P:Nat→Int):WR AM 12 [.agg 133 (ia P)] [] (fun v _ _=>v = .s (.bool (XG P && decide (150≤P 131)))):=by
 refine YI (a:=a12) rfl rfl (YH _) (ZP rfl) (m:=0) rfl (Zd (YB rfl (Yp rfl (Ze (Yn rfl rfl ZL (Ys rfl (YF (JV P)) rfl rfl rfl (Zj rfl (Yr (t:=5) rfl (fun h16=>?_) (fun h16=>?_)))))))))
 ·refine Ya rfl (Yc (o':=131) rfl rfl rfl (Ya rfl (Yl (x:=P 131) rfl rfl ZL (rfl) (Ya rfl (Zq rfl (Zo rfl (Zj rfl (Zf rfl (ZH ?_)))))))))
  rw [show XG P = true by assumption]
  rfl
 ·refine Z9 rfl rfl (ZC rfl (Zo rfl (Zj rfl (Zf rfl (ZH ?_)))))
  rw [show XG P = false by assumption]
  rfl
theorem wa (s:Int):WR AM 13 [.s (.int .i64 s)] [] (fun v _ _=>v = .s (.int .i64 (wE s))):=by
 refine YI (a:=a13) rfl rfl (YH _) (ZP rfl) (m:=0) rfl (Zd (Yp rfl (Yb (Yd (Zd (Zi rfl (Zq rfl (Yb (Yi rfl (fun h1=>?_) (fun h1=>?_)))))))))) <;> simp only [NM] at h1
 ·refine Zd (Yp rfl (Yb (Yh (⟨_,ZK rfl,?_⟩))))
  refine ZI ?_
  exact (if_pos (by omega)).symm
 ·refine Yg (Zd (Yp rfl (Yb (Yh (⟨_,ZK rfl,?_⟩)))))
  refine ZI ?_
  exact (if_neg (by omega)).symm
def Je (P:Nat→Int):Bool:=XG P && decide ((WT P).length = 0)
theorem stuck_f {P:Nat→Int} (h:Je P = false):XG P = false∨0 < (WT P).length:=by
 unfold Je at h
 cases hp:XG P with
 | false=>exact .inl rfl
 | true =>
  rw [hp,Bool.true_and] at h
  have:=of_decide_eq_false h
  exact .inr (by omega)
theorem E0 {P:Nat→Int} (h:Je P = true):XG P = true∧¬ 0 < (WT P).length:=by
 unfold Je at h
 rw [Bool.and_eq_true,decide_eq_true_eq] at h
 exact ⟨h.1,by omega⟩
theorem allL_of {K:Nat→Int} {h:Int} {l:List Int} (hK:∀ i,i < l.length→K i = l.getD i 0):(!decide (0≤VS (fun j=>decide (h < K j)) l.length)) = l.all (fun n=>decide (n≤h)):=by
 rw [Bool.eq_iff_iff,Bool.not_eq_true',decide_eq_false_iff_not,yZ,List.all_eq_true]
 constructor
 ·intro hn x hx
  obtain ⟨j,hj,rfl⟩:=List.mem_iff_getElem.1 hx
  rw [decide_eq_true_eq]
  refine Int.not_lt.1 fun hlt=>hn ⟨j,hj,?_⟩
  rw [hK j hj,List.getD_eq_getElem?_getD,List.getElem?_eq_getElem hj]
  exact decide_eq_true hlt
 ·rintro hn ⟨j,hj,hx⟩
  rw [hK j hj,List.getD_eq_getElem?_getD,List.getElem?_eq_getElem hj,decide_eq_true_eq] at hx
  have:=hn _ (List.getElem_mem hj)
  rw [decide_eq_true_eq] at this
  simp at hx
  omega
theorem vC (P:Nat→Int) (hz:∀ i,133≤i→P i = 0):WR AM 26 [.agg 133 (ia P)] [] (fun v _ _=>v = .s (.bool (Je P))):=by
 refine YI (a:=a26) rfl rfl (YH _) (ZP rfl) (m:=0) rfl (Zd (YB rfl (Yp rfl (Ze (Zx rfl (Yn rfl rfl ZL (Ys rfl (YF (Qg P)) rfl rfl rfl (Zj rfl (Yr (t:=6) rfl (fun h2=>?_) (fun h2=>?_))))))))))
 ·refine Ya rfl (Zx rfl (Ya rfl (Yn rfl rfl ZL (Ya rfl (YD rfl (pp P) rfl rfl (fun v1 own1 n1 hr1=>Ya rfl (Vn rfl hr1.rx (by decide) (Xm _) (Ya rfl (Zq rfl (Zo rfl (Zj rfl (Zf rfl (ZH ?_)))))))))))))
  unfold Je
  (rw [show XG P = true by assumption,Bool.true_and,Bool.eq_iff_iff,beq_iff_eq,decide_eq_true_eq]; omega)
 ·refine Z9 rfl rfl (ZD rfl (Zo rfl (Zj rfl (Zf rfl (ZH ?_)))))
  unfold Je
  (rw [show XG P = false by assumption]; rfl)
theorem yO (P:Nat→Int) (hz:∀ i,133≤i→P i = 0):WR AM 7 [.agg 133 (ia P)] [] (fun v _ _=>v = .tup [.s (.int .i64 (ofN P (WT P).length).1),.s (.int .i64 (ofN P (WT P).length).2)]):=by
 have hid:ovA (fun _=>0) 0 133 P = P:=JA hz
 refine YI (a:=a7) rfl rfl (YH _) (ZP rfl) (m:=0) rfl (Zd (YB rfl (Yp rfl (Yp rfl (Yb (Yd (Zd (Yn rfl rfl ZL (YA rfl (.agg rfl .nil) ?_)))))))))
 rw [hid]
 refine Yx (Yy rfl rfl rfl rfl .here ?_)
 rw [hid]
 refine Yb (Yj (Zd (Yn rfl rfl ZL (Ys rfl (YF (vC P hz)) rfl rfl rfl (Yu (r:=.bool _) rfl rfl (Zj rfl (Yb (Yi rfl (fun h3=>?_) (fun h3=>?_))))))))) <;> simp only [NM] at h3
 ·refine Zd (Yp rfl (Yp rfl (Yb (Yh (⟨_,YK (v:=.s (.int _ _)) rfl (ZK rfl),?_⟩)))))
  (rw [yB (stuck_f (by assumption))]; rfl)
 ·refine Zd (Yn rfl rfl ZM (Zx rfl (Yc (o':=128) rfl rfl rfl (Yl (x:=P 128) rfl rfl ZL (rfl) (Ys rfl (EM P (P 128)) rfl rfl rfl (Zj rfl (Yb (Yi rfl (fun h4=>?_) (fun h4=>?_)))))))))
  ·refine Zd (Zx rfl (Yc (o':=128) rfl rfl rfl (Yl (x:=P 128) rfl rfl ZL (rfl) (Ys rfl (YF (VH _)) rfl rfl rfl (Ys rfl (YF (wa _)) rfl rfl rfl (Zi rfl (Yp rfl (Yb (Yh (⟨_,YK (v:=.s (.int _ _)) rfl (ZK rfl),?_⟩))))))))))
   (rw [x5 (E0 (by assumption)).1 (E0 (by assumption)).2 (by assumption)]; rfl)
  ·refine Yg (Zd (Yp rfl (Yp rfl (Yb (Yh (⟨_,YK (v:=.s (.int _ _)) rfl (ZK rfl),?_⟩))))))
   (rw [w6 (E0 (by assumption)).1 (E0 (by assumption)).2 (by assumption)]; rfl)
theorem sU {md:Md} (M:Nat→Int) (t:Int):WR AM 50 [.s (.int .i64 t),.ptr 0 0 133] [.sc md 133 (ia M)] (fun v _ L=>v = .s (.bool (decide (M 131 < t)))∧(0,Blk.sc md 133 (ia M))∈L):=by
 refine YI (a:=a50) rfl rfl (YH _) (ZP rfl) (m:=1) rfl (Zd (Yp rfl (Ze (Zx rfl (Yc (o':=131) rfl rfl rfl (Yl (x:=M 131) rfl rfl ZL (rfl) (Zi rfl (Zq rfl (Zj rfl (Zf rfl ?_))))))))))
 exact ⟨rfl,ZL⟩
theorem jR {md md2:Md} {q:Nat} {c:Cp} (K M:Nat→Int) (nn:Nat) (hnn:nn≤1000000):WR AM 66 [.sl 0 0 nn 1 c,.fn 50 [.ptr 1 0 133]] [.sc md q (ia K),.sc md2 133 (ia M)] (fun v _ L=>v = .s (.int .i64 (VS (fun j=>decide (M 131 < K j)) nn))∧(0,Blk.sc md q (ia K))∈L∧(1,Blk.sc md2 133 (ia M))∈L):=by
 refine YI (a:=a66) rfl rfl (YH _) (ZP rfl) (m:=2) rfl (Zd (Yp rfl (Yb (Yd (Zd (Zm rfl (QR rfl (Yp rfl (Yb (Yj (Xe (.refl _) (Xg (fun m f _ L=>∃ (i:Nat),(i≤nn)∧(m = nn - i)∧(∀ j,j < i→decide (M 131 < K j) = false)∧(f 0 = .sl 0 0 nn 1 c)∧(f 1 = .fn 50 [.ptr 1 0 133])∧(f 7 = .s (.int .i64 nn))∧(f 8 = .s (.int .i64 i))∧(L = [(0,.sc md q (ia K)),(1,.sc md2 133 (ia M))])) (fun m f nb L hI=>?_) (nn) (⟨0,by omega,by omega,fun j hj=>by omega,rfl,rfl,rfl,rfl,rfl⟩)))))))))))))
 obtain ⟨i,hi,hm,hn,k0,k1,k7,k8,rfl⟩:=hI
 refine pH 0 k0 (pH 1 k1 (pH 7 k7 (pH 8 k8 (Zd (Zq rfl (Yb (Yd (Yi rfl (fun h5=>?_) (fun h5=>?_))))))))) <;> simp only [NM] at h5
 ·refine Yg (Yd (Yj (Zd (Zi rfl (Zi rfl (Ze (Yp (v:=.fn _ _) rfl (Zm rfl (Zi rfl (Zw rfl rfl (Yl (x:=K i) rfl rfl ZL (by rw [show 0+(i:Int).toNat*1 = i by omega]) (Vd (rs:=[1]) (Bs:=[.sc md2 133 (ia M)]) rfl (Ua (sU M (K i))) rfl rfl (YE rfl) (fun _ h=>h) rfl ⟨ZM,⟨_,_,_,rfl⟩,trivial⟩ rfl rfl rfl (.cons (.there .here) .nil) (Yb (Yi rfl (fun h6=>?_) (fun h6=>?_))))))))))))))) <;> simp only [NM] at h6
  ·refine Zd (Zi rfl (Zi rfl (Yb (Yh (⟨_,ZK rfl,?_⟩)))))
   refine ⟨ZI ?_,ZL,ZM⟩
   exact (y9 (i:=i) (by omega) (decide_eq_true (by omega)) hn).symm
  ·refine Yg (Ye (Zr rfl rfl (Zi rfl (Yb (⟨nn - (i+1),_,by omega,(.refl _),i+1,by omega,rfl,?_,rfl,rfl,rfl,rfl,rfl⟩)))))
   intro j hj
   by_cases e:j = i
   ·subst e; exact decide_eq_false (by omega)
   ·exact hn j (by omega)
 ·refine YZ (Xc (Zd (Yp rfl (Yb (Yh (⟨_,ZK rfl,?_⟩))))))
  refine ⟨ZI ?_,ZL,ZM⟩
  exact (JI fun j hj=>hn j (by omega)).symm
theorem xh {md md2:Md} {q:Nat} {c:Cp} (K M:Nat→Int) (nn:Nat) (hnn:nn≤1000000):WR AM 49 [.sl 0 0 nn 1 c,.fn 50 [.ptr 1 0 133]] [.sc md q (ia K),.sc md2 133 (ia M)] (fun v _ L=>v = .s (.bool (decide (0≤VS (fun j=>decide (M 131 < K j)) nn)))∧(0,Blk.sc md q (ia K))∈L∧(1,Blk.sc md2 133 (ia M))∈L):=by
 refine YI (a:=a49) rfl rfl (YH _) (ZP rfl) (m:=2) rfl (Zd (Yp rfl (Ze (Zm rfl (Yp (v:=.fn _ _) rfl (Wn (rs:=[0,1]) (Bs:=[.sc md q (ia K),.sc md2 133 (ia M)]) rfl (Ew (jR K M nn hnn)) rfl rfl (YE rfl) (fun _ h=>h) rfl ⟨ZL,⟨_,_,_,rfl⟩,ZM,⟨_,_,_,rfl⟩,trivial⟩ rfl rfl rfl (.cons .here (.cons (.there .here) .nil)) (Zq rfl (Zj rfl (Zf rfl ?_)))))))))
 exact ⟨rfl,ZL,ZM⟩
theorem jL {md:Md} {q:Nat} {c:Cp} (K M:Nat→Int) (nn:Nat) (hnn:nn≤1000000):WR AM 31 [.agg 133 (ia M),.sl 0 0 nn 1 c] [.sc md q (ia K)] (fun v _ L=>v = .s (.bool (XG M && !decide (0≤VS (fun j=>decide (M 131 < K j)) nn)))∧(0,Blk.sc md q (ia K))∈L):=by
 refine YI (a:=a31) rfl rfl (YH _) (ZP rfl) (m:=1) rfl (Zd (YB rfl (Yp rfl (Ze (Zx rfl (Yn rfl rfl ZL (Ys rfl (YF (Qg M)) rfl rfl rfl (Zj rfl (Yr (t:=8) rfl (fun h7=>?_) (fun h7=>?_))))))))))
 ·refine Ya rfl (Zm rfl (Ya rfl (Qz rfl (Ya rfl (Wn (rs:=[0,1]) (Bs:=[.sc md q (ia K),.sc .var 133 (ia M)]) rfl (Ew (xh K M nn hnn)) rfl rfl (YE rfl) (fun _ h=>h) rfl ⟨ZM,⟨_,_,_,rfl⟩,ZL,⟨_,_,_,rfl⟩,trivial⟩ rfl rfl rfl (.cons (.there .here) (.cons .here .nil)) (Ya rfl (Yu (r:=.bool _) rfl rfl (Zo rfl (Zj rfl (Zf rfl (⟨ZH ?_,ZM⟩)))))))))))
  rw [show XG M = true by assumption]
  rfl
 ·refine Z9 rfl rfl (ZC rfl (ZB rfl (Zo rfl (Zj rfl (Zf rfl (⟨ZH ?_,ZM⟩))))))
  rw [show XG M = false by assumption]
  rfl
theorem wl {md:Md} {q:Nat} {c:Cp} (n:Nat) (K M:Nat→Int) (l:List Int) (hn:l.length = n) (hK:∀ i,i < l.length→K i = l.getD i 0) (hl:n≤1000000):RB AM 31 [.agg 133 (ia M),.sl 0 0 n 1 c] [.sc md q (ia K)] (.s (.bool (XG M && l.all (fun n=>decide (n≤M 131))))) [.sc md q (ia K)]:=by
 subst hn
 have:=Ua (jL (md:=md) (q:=q) (c:=c) K M l.length hl)
 rw [allL_of hK] at this
 exact this
theorem vz (P:Nat→Int) (hz:∀ i,133≤i→P i = 0):WR AM 9 [.agg 133 (ia P)] [] (fun v _ _=>v = .s (.bool (XG P && decide (100≤P 131)))):=by
 have hid:ovA (fun _=>0) 0 133 P = P:=JA hz
 refine YI (a:=a9) rfl rfl (YH _) (ZP rfl) (m:=0) rfl (Zd (YB rfl (Yp rfl (Ze (Yn rfl rfl ZL (YA rfl (.agg rfl .nil) ?_))))))
 rw [hid]
 refine Xd rfl (.one rfl .nil) (Wn (rs:=[1]) (Bs:=[_]) (av:=[.agg 133 (ia P),.sl (1) 0 1 1 (.ex 1)]) rfl (wl (c:=.ex 1) 1 _ P [100] rfl Da (YE rfl)) rfl rfl (YE rfl) (fun _ h=>h) (by simp [rnL,V.renL,V.ren,pos]) ⟨ZL,⟨_,_,_,rfl⟩,trivial⟩ rfl rfl rfl (.cons .here .nil) (Zj rfl (Zf rfl (congrArg (fun b=>V.s (S.bool b)) (congrArg (fun b=>XG P && b) ?_)))))
 rw [Bool.eq_iff_iff]
 simp only [List.all_cons,List.all_nil,Bool.and_true,Bool.and_eq_true,decide_eq_true_eq]
theorem pA (P:Nat→Int) (hz:∀ i,133≤i→P i = 0):WR AM 11 [.agg 133 (ia P)] [] (fun v _ _=>v = .s (.bool (XG P && decide (150≤P 131)))):=by
 have hid:ovA (fun _=>0) 0 133 P = P:=JA hz
 refine YI (a:=a11) rfl rfl (YH _) (ZP rfl) (m:=0) rfl (Zd (YB rfl (Yp rfl (Ze (Yn rfl rfl ZL (YA rfl (.agg rfl .nil) ?_))))))
 rw [hid]
 refine Xd rfl (.one rfl (.one rfl .nil)) (Wn (rs:=[1]) (Bs:=[_]) (av:=[.agg 133 (ia P),.sl (1) 0 2 1 (.ex 2)]) rfl (wl (c:=.ex 2) 2 _ P [100,150] rfl wH (YE rfl)) rfl rfl (YE rfl) (fun _ h=>h) (by simp [rnL,V.renL,V.ren,pos]) ⟨ZL,⟨_,_,_,rfl⟩,trivial⟩ rfl rfl rfl (.cons .here .nil) (Zj rfl (Zf rfl (congrArg (fun b=>V.s (S.bool b)) (congrArg (fun b=>XG P && b) ?_)))))
 rw [Bool.eq_iff_iff]
 simp only [List.all_cons,List.all_nil,Bool.and_true,Bool.and_eq_true,decide_eq_true_eq]
 omega
def sumB (g:Nat→Int):Nat→Int
 | 0=>0
 | n+1=>sumB g n+g n
def Clean (P:Nat→Int):Prop:=∀ s:Nat,s < 64→(P (s*2) = 0∧P (s*2+1) = 0)∨(1≤P (s*2)∧P (s*2)≤6∧(P (s*2+1) = 0∨P (s*2+1) = 1))
theorem sqI_nat (s:Nat):sqI (s:Int) = s*2:=by show 0+(s:Int).toNat*2 = _; omega
def betOK (a b:Int):Bool:=!(Wt a b || Wq a b) || (ja (ED (K4 a) (K4 b)) ((ED a b).map K4) && (ED a b).all fun t=>decide (0≤t∧t < 64))
theorem find_mem {P:Nat→Int} {c x:Int}:x∈R8 P (RV c)↔(0≤x∧x < 64)∧P (sqI x) = 6∧P (sqI x+1) = c:=by
 unfold R8
 rw [List.mem_filter,mem64]
 unfold isX
 rw [decide_eq_true_eq]
 exact Iff.rfl
theorem pz {P:Nat→Int} {c:Int} (hc:c = 0∨c = 1):Xu P c = true↔∃ x,((0≤x∧x < 64)∧P (sqI x) = 6∧P (sqI x+1) = c)∧Vx P (1 - c) x = true:=by
 unfold Xu
 rw [if_pos hc,V5 hc,List.any_eq_true]
 constructor
 ·rintro ⟨x,hx,h⟩; exact ⟨x,find_mem.1 hx,h⟩
 ·rintro ⟨x,hx,h⟩; exact ⟨x,find_mem.2 hx,h⟩
theorem t7 {P:Nat→Int} (h:Vq P = true):Clean P∧(P 128 = 0∨P 128 = 1):=by
 unfold Vq at h
 simp only [Bool.and_eq_true] at h
 have h:=JW h.1.1.1
 refine ⟨fun s hs=>?_,h.2.2.2⟩
 have:=h.1 s hs
 unfold okM at this
 rw [sqI_nat] at this
 omega
def mvT (m:Mv):Mv:=(K4 m.1,K4 m.2.1,m.2.2)
theorem wide_of {P:Nat→Int} {s t:Int} (hs:0≤s∧s < 64) (ht:0≤t∧t < 64) (hg:WN P s t = true) (h:X8 P s t = true):(s = 4∨s = 60)∧(t = s+2∨t = s - 2):=by
 unfold X8 at h
 rw [decide_eq_true_eq] at h
 obtain ⟨h1,h2⟩:=h
 obtain ⟨_,hc,_,_⟩:=RZ hg
 unfold WN at hg
 rw [Bool.and_eq_true] at hg
 have hg:=hg.2
 unfold goK at hg
 rw [if_neg (by omega),Bool.or_eq_true,Bool.and_eq_true,Bool.and_eq_true] at hg
 rcases hg with ⟨ha,_⟩ | ⟨_,hg⟩
 ·have:=jf ha h1
  unfold XF at this
  split at this <;> omega
 ·unfold goC at hg
  split at hg
  ·cases hg
  ·omega
theorem tf {P:Nat→Int} {c:Int} {a:Nat} (hk:P (sqI (a:Int)) = 6∧P (sqI (a:Int)+1) = c):∀ n:Nat,a < n→1≤kM P c n
 | 0,h=>by omega
 | n+1,h=>by
  have hb:=wJ P c n
  unfold kM
  by_cases e:a = n
  ·subst e; rw [if_pos hk]; omega
  ·have:=tf hk n (by omega)
   split <;> omega
theorem qr {P:Nat→Int} {c:Int} {a b:Nat} (ha:P (sqI (a:Int)) = 6∧P (sqI (a:Int)+1) = c) (hb:P (sqI (b:Int)) = 6∧P (sqI (b:Int)+1) = c) (hab:a < b):∀ n:Nat,b < n→2≤kM P c n
 | 0,h=>by omega
 | n+1,h=>by
  unfold kM
  by_cases e:b = n
  ·subst e
   have:=tf ha b hab
   rw [if_pos hb]; omega
  ·have:=qr ha hb hab n (by omega)
   split <;> omega
theorem vg {P:Nat→Int} (h:Vq P = true):kM P (P 128) 64 = 1:=by
 unfold Vq at h
 simp only [Bool.and_eq_true] at h
 obtain ⟨_,h0,h1,h2⟩:=JW h.1.1.1
 rcases h2 with h2 | h2 <;> rw [h2] <;> assumption
theorem pj {P:Nat→Int} {c x y:Int} (h:kM P c 64 = 1) (hx:(0≤x∧x < 64)∧P (sqI x) = 6∧P (sqI x+1) = c) (hy:(0≤y∧y < 64)∧P (sqI y) = 6∧P (sqI y+1) = c):x = y:=by
 obtain ⟨a,rfl⟩:∃ a:Nat,x = a:=⟨x.toNat,by omega⟩
 obtain ⟨b,rfl⟩:∃ b:Nat,y = b:=⟨y.toNat,by omega⟩
 rcases Nat.lt_trichotomy a b with e | e | e
 ·have:=qr hx.2 hy.2 e 64 (by omega); omega
 ·rw [e]
 ·have:=qr hy.2 hx.2 e 64 (by omega); omega
theorem vE {P:Nat→Int} (h:Vq P = true) {x:Int} (hx:0≤x∧x < 64) (hk:P (sqI x) = 6) (hs:P (sqI x+1) = P 128):Xu P (P 128) = Vx P (Y0 (P 128)) x:=by
 have hc:=(t7 h).2
 rw [Bool.eq_iff_iff,pz hc,V5 hc]
 constructor
 ·rintro ⟨y,hy,h2⟩
  rw [pj (vg h) ⟨hx,hk,hs⟩ hy]; exact h2
 ·intro h2; exact ⟨x,⟨hx,hk,hs⟩,h2⟩
theorem us {P:Nat→Int} (h:XG P = true):Vq P = true:=by
 unfold XG at h
 rw [Bool.and_eq_true] at h
 exact h.1
theorem vN {P:Nat→Int} (hp:XG P = true) {m:Mv} (h:m∈UB P 64):W6 P m = Wi P m:=by
 obtain ⟨hs,ht,hg,hm⟩:=D9 h
 have he:=mv_can h
 unfold W6 Wi
 rw [decide_eq_true he]
 cases hc:X8 P m.1 m.2.1 with
 | false=>simp
 | true =>
  have hw:=wide_of hs ht hg hc
  have hk:P (sqI m.1) = 6:=by
   unfold X8 at hc
   rw [decide_eq_true_eq] at hc; exact hc.1
  rw [vE (us hp) hs hk (RZ hg).2.2.1]
  unfold zF
  simp only [List.any_cons,List.any_nil,Bool.or_false]
  rw [q5 (s:=(m.1+m.2.1) / 2) (by omega)]
  cases Xu (XI P m.1 m.2.1 m.2.2) (P 128) <;> cases Vx P (Y0 (P 128)) m.1 <;> cases Vx P (Y0 (P 128)) ((m.1+m.2.1) / 2) <;> rfl
theorem Em {P:Nat→Int} (hz:∀ i,133≤i→P i = 0):WT P = if XG P = true then (UB P 64).filter (Wi P) else []:=by
 unfold WT yj
 rw [JA hz,allS_is]
theorem ym {P:Nat→Int} (hz:∀ i,133≤i→P i = 0):WT P = KC P:=by
 rw [Em hz]
 unfold KC
 by_cases hp:XG P = true
 ·rw [if_pos hp,if_pos hp]
  exact List.filter_congr fun m hm=>(vN hp hm).symm
 ·rw [if_neg hp,if_neg hp]
set_option maxRecDepth 100000
def yg (i:Nat):Int:=if i = 130 then -1 else if i = 132 then 1 else 0
def startF (i:Nat):Int :=
 if i < 16 then (if i % 2 = 0 then ([4,2,3,5,6,3,2,4]:List Int).getD (i / 2) 0 else 0)
 else if i < 32 then (if i % 2 = 0 then 1 else 0)
 else if i < 96 then 0
 else if i < 112 then 1
 else if i < 128 then (if i % 2 = 0 then ([4,2,3,5,6,3,2,4]:List Int).getD ((i - 112) / 2) 0 else 1)
 else if i = 128 then 0 else if i = 129 then 15 else if i = 130 then -1 else if i = 131 then 0 else if i = 132 then 1 else 0
theorem tg (i:Nat) (h:133≤i):yg i = 0:=by
 unfold yg
 rw [if_neg (by omega),if_neg (by omega)]
theorem u1 (i:Nat) (h:133≤i):startF i = 0:=by
 unfold startF
 rw [if_neg (by omega),if_neg (by omega),if_neg (by omega),if_neg (by omega),if_neg (by omega),if_neg (by omega),if_neg (by omega),if_neg (by omega),if_neg (by omega),if_neg (by omega)]
theorem r5 {P Q R:Nat→Int} {m:Nat} (h:∀ i,i < m→Q i = R i) (h2:∀ i,m≤i→P i = R i):ovA P 0 m Q = R:=by
 funext i
 by_cases hi:i < m
 ·rw [XR (by omega)]; exact h i hi
 ·rw [WA (by omega)]; exact h2 i (by omega)
theorem vx :WR AM 18 [] [] (fun v _ _=>v = .agg 133 (ia yg)):=by
 refine YI (a:=a18) rfl rfl (YH _) (ZP rfl) (m:=0) rfl (Zd (Yx (Ze (YA rfl (.one rfl (.one rfl .nil)) (Yy rfl rfl rfl rfl .here (Yb (Yh (⟨_,X5 rfl rfl ZL (YS),?_⟩))))))))
 refine congrArg (fun P=>V.agg 133 (ia P)) ?_
 refine r5 (by decide +kernel) fun i hi=>(tg i hi).symm
theorem tk :WR AM 17 [] [] (fun v _ _=>v = .agg 133 (ia startF)):=by
 refine YI (a:=a17) rfl rfl (YH _) (ZP rfl) (m:=0) rfl (Zd (Yx (Ze (Ys rfl (YF vx) rfl rfl rfl (Yx (Yy rfl rfl rfl rfl .here (Ze (Xd rfl (.one rfl (.one rfl (.one rfl (.one rfl (.one rfl (.one rfl (.one rfl (.one rfl .nil)))))))) (Zm rfl (Yb (Yd (Zd (Yp rfl (Yb (Yj (Uf (Yd (Zd (Zi rfl (Zq rfl (Yb (Yi rfl (fun h1=>?_) (fun h1=>?_))))))))))))))))))))))) <;> simp only [NM] at h1
 ·refine Yg (Yd (Yj (Zd (Zi rfl (Zm rfl (Zi rfl (Zw rfl rfl (Yl (x:=_) rfl rfl ZL (rfl) (YA rfl (.one rfl (.one rfl .nil)) (Zx rfl (Zv rfl rfl rfl (Yy rfl rfl rfl rfl (.there .here) (Ze (Zi rfl (Zr rfl rfl (YA rfl (.one rfl (.one rfl .nil)) (Zx rfl (Zv rfl rfl rfl (Yy rfl rfl rfl rfl (.there .here) (Ze (Zi rfl (Zr rfl rfl (YA rfl (.one rfl (.one rfl .nil)) (Zx rfl (Zv rfl rfl rfl (Yy rfl rfl rfl rfl (.there .here) (Yb (Ye (Zi rfl ?_)))))))))))))))))))))))))))))
  refine Zr rfl rfl (Zm rfl (Zi rfl (Zw rfl rfl (Yl (x:=_) rfl rfl ZL (rfl) (YA rfl (.one rfl (.one rfl .nil)) (Zx rfl (Zv rfl rfl rfl (Yy rfl rfl rfl rfl (.there .here) (Yb (Ye (Zi rfl (Zr rfl rfl (Zi rfl (Yb (Uf (Yd (Zd (Zi rfl (Zq rfl (Yb (Yi rfl (fun h2=>?_) (fun h2=>?_)))))))))))))))))))))) <;> simp only [NM] at h2
  ·refine Yg (Yd (Yj (Zd (Zi rfl (Zm rfl (Zi rfl (Zw rfl rfl (Yl (x:=_) rfl rfl ZL (rfl) (YA rfl (.one rfl (.one rfl .nil)) (Zx rfl (Zv rfl rfl rfl (Yy rfl rfl rfl rfl (.there .here) (Ze (Zi rfl (Zr rfl rfl (YA rfl (.one rfl (.one rfl .nil)) (Zx rfl (Zv rfl rfl rfl (Yy rfl rfl rfl rfl (.there .here) (Ze (Zi rfl (Zr rfl rfl (YA rfl (.one rfl (.one rfl .nil)) (Zx rfl (Zv rfl rfl rfl (Yy rfl rfl rfl rfl (.there .here) (Yb (Ye (Zi rfl ?_)))))))))))))))))))))))))))))
   refine Zr rfl rfl (Zm rfl (Zi rfl (Zw rfl rfl (Yl (x:=_) rfl rfl ZL (rfl) (YA rfl (.one rfl (.one rfl .nil)) (Zx rfl (Zv rfl rfl rfl (Yy rfl rfl rfl rfl (.there .here) (Yb (Ye (Zi rfl (Zr rfl rfl (Zi rfl (Yb (Uf (Yd (Zd (Zi rfl (Zq rfl (Yb (Yi rfl (fun h3=>?_) (fun h3=>?_)))))))))))))))))))))) <;> simp only [NM] at h3
   ·refine Yg (Yd (Yj (Zd (Zi rfl (Zm rfl (Zi rfl (Zw rfl rfl (Yl (x:=_) rfl rfl ZL (rfl) (YA rfl (.one rfl (.one rfl .nil)) (Zx rfl (Zv rfl rfl rfl (Yy rfl rfl rfl rfl (.there .here) (Ze (Zi rfl (Zr rfl rfl (YA rfl (.one rfl (.one rfl .nil)) (Zx rfl (Zv rfl rfl rfl (Yy rfl rfl rfl rfl (.there .here) (Ze (Zi rfl (Zr rfl rfl (YA rfl (.one rfl (.one rfl .nil)) (Zx rfl (Zv rfl rfl rfl (Yy rfl rfl rfl rfl (.there .here) (Yb (Ye (Zi rfl ?_)))))))))))))))))))))))))))))
    refine Zr rfl rfl (Zm rfl (Zi rfl (Zw rfl rfl (Yl (x:=_) rfl rfl ZL (rfl) (YA rfl (.one rfl (.one rfl .nil)) (Zx rfl (Zv rfl rfl rfl (Yy rfl rfl rfl rfl (.there .here) (Yb (Ye (Zi rfl (Zr rfl rfl (Zi rfl (Yb (Uf (Yd (Zd (Zi rfl (Zq rfl (Yb (Yi rfl (fun h4=>?_) (fun h4=>?_)))))))))))))))))))))) <;> simp only [NM] at h4
    ·refine Yg (Yd (Yj (Zd (Zi rfl (Zm rfl (Zi rfl (Zw rfl rfl (Yl (x:=_) rfl rfl ZL (rfl) (YA rfl (.one rfl (.one rfl .nil)) (Zx rfl (Zv rfl rfl rfl (Yy rfl rfl rfl rfl (.there .here) (Ze (Zi rfl (Zr rfl rfl (YA rfl (.one rfl (.one rfl .nil)) (Zx rfl (Zv rfl rfl rfl (Yy rfl rfl rfl rfl (.there .here) (Ze (Zi rfl (Zr rfl rfl (YA rfl (.one rfl (.one rfl .nil)) (Zx rfl (Zv rfl rfl rfl (Yy rfl rfl rfl rfl (.there .here) (Yb (Ye (Zi rfl ?_)))))))))))))))))))))))))))))
     refine Zr rfl rfl (Zm rfl (Zi rfl (Zw rfl rfl (Yl (x:=_) rfl rfl ZL (rfl) (YA rfl (.one rfl (.one rfl .nil)) (Zx rfl (Zv rfl rfl rfl (Yy rfl rfl rfl rfl (.there .here) (Yb (Ye (Zi rfl (Zr rfl rfl (Zi rfl (Yb (Uf (Yd (Zd (Zi rfl (Zq rfl (Yb (Yi rfl (fun h5=>?_) (fun h5=>?_)))))))))))))))))))))) <;> simp only [NM] at h5
     ·refine Yg (Yd (Yj (Zd (Zi rfl (Zm rfl (Zi rfl (Zw rfl rfl (Yl (x:=_) rfl rfl ZL (rfl) (YA rfl (.one rfl (.one rfl .nil)) (Zx rfl (Zv rfl rfl rfl (Yy rfl rfl rfl rfl (.there .here) (Ze (Zi rfl (Zr rfl rfl (YA rfl (.one rfl (.one rfl .nil)) (Zx rfl (Zv rfl rfl rfl (Yy rfl rfl rfl rfl (.there .here) (Ze (Zi rfl (Zr rfl rfl (YA rfl (.one rfl (.one rfl .nil)) (Zx rfl (Zv rfl rfl rfl (Yy rfl rfl rfl rfl (.there .here) (Yb (Ye (Zi rfl ?_)))))))))))))))))))))))))))))
      refine Zr rfl rfl (Zm rfl (Zi rfl (Zw rfl rfl (Yl (x:=_) rfl rfl ZL (rfl) (YA rfl (.one rfl (.one rfl .nil)) (Zx rfl (Zv rfl rfl rfl (Yy rfl rfl rfl rfl (.there .here) (Yb (Ye (Zi rfl (Zr rfl rfl (Zi rfl (Yb (Uf (Yd (Zd (Zi rfl (Zq rfl (Yb (Yi rfl (fun h6=>?_) (fun h6=>?_)))))))))))))))))))))) <;> simp only [NM] at h6
      ·refine Yg (Yd (Yj (Zd (Zi rfl (Zm rfl (Zi rfl (Zw rfl rfl (Yl (x:=_) rfl rfl ZL (rfl) (YA rfl (.one rfl (.one rfl .nil)) (Zx rfl (Zv rfl rfl rfl (Yy rfl rfl rfl rfl (.there .here) (Ze (Zi rfl (Zr rfl rfl (YA rfl (.one rfl (.one rfl .nil)) (Zx rfl (Zv rfl rfl rfl (Yy rfl rfl rfl rfl (.there .here) (Ze (Zi rfl (Zr rfl rfl (YA rfl (.one rfl (.one rfl .nil)) (Zx rfl (Zv rfl rfl rfl (Yy rfl rfl rfl rfl (.there .here) (Yb (Ye (Zi rfl ?_)))))))))))))))))))))))))))))
       refine Zr rfl rfl (Zm rfl (Zi rfl (Zw rfl rfl (Yl (x:=_) rfl rfl ZL (rfl) (YA rfl (.one rfl (.one rfl .nil)) (Zx rfl (Zv rfl rfl rfl (Yy rfl rfl rfl rfl (.there .here) (Yb (Ye (Zi rfl (Zr rfl rfl (Zi rfl (Yb (Uf (Yd (Zd (Zi rfl (Zq rfl (Yb (Yi rfl (fun h7=>?_) (fun h7=>?_)))))))))))))))))))))) <;> simp only [NM] at h7
       ·refine Yg (Yd (Yj (Zd (Zi rfl (Zm rfl (Zi rfl (Zw rfl rfl (Yl (x:=_) rfl rfl ZL (rfl) (YA rfl (.one rfl (.one rfl .nil)) (Zx rfl (Zv rfl rfl rfl (Yy rfl rfl rfl rfl (.there .here) (Ze (Zi rfl (Zr rfl rfl (YA rfl (.one rfl (.one rfl .nil)) (Zx rfl (Zv rfl rfl rfl (Yy rfl rfl rfl rfl (.there .here) (Ze (Zi rfl (Zr rfl rfl (YA rfl (.one rfl (.one rfl .nil)) (Zx rfl (Zv rfl rfl rfl (Yy rfl rfl rfl rfl (.there .here) (Yb (Ye (Zi rfl ?_)))))))))))))))))))))))))))))
        refine Zr rfl rfl (Zm rfl (Zi rfl (Zw rfl rfl (Yl (x:=_) rfl rfl ZL (rfl) (YA rfl (.one rfl (.one rfl .nil)) (Zx rfl (Zv rfl rfl rfl (Yy rfl rfl rfl rfl (.there .here) (Yb (Ye (Zi rfl (Zr rfl rfl (Zi rfl (Yb (Uf (Yd (Zd (Zi rfl (Zq rfl (Yb (Yi rfl (fun h8=>?_) (fun h8=>?_)))))))))))))))))))))) <;> simp only [NM] at h8
        ·refine Yg (Yd (Yj (Zd (Zi rfl (Zm rfl (Zi rfl (Zw rfl rfl (Yl (x:=_) rfl rfl ZL (rfl) (YA rfl (.one rfl (.one rfl .nil)) (Zx rfl (Zv rfl rfl rfl (Yy rfl rfl rfl rfl (.there .here) (Ze (Zi rfl (Zr rfl rfl (YA rfl (.one rfl (.one rfl .nil)) (Zx rfl (Zv rfl rfl rfl (Yy rfl rfl rfl rfl (.there .here) (Ze (Zi rfl (Zr rfl rfl (YA rfl (.one rfl (.one rfl .nil)) (Zx rfl (Zv rfl rfl rfl (Yy rfl rfl rfl rfl (.there .here) (Yb (Ye (Zi rfl ?_)))))))))))))))))))))))))))))
         refine Zr rfl rfl (Zm rfl (Zi rfl (Zw rfl rfl (Yl (x:=_) rfl rfl ZL (rfl) (YA rfl (.one rfl (.one rfl .nil)) (Zx rfl (Zv rfl rfl rfl (Yy rfl rfl rfl rfl (.there .here) (Yb (Ye (Zi rfl (Zr rfl rfl (Zi rfl (Yb (Uf (Yd (Zd (Zi rfl (Zq rfl (Yb (Yi rfl (fun h9=>?_) (fun h9=>?_)))))))))))))))))))))) <;> simp only [NM] at h9
         ·exfalso; first | omega | (simp at h9)
         ·refine YZ (Xc (Zd (Yc (o':=129) rfl rfl rfl (Yz rfl rfl rfl rfl (.there .here) (Ze (Yn rfl rfl ZM (Yy rfl rfl rfl rfl (.there (.there .here)) (Yb (Yh (⟨_,X5 rfl rfl ZN (YS),?_⟩))))))))))
          refine congrArg (fun P=>V.agg 133 (ia P)) ?_
          refine r5 (by decide +kernel) fun i hi=>(u1 i hi).symm
        ·exfalso; first | omega | (simp at h8)
       ·exfalso; first | omega | (simp at h7)
      ·exfalso; first | omega | (simp at h6)
     ·exfalso; first | omega | (simp at h5)
    ·exfalso; first | omega | (simp at h4)
   ·exfalso; first | omega | (simp at h3)
  ·exfalso; first | omega | (simp at h2)
 ·exfalso; first | omega | (simp at h1)
set_option maxRecDepth 100000
def bareP (w b q:Int):Nat→Int:=ov (ovA (ovA (ovA (ovA (fun _=>0) 0 133 yg) (0+q.toNat*2) 2 (ov (fun _=>0) 0 5)) (0+w.toNat*2) 2 (ov (fun _=>0) 0 6)) (0+b.toNat*2) 2 (ov (ov (fun _=>0) 0 6) 1 1)) 128 1
def JK (w b q:Int):Nat→Int:=ovA (fun _=>0) 0 133 (bareP w b q)
theorem ovA_z {P Q:Nat→Int} {o n:Nat} (h:∀ i,133≤i→P i = 0) (hb:o+n≤133):∀ i,133≤i→ovA P o n Q i = 0:=fun i hi=>by rw [WA (by omega)]; exact h i hi
theorem ov_z {P:Nat→Int} {o:Nat} {x:Int} (h:∀ i,133≤i→P i = 0) (hb:o < 133):∀ i,133≤i→ov P o x i = 0:=fun i hi=>by rw [WF (by omega)]; exact h i hi
theorem Db (w b q:Int):∀ i,133≤i→JK w b q i = 0:=ovA_z (fun _ _=>rfl) (by omega)
theorem end1:(ofN (JK 45 62 54) (WT (JK 45 62 54)).length) = (1,1):=by
 rw [Em (Db _ _ _)]
 decide +kernel
theorem end2:(ofN (JK 45 63 53) (WT (JK 45 63 53)).length) = (3,2):=by
 rw [Em (Db _ _ _)]
 decide +kernel
theorem q9 (w b q:Int) (hw:0≤w∧w < 64) (hb:0≤b∧b < 64) (hq:0≤q∧q < 64):WR AM 16 [.s (.int .i64 w),.s (.int .i64 b),.s (.int .i64 q)] [] (fun v _ _=>v = .agg 133 (ia (JK w b q))):=by
 refine YI (a:=a16) rfl rfl (YH _) (ZP rfl) (m:=0) rfl (Zd (Yx (Ze (Ys rfl (YF vx) rfl rfl rfl (Yx (Yy rfl rfl rfl rfl .here (Ze (Zi rfl (YA rfl (.one rfl .nil) (Zx rfl (Zv rfl rfl rfl (Yy rfl rfl rfl rfl .here (Ze (Zi rfl (YA rfl (.one rfl .nil) (Zx rfl (Zv rfl rfl rfl (Yy rfl rfl rfl rfl .here (Ze (Zi rfl (YA rfl (.one rfl (.one rfl .nil)) (Zx rfl (Zv rfl rfl rfl (Yy rfl rfl rfl rfl .here (Ze (Yc (o':=128) rfl rfl rfl (Yz rfl rfl rfl rfl .here (Ze (Yn rfl rfl ZL ?_)))))))))))))))))))))))))))))
 refine Yy rfl rfl rfl rfl (.there .here) (Yb (Yh (⟨_,X5 rfl rfl ZM (YS),?_⟩)))
 rfl
theorem qd :WR AM 15 [] [] (fun v _ _=>v = .s (.bool true)):=by
 have hend1:=YF (yO (JK 45 62 54) (Db _ _ _))
 rw [end1] at hend1
 have hend2:=YF (yO (JK 45 63 53) (Db _ _ _))
 rw [end2] at hend2
 refine YI (a:=a15) rfl rfl (YH _) (ZP rfl) (m:=0) rfl (Zd (Yp rfl (Ze (Ys rfl (YF (q9 45 62 54 (by omega) (by omega) (by omega))) rfl rfl rfl (Ys rfl (hend1) rfl rfl rfl (Zn rfl (YC (v:=.s (.int _ _)) rfl rfl (YC (v:=.s (.int _ _)) rfl rfl (Zi rfl (Zi rfl (Ze (Ys rfl (YF (q9 45 63 53 (by omega) (by omega) (by omega))) rfl rfl rfl (Ys rfl (hend2) rfl rfl rfl (Zn rfl (YC (v:=.s (.int _ _)) rfl rfl (YC (v:=.s (.int _ _)) rfl rfl (Zi rfl (Zi rfl (Ze (Zi rfl (Yq rfl rfl (Ui rfl) (Zj rfl (Ya rfl (Zi rfl (Ya rfl (Yq rfl rfl (Ui rfl) (Zo rfl (Zj rfl (Ya rfl ?_)))))))))))))))))))))))))))))
 refine Zi rfl (Ya rfl (Yq rfl rfl (Ui rfl) (Zo rfl (Zj rfl (Ya rfl (Zi rfl (Ya rfl (Yq rfl rfl (Ui rfl) (Zo rfl (Zj rfl (Zf rfl ?_)))))))))))
 rfl
theorem q6 (P:Nat→Int) (s:Int) (hz:∀ i,133≤i→P i = 0):WR AM 3 [.agg 133 (ia P),.s (.int .i64 s)] [] (fun v _ _=>v = .s (.bool true)):=by
 refine YI (a:=a3) rfl rfl (YH _) (ZP rfl) (m:=0) rfl (Zd (YB rfl (Yp rfl (Ze (Yn rfl rfl ZL (Ys rfl (YF (yO P hz)) rfl rfl rfl (Zn rfl (YC (v:=.s (.int _ _)) rfl rfl (YC (v:=.s (.int _ _)) rfl rfl (Zi rfl (Zi rfl (Ze (Yn rfl rfl ZL (Ys rfl (YF (rD P)) rfl rfl rfl (Zn rfl (YC (v:=.s (.int _ _)) rfl rfl (YC (v:=.s (.int _ _)) rfl rfl (Zi rfl (Zi rfl (Yb (Yd (Yf (Zi rfl (Zi rfl (Yq rfl rfl (Ui (by rw [ym hz])) (Zj rfl (Ya rfl (Zi rfl (Ya rfl ?_)))))))))))))))))))))))))))))
 refine Zi rfl (Ya rfl (Yq rfl rfl (Ui (by rw [ym hz])) (Zo rfl (Zj rfl (Ya rfl (Yn rfl rfl ZL (Ya rfl (Yt rfl (YF (vz P hz)) rfl rfl rfl (Ya rfl (Yn rfl rfl ZL (Ya rfl (Ys rfl (YF (jW P)) rfl rfl rfl (Ya rfl (kw rfl rfl (rfl) (Zo rfl (Zj rfl (Ya rfl (Yn rfl rfl ZL (Ya rfl (Yt rfl (YF (pA P hz)) rfl rfl rfl (Ya rfl (Yn rfl rfl ZL (Ya rfl (Ys rfl (YF (u7 P)) rfl rfl rfl (Ya rfl (kw rfl rfl (rfl) (Zo rfl (Zj rfl (Ya rfl ?_)))))))))))))))))))))))))))))
 refine Zi rfl (Ya rfl (Ys rfl (YF (wa s)) rfl rfl rfl (Ya rfl (Zi rfl (Ya rfl (Ys rfl (YF (zE s)) rfl rfl rfl (Ya rfl (Yq rfl rfl (Ui rfl) (Zo rfl (Zj rfl (Ya rfl (Ys rfl (YF qd) rfl rfl rfl (Zo rfl (Zj rfl (Zf rfl ?_)))))))))))))))
 rfl
set_option maxRecDepth 100000
def zP (k:Nat):Int:=([45,46,47,61,30]:List Int).getD k 0
theorem lit5_at {k:Nat} (h:k < 5):ov (ov (ov (ov (ov (fun _=>0) (0*1) 45) (1*1) 46) (2*1) 47) (3*1) 61) (4*1) 30 (0+(k:Int).toNat*1) = zP k:=by
 rw [show 0+(k:Int).toNat*1 = k by omega]
 match k,h with
 | 0,_=>rfl
 | 1,_=>rfl
 | 2,_=>rfl
 | 3,_=>rfl
 | 4,_=>rfl
theorem lit5_bd {k:Nat} (h:k < 5):0≤zP k∧zP k < 64:=by
 match k,h with
 | 0,_=>exact (by decide)
 | 1,_=>exact (by decide)
 | 2,_=>exact (by decide)
 | 3,_=>exact (by decide)
 | 4,_=>exact (by decide)
def u2 (P:Nat→Int):Nat→Int:=ov P 128 0
def halfF (x:Int):Nat→Int:=ov startF 131 x
theorem gU:ovA (fun _=>0) 0 133 startF = startF:=JA fun i hi=>u1 i hi
def h10:Nat→Int:=ov (ov (ov (ov (ov (ov (ov (ov (ov (ov (fun _=>0) (0*1) (-9223372036854775808)) (1*1) (-1)) (2*1) 0) (3*1) 99) (4*1) 100) (5*1) 149) (6*1) 150) (7*1) 1024) (8*1) 1025) (9*1) 9223372036854775807
theorem tc :WR AM 4 [] [] (fun v _ _=>v = .s (.bool true)):=by
 refine YI (a:=a4) rfl rfl (YH _) (ZP rfl) (m:=0) rfl (Zd (Yp rfl (Yb (Yd (Zd (Yp rfl (Yb (Yj (Xe .slnil (Xg (fun m f _ L=>∃ (i:Nat),(i≤64)∧(m = 64 - i)∧(f 1 = .s (.int .i64 i))∧(L = [])) (fun m f nb L hI=>?_) (64) (⟨0,by omega,by omega,rfl,rfl⟩)))))))))))
 obtain ⟨i,hi,hm,k1,rfl⟩:=hI
 refine pH 1 k1 (Yd (Zd (Zi rfl (Zq rfl (Yb (Yi rfl (fun h1=>?_) (fun h1=>?_))))))) <;> simp only [NM] at h1
 ·refine Yg (Yd (Yj (Zd (Yp rfl (Yb (Yj (Xe .slnil (Xg (fun m f _ L=>∃ (k:Nat),(k≤5)∧(m = 5 - k)∧(f 1 = .s (.int .i64 i))∧(f 2 = .s (.int .i64 k))∧(L = [])) (fun m f nb L hI=>?_) (5) (⟨0,by omega,by omega,rfl,rfl,rfl⟩)))))))))
  obtain ⟨k,hk,hm2,k1,k2,rfl⟩:=hI
  refine pH 1 k1 (pH 2 k2 (Yd (Zd (Zi rfl (Zq rfl (Yb (Yi rfl (fun h2=>?_) (fun h2=>?_)))))))) <;> simp only [NM] at h2
  ·refine Yg (Yd (Yj (Zd ?_)))
   have hlb:=lit5_bd (k:=k) (by omega)
   have hz1:=Db (zP k) 63 i
   have hz2:∀ j,133≤j→(u2 (JK (zP k) 63 i)) j = 0:=ov_z hz1 (by omega)
   have hid1:=JA hz1
   refine Xd rfl (.one rfl (.one rfl (.one rfl (.one rfl (.one rfl .nil))))) (Zi rfl (Zw rfl rfl (Yl (x:=zP k) rfl rfl ZL (lit5_at (by omega)) (Zi rfl (Ys rfl (YF (q9 (zP k) 63 i hlb (by omega) (by omega))) rfl rfl rfl (Yx (Yy rfl rfl rfl rfl .here ?_)))))))
   rw [hid1]
   refine Ze (Yn rfl rfl ZL (Yx (Yy rfl rfl rfl rfl .here ?_)))
   rw [hid1]
   refine Ze (Yc (o':=128) rfl rfl rfl (Yz rfl rfl rfl rfl .here (Ze (Yn rfl rfl ZM (Ys rfl (YF (yO (JK (zP k) 63 i) hz1)) rfl rfl rfl (Zn rfl (YC (v:=.s (.int _ _)) rfl rfl (YC (v:=.s (.int _ _)) rfl rfl (Zi rfl (Zi rfl (Ze (Yn rfl rfl ZM (Ys rfl (YF (rD (JK (zP k) 63 i))) rfl rfl rfl (Zn rfl (YC (v:=.s (.int _ _)) rfl rfl (YC (v:=.s (.int _ _)) rfl rfl (Zi rfl (Zi rfl (Ze (Yn rfl rfl ZL (Ys rfl (YF (yO (u2 (JK (zP k) 63 i)) hz2)) rfl rfl rfl (Zn rfl (YC (v:=.s (.int _ _)) rfl rfl (YC (v:=.s (.int _ _)) rfl rfl (Zi rfl (Zi rfl (Ze (Yn rfl rfl ZL (Ys rfl (YF (rD (u2 (JK (zP k) 63 i)))) rfl rfl rfl ?_)))))))))))))))))))))))))))))
   refine Zn rfl (YC (v:=.s (.int _ _)) rfl rfl (YC (v:=.s (.int _ _)) rfl rfl (Zi rfl (Zi rfl (Ze (Zi rfl (Zi rfl (Yq rfl rfl (pR (by rw [ym hz1])) (Zj rfl (Ya rfl (Zi rfl (Ya rfl (Zi rfl (Ya rfl (Yq rfl rfl (pR (by rw [ym hz1])) (Zo rfl (Zj rfl (Ya rfl (Zi rfl (Ya rfl (Zi rfl (Ya rfl (Yq rfl rfl (pR (by rw [ym hz2])) (Zo rfl (Zj rfl (Ya rfl (Zi rfl (Ya rfl (Zi rfl ?_)))))))))))))))))))))))))))))
   refine Ya rfl (Yq rfl rfl (pR (by rw [ym hz2])) (Zo rfl (Yb (ZA rfl (Yg (Ye (Zi rfl (Zr rfl rfl (Zi rfl (Yb ?_))))))))))
   refine ⟨5 - (k+1),_,by omega,(.cons _ (.cons _ (.cons _ .slnil))),k+1,by omega,rfl,rfl,rfl,rfl⟩
  ·refine YZ (Xc (Ye (Zi rfl (Zr rfl rfl (Zi rfl (Yb ?_))))))
   refine ⟨64 - (i+1),_,by omega,.slnil,i+1,by omega,rfl,rfl,rfl⟩
 ·refine YZ (Xc (Zd (Xd rfl (.one rfl (.one rfl (.one rfl (.one rfl (.one rfl (.one rfl (.one rfl (.one rfl (.one rfl (.one rfl .nil)))))))))) (Zm rfl (Yb (Yd (Zd (Yp rfl (Yb (Yj ?_))))))))))
  obtain ⟨n7,rfl⟩:∃ n7,n7 = nb:=⟨nb,rfl⟩
  refine Xe (.refl _) (Xg (fun m f _ L=>∃ (i:Nat),(i≤10)∧(m = 10 - i)∧(f 13 = .sl n7 0 10 1 (.ex 10))∧(f 14 = .s (.int .i64 i))∧(L = [(n7,.sc .var 10 (ia h10))])) (fun m f nb L hI=>?_) (10) (⟨0,by omega,by omega,rfl,rfl,rfl⟩))
  obtain ⟨i,hi,hm,k13,k14,rfl⟩:=hI
  refine pH 13 k13 (pH 14 k14 (Yd (Zd (Zi rfl (Zm rfl (QR rfl (Zq rfl (Yb (Yi rfl (fun h3=>?_) (fun h3=>?_)))))))))) <;> simp only [NM] at h3
  ·refine Yg (Yd (Yj (Zd (Ys rfl (YF tk) rfl rfl rfl (Yx (Yy rfl rfl rfl rfl .here ?_))))))
   rw [gU]
   refine Ze (Zm rfl (Zi rfl (Zw rfl rfl (Yl (x:=_) rfl rfl ZM (rfl) (Yc (o':=131) rfl rfl rfl (Yz rfl rfl rfl rfl .here (Ze (Yn rfl rfl ZL (Zi rfl (Zs rfl rfl (Ys rfl (YF (q6 _ _ (ov_z u1 (by omega)))) rfl rfl rfl (Yu (r:=.bool _) rfl rfl (Yb (ZA rfl (Yg (Ye (Zi rfl (Zr rfl rfl (Zi rfl (Yb ?_))))))))))))))))))))
   refine ⟨10 - (i+1),_,by omega,(.cons _ (.refl _)),i+1,by omega,rfl,rfl,rfl,rfl⟩
  ·refine YZ (Xc (Zd (Ys rfl (YF (q9 45 53 0 (by omega) (by omega) (by omega))) rfl rfl rfl (Ys rfl (YF (q6 _ _ (Db _ _ _))) rfl rfl rfl (Zj rfl (Ya rfl (Ys rfl (YF vx) rfl rfl rfl (Ya rfl (Ys rfl (YF (q6 _ _ tg)) rfl rfl rfl (Zo rfl (Zj rfl (Ya rfl (Ys rfl (YF qd) rfl rfl rfl (Zo rfl (Zj rfl (Zf rfl ?_))))))))))))))))
   rfl
end Go.Proofs.YtlkighkfkdpncaaGreat
