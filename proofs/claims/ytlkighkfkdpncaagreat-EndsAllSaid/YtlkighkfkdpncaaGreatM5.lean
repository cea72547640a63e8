/- Texts of this seat, joined. -/
import Derived.Test.YtlkighkfkdpncaaGreatAm0
import Derived.Test.YtlkighkfkdpncaaGreatAm1
import Derived.Test.YtlkighkfkdpncaaGreatAm2
import Derived.Test.YtlkighkfkdpncaaGreatM0
import Derived.Test.YtlkighkfkdpncaaGreatM1
import Derived.Test.YtlkighkfkdpncaaGreatM2
import Derived.Test.YtlkighkfkdpncaaGreatM3
import Derived.Test.YtlkighkfkdpncaaGreatM4
set_option linter.unusedSimpArgs false
set_option linter.unusedVariables false
namespace Go.Proofs.YtlkighkfkdpncaaGreat
open Go Go.Am
theorem xT {P:Nat→Int} {a t b:Int} (h:Wk P a t b = 0):((0≤a∧a < 64)∧(0≤t∧t < 64)∧a ≠ t)∧Xv P a t b = true:=by
 unfold Wk at h
 split at h
 ·rename_i h1
  split at h
  ·rename_i h2; exact ⟨h1,h2⟩
  ·omega
 ·omega
theorem Ef {P:Nat→Int} {a t b:Int} (h:Xv P a t b = true):P (sqI a+1) = 0∨P (sqI a+1) = 1:=(of_decide_eq_true h).2.2.2.1
theorem Jc:ovA (fun _=>0) 0 133 (fun _=>0) = (fun _=>0:Nat→Int):=by
 funext i
 by_cases h:i < 133
 ·rw [XR (by omega)]
 ·rw [WA (by omega)]
theorem JA {Q:Nat→Int} (h:∀ i,133≤i→Q i = 0):ovA (fun _=>0) 0 133 Q = Q:=by
 funext i
 by_cases hi:i < 133
 ·rw [XR (by omega),Nat.sub_zero]
 ·rw [WA (by omega),h i (by omega)]
theorem zk {P:Nat→Int} {k c a t b C:Int} {i:Nat} (hi:133≤i):V6 P k c a t b C i = 0:=by
 unfold V6
 rw [if_neg (by omega),if_neg (by omega),if_neg (by omega),if_neg (by omega),if_neg (by omega),if_neg (by omega)]
theorem x6 {P:Nat→Int} {a t b:Int} {i:Nat} (hi:133≤i):XI P a t b i = 0:=by
 unfold XI
 split
 ·exact zk hi
 ·rfl
theorem rr {P Q:Nat→Int} {w a t k c b g:Int} (h:∀ i,i < 128→P i = Q i):∀ i,i < 128→VA P w a t k c b g i = VA Q w a t k c b g i:=by
 have h1:∀ i,i < 128→T1 P w i = T1 Q w i:=by
  unfold T1
  split
  ·exact Ug h fun _ _=>rfl
  ·exact h
 have h3:∀ i,i < 128→Tt P w a t k c b i = Tt Q w a t k c b i:=Ug (Ug h1 fun _ _=>rfl) fun _ _=>rfl
 unfold VA
 split
 ·exact Ug (Ug h3 fun _ _=>rfl) fun _ _=>rfl
 ·split
  ·exact Ug (Ug h3 fun _ _=>rfl) fun _ _=>rfl
  ·exact h3
theorem jF {P Q:Nat→Int} {k c a t b C:Int} (ha:0≤a∧a < 64) (ht:0≤t∧t < 64) (h:∀ i,i < 133→i ≠ 129→P i = Q i):V6 P k c a t b C = V6 Q k c a t b C:=by
 funext i
 have ht2:Y5 P k a t = Y5 Q k a t:=jO ha ht (fun i hi=>h i (by omega) (by omega)) (h 130 (by omega) (by omega))
 unfold V6
 rw [ht2]
 by_cases h1:i < 128
 ·rw [if_pos h1,if_pos h1]
  exact rr (fun i hi=>h i (by omega) (by omega)) i h1
 ·rw [if_neg h1,if_neg h1,h 128 (by omega) (by omega)]
  have hh:VU P k (Y5 Q k a t) = VU Q k (Y5 Q k a t):=by unfold VU; rw [h 131 (by omega) (by omega)]
  have hf:Qj P = Qj Q:=by unfold Qj; rw [h 128 (by omega) (by omega),h 132 (by omega) (by omega)]
  rw [hh,hf]
theorem HandOf.all {P m H:Nat→Int} (h:HandOf P m H):∀ i,i < 133→i ≠ 129→H i = P i:=fun i hi hn=>by
 by_cases hl:i < 129
 ·exact h.lo i hl
 ·exact h.hi i (by omega) hi
theorem vW {P m H:Nat→Int} (h:HandOf P m H) (he:Wk P (m 0) (m 1) (m 2) = 0):ovA (fun _=>0) 0 133 (V6 H (H 136) (H 137) (H 133) (H 134) (H 135) (H 129)) = XI P (m 0) (m 1) (m 2):=by
 have ⟨hs,_⟩:=xT he
 rw [JA (fun i hi=>zk hi),h.a,h.t,h.b,h.k,h.s,h.c,XI,if_pos he]
 exact jF hs.1 hs.2.1 h.all
theorem rO (P m:Nat→Int):(Wk P (m 0) (m 1) (m 2) ≠ 0∧RF AM 95 [.agg 133 (ia P),.agg 3 (ia m)] (.tup [.pnil,.s (.int .i64 (Wk P (m 0) (m 1) (m 2)))])) ∨
  (Wk P (m 0) (m 1) (m 2) = 0∧∃ H,HandOf P m H∧RN AM 95 [.agg 133 (ia P),.agg 3 (ia m)] [] (fun b=>.tup [.ptr b 0 138,.s (.int .i64 0)]) (.sc .var 138 (ia H)) []):=by
 obtain ⟨v,σ',n',L',h1,h2,h3⟩:=ti P m
 rcases h3 with ⟨rfl,he⟩ | ⟨he,b,H,rfl,hH,hm⟩
 ·exact .inl ⟨he,σ',h1⟩
 ·rw [he] at h1
  exact .inr ⟨he,H,hH,b,σ',h1,Nat.zero_le _,(h2.2.mem hm).2,trivial⟩
theorem made_ex {P m H:Nat→Int} (h:HandOf P m H) (he:Wk P (m 0) (m 1) (m 2) = 0):∃ J,RB AM 96 [.ptr 0 0 138] [.sc .var 138 (ia H)] (.agg 133 (ia (V6 H (H 136) (H 137) (H 133) (H 134) (H 135) (H 129)))) [.sc .var 138 (ia J)]:=by
 have ⟨hs,hc⟩:=xT he
 obtain ⟨v,σ',n',L',h1,h2,J,rfl,hm⟩:=pC H (by rw [h.a]; exact hs.1) (by rw [h.t]; exact hs.2.1) (by rw [h.s]; exact Ef hc) (by rw [h.c]; exact Tp P)
 exact ⟨J,σ',h1,(h2.2.mem hm).2,⟨_,_,_,rfl⟩,trivial⟩
theorem sr (P m:Nat→Int):WR AM 71 [.agg 133 (ia P),.agg 3 (ia m)] [] (fun v _ _=>v = .tup [.agg 133 (ia (XI P (m 0) (m 1) (m 2))),.s (.int .i64 (Wk P (m 0) (m 1) (m 2)))]):=by
 refine YI (a:=a71) rfl rfl (YH _) (ZP rfl) (m:=0) rfl (Zd (YB rfl (YB rfl (Yx (Yp rfl (Ze (Yn rfl rfl ZN (Yn rfl rfl ZM ?_))))))))
 rcases rO P m with ⟨he,hT⟩ | ⟨he,H,hH,hT⟩
 ·refine Ys rfl (hT) rfl rfl rfl (Zn rfl (YC (v:=.pnil) rfl rfl (YC (v:=.s (.int _ _)) rfl rfl (Yp (v:=.pnil) rfl (Zi rfl (Yb (Yd (Zd (Zi rfl (Zq rfl (Yb (Yi rfl (fun h1=>?_) (fun h1=>?_))))))))))))) <;> simp only [NM] at h1
  ·refine Zd (YA rfl .nil (Zi rfl (Yy rfl rfl rfl rfl .here (Zi rfl (Yb (Yh (⟨_,X5 rfl rfl ZL (ZK rfl),?_⟩)))))))
   rw [XI,if_neg he]
   exact congrArg (fun g=>V.tup [V.agg 133 (ia g),V.s (.int .i64 (Wk P (m 0) (m 1) (m 2)))]) Jc
  ·exfalso; first | omega | (simp at h1)
 ·refine TI (mk:=fun b=>.tup [.ptr b 0 138,.s (.int .i64 0)]) (rs:=[]) (Bs:=[]) rj rfl hT rfl rfl (YE rfl) (fun _ h=>h) rfl trivial rfl rfl .nil (Zn rfl (YC (v:=.ptr _ _ _) rfl rfl (YC (v:=.s (.int _ _)) rfl rfl (Zk rfl (Zi rfl (Yb (Yd (Zd (Zi rfl (Zq rfl (Yb (Yi rfl (fun h2=>?_) (fun h2=>?_))))))))))))) <;> simp only [NM] at h2
  ·exfalso; first | omega | (simp at h2)
  ·refine Yg (Zd (Zk rfl ?_))
   obtain ⟨J,hJ⟩:=made_ex hH he
   refine Q9 rfl (hJ) rfl rfl rfl .here (Yy rfl rfl rfl rfl (.there .here) (Yp rfl (Yb (Yh (⟨_,X5 rfl rfl ZM (ZK rfl),?_⟩)))))
   rw [he,← vW hH he]
   rfl
theorem t8 {P m:Nat→Int} (he:Wk P (m 0) (m 1) (m 2) = 0):RF AM 80 [.agg 133 (ia P),.agg 3 (ia m)] (.s (.int .i64 (Y5 P (P (sqI (m 0))) (m 0) (m 1)))):=by
 have h:=YF (vJ P m)
 rw [if_pos he] at h
 exact h
theorem jM {P m:Nat→Int}:RF AM 82 [.s (.int .i64 (Vb (WK P) (Xp (m 0)))),.s (.int .i64 (Xp (m 1)))] (.s (.int .i64 (VD (WK P) (orM (orM 0 (Xp (m 0))) (Xp (m 1)))))):=by
 have h:=YF (Dh (Vb (WK P) (Xp (m 0))) (Xp (m 1)) (DB _ _) (q7 _))
 rw [uf (Tp P)] at h
 exact h
structure SameP (P J B:Nat→Int):Prop where
 lo:∀ i,i < 128→J i = B i
 hi:∀ i,128≤i→i < 133→J i = P i
theorem SameP.put {P J B X Y:Nat→Int} {t:Int} (j:SameP P J B) (ht:0≤t∧t < 64) (hx:∀ i,i < 2→X i = Y i):SameP P (ovA J (0+t.toNat*2) 2 X) (ovA B (sqI t) 2 Y) :=
 ⟨Ug j.lo hx,fun i h1 h2=>by rw [WA (by omega)]; exact j.hi i h1 h2⟩
theorem SameP.kind {P J B X Y:Nat→Int} {t b:Int} (j:SameP P (ovA J (0+t.toNat*2) 2 X) (ovA B (sqI t) 2 X)) (ht:0≤t∧t < 64) (h0:Y 0 = b) (h1:Y 1 = X 1):SameP P (ov (ovA J (0+t.toNat*2) 2 X) (0+t.toNat*2+0) b) (ovA B (sqI t) 2 Y):=by
 have hsq:sqI t = 0+t.toNat*2:=rfl
 refine ⟨fun i hi=>?_,fun i h1 h2=>by rw [WF (by omega)]; exact j.hi i h1 h2⟩
 have hj:=j.lo i hi
 by_cases q:i = 0+t.toNat*2+0
 ·subst q
  rw [XR (by omega),show 0+t.toNat*2+0 - sqI t = 0 from by show 0+t.toNat*2+0 - (0+t.toNat*2) = 0; omega,h0]
  show (bif Nat.beq _ _ then b else _) = b
  rw [show Nat.beq (0+t.toNat*2+0) (0+t.toNat*2+0) = true from by simp]
  rfl
 ·rw [WF q,hj]
  by_cases r:sqI t≤i∧i < sqI t+2
  ·have e:i - sqI t = 1:=by
    have:sqI t = 0+t.toNat*2:=rfl
    omega
   rw [XR r,XR r,e,h1]
  ·rw [WA (by omega),WA (by omega)]
structure DoneP (P J B:Nat→Int) (s cs ovr hf fl:Int):Prop where
 lo:∀ i,i < 128→J i = B i
 s:J 128 = s
 c:J 129 = cs
 o:J 130 = ovr
 h:J 131 = hf
 f:J 132 = fl
theorem pa {P J:Nat→Int} {k c a t b C:Int} (h:DoneP P J (VA P (Y5 P k a t) a t k c b (YW k a t c C)) (Y0 (P 128)) (VD C (orM (orM 0 (Xp a)) (Xp t))) (Un k a t c) (VU P k (Y5 P k a t)) (Qj P)):ovA (fun _=>0) 0 133 J = V6 P k c a t b C:=by
 funext i
 unfold V6
 by_cases hi:i < 133
 ·rw [XR (by omega),Nat.sub_zero]
  by_cases h1:i < 128
  ·rw [if_pos h1]; exact h.lo i h1
  ·rw [if_neg h1]
   have hc:i = 128∨i = 129∨i = 130∨i = 131∨i = 132:=by omega
   rcases hc with rfl | rfl | rfl | rfl | rfl
   ·exact h.s
   ·exact h.c
   ·exact h.o
   ·exact h.h
   ·exact h.f
 ·rw [WA (by omega),if_neg (by omega),if_neg (by omega),if_neg (by omega),if_neg (by omega),if_neg (by omega),if_neg (by omega)]
theorem vD (P m:Nat→Int):WR AM 60 [.agg 133 (ia P),.agg 3 (ia m)] [] (fun v _ _=>v = .tup [.agg 133 (ia (XI P (m 0) (m 1) (m 2))),.s (.int .i64 (Wk P (m 0) (m 1) (m 2)))]):=by
 refine YI (a:=a60) rfl rfl (YH _) (ZP rfl) (m:=0) rfl (Zd (YB rfl (YB rfl (Yx (Yp rfl (Yb (Yd (Zd (Zx rfl (Yl rfl rfl ZM rfl (Ys rfl (YF (Dc _)) rfl rfl rfl (Yu (r:=.bool _) rfl rfl (Zj rfl (Yr (t:=13) rfl (fun h3=>?_) (fun h3=>?_))))))))))))))) <;> simp only [NM] at h3
 ·try simp only [isM,decide_eq_true_eq,decide_eq_false_iff_not] at h3
  refine ZD rfl (Zo rfl (Zj rfl (ZD rfl (ZB rfl (Zo rfl (Yb (Zz rfl (Zd (YA rfl .nil (Yy rfl rfl rfl rfl .here (Yp rfl (Yb (Yh (⟨_,X5 rfl rfl ZL (ZK rfl),?_⟩))))))))))))))
  have h6:=Uk (P:=P) (a:=m 0) (t:=m 1) (b:=m 2) (by omega)
  rw [XI,h6,if_neg (by decide)]
  exact congrArg (fun g=>V.tup [V.agg 133 (ia g),V.s (.int .i64 6)]) Jc
 ·try simp only [isM,decide_eq_true_eq,decide_eq_false_iff_not] at h3
  refine Ya rfl (Zy rfl (Ya rfl (Yl rfl rfl ZM rfl (Ya rfl (Ys rfl (YF (Dc _)) rfl rfl rfl (Ya rfl (Yu (r:=.bool _) rfl rfl (Zo rfl (Zj rfl (Yr (t:=19) rfl (fun h4=>?_) (fun h4=>?_))))))))))) <;> simp only [NM] at h4
  ·try simp only [isM,decide_eq_true_eq,decide_eq_false_iff_not] at h4
   refine ZD rfl (ZB rfl (Zo rfl (Yb (Zz rfl (Zd (YA rfl .nil (Yy rfl rfl rfl rfl .here (Yp rfl (Yb (Yh (⟨_,X5 rfl rfl ZL (ZK rfl),?_⟩)))))))))))
   have h6:=Uk (P:=P) (a:=m 0) (t:=m 1) (b:=m 2) (by omega)
   rw [XI,h6,if_neg (by decide)]
   exact congrArg (fun g=>V.tup [V.agg 133 (ia g),V.s (.int .i64 6)]) Jc
  ·try simp only [isM,decide_eq_true_eq,decide_eq_false_iff_not] at h4
   refine Ya rfl (Zx rfl (Ya rfl (Yl rfl rfl ZM rfl (Ya rfl (Zy rfl (Ya rfl (Yl rfl rfl ZM rfl (Ya rfl (Zq rfl (Zo rfl (Yb (Yi rfl (fun h5=>?_) (fun h5=>?_))))))))))))) <;> simp only [NM] at h5
   ·refine Zd (YA rfl .nil (Yy rfl rfl rfl rfl .here (Yp rfl (Yb (Yh (⟨_,X5 rfl rfl ZL (ZK rfl),?_⟩))))))
    have h6:=Uk (P:=P) (a:=m 0) (t:=m 1) (b:=m 2) (by omega)
    rw [XI,h6,if_neg (by decide)]
    exact congrArg (fun g=>V.tup [V.agg 133 (ia g),V.s (.int .i64 6)]) Jc
   ·refine Yg (Yd (Zd (Yn rfl rfl ZN (Yn rfl rfl ZM (Ys rfl (YF (je _ _ (by assumption) (by assumption))) rfl rfl rfl (Yu (r:=.bool _) rfl rfl (Yb (Yi rfl (fun h6=>?_) (fun h6=>?_))))))))) <;> simp only [NM] at h6
    ·refine Zd (YA rfl .nil (Yy rfl rfl rfl rfl .here (Yp rfl (Yb (Yh (⟨_,X5 rfl rfl ZL (ZK rfl),?_⟩))))))
     have h8:=Wf (P:=P) (a:=m 0) (t:=m 1) (b:=m 2) ⟨by assumption,by assumption,by assumption⟩ (by assumption)
     rw [XI,h8,if_neg (by decide)]
     exact congrArg (fun g=>V.tup [V.agg 133 (ia g),V.s (.int .i64 8)]) Jc
    ·refine Yg (Zd (Zx rfl (Yl rfl rfl ZM rfl (Zx rfl ?_))))
     refine XL rfl rfl rfl (by first | omega | (have:=hca (by omega); omega)) ?_
     refine Yo rfl rfl ZN (Yx (Yy rfl rfl rfl rfl .here (Ze (Yn rfl rfl ZO (Yx (Yy rfl rfl rfl rfl .here (Ze (Yn rfl rfl (.tail _ ZO) (Yn rfl rfl ZO ?_)))))))))
     have hs:(0≤m 0∧m 0 < 64)∧(0≤m 1∧m 1 < 64)∧m 0 ≠ m 1:=⟨by assumption,by assumption,by assumption⟩
     have hcan:Xv P (m 0) (m 1) (m 2) = true:=by assumption
     have he:=W8 hs hcan
     have hb:=VK (P:=P) (k:=(P (sqI (m 0)))) hs.1 hs.2.1
     refine Ys rfl (t8 he) rfl rfl rfl (Zi rfl (Yb (WE (fun f n L=>∃ (X J:Nat→Int),(Wk P (m 0) (m 1) (m 2) = 0)∧(0≤m 0∧m 0 < 64)∧(0≤m 1∧m 1 < 64)∧((P (sqI (m 0)+1)) = 0∨(P (sqI (m 0)+1)) = 1)∧(X 0 = (P (sqI (m 0))))∧(X 1 = (P (sqI (m 0)+1)))∧(SameP P J (T1 P (Y5 P (P (sqI (m 0))) (m 0) (m 1))))∧(f 2 = .ptr 0 0 133)∧(f 3 = .ptr 1 0 3)∧(f 4 = .ptr 2 0 133)∧(f 6 = .ptr 3 0 2)∧(f 7 = .ptr 4 0 133)∧(f 8 = .s (.int .i64 (Y5 P (P (sqI (m 0))) (m 0) (m 1))))∧(L = [(4,.sc .var 133 (ia J)),(3,.sc .var 2 (ia X)),(2,.sc .var 133 (ia fun _=>0)),(1,.sc .var 3 (ia m)),(0,.sc .var 133 (ia P))])∧(n = 5)) ?_ (fun f nb L hI=>?_))))
     ·refine Zd (Zi rfl (Zq rfl (Yb (Yi rfl (fun h7=>?_) (fun h7=>?_))))) <;> simp only [NM] at h7
      ·refine Ye (Zi rfl (YA rfl .nil (Zx rfl ?_)))
       refine XL rfl rfl rfl (by first | omega | (have:=hca (by omega); omega)) ?_
       refine Yy rfl rfl rfl rfl .here (Yb (⟨_,(.refl _),_,_,he,hs.1,hs.2.1,Ef hcan,?_,?_,?_,rfl,rfl,rfl,rfl,rfl,rfl,rfl,rfl⟩))
       · rfl
       · rfl
       · have h0 : SameP P (ovA (fun _ => 0) 0 133 P) P := ⟨fun i hi => by rw [XR (by omega), Nat.sub_zero], fun i _ hi => by rw [XR (by omega), Nat.sub_zero]⟩
         have hb:=VK (P:=P) (k:=(P (sqI (m 0)))) hs.1 hs.2.1
         rw [T1]
         (rw [if_pos (by assumption)]; exact h0.put (by omega) (fun _ _=>rfl))
      ·refine Yg (⟨_,(.refl _),_,_,he,hs.1,hs.2.1,Ef hcan,?_,?_,?_,rfl,rfl,rfl,rfl,rfl,rfl,rfl,rfl⟩)
       · rfl
       · rfl
       · have h0 : SameP P (ovA (fun _ => 0) 0 133 P) P := ⟨fun i hi => by rw [XR (by omega), Nat.sub_zero], fun i _ hi => by rw [XR (by omega), Nat.sub_zero]⟩
         have hb:=VK (P:=P) (k:=(P (sqI (m 0)))) hs.1 hs.2.1
         rw [T1]
         (rw [if_neg (by omega)]; exact h0)
     ·obtain ⟨X,J,he,ha,ht,hc,hx0,hx1,hJ,k2,k3,k4,k6,k7,k8,rfl,rfl⟩:=hI
      refine pH 2 k2 (pH 3 k3 (pH 4 k4 (pH 6 k6 (pH 7 k7 (pH 8 k8 ?_)))))
      have hb:=VK (P:=P) (k:=(P (sqI (m 0)))) ha ht
      refine Zd (Zx rfl (Yl rfl rfl ZO rfl (YA rfl .nil (Zx rfl ?_))))
      refine XL rfl rfl rfl (by first | omega | (have:=hca (by omega); omega)) ?_
      refine Yy rfl rfl rfl rfl .here (Ze (Zy rfl (Yl rfl rfl ZO rfl (Yn rfl rfl ZM (Zx rfl ?_)))))
      refine XL rfl rfl rfl (by first | omega | (have:=hca (by omega); omega)) ?_
      refine Yy rfl rfl rfl rfl .here (Yb (WE (fun f n L=>∃ (J:Nat→Int),(SameP P J (Tt P (Y5 P (P (sqI (m 0))) (m 0) (m 1)) (m 0) (m 1) (P (sqI (m 0))) (P (sqI (m 0)+1)) (m 2)))∧(f 2 = .ptr 0 0 133)∧(f 3 = .ptr 1 0 3)∧(f 4 = .ptr 2 0 133)∧(f 6 = .ptr 3 0 2)∧(f 7 = .ptr 4 0 133)∧(f 8 = .s (.int .i64 (Y5 P (P (sqI (m 0))) (m 0) (m 1))))∧(L = [(4,.sc .var 133 (ia J)),(3,.sc .var 2 (ia X)),(2,.sc .var 133 (ia fun _=>0)),(1,.sc .var 3 (ia m)),(0,.sc .var 133 (ia P))])∧(n = 5)) ?_ (fun f nb L hI=>?_)))
      ·refine Zd (Yc (o':=2) rfl rfl rfl (Yl rfl rfl ZO rfl (Zq rfl (Yb (Yi rfl (fun h8=>?_) (fun h8=>?_)))))) <;> simp only [NM] at h8
       ·refine Ye (Zy rfl (Yl rfl rfl ZO rfl (Yc (o':=2) rfl rfl rfl (Yl rfl rfl ZO rfl (Zx rfl ?_)))))
        refine XL rfl rfl rfl (by first | omega | (have:=hca (by omega); omega)) ?_
        refine Yc rfl rfl rfl (Yz rfl rfl rfl rfl .here (Yb (⟨_,(.refl _),_,?_,rfl,rfl,rfl,rfl,rfl,rfl,rfl,rfl⟩)))
        have h2:=(hJ.put (X:=fun _=>0) (Y:=DN) ha (fun _ _=>rfl)).put (X:=X) (Y:=X) ht (fun _ _=>rfl)
        exact h2.kind (Y:=pc (if m 2 = 0 then (P (sqI (m 0))) else m 2) (P (sqI (m 0)+1))) ht (show (if m 2 = 0 then (P (sqI (m 0))) else m 2) = m 2 from if_neg (by assumption)) hx1.symm
       ·refine Yg (⟨_,(.refl _),_,?_,rfl,rfl,rfl,rfl,rfl,rfl,rfl,rfl⟩)
        have h2:=(hJ.put (X:=fun _=>0) (Y:=DN) ha (fun _ _=>rfl)).put (X:=X) (Y:=X) ht (fun _ _=>rfl)
        exact (hJ.put (X:=fun _=>0) (Y:=DN) ha (fun _ _=>rfl)).put (X:=X) ht (two (Y:=pc (if m 2 = 0 then (P (sqI (m 0))) else m 2) (P (sqI (m 0)+1))) (hx0.trans (if_pos (by assumption)).symm) hx1)
      ·obtain ⟨J,hJ,k2,k3,k4,k6,k7,k8,rfl,rfl⟩:=hI
       refine pH 2 k2 (pH 3 k3 (pH 4 k4 (pH 6 k6 (pH 7 k7 (pH 8 k8 ?_)))))
       have hb:=VK (P:=P) (k:=(P (sqI (m 0)))) ha ht
       refine WE (fun f n L=>∃ (J:Nat→Int),(SameP P J (VA P (Y5 P (P (sqI (m 0))) (m 0) (m 1)) (m 0) (m 1) (P (sqI (m 0))) (P (sqI (m 0)+1)) (m 2) (YW (P (sqI (m 0))) (m 0) (m 1) (P (sqI (m 0)+1)) (WK P))))∧(f 2 = .ptr 0 0 133)∧(f 3 = .ptr 1 0 3)∧(f 4 = .ptr 2 0 133)∧(f 6 = .ptr 3 0 2)∧(f 7 = .ptr 4 0 133)∧(f 8 = .s (.int .i64 (Y5 P (P (sqI (m 0))) (m 0) (m 1))))∧(L = [(4,.sc .var 133 (ia J)),(3,.sc .var 2 (ia X)),(2,.sc .var 133 (ia fun _=>0)),(1,.sc .var 3 (ia m)),(0,.sc .var 133 (ia P))])∧(n = 5)) ?_ (fun f nb L hI=>?_)
       ·refine Zd (Yn rfl rfl (.tail _ ZO) (Yn rfl rfl ZO ?_))
        have hca:=Tw (k:=(P (sqI (m 0)))) (a:=m 0) (t:=m 1) (c:=(P (sqI (m 0)+1))) (C:=WK P)
        refine Ys rfl (YF (wA P m hc ha ht)) rfl rfl rfl ?_
        obtain ⟨g,hg⟩:∃ g,g = (YW (P (sqI (m 0))) (m 0) (m 1) (P (sqI (m 0)+1)) (WK P)):=⟨_,rfl⟩
        rw [← hg] at hca ⊢
        refine Yb (Yj (Zd (Zq rfl (Zj rfl (Yb (Yi rfl (fun h9=>?_) (fun h9=>?_))))))) <;> simp only [NM] at h9
        ·refine Zd (Zx rfl (Yl rfl rfl ZO rfl ?_))
         refine WZ rfl rfl (by first | omega | (have:=hca (by omega); omega)) ?_
         refine YA rfl .nil (Zx rfl ?_)
         refine XL rfl rfl rfl (by first | omega | (have:=hca (by omega); omega)) ?_
         refine Yy rfl rfl rfl rfl .here (Yb (Ye (Zx rfl (Yl rfl rfl ZO rfl ?_))))
         refine WZ rfl rfl (by first | omega | (have:=hca (by omega); omega)) ?_
         refine Zy rfl (Yl (x:=X 1) rfl rfl ZM (rfl) (YA rfl (.one rfl (.one rfl .nil)) (Zx rfl ?_)))
         refine XL rfl rfl rfl (by first | omega | (have:=hca (by omega); omega)) ?_
         refine Yy rfl rfl rfl rfl .here (Yb (⟨_,(.refl _),_,?_,rfl,rfl,rfl,rfl,rfl,rfl,rfl,rfl⟩))
         rw [VA]
         (rw [if_pos (by assumption)]; exact (hJ.put (by omega) (fun _ _=>rfl)).put (by omega) (two rfl hx1))
        ·refine Zd (Zq rfl (Zj rfl (Yb (Yi rfl (fun h10=>?_) (fun h10=>?_))))) <;> simp only [NM] at h10
         ·refine Zd (Zx rfl (Yl rfl rfl ZO rfl ?_))
          refine qR rfl rfl (by first | omega | (have:=hca (by omega); omega)) ?_
          refine YA rfl .nil (Zx rfl ?_)
          refine XL rfl rfl rfl (by first | omega | (have:=hca (by omega); omega)) ?_
          refine Yy rfl rfl rfl rfl .here (Yb (Ye (Zx rfl (Yl rfl rfl ZO rfl ?_))))
          refine qR rfl rfl (by first | omega | (have:=hca (by omega); omega)) ?_
          refine Zy rfl (Yl (x:=X 1) rfl rfl ZM (rfl) (YA rfl (.one rfl (.one rfl .nil)) (Zx rfl ?_)))
          refine XL rfl rfl rfl (by first | omega | (have:=hca (by omega); omega)) ?_
          refine Yy rfl rfl rfl rfl .here (Yb (⟨_,(.refl _),_,?_,rfl,rfl,rfl,rfl,rfl,rfl,rfl,rfl⟩))
          rw [VA]
          (rw [if_neg (by assumption),if_pos (by assumption)]; exact (hJ.put (by omega) (fun _ _=>rfl)).put (by omega) (two rfl hx1))
         ·refine Yg (⟨_,(.refl _),_,?_,rfl,rfl,rfl,rfl,rfl,rfl,rfl,rfl⟩)
          rw [VA]
          (rw [if_neg (by assumption),if_neg (by assumption)]; exact hJ)
       ·obtain ⟨J,hJ,k2,k3,k4,k6,k7,k8,rfl,rfl⟩:=hI
        refine pH 2 k2 (pH 3 k3 (pH 4 k4 (pH 6 k6 (pH 7 k7 (pH 8 k8 (Zd (Yc (o':=128) rfl rfl rfl (Yl (x:=P 128) rfl rfl (.tail _ ZO) (rfl) (Ys rfl (YF (WQ _)) rfl rfl rfl (Yc (o':=128) rfl rfl rfl (Yz rfl rfl rfl rfl .here (Yb (Yd (Yf (Yn rfl rfl (.tail _ ZO) (Yt rfl (YF (Vv _)) rfl rfl rfl (Zx rfl (Yl rfl rfl ZO rfl (Yt rfl (YF (xD _)) rfl rfl rfl (Yt rfl (YF (Dh _ _ (Tp P) (q7 _))) rfl rfl rfl (Zy rfl (Yl rfl rfl ZO rfl (Ys rfl (YF (xD _)) rfl rfl rfl (Ys rfl (jM) rfl rfl rfl (Yc (o':=129) rfl rfl rfl (Yz rfl rfl rfl rfl .here (Ze (Yc (o':=130) rfl rfl rfl (Yz rfl rfl rfl rfl .here ?_)))))))))))))))))))))))))))))
        refine Yb (WE (fun f n L=>∃ (J:Nat→Int),(DoneP P J (VA P (Y5 P (P (sqI (m 0))) (m 0) (m 1)) (m 0) (m 1) (P (sqI (m 0))) (P (sqI (m 0)+1)) (m 2) (YW (P (sqI (m 0))) (m 0) (m 1) (P (sqI (m 0)+1)) (WK P))) (Y0 (P 128)) (VD (WK P) (orM (orM 0 (Xp (m 0))) (Xp (m 1)))) (Un (P (sqI (m 0))) (m 0) (m 1) (P (sqI (m 0)+1))) (P 131) (P 132))∧(f 2 = .ptr 0 0 133)∧(f 3 = .ptr 1 0 3)∧(f 4 = .ptr 2 0 133)∧(f 6 = .ptr 3 0 2)∧(f 7 = .ptr 4 0 133)∧(f 8 = .s (.int .i64 (Y5 P (P (sqI (m 0))) (m 0) (m 1))))∧(L = [(4,.sc .var 133 (ia J)),(3,.sc .var 2 (ia X)),(2,.sc .var 133 (ia fun _=>0)),(1,.sc .var 3 (ia m)),(0,.sc .var 133 (ia P))])∧(n = 5)) ?_ (fun f nb L hI=>?_))
        ·refine Zd (Yn rfl rfl ZM (Yn rfl rfl ZO (Ys rfl (YF (uX X m (by rw [hx1]; exact hc) ha ht)) rfl rfl rfl (Yb (Yi rfl (fun h11=>?_) (fun h11=>?_))))))
         ·refine Ye (Zx rfl (Yl rfl rfl ZO rfl (Zy rfl (Yl rfl rfl ZO rfl ?_))))
          refine WZ rfl rfl (by first | omega | (have:=hca (by omega); omega)) ?_
          refine tv rfl rfl (by first | omega | (have:=hca (by omega); omega)) ?_
          refine Yc (o':=130) rfl rfl rfl (Yz rfl rfl rfl rfl .here (Yb (⟨_,(.refl _),_,?_,rfl,rfl,rfl,rfl,rfl,rfl,rfl,rfl⟩)))
          refine ⟨(by intro i hi; (repeat rw [WF (by omega)]); exact hJ.lo i hi),rfl,rfl,?_,hJ.hi 131 (by omega) (by omega),hJ.hi 132 (by omega) (by omega)⟩
          rw [Un,← hx0,← hx1]
          (rw [if_pos (by assumption)]; rfl)
         ·refine Yg (⟨_,(.refl _),_,?_,rfl,rfl,rfl,rfl,rfl,rfl,rfl,rfl⟩)
          refine ⟨(by intro i hi; (repeat rw [WF (by omega)]); exact hJ.lo i hi),rfl,rfl,?_,hJ.hi 131 (by omega) (by omega),hJ.hi 132 (by omega) (by omega)⟩
          rw [Un,← hx0,← hx1]
          (rw [if_neg (Bool.eq_false_iff.1 (by assumption))]; rfl)
        ·obtain ⟨J,hD,k2,k3,k4,k6,k7,k8,rfl,rfl⟩:=hI
         refine pH 2 k2 (pH 3 k3 (pH 4 k4 (pH 6 k6 (pH 7 k7 (pH 8 k8 (Zd (Yc (o':=131) rfl rfl rfl (Yl (x:=P 131) rfl rfl (.tail _ ZO) (rfl) (T7 rfl rfl (Yq rfl rfl rfl (Yc (o':=131) rfl rfl rfl (Yz rfl rfl rfl rfl .here (Yb (WE (fun f n L=>∃ (J:Nat→Int),(DoneP P J (VA P (Y5 P (P (sqI (m 0))) (m 0) (m 1)) (m 0) (m 1) (P (sqI (m 0))) (P (sqI (m 0)+1)) (m 2) (YW (P (sqI (m 0))) (m 0) (m 1) (P (sqI (m 0)+1)) (WK P))) (Y0 (P 128)) (VD (WK P) (orM (orM 0 (Xp (m 0))) (Xp (m 1)))) (Un (P (sqI (m 0))) (m 0) (m 1) (P (sqI (m 0)+1))) (VU P (P (sqI (m 0))) (Y5 P (P (sqI (m 0))) (m 0) (m 1))) (P 132))∧(f 2 = .ptr 0 0 133)∧(f 3 = .ptr 1 0 3)∧(f 4 = .ptr 2 0 133)∧(f 6 = .ptr 3 0 2)∧(f 7 = .ptr 4 0 133)∧(f 8 = .s (.int .i64 (Y5 P (P (sqI (m 0))) (m 0) (m 1))))∧(L = [(4,.sc .var 133 (ia J)),(3,.sc .var 2 (ia X)),(2,.sc .var 133 (ia fun _=>0)),(1,.sc .var 3 (ia m)),(0,.sc .var 133 (ia P))])∧(n = 5)) ?_ (fun f nb L hI=>?_)))))))))))))))
         ·refine Zd (Zx rfl (Yl (x:=(P (sqI (m 0)))) rfl rfl ZM (hx0) (Zq rfl (Zj rfl (Yr (t:=136) rfl (fun h12=>?_) (fun h12=>?_)))))) <;> simp only [NM] at h12
          ·refine ZC rfl (Zo rfl (Yb (Zz rfl (Ye (Yc (o':=131) rfl rfl rfl (Yz rfl rfl rfl rfl .here (Yb (⟨_,(.refl _),_,?_,rfl,rfl,rfl,rfl,rfl,rfl,rfl,rfl⟩))))))))
           refine ⟨(by intro i hi; (repeat rw [WF (by omega)]); exact hD.lo i hi),hD.s,hD.c,hD.o,?_,hD.f⟩
           rw [VU]
           (rw [if_pos (.inl (by assumption))]; rfl)
          ·refine Ya rfl (Zi rfl (Ya rfl (Zq rfl (Zo rfl (Yb (Yi rfl (fun h13=>?_) (fun h13=>?_))))))) <;> simp only [NM] at h13
           ·refine Ye (Yc (o':=131) rfl rfl rfl (Yz rfl rfl rfl rfl .here (Yb (⟨_,(.refl _),_,?_,rfl,rfl,rfl,rfl,rfl,rfl,rfl,rfl⟩))))
            refine ⟨(by intro i hi; (repeat rw [WF (by omega)]); exact hD.lo i hi),hD.s,hD.c,hD.o,?_,hD.f⟩
            rw [VU]
            (rw [if_pos (.inr (by assumption))]; rfl)
           ·refine Yg (⟨_,(.refl _),_,?_,rfl,rfl,rfl,rfl,rfl,rfl,rfl,rfl⟩)
            refine ⟨(by intro i hi; (repeat rw [WF (by omega)]); exact hD.lo i hi),hD.s,hD.c,hD.o,?_,hD.f⟩
            rw [VU]
            (rw [if_neg (by omega)]; rfl)
         ·obtain ⟨J,hD,k2,k3,k4,k6,k7,k8,rfl,rfl⟩:=hI
          refine pH 2 k2 (pH 3 k3 (pH 4 k4 (pH 6 k6 (pH 7 k7 (pH 8 k8 (WE (fun f n L=>∃ (J:Nat→Int),(DoneP P J (VA P (Y5 P (P (sqI (m 0))) (m 0) (m 1)) (m 0) (m 1) (P (sqI (m 0))) (P (sqI (m 0)+1)) (m 2) (YW (P (sqI (m 0))) (m 0) (m 1) (P (sqI (m 0)+1)) (WK P))) (Y0 (P 128)) (VD (WK P) (orM (orM 0 (Xp (m 0))) (Xp (m 1)))) (Un (P (sqI (m 0))) (m 0) (m 1) (P (sqI (m 0)+1))) (VU P (P (sqI (m 0))) (Y5 P (P (sqI (m 0))) (m 0) (m 1))) (Qj P))∧(f 2 = .ptr 0 0 133)∧(f 3 = .ptr 1 0 3)∧(f 4 = .ptr 2 0 133)∧(f 6 = .ptr 3 0 2)∧(f 7 = .ptr 4 0 133)∧(f 8 = .s (.int .i64 (Y5 P (P (sqI (m 0))) (m 0) (m 1))))∧(L = [(4,.sc .var 133 (ia J)),(3,.sc .var 2 (ia X)),(2,.sc .var 133 (ia fun _=>0)),(1,.sc .var 3 (ia m)),(0,.sc .var 133 (ia P))])∧(n = 5)) ?_ (fun f nb L hI=>?_)))))))
          ·refine Zd (Yc (o':=128) rfl rfl rfl (Yl (x:=P 128) rfl rfl (.tail _ ZO) (rfl) (Zq rfl (Yb (Yi rfl (fun h14=>?_) (fun h14=>?_)))))) <;> simp only [NM] at h14
           ·refine Ye (Yc (o':=132) rfl rfl rfl (Yl (x:=P 132) rfl rfl (.tail _ ZO) (rfl) (T7 rfl rfl (Yq rfl rfl rfl (Yc (o':=132) rfl rfl rfl (Yz rfl rfl rfl rfl .here (Yb (⟨_,(.refl _),_,?_,rfl,rfl,rfl,rfl,rfl,rfl,rfl,rfl⟩))))))))
            refine ⟨(by intro i hi; (repeat rw [WF (by omega)]); exact hD.lo i hi),hD.s,hD.c,hD.o,hD.h,?_⟩
            rw [Qj]
            (rw [if_pos (by assumption)]; rfl)
           ·refine Yg (⟨_,(.refl _),_,?_,rfl,rfl,rfl,rfl,rfl,rfl,rfl,rfl⟩)
            refine ⟨(by intro i hi; (repeat rw [WF (by omega)]); exact hD.lo i hi),hD.s,hD.c,hD.o,hD.h,?_⟩
            rw [Qj]
            (rw [if_neg (by assumption)]; exact hD.f)
          ·obtain ⟨J,hD,k2,k3,k4,k6,k7,k8,rfl,rfl⟩:=hI
           refine pH 2 k2 (pH 3 k3 (pH 4 k4 (pH 6 k6 (pH 7 k7 (pH 8 k8 (Zd (Yn rfl rfl ZL (Yy rfl rfl rfl rfl (.there (.there .here)) (Yp rfl (Yb (Yh (⟨_,X5 rfl rfl ZN (ZK rfl),?_⟩))))))))))))
           rw [XI,he,if_pos rfl,← pa hD]
           rfl
def X8 (P:Nat→Int) (a t:Int):Bool:=decide (P (sqI a) = 6∧(t - a = 2∨t - a = -2))
def zF (P:Nat→Int) (l:List Int):Bool:=!(l.any (Vx P (Y0 (P 128))))
def XG (P:Nat→Int):Bool:=Vq P && !Xu P (Y0 (P 128))
theorem qm (P m:Nat→Int) (ha:0≤m 0∧m 0 < 64) (ht:0≤m 1∧m 1 < 64):WR AM 69 [.agg 133 (ia P),.agg 3 (ia m)] [] (fun v _ _=>v = .s (.bool (X8 P (m 0) (m 1)))):=by
 refine YI (a:=a69) rfl rfl (YH _) (ZP rfl) (m:=0) rfl (Zd (YB rfl (YB rfl (Yp rfl (Ze (Zy rfl (Yl rfl rfl ZL rfl (Zx rfl (Yl rfl rfl ZL rfl (Zs rfl rfl (Zi rfl (Ze (Zx rfl (Yl rfl rfl ZL rfl (Zx rfl (Zx rfl (Zv rfl rfl rfl (Yc rfl rfl rfl (Yl (x:=P (sqI (m 0))) rfl rfl ZM (congrArg P (by have hq:sqI (m 0) = 0+(m 0).toNat*2:=rfl; omega)) (Zq rfl (Zj rfl (Yr (t:=19) rfl (fun h1=>?_) (fun h1=>?_))))))))))))))))))))))) <;> simp only [NM] at h1
 ·refine Ya rfl (Zi rfl (Ya rfl (Zq rfl (Ya rfl (Zj rfl (Yr (t:=22) rfl (fun h2=>?_) (fun h2=>?_))))))) <;> simp only [NM] at h2
  ·refine ZC rfl (Ya rfl (Zo rfl (Zo rfl (Zj rfl (Zf rfl ?_)))))
   unfold X8
   (rw [decide_eq_true (by omega)]; rfl)
  ·refine Ya rfl (Zi rfl (Ya rfl (Zq rfl (Ya rfl (Zo rfl (Zo rfl (Zj rfl (Zf rfl ?_))))))))
   unfold X8
   (refine congrArg (fun b=>V.s (.bool b)) ?_; rw [Bool.eq_iff_iff]; simp only [beq_iff_eq,decide_eq_true_eq]; omega)
 ·refine ZC rfl (ZB rfl (YG rfl (YG rfl (ZB rfl (Zo rfl (Zj rfl (Zf rfl ?_)))))))
  unfold X8
  (rw [decide_eq_false (by omega)]; rfl)
theorem safe_rd (P:Nat→Int) (l:List Int) (hlen:l.length≤1000000):RdR AM 70 1 [.agg 133 (ia P)] [] l (.s (.bool (zF P l))):=by
 refine ER fun v Bs hc=>?_
 refine YI (a:=a70) rfl rfl (YH _) (ZP rfl) rfl ?_ (by first | rfl | (cases hc <;> rfl))
 have hr0:=hc.rx
 rw [show Xj 0 Bs = Xj 0 Bs++[] from (List.append_nil _).symm]
 generalize hown:Xj 0 Bs = own0 at hr0 ⊢
 refine Zd (YB rfl (Yp rfl (Yb (Yd (Yf (Zx rfl (Yn rfl rfl ZL (Zx rfl (Yc (o':=128) rfl rfl rfl (Yl rfl rfl ZL rfl (Yt rfl (YF (VH _)) rfl rfl rfl (Yp (v:=v) rfl (VF (caps:=[]) rfl (kY P (Y0 (P 128)) l hlen) rfl (hr0) (fun _ h=>(.tail _ (List.mem_append_left _ h))) rfl rfl rfl (Yu (r:=.bool _) rfl rfl (Zj rfl (Zf rfl ?_))))))))))))))))
 exact ⟨rfl,(fun _ h=>(.tail _ h))⟩
theorem Qg (P:Nat→Int):WR AM 19 [.agg 133 (ia P)] [] (fun v _ _=>v = .s (.bool (XG P))):=by
 refine YI (a:=a19) rfl rfl (YH _) (ZP rfl) (m:=0) rfl (Zd (YB rfl (Yp rfl (Yb (Yd (Yf (Yn rfl rfl ZL (Ys rfl (YF (sK _)) rfl rfl rfl (Zj rfl (Yr (t:=5) rfl (fun h3=>?_) (fun h3=>?_)))))))))))
 ·refine Ya rfl (Yn rfl rfl ZL (Ya rfl (Yc (o':=128) rfl rfl rfl (Ya rfl (Yl rfl rfl ZL rfl (Ya rfl (Yt rfl (YF (VH _)) rfl rfl rfl (Ya rfl (Ys rfl (EM _ _) rfl rfl rfl (Ya rfl (Yu (r:=.bool _) rfl rfl (Zo rfl (Zj rfl (Zf rfl ?_))))))))))))))
  unfold XG
  (rw [show Vq P = true by assumption]; rfl)
 ·refine Z9 rfl rfl (ZD rfl (ZB rfl (Zo rfl (Zj rfl (Zf rfl ?_)))))
  unfold XG
  (rw [show Vq P = false by assumption]; rfl)
theorem tH {g:FuncId} {o z:Nat}:One fun b=>.fn g [.ptr b o z]:=⟨fun _=>by simp [V.refs,V.refsL],fun h b=>by cases e:h b <;> simp [V.ren,V.renL,e]⟩
theorem jall_rn (P:Nat→Int):RN AM 52 [.agg 133 (ia P)] [] (fun b=>.fn 67 [.ptr b 0 133]) (.sc .var 133 (ia P)) []:=uq (by
 refine YI (a:=a52) rfl rfl (YH _) (ZP rfl) (m:=0) rfl (Yd (Ye (YB rfl (Yp rfl (Yb (Yd (Ye (Qz rfl (Yp rfl (Yb ?_))))))))))
 exact Yh ⟨_,YK rfl YS,0,rfl,.head _⟩)
theorem of_rn (P:Nat→Int) (h:XG P = true):RN AM 32 [.agg 133 (ia P)] [] (fun b=>.fn 67 [.ptr b 0 133]) (.sc .var 133 (ia (ovA (fun _=>0) 0 133 P))) []:=uq (by
 refine YI (a:=a32) rfl rfl (YH _) (ZP rfl) (m:=0) rfl (Yd (Ye (YB rfl (Yp rfl (Yb (Yd (Yd (Ye (Yn rfl rfl ZL (Ys rfl (YF (Qg P)) rfl rfl rfl ?_))))))))))
 rw [h]
 refine Yu (r:=.bool false) rfl rfl (Yb (Yi rfl (fun h=>nomatch h) (fun _=>Yg (Yd (Ye (Yn rfl rfl ZL (YA (Q:=ovA (fun _=>0) 0 133 P) rfl (.agg rfl .nil) (TI (rs:=[]) (Bs:=[]) (caps:=[]) (av:=[.agg 133 (ia (ovA (fun _=>0) 0 133 P))]) tH rfl (jall_rn _) rfl rfl (YE rfl) (fun _ h=>h) rfl trivial rfl rfl .nil (Yp rfl (Yb ?_))))))))))
 exact Yh ⟨_,YK rfl YS,1,rfl,.head _⟩)
theorem of_none (P:Nat→Int) (h:XG P = false):RF AM 32 [.agg 133 (ia P)] (.fn 51 []):=YF (by
 refine YI (a:=a32) rfl rfl (YH _) (ZP rfl) (m:=0) rfl (Yd (Ye (YB rfl (Yp rfl (Yb (Yd (Yd (Ye (Yn rfl rfl ZL (Ys rfl (YF (Qg P)) rfl rfl rfl ?_))))))))))
 rw [h]
 refine Yu (r:=.bool true) rfl rfl (Yb (Zz rfl (Yd (Ye (Yp rfl (Yb ?_))))))
 exact Yh ⟨_,YK rfl YS,rfl⟩)
def VZ (g0 g4:Nat→S) (c:Nat):List V:=[.agg 133 g0,.ptr 1 0 133,.ptr 2 0 1,.undef,.agg 133 g4,.fn 67 [.ptr c 0 133],.undef,.undef,.undef,.undef,.undef,.undef,.undef]
section
variable (g0 g4 g1:Nat→S) (Q:Nat→Int)
noncomputable def Tm (c st:Nat):Blk:=.lp 607 Q8 (VZ g0 g4 c) st
theorem tW {Q:Nat→Int} {x y z:Int} (h0:Q 0 = x) (h1:Q 1 = y) (h2:Q 2 = z):∀ i,i < [x,y,z].length→ovA (fun _=>0) (0*3) 3 Q i = [x,y,z].getD i 0:=fun i hi=>by have:=U7 h0 h1 h2 i hi; rwa [Nat.zero_add] at this
theorem Dt (M Y:Nat→Int) :
  WR AM 607 [.pan .undef,.yv 0,.agg 3 (ia M),.agg 133 (ia Y)] [Tm g0 g4 3 0,.sc .var 133 g1,.vs .var [.snil],.sc .var 133 (ia Q)] (fun v n L=>v = .s (.bool true)∧TK L [Tm g0 g4 3 0,.sc .var 133 g1] [.sc .var 133 (ia Q)] [M 0,M 1,M 2]):=by
 refine RC (N:=13) (B:=B20) (f:=YH (((VZ g0 g4 3).set 6 (.agg 3 (ia M))).set 7 (.agg 133 (ia Y)))) (caps:=VZ g0 g4 3) rfl rfl rfl (Ek rfl) rfl (Ye (Yx (Yy rfl rfl rfl rfl .here (Yb (⟨607,Q8,VZ g0 g4 3,rfl,?_⟩)))))
 refine Yj (Ye (UX (v:=.snil) rfl rfl ZO rfl (Yn rfl rfl ZL (Wm rfl (.agg rfl .nil) (R9 (c:=[M 0,M 1,M 2]) rfl (Rw.nil rfl) rfl (.row rfl (tW (Q:=ovA (fun _=>0) 0 3 M) rfl rfl rfl)) (KG ZL) (Dr.here (own:=[])) (by decide) (YE rfl) (fun v3 own3 n3 hr3 hn3=>Ru (b:=2) (u:=.snil) (v:=v3) rfl rfl hr3.isrow (.appR _ (.appR _ (.there (.there (.there (.there .here)))))) (Ub (L':=own3++[(0,.lp 607 Q8 (VZ g0 g4 3) 1),(1,.sc .var 133 g1),(2,.vs .var [v3]),(3,.sc .var 133 (ia Q))]) (List.Sublist.append (.refl _) (List.sublist_append_of_sublist_right (.cons _ (.cons _ (.refl _))))) (V7 List.perm_append_comm (Yb ⟨607,Q8,VZ g0 g4 3,rfl,rfl,?_⟩)))))))))
 have h4:∀ p∈own3,4 < p.1:=fun p hp=>hn3 p hp (4,_) ZM
 rw [List.nil_append] at hr3
 refine K0 hr3 ⟨.head _,.tail _ ZL,.tail _ ZM,.tail _ ZN,trivial⟩ (fun p hp=>⟨.tail _ (.tail _ (.tail _ (.tail _ ?_))),Nat.le_of_lt (h4 p hp)⟩)
 show p∈setL 0 _ own3
 rw [Kv (fun p hp=>by have:=h4 p hp; omega)]; exact hp
theorem Dq (M Y:Nat→Int) (l:List Int) (m q:Nat) (F:Nat→Int) (hlm:l.length = m*3) (hF:∀ i,i < l.length→F i = l.getD i 0) (hll:l.length≤1000000) :
  WR AM 607 [.pan .undef,.yv 0,.agg 3 (ia M),.agg 133 (ia Y)] [Tm g0 g4 4 0,.sc .var 133 g1,Vf .var 3 m 3,.sc .grow q (ia F),.sc .var 133 (ia Q)] (fun v n L=>v = .s (.bool true)∧TK L [Tm g0 g4 4 0,.sc .var 133 g1] [.dead,.sc .var 133 (ia Q)] (l++[M 0,M 1,M 2])):=by
 refine RC (N:=13) (B:=B20) (f:=YH (((VZ g0 g4 4).set 6 (.agg 3 (ia M))).set 7 (.agg 133 (ia Y)))) (caps:=VZ g0 g4 4) rfl rfl rfl (Ek rfl) rfl (Ye (Yx (Yy rfl rfl rfl rfl .here (Yb (⟨607,Q8,VZ g0 g4 4,rfl,?_⟩)))))
 refine Yj (Ye (UX (v:=.sl 3 0 m 3 .whole) rfl rfl ZO rfl (Yn rfl rfl ZL (Wm rfl (.agg rfl .nil) (R9 (c:=[M 0,M 1,M 2]) rfl (Rw.row hlm hF) rfl (.row rfl (tW (Q:=ovA (fun _=>0) 0 3 M) rfl rfl rfl)) (KG ZL) (.there (.there (.there (.there (.there .here))))) (by decide) (by simp only [List.length_cons,List.length_nil]; omega) (fun v3 own3 n3 hr3 hn3=>Ru (b:=2) (u:=.sl 3 0 m 3 .whole) (v:=v3) rfl rfl hr3.isrow (.appR _ (.there (.appR _ (.there (.there (.there (.there .here))))))) (Ub (L':=own3++[(3,.dead),(0,.lp 607 Q8 (VZ g0 g4 4) 1),(1,.sc .var 133 g1),(2,.vs .var [v3]),(4,.sc .var 133 (ia Q))]) (List.Sublist.append (.refl _) (.cons_cons _ (.cons _ (.cons _ (.refl _))))) (V7 List.perm_append_comm (Yb ⟨607,Q8,VZ g0 g4 4,rfl,rfl,?_⟩)))))))))
 have h4:∀ p∈own3,5 < p.1:=fun p hp=>hn3 p hp (5,_) ZM
 refine K0 hr3 ⟨.tail _ ZL,.tail _ ZM,.tail _ ZN,.head _,.tail _ ZO,trivial⟩ (fun p hp=>⟨.tail _ (.tail _ (.tail _ (.tail _ (.tail _ ?_)))),Nat.le_of_lt (h4 p hp)⟩)
 show p∈setL 0 _ own3
 rw [Kv (fun p hp=>by have:=h4 p hp; omega)]; exact hp
end
def Wi (P:Nat→Int) (m:Mv):Bool:=!(X8 P m.1 m.2.1 && !zF P [m.1,(m.1+m.2.1) / 2]) && (decide (Wk P m.1 m.2.1 m.2.2 = 0) && !Xu (XI P m.1 m.2.1 m.2.2) (P 128))
def yj (P:Nat→Int):List Mv:=(Td P).filter (Wi P)
def mvX (F:Nat→Int) (o:Nat):Nat→Int:=ovA (fun _=>0) 0 3 (fun j=>F (o+j))
theorem su {F:Nat→Int} {l:List Mv} {i:Nat} (hF:∀ j,j < (YV l).length→F j = (YV l).getD j 0) (hi:i < l.length):mvX F (0+(i:Int).toNat*3) 0 = (l.getD i (0,0,0)).1∧mvX F (0+(i:Int).toNat*3) 1 = (l.getD i (0,0,0)).2.1∧mvX F (0+(i:Int).toNat*3) 2 = (l.getD i (0,0,0)).2.2:=by
 obtain ⟨e1,e2,e3⟩:=Jo hi
 have hb:3*i+2 < (YV l).length:=by rw [Xm]; omega
 rw [← hF _ (by omega)] at e1 e2 e3
 refine ⟨?_,?_,?_⟩
 ·rw [← e1]; show F _ = F _; exact congrArg F (by omega)
 ·rw [← e2]; show F _ = F _; exact congrArg F (by omega)
 ·rw [← e3]; show F _ = F _; exact congrArg F (by omega)
theorem toM_bd {s k c t:Int} {m:Mv} (hs:0≤s∧s < 64) (ht:0≤t∧t < 64) (h:m∈toM s k c t):(0≤m.1∧m.1 < 64)∧(0≤m.2.1∧m.2.1 < 64):=by
 unfold toM at h
 split at h
 ·simp only [List.mem_cons,List.not_mem_nil,or_false] at h
  rcases h with rfl | rfl | rfl | rfl <;> exact ⟨hs,ht⟩
 ·rw [List.mem_singleton.1 h]; exact ⟨hs,ht⟩
theorem allS_bd {P:Nat→Int} {m:Mv} (h:m∈Td P):(0≤m.1∧m.1 < 64)∧(0≤m.2.1∧m.2.1 < 64):=by
 have h:=(UP _).mem_iff.1 h
 unfold UG X4 at h
 rw [List.mem_flatMap] at h
 obtain ⟨s,hs,h⟩:=h
 rw [List.mem_map] at hs
 obtain ⟨k,hk,rfl⟩:=hs
 have hk:=List.mem_range.1 hk
 split at h
 ·unfold VM at h
  rw [List.mem_flatMap] at h
  obtain ⟨t,ht,h⟩:=h
  exact toM_bd (by constructor <;> omega) (QL ht) h
 ·cases h
theorem ru (P:Nat→Int):(Td P).length≤16896:=by
 have:=RU P 64
 rw [show (Td P).length = _ from (UP _).length_eq]; omega
theorem getD_mv {l:List Mv} {i:Nat} (hi:i < l.length):l.getD i (0,0,0)∈l:=by
 rw [List.getD_eq_getElem?_getD,List.getElem?_eq_getElem hi]
 exact List.getElem_mem hi
theorem j5 {P X:Nat→Int} {l:List Mv} {i:Nat} (hi:i < l.length) (h0:X 0 = (l.getD i (0,0,0)).1) (h1:X 1 = (l.getD i (0,0,0)).2.1) (h2:X 2 = (l.getD i (0,0,0)).2.2) (h:Wi P (l.getD i (0,0,0)) = true):YV ((l.take i).filter (Wi P))++[X 0,X 1,X 2] = YV ((l.take (i+1)).filter (Wi P)):=by
 rw [W5 (0,0,0) hi,List.filter_append,List.filter_cons,h,if_pos rfl,QA,h0,h1,h2]; rfl
theorem EN {P:Nat→Int} {l:List Mv} {i:Nat} (hi:i < l.length) (h:Wi P (l.getD i (0,0,0)) = false):YV ((l.take (i+1)).filter (Wi P)) = YV ((l.take i).filter (Wi P)):=by
 rw [W5 (0,0,0) hi,List.filter_append,List.filter_cons,h,if_neg (by decide)]; simp
theorem Dp (P:Nat→Int) {l:List Mv} (i:Nat):(YV ((l.take i).filter (Wi P))).length≤l.length*3:=by
 have h1:=List.length_filter_le (Wi P) (l.take i)
 rw [List.length_take] at h1
 rw [Xm]; omega
theorem ya {P:Nat→Int} {m:Mv} (h1:X8 P m.1 m.2.1 = true) (h2:zF P [m.1,(m.1+m.2.1) / 2] = false):Wi P m = false:=by unfold Wi; rw [h1,h2]; rfl
theorem zn {P:Nat→Int} {m:Mv} (h:Wk P m.1 m.2.1 m.2.2 ≠ 0):Wi P m = false:=by unfold Wi; rw [decide_eq_false h]; simp
theorem zJ {P:Nat→Int} {m:Mv} (h:Xu (XI P m.1 m.2.1 m.2.2) (P 128) = true):Wi P m = false:=by unfold Wi; rw [h]; simp
theorem leg_t {P:Nat→Int} {m:Mv} (h1:X8 P m.1 m.2.1 = false∨zF P [m.1,(m.1+m.2.1) / 2] = true) (h2:Wk P m.1 m.2.1 m.2.2 = 0) (h3:Xu (XI P m.1 m.2.1 m.2.2) (P 128) = false):Wi P m = true:=by
 unfold Wi
 rw [decide_eq_true h2,h3]
 rcases h1 with h | h <;> rw [h] <;> simp
theorem iter_mv (g0 g4 g1:Nat→S) (P:Nat→Int):WR AM 67 [.yv 0,.ptr 3 0 133] [(Tm g0 g4 3 0),.sc .var 133 g1,.vs .var [.snil],.sc .var 133 (ia P)] (fun v _ L=>v = .tup []∧TK L [(Tm g0 g4 3 0),.sc .var 133 g1] [.sc .var 133 (ia P)] (YV (yj P))):=by
 refine YI (a:=a67) rfl rfl (YH _) (ZP rfl) (m:=4) rfl (Zd (Zx rfl (Yn rfl rfl ZO ?_)))
 obtain ⟨l,hleq⟩:∃ l,l = Td P:=⟨_,rfl⟩
 have hall:=all_rt P
 rw [← hleq] at hall
 have hlen:=ru P
 rw [← hleq] at hlen
 refine YD rfl (hall) rfl rfl (fun v1 own1 n1 hr1=>Vn rfl hr1.rx (by decide) (Xm l) (Yp rfl (Yb (Yj (Xe (List.Sublist.append (.refl _) (.refl _)) (Xg (fun m f _ L=>∃ (i:Nat) (vO:V) (ownO:HA),(i≤l.length)∧(m = l.length - i)∧(∀ p∈ownO,4≤p.1)∧(Rw 3 (YV ((l.take i).filter (Wi P))) vO ownO)∧(f 0 = .yv 0)∧(f 1 = .ptr 3 0 133)∧(f 9 = v1)∧(f 10 = .s (.int .i64 l.length))∧(f 11 = .s (.int .i64 i))∧(L = (ownO++(own1++[(0,(Tm g0 g4 3 0)),(1,.sc .var 133 g1),(2,.vs .var [vO]),(3,.sc .var 133 (ia P))])))) (fun m f nb L hI=>?_) (l.length) (⟨0,.snil,[],by omega,by omega,(fun p (hp:p∈([]:HA))=>(by cases hp)),Rw.nil rfl,rfl,rfl,rfl,rfl,rfl,rfl⟩)))))))
 obtain ⟨i,vO,ownO,hi,hm,hgO,hrO,k0,k1,k9,k10,k11,rfl⟩:=hI
 refine pH 0 k0 (pH 1 k1 (pH 9 k9 (pH 10 k10 (pH 11 k11 (Zd (Zq rfl (Yb (Yd (Yi rfl (fun h1=>?_) (fun h1=>?_)))))))))) <;> simp only [NM] at h1
 ·refine Yg (Yd (Yj (Zd ?_)))
  obtain ⟨b1,q1,md1,c1,F1,rfl,rfl,hF1⟩:=hr1.rx.at (by decide) (Xm l) (by omega)
  refine Zw rfl rfl (Yo rfl rfl (List.mem_append_right _ ZL) (Yx (Yy rfl rfl rfl rfl .here (Yb (Yd (Zd ?_))))))
  obtain ⟨hx0,hx1,hx2⟩:=su hF1 (i:=i) (by omega)
  have hbd:(0≤(l.getD i (0,0,0)).1∧(l.getD i (0,0,0)).1 < 64)∧(0≤(l.getD i (0,0,0)).2.1∧(l.getD i (0,0,0)).2.1 < 64):=allS_bd (P:=P) (by rw [← hleq]; exact getD_mv (by omega))
  have hcas:=YF (qm P (mvX F1 (0+(i:Int).toNat*3)) (by omega) (by omega))
  rw [hx0,hx1] at hcas
  have hmove:=YF (sr P (mvX F1 (0+(i:Int).toNat*3)))
  rw [hx0,hx1,hx2] at hmove
  have hid:ovA (fun _=>0) 0 133 (XI P (l.getD i (0,0,0)).1 (l.getD i (0,0,0)).2.1 (l.getD i (0,0,0)).2.2) = (XI P (l.getD i (0,0,0)).1 (l.getD i (0,0,0)).2.1 (l.getD i (0,0,0)).2.2):=JA (fun i hi=>x6 hi)
  have hchk:=EM (ovA (fun _=>0) 0 133 (XI P (l.getD i (0,0,0)).1 (l.getD i (0,0,0)).2.1 (l.getD i (0,0,0)).2.2)) (P 128)
  rw [show Xu (ovA (fun _=>0) 0 133 (XI P (l.getD i (0,0,0)).1 (l.getD i (0,0,0)).2.1 (l.getD i (0,0,0)).2.2)) (P 128) = Xu (XI P (l.getD i (0,0,0)).1 (l.getD i (0,0,0)).2.1 (l.getD i (0,0,0)).2.2) (P 128) by rw [hid]] at hchk
  refine Yn rfl rfl (.tail _ (List.mem_append_right _ (.tail _ ZO))) (Yn rfl rfl ZL (Ys rfl (hcas) rfl rfl rfl (Zj rfl (Yr (t:=18) rfl (fun h2=>?_) (fun h2=>?_)))))
  ·refine Ya rfl (Yn rfl rfl (.tail _ (List.mem_append_right _ (.tail _ ZO))) (Ya rfl (Zx rfl (Ya rfl (Yl (x:=(l.getD i (0,0,0)).1) rfl rfl ZL (hx0) (Ya rfl (Zx rfl (Ya rfl (Yl (x:=(l.getD i (0,0,0)).1) rfl rfl ZL (hx0) (Ya rfl (Zy rfl (Ya rfl (Yl (x:=(l.getD i (0,0,0)).2.1) rfl rfl ZL (hx1) (Ya rfl (Zr rfl rfl (Ya rfl (Zt rfl rfl (Ya rfl (Xd rfl (.one rfl (.one rfl .nil)) (Ya rfl (VF (caps:=[]) rfl (safe_rd P [(l.getD i (0,0,0)).1,((l.getD i (0,0,0)).1+(l.getD i (0,0,0)).2.1) / 2] (YE rfl)) rfl ((.row rfl wH)) (KG ZL) rfl rfl rfl (Ya rfl (Yu (r:=.bool _) rfl rfl (Zo rfl (Yb (Yi rfl (fun h3=>?_) (fun h3=>?_))))))))))))))))))))))))))) <;> simp only [NM] at h3
   ·refine YZ (Xc (Ye (Zr rfl rfl (Zi rfl (Yb (⟨l.length - (i+1),_,by omega,(.cons _ (.cons _ (List.Sublist.append (.refl _) (.refl _)))),i+1,_,_,by omega,rfl,hgO,?_,rfl,rfl,rfl,rfl,rfl,rfl⟩))))))
    (rw [EN (by omega) (by first | exact ya (by assumption) (by assumption) | exact zn (by assumption) | exact zJ (by assumption))]; exact hrO)
   ·refine Yg (Zd (Zx rfl (Yn rfl rfl (.tail _ (.tail _ (List.mem_append_right _ (.tail _ ZO)))) (Yn rfl rfl ZM (Ys rfl (hmove) rfl rfl rfl (Zn rfl (YC (v:=.agg _ _) rfl rfl (YC (v:=.s (.int _ _)) rfl rfl (Yx (Yy rfl rfl rfl rfl .here (Zi rfl (Yb (Yd (K5 (Ki (l1:=[_,_,_,_,_,_,_,_,_,_,_,_,_,_]) (l2:=[_,_,_]) (Zi rfl (Zq rfl (Zj rfl (Yr (t:=41) rfl (fun h4=>?_) (fun h4=>?_)))))))))))))))))))) <;> simp only [NM] at h4
    ·refine Ya rfl (Yn rfl rfl ZL (Ya rfl (Zx rfl (Ya rfl (Yc (o':=128) rfl rfl rfl (Ya rfl (Yl rfl rfl (.tail _ (.tail _ (.tail _ (List.mem_append_right _ (.tail _ ZO))))) rfl (Ya rfl (Ys rfl (hchk) rfl rfl rfl (Ya rfl (Yu (r:=.bool _) rfl rfl (Zo rfl (Zj rfl (Yr (t:=49) rfl (fun h5=>?_) (fun h5=>?_))))))))))))))) <;> simp only [NM] at h5
     ·refine Ya rfl (Yp (v:=.yv _) rfl (Ya rfl (Yn rfl rfl ZN (Ya rfl (Yn rfl rfl ZL (Yb (Qn (.cons _ (.cons _ (.cons _ (List.Sublist.append (.refl _) (.refl _))))) (Eo rfl ?_))))))))
      have hll:=Dp P (l:=l) i
      refine To (caps:=VZ g0 g4) (xa:=[.agg 3 (ia (mvX F1 (0+(i:Int).toNat*3))),.agg 133 (ia (ovA (fun _=>0) 0 133 (XI P (l.getD i (0,0,0)).1 (l.getD i (0,0,0)).2.1 (l.getD i (0,0,0)).2.2)))]) (L0:=[_]) rfl (fun _=>rfl) rfl rfl (fun _ _ _=>rfl) (YE rfl) (YE rfl) rfl rfl hrO (List.Perm.append_left _ (List.perm_append_comm (l₁:=[_]) (l₂:=[_,_,_,_]))) (fun e=>by have h:=Dt g0 g4 g1 P (mvX F1 (0+(i:Int).toNat*3)) (ovA (fun _=>0) 0 133 (XI P (l.getD i (0,0,0)).1 (l.getD i (0,0,0)).2.1 (l.getD i (0,0,0)).2.2)); rw [e]; exact h) (fun m q F h1 h2=>Dq g0 g4 g1 P (mvX F1 (0+(i:Int).toNat*3)) _ _ m q F h1 h2 (by omega)) (fun v2 own2 n2 hr2 hge2=>WY ?_)
      rw [j5 (by omega) hx0 hx1 hx2 (leg_t (by first | exact .inl (by assumption) | exact .inr (by assumption)) (by assumption) (by assumption))] at hr2
      refine V7 (List.Perm.append_left _ (List.perm_append_comm (l₁:=[_,_,_,_]) (l₂:=[_]))) (Ya rfl (Yu (r:=.bool _) rfl rfl (Zo rfl (Yb (ZA rfl (Yg (Ye (Zr rfl rfl (Zi rfl (Yb (⟨l.length - (i+1),_,by omega,(List.Sublist.append (.refl _) (.refl _)),i+1,_,_,by omega,rfl,hge2,?_,rfl,rfl,rfl,rfl,rfl,rfl⟩)))))))))))
      exact hr2
     ·refine ZC rfl (ZB rfl (Yb (WY (ZC rfl (Zo rfl (Yb (ZA rfl (Yg (Ye (Zr rfl rfl (Zi rfl (Yb (⟨l.length - (i+1),_,by omega,(.cons _ (.cons _ (.cons _ (List.Sublist.append (.refl _) (.refl _))))),i+1,_,_,by omega,rfl,hgO,?_,rfl,rfl,rfl,rfl,rfl,rfl⟩)))))))))))))
      (rw [EN (by omega) (by first | exact ya (by assumption) (by assumption) | exact zn (by assumption) | exact zJ (by assumption))]; exact hrO)
    ·refine ZD rfl (ZC rfl (Zo rfl (Zj rfl (ZC rfl (ZB rfl (Yb (WY (ZC rfl (Zo rfl (Yb (ZA rfl (Yg (Ye (Zr rfl rfl (Zi rfl (Yb (⟨l.length - (i+1),_,by omega,(.cons _ (.cons _ (.cons _ (List.Sublist.append (.refl _) (.refl _))))),i+1,_,_,by omega,rfl,hgO,?_,rfl,rfl,rfl,rfl,rfl,rfl⟩)))))))))))))))))
     (rw [EN (by omega) (by first | exact ya (by assumption) (by assumption) | exact zn (by assumption) | exact zJ (by assumption))]; exact hrO)
  ·refine Z9 rfl rfl (ZE rfl (ZC rfl (ZB rfl (Zo rfl (Yb (ZA rfl (Yg (Zd (Zx rfl (Yn rfl rfl (.tail _ (List.mem_append_right _ (.tail _ ZO))) (Yn rfl rfl ZL (Ys rfl (hmove) rfl rfl rfl (Zn rfl (YC (v:=.agg _ _) rfl rfl (YC (v:=.s (.int _ _)) rfl rfl (Yx (Yy rfl rfl rfl rfl .here (Zi rfl (Yb (Yd (K5 (Ki (l1:=[_,_,_,_,_,_,_,_,_,_,_,_,_,_]) (l2:=[_,_,_]) (Zi rfl (Zq rfl (Zj rfl (Yr (t:=41) rfl (fun h6=>?_) (fun h6=>?_))))))))))))))))))))))))))) <;> simp only [NM] at h6
   ·refine Ya rfl (Yn rfl rfl ZL (Ya rfl (Zx rfl (Ya rfl (Yc (o':=128) rfl rfl rfl (Ya rfl (Yl rfl rfl (.tail _ (.tail _ (List.mem_append_right _ (.tail _ ZO)))) rfl (Ya rfl (Ys rfl (hchk) rfl rfl rfl (Ya rfl (Yu (r:=.bool _) rfl rfl (Zo rfl (Zj rfl (Yr (t:=49) rfl (fun h7=>?_) (fun h7=>?_))))))))))))))) <;> simp only [NM] at h7
    ·refine Ya rfl (Yp (v:=.yv _) rfl (Ya rfl (Yn rfl rfl ZM (Ya rfl (Yn rfl rfl ZL (Yb (Qn (.cons _ (.cons _ (List.Sublist.append (.refl _) (.refl _)))) (Eo rfl ?_))))))))
     have hll:=Dp P (l:=l) i
     refine To (caps:=VZ g0 g4) (xa:=[.agg 3 (ia (mvX F1 (0+(i:Int).toNat*3))),.agg 133 (ia (ovA (fun _=>0) 0 133 (XI P (l.getD i (0,0,0)).1 (l.getD i (0,0,0)).2.1 (l.getD i (0,0,0)).2.2)))]) (L0:=[_]) rfl (fun _=>rfl) rfl rfl (fun _ _ _=>rfl) (YE rfl) (YE rfl) rfl rfl hrO (List.Perm.append_left _ (List.perm_append_comm (l₁:=[_]) (l₂:=[_,_,_,_]))) (fun e=>by have h:=Dt g0 g4 g1 P (mvX F1 (0+(i:Int).toNat*3)) (ovA (fun _=>0) 0 133 (XI P (l.getD i (0,0,0)).1 (l.getD i (0,0,0)).2.1 (l.getD i (0,0,0)).2.2)); rw [e]; exact h) (fun m q F h1 h2=>Dq g0 g4 g1 P (mvX F1 (0+(i:Int).toNat*3)) _ _ m q F h1 h2 (by omega)) (fun v3 own3 n3 hr3 hge3=>WY ?_)
     rw [j5 (by omega) hx0 hx1 hx2 (leg_t (by first | exact .inl (by assumption) | exact .inr (by assumption)) (by assumption) (by assumption))] at hr3
     refine V7 (List.Perm.append_left _ (List.perm_append_comm (l₁:=[_,_,_,_]) (l₂:=[_]))) (Ya rfl (Yu (r:=.bool _) rfl rfl (Zo rfl (Yb (ZA rfl (Yg (Ye (Zr rfl rfl (Zi rfl (Yb (⟨l.length - (i+1),_,by omega,(List.Sublist.append (.refl _) (.refl _)),i+1,_,_,by omega,rfl,hge3,?_,rfl,rfl,rfl,rfl,rfl,rfl⟩)))))))))))
     exact hr3
    ·refine ZC rfl (ZB rfl (Yb (WY (ZC rfl (Zo rfl (Yb (ZA rfl (Yg (Ye (Zr rfl rfl (Zi rfl (Yb (⟨l.length - (i+1),_,by omega,(.cons _ (.cons _ (List.Sublist.append (.refl _) (.refl _)))),i+1,_,_,by omega,rfl,hgO,?_,rfl,rfl,rfl,rfl,rfl,rfl⟩)))))))))))))
     (rw [EN (by omega) (by first | exact ya (by assumption) (by assumption) | exact zn (by assumption) | exact zJ (by assumption))]; exact hrO)
   ·refine ZD rfl (ZC rfl (Zo rfl (Zj rfl (ZC rfl (ZB rfl (Yb (WY (ZC rfl (Zo rfl (Yb (ZA rfl (Yg (Ye (Zr rfl rfl (Zi rfl (Yb (⟨l.length - (i+1),_,by omega,(.cons _ (.cons _ (List.Sublist.append (.refl _) (.refl _)))),i+1,_,_,by omega,rfl,hgO,?_,rfl,rfl,rfl,rfl,rfl,rfl⟩)))))))))))))))))
    (rw [EN (by omega) (by first | exact ya (by assumption) (by assumption) | exact zn (by assumption) | exact zJ (by assumption))]; exact hrO)
 ·refine YZ (Xc (⟨_,YS,?_⟩))
  obtain rfl:i = l.length:=by omega
  rw [List.take_length,hleq] at hrO
  exact ⟨rfl,K0 hrO ⟨(List.mem_append_right _ (List.mem_append_right _ ZL)),(List.mem_append_right _ (List.mem_append_right _ ZM)),(List.mem_append_right _ (List.mem_append_right _ ZN)),(List.mem_append_right _ (List.mem_append_right _ ZO)),trivial⟩ (fun p hp=>⟨List.mem_append_left _ hp,hgO p hp⟩)⟩
def WT (P:Nat→Int):List Mv:=if XG P = true then yj (ovA (fun _=>0) 0 133 P) else []
def capsNo (g0 g4:Nat→S):List V:=[.agg 133 g0,.ptr 1 0 133,.ptr 2 0 1,.undef,.agg 133 g4,.fn 51 [],.undef,.undef,.undef,.undef,.undef,.undef,.undef]
theorem pp (P:Nat→Int):RtR AM 20 3 [.agg 133 (ia P)] [] (YV (WT P)) []:=by
 refine W7 (uh (a:=a20) rfl rfl (YH _) (ZP rfl) (m:=0) (c0:=2) rfl rfl (Yd (Ye (YB rfl (Kw (z:=.one .snil) rfl (Yb (Yd (Yd (Ye (Yn rfl rfl ZM ?_))))))))))
 have fin:∀ (f:FE) (n:Nat) (v:V) (own:HA),f 2 = .ptr 1 0 1→Rw 3 (YV (WT P)) v own→WP AM a20.nt (.seq (.ops [ZY 12 false 1 2,Z0 1 2 12]) .ret) f n (own++[(1,.vs .var [v])])
   (fun _ _ _=>False) (fun _ _ _ _=>False) (fun f n L=>∃ b md v,rd a20.nt f 2 = .ptr b 0 1∧(b,Blk.vs md [v])∈L∧∃ own,Rw 3 (YV (WT P)) v own∧∀ p∈own,p∈L) (fun _ _ _ _=>False):=fun f n v own h2 hr=>by
  refine pH 2 h2 (Yd (Ye (UX (v:=v) rfl rfl (List.mem_append_right _ ZL) rfl (Ru (b:=1) (u:=v) (v:=v) rfl rfl hr.isrow (.appR _ .here) ?_))))
  exact Yb (Yh ⟨1,.var,v,rfl,List.mem_append_right _ ZL,own,hr,fun p hp=>List.mem_append_left _ hp⟩)
 cases h:XG P with
 | false =>
  have hl:YV (WT P) = []:=by unfold WT; rw [h]; rfl
  refine Ys rfl (of_none P h) rfl rfl rfl (Yb (Yj (yI (Lr:=[(0,_),(1,_)]) (L0:=[]) (vs:=[.yv 0]) (Bs:=[.lp 607 Q8 (capsNo (ia P) (ia P)) 0,.sc .var 133 (ia P),.vs .var [.snil]]) (List.reverse_perm [_,_]) rfl rfl rfl rfl rfl (YI (a:=a51) rfl rfl (YH _) (ZP rfl) (m:=3) rfl (Yg ⟨_,YS,?_⟩)))))
  refine .inl ⟨[_,_,_],.tup [],_,⟨.head _,.tail _ ZL,.tail _ ZM,trivial⟩,rfl,rfl,rfl,rfl,607,Q8,_,0,_,.refl _,?_⟩
  refine Xe (.cons _ (.refl _)) ?_
  exact fin _ _ .snil [] rfl (.nil hl)
 | true =>
  have hl:YV (WT P) = YV (yj (ovA (fun _=>0) 0 133 P)):=by unfold WT; rw [h]; rfl
  refine TI (rs:=[]) (Bs:=[]) (caps:=[]) (av:=[.agg 133 (ia P)]) tH rfl (of_rn P h) rfl rfl (YE rfl) (fun _ h=>h) rfl trivial rfl rfl .nil (Yb (Yj (yI (Lr:=[(0,_),(1,_),(2,_)]) (L0:=[]) (vs:=[.yv 0,.ptr 3 0 133]) (Bs:=[Tm (ia P) (ia P) 3 0,.sc .var 133 (ia P),.vs .var [.snil],.sc .var 133 (ia (ovA (fun _=>0) 0 133 P))]) (List.reverse_perm [_,_,_]) rfl rfl rfl rfl rfl (U0 (iter_mv (ia P) (ia P) (ia P) (ovA (fun _=>0) 0 133 P)) ?_))))
  rintro r n1 L1 ⟨rfl,ho⟩
  rw [← hl] at ho
  rcases ho with ⟨e1,e2⟩ | ⟨b,m,q,F,e1,e2,e3,e4,e5⟩
  ·refine .inl ⟨_,.tup [],_,e2,rfl,rfl,rfl,rfl,607,Q8,_,0,_,.refl _,?_⟩
   refine Xe (.cons _ (.cons_cons _ (.cons _ .slnil))) ?_
   exact fin _ _ .snil [] rfl (.nil e1)
  ·refine .inr ⟨[Tm (ia P) (ia P) 3 0,.sc .var 133 (ia P)],[.sc .var 133 (ia (ovA (fun _=>0) 0 133 P))],b,m,3,q,.var,.grow,ia F,.tup [],_,_,e3,rfl,e1,e2,rfl,rfl,rfl,rfl,rfl,(YE rfl),607,Q8,_,0,_,.swap _ _ _,?_⟩
   refine Xe (.cons_cons _ (.cons _ (.cons_cons _ (.cons _ .slnil)))) ?_
   exact fin _ _ _ [(_,_)] rfl (.row e4 e5)
theorem ut {P:Nat→Int} {s:Int} {m:Mv} (h:m∈VN P s 64):(0≤m.2.1∧m.2.1 < 64)∧WN P s m.2.1 = true∧m∈toM s (P (sqI s)) (P (sqI s+1)) m.2.1:=by
 unfold VN at h
 rw [List.mem_flatMap] at h
 obtain ⟨t,ht,h⟩:=h
 split at h
 ·rename_i hg
  have e:=(K3 h).2
  rw [e]
  exact ⟨mem64.1 ht,hg,h⟩
 ·cases h
theorem D9 {P:Nat→Int} {m:Mv} (h:m∈UB P 64):(0≤m.1∧m.1 < 64)∧(0≤m.2.1∧m.2.1 < 64)∧WN P m.1 m.2.1 = true∧m∈toM m.1 (P (sqI m.1)) (P (sqI m.1+1)) m.2.1:=by
 unfold UB at h
 rw [List.mem_flatMap] at h
 obtain ⟨s,hs,h⟩:=h
 have e:=KD h
 rw [e]
 exact ⟨mem64.1 hs,ut h⟩
theorem xx (P:Nat→Int) (n:Nat):UB P (n+1) = UB P n++VN P n 64:=by
 unfold UB X4
 rw [List.range_succ,List.map_append,List.flatMap_append]
 simp
def cntR (P:Nat→Int) (s:Nat):Nat:=(UB P s).length
theorem mv_in {l:List Mv} {i:Nat} (hi:i < l.length):l.getD i (0,0,0)∈l:=by
 rw [List.getD_eq_getElem?_getD,List.getElem?_eq_getElem hi]
 exact List.getElem_mem hi
theorem RZ {P:Nat→Int} {s t:Int} (h:WN P s t = true):(1≤P (sqI s)∧P (sqI s)≤6)∧(P (sqI s+1) = 0∨P (sqI s+1) = 1)∧P (sqI s+1) = P 128∧s ≠ t:=by
 unfold WN We YU at h
 simp only [Bool.and_eq_true,decide_eq_true_eq] at h
 omega
theorem toM_can {P:Nat→Int} {m:Mv} (h:m∈toM m.1 (P (sqI m.1)) (P (sqI m.1+1)) m.2.1):if P (sqI m.1) = 1∧m.2.1 / 8 = 7*(1 - P (sqI m.1+1)) then 2≤m.2.2∧m.2.2≤5 else m.2.2 = 0:=by
 unfold toM xd at h
 split at h
 ·rename_i e
  rw [decide_eq_true_eq] at e
  rw [if_pos e]
  simp only [List.mem_cons,List.not_mem_nil,or_false] at h
  rcases h with h | h | h | h <;> (have:=congrArg (fun m:Mv=>m.2.2) h; simp only at this; omega)
 ·rename_i e
  rw [decide_eq_true_eq] at e
  rw [if_neg e]
  have:=congrArg (fun m:Mv=>m.2.2) (List.mem_singleton.1 h)
  simpa using this
theorem mv_can {P:Nat→Int} {m:Mv} (h:m∈UB P 64):Wk P m.1 m.2.1 m.2.2 = 0:=by
 obtain ⟨ha,ht,hg,hm⟩:=D9 h
 obtain ⟨h1,h2,h3,h4⟩:=RZ hg
 refine W8 ⟨ha,ht,h4⟩ ?_
 unfold Xv
 exact decide_eq_true ⟨h1.1,h1.2,h3,h2,toM_can hm⟩
def fnzM:List Int→Int
 | []=>0
 | x::l=>if x = 0 then fnzM l else x
def cmpM (x y:Int):Int:=if x < y then -1 else if y < x then 1 else 0
theorem kq {a b:Int} (h:a ≠ b):WX .eql (.int .i64 a) (.int .i64 b) = some (.bool false):=by
 show (if IntKind.i64 = IntKind.i64 then some (S.bool (a == b)) else none) = _
 simp [h]
theorem Ui {a b:Int} (h:a = b):WX .eql (.int .i64 a) (.int .i64 b) = some (.bool true):=by
 subst h
 show (if IntKind.i64 = IntKind.i64 then some (S.bool (a == a)) else none) = _
 simp
theorem pR {a b:Int} (h:a = b):WX .neq (.int .i64 a) (.int .i64 b) = some (.bool false):=by
 subst h
 show (if IntKind.i64 = IntKind.i64 then some (S.bool (a != a)) else none) = _
 simp
def tZ (a b:Int):Bool:=decide (a = b) || (!(Wt a b || Wq a b) || (decide (1≤UC a b∧b = a+V9 a b*UC a b) && (List.range (UC a b - 1)).all fun (j:Nat)=>decide ((0≤a+V9 a b*((j:Int)+1)∧a+V9 a b*((j:Int)+1) < 64)∧a+V9 a b*((j:Int)+1) ≠ b)))
theorem rt:(QH fun a=>QH fun b=>tZ a b) = true:=by decide +kernel
theorem path_at {a b:Int} (ha:0≤a∧a < 64) (hb:0≤b∧b < 64) (hn:a ≠ b) (h:(Wt a b || Wq a b) = true):(1≤UC a b∧b = a+V9 a b*UC a b)∧∀ j:Nat,j < UC a b - 1→(0≤a+V9 a b*((j:Int)+1)∧a+V9 a b*((j:Int)+1) < 64)∧a+V9 a b*((j:Int)+1) ≠ b:=by
 obtain ⟨x,rfl⟩:=QM ha
 obtain ⟨y,rfl⟩:=QM hb
 have h1:=Ve (Ve rt x) y
 unfold tZ at h1
 rw [decide_eq_false hn,Bool.false_or,h,Bool.not_true,Bool.false_or,Bool.and_eq_true,decide_eq_true_eq,List.all_eq_true] at h1
 exact ⟨h1.1,fun j hj=>of_decide_eq_true (h1.2 j (List.mem_range.2 hj))⟩
theorem sY {P:Nat→Int} {a b:Int} (h:∀ i:Nat,i < UC a b - 1→YP P (a+V9 a b*((i:Int)+1)) = true):UE P a b = true:=by
 unfold UE
 rw [List.all_eq_true]
 exact fun i hi=>h i (List.mem_range.1 hi)
theorem open_no {P:Nat→Int} {a b:Int} {j:Nat} (hj:j < UC a b - 1) (h:YP P (a+V9 a b*((j:Int)+1)) = false):UE P a b = false:=by
 unfold UE
 rw [List.all_eq_false]
 exact ⟨j,List.mem_range.2 hj,by rw [h]; decide⟩
theorem ux (x:Int):-1≤Q7 x∧Q7 x≤1:=by unfold Q7; repeat' split <;> omega
theorem zh {x:Int} (h:-64≤x∧x≤64):0≤XF x∧XF x≤64:=by unfold XF; split <;> omega
theorem zI (a b:Int) (ha:0≤a∧a < 64) (hb:0≤b∧b < 64):WR AM 107 [.s (.int .i64 a),.s (.int .i64 b)] [] (fun v _ _=>v = .tup [.s (.int .i64 (b % 8 - a % 8)),.s (.int .i64 (b / 8 - a / 8))]):=by
 refine YI (a:=a107) rfl rfl (YH _) (ZP rfl) (m:=0) rfl (Zd (Yp rfl (Yp rfl (Ze (Zi rfl (Zu rfl rfl (Zi rfl (Zu rfl rfl (Zs rfl rfl (Zi rfl (Zt rfl rfl (Zi rfl (Zt rfl rfl (Zs rfl rfl (Zi rfl (Zi rfl (Yb (Yh (⟨_,YK (v:=.s (.int _ _)) rfl (ZK rfl),?_⟩)))))))))))))))))))
 rfl
theorem Wx (x:Int) (h:-1000≤x∧x≤1000):WR AM 108 [.s (.int .i64 x)] [] (fun v _ _=>v = .s (.int .i64 (XF x))):=by
 refine YI (a:=a108) rfl rfl (YH _) (ZP rfl) (m:=0) rfl (Zd (Yp rfl (Yb (Yd (Zd (Zi rfl (Zq rfl (Yb (Yi rfl (fun h1=>?_) (fun h1=>?_)))))))))) <;> simp only [NM] at h1
 ·refine Zd (Zi rfl (qo rfl (by omega) (Zi rfl (Yb (Yh (⟨_,ZK rfl,?_⟩))))))
  refine ZI ?_
  unfold XF
  (rw [if_pos (by omega)]; done)
 ·refine Yg (Zd (Zi rfl (Zi rfl (Yb (Yh (⟨_,ZK rfl,?_⟩))))))
  refine ZI ?_
  unfold XF
  (rw [if_neg (by omega)]; done)
theorem x7 (x:Int):WR AM 129 [.s (.int .i64 x)] [] (fun v _ _=>v = .s (.int .i64 (Q7 x))):=by
 refine YI (a:=a129) rfl rfl (YH _) (ZP rfl) (m:=0) rfl (Zd (Yp rfl (Yb (Yd (Zd (Zi rfl (Zq rfl (Yb (Yi rfl (fun h2=>?_) (fun h2=>?_)))))))))) <;> simp only [NM] at h2
 ·refine Zd (Yp rfl (Yb (Yh (⟨_,ZK rfl,?_⟩))))
  refine ZI ?_
  unfold Q7
  (rw [if_pos (by omega)]; done)
 ·refine Yg (Yd (Zd (Zi rfl (Zq rfl (Yb (Yi rfl (fun h3=>?_) (fun h3=>?_))))))) <;> simp only [NM] at h3
  ·refine Zd (Yp rfl (Yb (Yh (⟨_,ZK rfl,?_⟩))))
   refine ZI ?_
   unfold Q7
   (rw [if_neg (by omega),if_pos (by omega)]; done)
  ·refine Yg (Zd (Yp rfl (Yb (Yh (⟨_,ZK rfl,?_⟩)))))
   refine ZI ?_
   unfold Q7
   (rw [if_neg (by omega),if_neg (by omega)]; done)
theorem UR (P:Nat→Int) (a b:Int) (ha:0≤a∧a < 64) (hb:0≤b∧b < 64) (hn:a ≠ b) (hl:(Wt a b || Wq a b) = true):WR AM 109 [.agg 133 (ia P),.s (.int .i64 a),.s (.int .i64 b)] [] (fun v _ _=>v = .s (.bool (UE P a b))):=by
 refine YI (a:=a109) rfl rfl (YH _) (ZP rfl) (m:=0) rfl (Zd (YB rfl (Yp rfl (Ze (Zi rfl (Zi rfl ?_))))))
 have hs1:=ux (b / 8 - a / 8)
 have hs2:=ux (b % 8 - a % 8)
 have hst:V9 a b = 8*Q7 (b / 8 - a / 8)+Q7 (b % 8 - a % 8):=rfl
 obtain ⟨⟨hf1,hf2⟩,hpath⟩:=path_at ha hb hn hl
 refine Ys rfl (YF (zI a b ha hb)) rfl rfl rfl (Zn rfl (YC (v:=.s (.int _ _)) rfl rfl (YC (v:=.s (.int _ _)) rfl rfl (Zi rfl (Zi rfl (Ze (Zi rfl (Ys rfl (YF (x7 _)) rfl rfl rfl (X9 rfl rfl (by omega) (Zi rfl (Ys rfl (YF (x7 _)) rfl rfl rfl (Zr rfl rfl (Zi rfl (Yb (Yd (Zd (Zi rfl (Zi rfl (Zr rfl rfl (Zi rfl (Yb (Yj (Xe (.refl _) (Xg (fun m f _ L=>∃ (j:Nat),(j≤UC a b - 1)∧(m = UC a b - 1 - j)∧(∀ i:Nat,i < j→YP P (a+V9 a b*((i:Int)+1)) = true)∧(f 1 = .s (.int .i64 a))∧(f 2 = .s (.int .i64 b))∧(f 3 = .ptr 0 0 133)∧(f 9 = .s (.int .i64 (V9 a b)))∧(f 10 = .s (.int .i64 (a+V9 a b*((j:Int)+1))))∧(L = [(0,.sc .var 133 (ia P))])) (fun m f nb L hI=>?_) (UC a b - 1) (⟨0,by omega,by omega,fun i hi=>by omega,rfl,rfl,rfl,rfl,by show V.s (S.int .i64 _) = V.s (S.int .i64 _); rw [show ((0:Nat):Int)+1 = 1 from rfl,Int.mul_one]; rfl,rfl⟩)))))))))))))))))))))))))
 obtain ⟨j,hj,hm,hno,k1,k2,k3,k9,k10,rfl⟩:=hI
 refine pH 1 k1 (pH 2 k2 (pH 3 k3 (pH 9 k9 (pH 10 k10 (Yd (Zd (Zi rfl (Zi rfl ?_))))))))
 have hsb:0≤(a+V9 a b*((j:Int)+1))∧(a+V9 a b*((j:Int)+1)) < 64:=by
   by_cases e:j < UC a b - 1
   · exact (hpath j e).1
   · obtain ⟨k, hk⟩ : ∃ k, UC a b = k := ⟨_, rfl⟩
     rw [hk] at hf1 hf2 hj e
     rw [show (j:Int)+1 = k by omega,← hf2]; exact hb
 refine Zq rfl (Yb (Yi rfl (fun h4=>?_) (fun h4=>?_))) <;> simp only [NM] at h4
 ·refine Yg (Yd (Yj (Zd (Zi rfl (Zx rfl ?_)))))
  have hjl:j < UC a b - 1:=by
    refine Nat.lt_of_not_le fun e=>?_
    have e2:(j:Int)+1 = (UC a b:Int):=by omega
    have e3:(a+V9 a b*((j:Int)+1)) = b:=by rw [e2]; exact hf2.symm
    exact absurd e3 (by assumption)
  refine Zv rfl rfl rfl (Yo rfl rfl ZL (YA rfl .nil (Yv rfl rfl (Yb (Yi rfl (fun h5=>?_) (fun h5=>?_)))))) <;> simp only [NM] at h5
  ·refine Zd (Yp rfl (Zf rfl (ZH ?_)))
   exact (open_no hjl (by assumption)).symm
  ·refine Yg (Ye (Zi rfl (Zi rfl (Zr rfl rfl (Zi rfl (Yb (⟨UC a b - 1 - (j+1),_,by omega,(.refl _),j+1,by omega,rfl,?_,rfl,rfl,rfl,rfl,?_,rfl⟩)))))))
   · intro i hi
     by_cases e:i = j
     ·subst e; assumption
     ·exact hno i (by omega)
   · show V.s (S.int .i64 _) = V.s (S.int .i64 _)
     rw [show ((j+1:Nat):Int)+1 = ((j:Int)+1)+1 by omega,Int.mul_add (V9 a b) ((j:Int)+1) 1,Int.mul_one,Int.add_assoc]
 ·refine YZ (Xc (Zd (Yp rfl (Zf rfl (congrArg (fun b=>V.s (S.bool b)) ((sY fun i hi=>?_).symm))))))
  by_cases e:i < j
  · exact hno i e
  · exact absurd (by omega) (hpath j (by omega)).2
theorem Q4 {a b:Int} (h:(b % 8 - a % 8 = 0∨b / 8 - a / 8 = 0)∨XF (b % 8 - a % 8) = XF (b / 8 - a / 8)):(Wt a b || Wq a b) = true:=by
 unfold Wt Wq
 rw [Bool.or_eq_true,decide_eq_true_eq,decide_eq_true_eq]; exact h
theorem ur {x y:Int} (h:0≤x∧x≤64) (k:0≤y∧y≤64):-9223372036854775808≤x*y∧x*y≤9223372036854775807:=by
 have h1:=Int.mul_le_mul h.2 k.2 k.1 (by omega)
 have h2:=Int.mul_nonneg h.1 k.1
 omega
section
variable {P:Nat→Int} {a b:Int}
theorem tB (h:YU (P (sqI a)) (P (sqI a+1)) = false∨a = b):Xb P a b = false:=if_pos h
theorem RM (hm:YU (P (sqI a)) (P (sqI a+1)) = true) (hn:¬ a = b):¬ (YU (P (sqI a)) (P (sqI a+1)) = false∨a = b):=fun h=>h.elim (fun h=>by rw [hm] at h; cases h) hn
theorem Ur (hm:YU (P (sqI a)) (P (sqI a+1)) = true) (hn:¬ a = b) (hk:P (sqI a) = 1):Xb P a b = decide (XF (b % 8 - a % 8) = 1∧b / 8 - a / 8 = 1 - 2*P (sqI a+1)):=by
 unfold Xb KI; rw [if_neg (RM hm hn),if_pos hk]
theorem tX (hm:YU (P (sqI a)) (P (sqI a+1)) = true) (hn:¬ a = b) (hk:P (sqI a) = 2):Xb P a b = decide (XF (b % 8 - a % 8)*XF (b / 8 - a / 8) = 2):=by
 unfold Xb KI; rw [if_neg (RM hm hn),if_neg (by omega),if_pos hk]
theorem yi (hm:YU (P (sqI a)) (P (sqI a+1)) = true) (hn:¬ a = b) (hk:P (sqI a) = 6):Xb P a b = decide (XF (b % 8 - a % 8)≤1∧XF (b / 8 - a / 8)≤1):=by
 unfold Xb KI; rw [if_neg (RM hm hn),if_neg (by omega),if_neg (by omega),if_pos hk]
theorem jp (hm:YU (P (sqI a)) (P (sqI a+1)) = true) (hn:¬ a = b) (hk:P (sqI a) = 4):Xb P a b = (Wt a b && UE P a b):=by
 unfold Xb KI; rw [if_neg (RM hm hn),if_neg (by omega),if_neg (by omega),if_neg (by omega),if_pos hk]
theorem zO (hm:YU (P (sqI a)) (P (sqI a+1)) = true) (hn:¬ a = b) (hk:P (sqI a) = 3):Xb P a b = (Wq a b && UE P a b):=by
 unfold Xb KI; rw [if_neg (RM hm hn),if_neg (by omega),if_neg (by omega),if_neg (by omega),if_neg (by omega),if_pos hk]
theorem yb (hm:YU (P (sqI a)) (P (sqI a+1)) = true) (hn:¬ a = b) (h1:¬ P (sqI a) = 1) (h2:¬ P (sqI a) = 2) (h6:¬ P (sqI a) = 6) (h4:¬ P (sqI a) = 4) (h3:¬ P (sqI a) = 3):Xb P a b = ((Wt a b || Wq a b) && UE P a b):=by
 unfold Xb KI; rw [if_neg (RM hm hn),if_neg h1,if_neg h2,if_neg h6,if_neg h4,if_neg h3]
end
theorem zd {a b:Int} (h:b % 8 - a % 8 = 0∨b / 8 - a / 8 = 0):Wt a b = true:=decide_eq_true h
theorem qK {a b:Int} (h:¬ (b % 8 - a % 8 = 0∨b / 8 - a / 8 = 0)):Wt a b = false:=decide_eq_false h
theorem jq {a b:Int} (h:XF (b % 8 - a % 8) = XF (b / 8 - a / 8)):Wq a b = true:=decide_eq_true h
theorem ql {a b:Int} (h:¬ XF (b % 8 - a % 8) = XF (b / 8 - a / 8)):Wq a b = false:=decide_eq_false h
theorem Qu (P:Nat→Int) (a b:Int) (ha:0≤a∧a < 64) (hb:0≤b∧b < 64):WR AM 89 [.agg 133 (ia P),.s (.int .i64 a),.s (.int .i64 b)] [] (fun v _ _=>v = .s (.bool (Xb P a b))):=by
 refine YI (a:=a89) rfl rfl (YH _) (ZP rfl) (m:=0) rfl (Zd (YB rfl (Yp rfl (Ze (Zi rfl (Zx rfl (Zv rfl rfl rfl (Yo rfl rfl ZL (Yx (Yy rfl rfl rfl rfl .here (Yb (Yd (Zd (Yn rfl rfl ZL (Ys rfl (show RF AM 87 _ (.s (.bool (YU (P (sqI a)) (P (sqI a+1))))) from YF (TF _)) rfl rfl rfl (Yu (r:=.bool _) rfl rfl (Zj rfl (Yr (t:=19) rfl (fun h6=>?_) (fun h6=>?_))))))))))))))))))) <;> simp only [NM] at h6
 ·refine ZC rfl (ZB rfl (Zo rfl (Yb (Zz rfl (Zd (Yp rfl (Zf rfl (ZH ?_))))))))
  exact (tB (by first | exact .inl (by assumption) | exact .inr (by assumption))).symm
 ·refine Ya rfl (Zi rfl (Ya rfl (Zi rfl (Ya rfl (Zq rfl (Zo rfl (Yb (Yi rfl (fun h7=>?_) (fun h7=>?_))))))))) <;> simp only [NM] at h7
  ·refine Zd (Yp rfl (Zf rfl (ZH ?_)))
   exact (tB (by first | exact .inl (by assumption) | exact .inr (by assumption))).symm
  ·refine Yg (Zd (Zi rfl (Zi rfl (Ys rfl (YF (zI a b ha hb)) rfl rfl rfl (Zn rfl (YC (v:=.s (.int _ _)) rfl rfl (YC (v:=.s (.int _ _)) rfl rfl (Zi rfl (Zi rfl (Ze (Zi rfl (Zq rfl (Zj rfl (Yr (t:=32) rfl (fun h8=>?_) (fun h8=>?_))))))))))))))) <;> simp only [NM] at h8
   ·refine ZC rfl (Zo rfl (Zi rfl (Ys rfl (YF (Wx _ (by omega))) rfl rfl rfl (Zi rfl (Ys rfl (YF (Wx _ (by omega))) rfl rfl rfl (Zq rfl (Zj rfl (Zj rfl (Yb (Yd (Zd ?_)))))))))))
    have hf:=zh (x:=b % 8 - a % 8) (by omega)
    have hr:=zh (x:=b / 8 - a / 8) (by omega)
    refine Zx rfl (Yl (x:=P (sqI a)) rfl rfl ZL (rfl) (Yb (Yj (Zd (Zq rfl (Zj rfl (Yb (Yi rfl (fun h9=>?_) (fun h9=>?_))))))))) <;> simp only [NM] at h9
    ·refine Zd (Zi rfl (Ys rfl (YF (Wx _ (by omega))) rfl rfl rfl (Zq rfl (Zj rfl (Yr (t:=48) rfl (fun h10=>?_) (fun h10=>?_)))))) <;> simp only [NM] at h10
     ·refine Ya rfl (Zy rfl (Ya rfl (Yl (x:=P (sqI a+1)) rfl rfl ZL (rfl) (Ya rfl (Zq rfl (Ya rfl (Zj rfl (Yr (t:=52) rfl (fun h11=>?_) (fun h11=>?_))))))))) <;> simp only [NM] at h11
      ·refine Ya rfl (Zi rfl (Ya rfl (Zq rfl (Ya rfl (Zo rfl (Ya rfl (Zj rfl (Yr (t:=56) rfl (fun h12=>?_) (fun h12=>?_))))))))) <;> simp only [NM] at h12
       ·refine ZD rfl (YG rfl (YG rfl (ZB rfl (Ya rfl (Zo rfl (Zo rfl (Zj rfl (Zf rfl (ZH ?_)))))))))
        rw [Ur (by assumption) (by assumption) (by assumption)]
        simp only [YU,decide_eq_true_eq] at *
        rw [Bool.eq_iff_iff]
        simp only [beq_iff_eq,decide_eq_true_eq,Bool.false_eq_true,true_iff,false_iff,iff_true,iff_false]
        omega
       ·refine Ya rfl (Zy rfl (Ya rfl (Yl (x:=P (sqI a+1)) rfl rfl ZL (rfl) (Ya rfl (Zq rfl (Ya rfl (Zj rfl (Yr (t:=60) rfl (fun h13=>?_) (fun h13=>?_))))))))) <;> simp only [NM] at h13
        ·refine Ya rfl (Zi rfl (Ya rfl (Zq rfl (Ya rfl (Zo rfl (Ya rfl (Zo rfl (Zo rfl (Zj rfl (Zf rfl (ZH ?_)))))))))))
         rw [Ur (by assumption) (by assumption) (by assumption)]
         simp only [YU,decide_eq_true_eq] at *
         rw [Bool.eq_iff_iff]
         simp only [beq_iff_eq,decide_eq_true_eq,Bool.false_eq_true,true_iff,false_iff,iff_true,iff_false]
         omega
        ·refine ZC rfl (Ya rfl (Zo rfl (Ya rfl (Zo rfl (Zo rfl (Zj rfl (Zf rfl (ZH ?_))))))))
         rw [Ur (by assumption) (by assumption) (by assumption)]
         simp only [YU,decide_eq_true_eq] at *
         rw [Bool.eq_iff_iff]
         simp only [beq_iff_eq,decide_eq_true_eq,Bool.false_eq_true,true_iff,false_iff,iff_true,iff_false]
         omega
      ·refine ZC rfl (Ya rfl (Zo rfl (Ya rfl (Zj rfl (Ya rfl (Zy rfl (Ya rfl (Yl (x:=P (sqI a+1)) rfl rfl ZL (rfl) (Ya rfl (Zq rfl (Ya rfl (Zj rfl (Yr (t:=60) rfl (fun h14=>?_) (fun h14=>?_)))))))))))))) <;> simp only [NM] at h14
       ·refine Ya rfl (Zi rfl (Ya rfl (Zq rfl (Ya rfl (Zo rfl (Ya rfl (Zo rfl (Zo rfl (Zj rfl (Zf rfl (ZH ?_)))))))))))
        rw [Ur (by assumption) (by assumption) (by assumption)]
        simp only [YU,decide_eq_true_eq] at *
        rw [Bool.eq_iff_iff]
        simp only [beq_iff_eq,decide_eq_true_eq,Bool.false_eq_true,true_iff,false_iff,iff_true,iff_false]
        omega
       ·refine ZC rfl (Ya rfl (Zo rfl (Ya rfl (Zo rfl (Zo rfl (Zj rfl (Zf rfl (ZH ?_))))))))
        rw [Ur (by assumption) (by assumption) (by assumption)]
        simp only [YU,decide_eq_true_eq] at *
        rw [Bool.eq_iff_iff]
        simp only [beq_iff_eq,decide_eq_true_eq,Bool.false_eq_true,true_iff,false_iff,iff_true,iff_false]
        omega
     ·refine ZD rfl (YG rfl (YG rfl (ZC rfl (YG rfl (YG rfl (YG rfl (YG rfl (YG rfl (YG rfl (YG rfl (ZB rfl (Zo rfl (Zj rfl (Zf rfl (ZH ?_)))))))))))))))
      rw [Ur (by assumption) (by assumption) (by assumption)]
      simp only [YU,decide_eq_true_eq] at *
      rw [Bool.eq_iff_iff]
      simp only [beq_iff_eq,decide_eq_true_eq,Bool.false_eq_true,true_iff,false_iff,iff_true,iff_false]
      omega
    ·refine Zd (Zq rfl (Zj rfl (Yb (Yi rfl (fun h15=>?_) (fun h15=>?_))))) <;> simp only [NM] at h15
     ·refine Zd (Zi rfl (Ys rfl (YF (Wx _ (by omega))) rfl rfl rfl (Zi rfl (Ys rfl (YF (Wx _ (by omega))) rfl rfl rfl (X9 rfl rfl (ur hf hr) (Zq rfl (Zj rfl (Zf rfl (ZH ?_)))))))))
      rw [tX (by assumption) (by assumption) (by assumption)]
      rfl
     ·refine Zd (Zq rfl (Zj rfl (Yb (Yi rfl (fun h16=>?_) (fun h16=>?_))))) <;> simp only [NM] at h16
      ·refine Zd (Zi rfl (Ys rfl (YF (Wx _ (by omega))) rfl rfl rfl (Zq rfl (Zj rfl (Yr (t:=79) rfl (fun h17=>?_) (fun h17=>?_)))))) <;> simp only [NM] at h17
       ·refine Ya rfl (Zi rfl (Ya rfl (Ys rfl (YF (Wx _ (by omega))) rfl rfl rfl (Ya rfl (Zq rfl (Zo rfl (Zj rfl (Zf rfl (ZH ?_)))))))))
        rw [yi (by assumption) (by assumption) (by assumption)]
        rw [Bool.eq_iff_iff]
        simp only [beq_iff_eq,decide_eq_true_eq,Bool.false_eq_true,true_iff,false_iff,iff_true,iff_false]
        omega
       ·refine ZC rfl (ZB rfl (Zo rfl (Zj rfl (Zf rfl (ZH ?_)))))
        rw [yi (by assumption) (by assumption) (by assumption)]
        rw [Bool.eq_iff_iff]
        simp only [beq_iff_eq,decide_eq_true_eq,Bool.false_eq_true,true_iff,false_iff,iff_true,iff_false]
        omega
      ·refine Zd (Zq rfl (Zj rfl (Yb (Yi rfl (fun h18=>?_) (fun h18=>?_))))) <;> simp only [NM] at h18
       ·refine Zd (Zj rfl (Zj rfl (Ya rfl (Yn rfl rfl ZM (Ya rfl (Zi rfl (Ya rfl (Zi rfl (Ya rfl (Ys rfl (YF (UR P a b ha hb (by omega) (Q4 (by omega)))) rfl rfl rfl (Zo rfl (Zj rfl (Zf rfl (ZH ?_))))))))))))))
        rw [jp (by assumption) (by assumption) (by assumption)]
        rw [zd (by omega)]
        rfl
       ·refine Zd (Zq rfl (Zj rfl (Yb (Yi rfl (fun h19=>?_) (fun h19=>?_))))) <;> simp only [NM] at h19
        ·refine Zd (Zj rfl (Zj rfl (Yr (t:=96) rfl (fun h20=>?_) (fun h20=>?_)))) <;> simp only [NM] at h20
         ·refine Ya rfl (Yn rfl rfl ZM (Ya rfl (Zi rfl (Ya rfl (Zi rfl (Ya rfl (Ys rfl (YF (UR P a b ha hb (by omega) (Q4 (by omega)))) rfl rfl rfl (Zo rfl (Zj rfl (Zf rfl (ZH ?_)))))))))))
          rw [zO (by assumption) (by assumption) (by assumption)]
          rw [jq (by omega)]
          rfl
         ·refine ZD rfl (Zo rfl (Zj rfl (Zf rfl (ZH ?_))))
          rw [zO (by assumption) (by assumption) (by assumption)]
          rw [ql (by omega)]
          rfl
        ·refine Yg (Zd (Zj rfl (Zj rfl (ZB rfl (Zo rfl (Zj rfl (Ya rfl (Yn rfl rfl ZM (Ya rfl (Zi rfl (Ya rfl (Zi rfl (Ya rfl (Ys rfl (YF (UR P a b ha hb (by omega) (Q4 (by omega)))) rfl rfl rfl (Zo rfl (Zj rfl (Zf rfl (ZH ?_))))))))))))))))))
         rw [yb (by assumption) (by assumption) (by omega) (by omega) (by omega) (by omega) (by omega)]
         (rw [zd (by omega),Bool.true_or]; rfl)
   ·refine Ya rfl (Zi rfl (Ya rfl (Zq rfl (Zo rfl (Zi rfl (Ys rfl (YF (Wx _ (by omega))) rfl rfl rfl (Zi rfl (Ys rfl (YF (Wx _ (by omega))) rfl rfl rfl (Zq rfl (Zj rfl (Zj rfl (Yb (Yd (Zd ?_))))))))))))))
    have hf:=zh (x:=b % 8 - a % 8) (by omega)
    have hr:=zh (x:=b / 8 - a / 8) (by omega)
    refine Zx rfl (Yl (x:=P (sqI a)) rfl rfl ZL (rfl) (Yb (Yj (Zd (Zq rfl (Zj rfl (Yb (Yi rfl (fun h21=>?_) (fun h21=>?_))))))))) <;> simp only [NM] at h21
    ·refine Zd (Zi rfl (Ys rfl (YF (Wx _ (by omega))) rfl rfl rfl (Zq rfl (Zj rfl (Yr (t:=48) rfl (fun h22=>?_) (fun h22=>?_)))))) <;> simp only [NM] at h22
     ·refine Ya rfl (Zy rfl (Ya rfl (Yl (x:=P (sqI a+1)) rfl rfl ZL (rfl) (Ya rfl (Zq rfl (Ya rfl (Zj rfl (Yr (t:=52) rfl (fun h23=>?_) (fun h23=>?_))))))))) <;> simp only [NM] at h23
      ·refine Ya rfl (Zi rfl (Ya rfl (Zq rfl (Ya rfl (Zo rfl (Ya rfl (Zj rfl (Yr (t:=56) rfl (fun h24=>?_) (fun h24=>?_))))))))) <;> simp only [NM] at h24
       ·refine ZD rfl (YG rfl (YG rfl (ZB rfl (Ya rfl (Zo rfl (Zo rfl (Zj rfl (Zf rfl (ZH ?_)))))))))
        rw [Ur (by assumption) (by assumption) (by assumption)]
        simp only [YU,decide_eq_true_eq] at *
        rw [Bool.eq_iff_iff]
        simp only [beq_iff_eq,decide_eq_true_eq,Bool.false_eq_true,true_iff,false_iff,iff_true,iff_false]
        omega
       ·refine Ya rfl (Zy rfl (Ya rfl (Yl (x:=P (sqI a+1)) rfl rfl ZL (rfl) (Ya rfl (Zq rfl (Ya rfl (Zj rfl (Yr (t:=60) rfl (fun h25=>?_) (fun h25=>?_))))))))) <;> simp only [NM] at h25
        ·refine Ya rfl (Zi rfl (Ya rfl (Zq rfl (Ya rfl (Zo rfl (Ya rfl (Zo rfl (Zo rfl (Zj rfl (Zf rfl (ZH ?_)))))))))))
         rw [Ur (by assumption) (by assumption) (by assumption)]
         simp only [YU,decide_eq_true_eq] at *
         rw [Bool.eq_iff_iff]
         simp only [beq_iff_eq,decide_eq_true_eq,Bool.false_eq_true,true_iff,false_iff,iff_true,iff_false]
         omega
        ·refine ZC rfl (Ya rfl (Zo rfl (Ya rfl (Zo rfl (Zo rfl (Zj rfl (Zf rfl (ZH ?_))))))))
         rw [Ur (by assumption) (by assumption) (by assumption)]
         simp only [YU,decide_eq_true_eq] at *
         rw [Bool.eq_iff_iff]
         simp only [beq_iff_eq,decide_eq_true_eq,Bool.false_eq_true,true_iff,false_iff,iff_true,iff_false]
         omega
      ·refine ZC rfl (Ya rfl (Zo rfl (Ya rfl (Zj rfl (Ya rfl (Zy rfl (Ya rfl (Yl (x:=P (sqI a+1)) rfl rfl ZL (rfl) (Ya rfl (Zq rfl (Ya rfl (Zj rfl (Yr (t:=60) rfl (fun h26=>?_) (fun h26=>?_)))))))))))))) <;> simp only [NM] at h26
       ·refine Ya rfl (Zi rfl (Ya rfl (Zq rfl (Ya rfl (Zo rfl (Ya rfl (Zo rfl (Zo rfl (Zj rfl (Zf rfl (ZH ?_)))))))))))
        rw [Ur (by assumption) (by assumption) (by assumption)]
        simp only [YU,decide_eq_true_eq] at *
        rw [Bool.eq_iff_iff]
        simp only [beq_iff_eq,decide_eq_true_eq,Bool.false_eq_true,true_iff,false_iff,iff_true,iff_false]
        omega
       ·refine ZC rfl (Ya rfl (Zo rfl (Ya rfl (Zo rfl (Zo rfl (Zj rfl (Zf rfl (ZH ?_))))))))
        rw [Ur (by assumption) (by assumption) (by assumption)]
        simp only [YU,decide_eq_true_eq] at *
        rw [Bool.eq_iff_iff]
        simp only [beq_iff_eq,decide_eq_true_eq,Bool.false_eq_true,true_iff,false_iff,iff_true,iff_false]
        omega
     ·refine ZD rfl (YG rfl (YG rfl (ZC rfl (YG rfl (YG rfl (YG rfl (YG rfl (YG rfl (YG rfl (YG rfl (ZB rfl (Zo rfl (Zj rfl (Zf rfl (ZH ?_)))))))))))))))
      rw [Ur (by assumption) (by assumption) (by assumption)]
      simp only [YU,decide_eq_true_eq] at *
      rw [Bool.eq_iff_iff]
      simp only [beq_iff_eq,decide_eq_true_eq,Bool.false_eq_true,true_iff,false_iff,iff_true,iff_false]
      omega
    ·refine Zd (Zq rfl (Zj rfl (Yb (Yi rfl (fun h27=>?_) (fun h27=>?_))))) <;> simp only [NM] at h27
     ·refine Zd (Zi rfl (Ys rfl (YF (Wx _ (by omega))) rfl rfl rfl (Zi rfl (Ys rfl (YF (Wx _ (by omega))) rfl rfl rfl (X9 rfl rfl (ur hf hr) (Zq rfl (Zj rfl (Zf rfl (ZH ?_)))))))))
      rw [tX (by assumption) (by assumption) (by assumption)]
      rfl
     ·refine Zd (Zq rfl (Zj rfl (Yb (Yi rfl (fun h28=>?_) (fun h28=>?_))))) <;> simp only [NM] at h28
      ·refine Zd (Zi rfl (Ys rfl (YF (Wx _ (by omega))) rfl rfl rfl (Zq rfl (Zj rfl (Yr (t:=79) rfl (fun h29=>?_) (fun h29=>?_)))))) <;> simp only [NM] at h29
       ·refine Ya rfl (Zi rfl (Ya rfl (Ys rfl (YF (Wx _ (by omega))) rfl rfl rfl (Ya rfl (Zq rfl (Zo rfl (Zj rfl (Zf rfl (ZH ?_)))))))))
        rw [yi (by assumption) (by assumption) (by assumption)]
        rw [Bool.eq_iff_iff]
        simp only [beq_iff_eq,decide_eq_true_eq,Bool.false_eq_true,true_iff,false_iff,iff_true,iff_false]
        omega
       ·refine ZC rfl (ZB rfl (Zo rfl (Zj rfl (Zf rfl (ZH ?_)))))
        rw [yi (by assumption) (by assumption) (by assumption)]
        rw [Bool.eq_iff_iff]
        simp only [beq_iff_eq,decide_eq_true_eq,Bool.false_eq_true,true_iff,false_iff,iff_true,iff_false]
        omega
      ·refine Zd (Zq rfl (Zj rfl (Yb (Yi rfl (fun h30=>?_) (fun h30=>?_))))) <;> simp only [NM] at h30
       ·refine Zd (Zj rfl (Zj rfl (Yr (t:=87) rfl (fun h31=>?_) (fun h31=>?_)))) <;> simp only [NM] at h31
        ·refine Ya rfl (Yn rfl rfl ZM (Ya rfl (Zi rfl (Ya rfl (Zi rfl (Ya rfl (Ys rfl (YF (UR P a b ha hb (by omega) (Q4 (by omega)))) rfl rfl rfl (Zo rfl (Zj rfl (Zf rfl (ZH ?_)))))))))))
         rw [jp (by assumption) (by assumption) (by assumption)]
         rw [zd (by omega)]
         rfl
        ·refine ZD rfl (Zo rfl (Zj rfl (Zf rfl (ZH ?_))))
         rw [jp (by assumption) (by assumption) (by assumption)]
         rw [qK (by omega)]
         rfl
       ·refine Zd (Zq rfl (Zj rfl (Yb (Yi rfl (fun h32=>?_) (fun h32=>?_))))) <;> simp only [NM] at h32
        ·refine Zd (Zj rfl (Zj rfl (Yr (t:=96) rfl (fun h33=>?_) (fun h33=>?_)))) <;> simp only [NM] at h33
         ·refine Ya rfl (Yn rfl rfl ZM (Ya rfl (Zi rfl (Ya rfl (Zi rfl (Ya rfl (Ys rfl (YF (UR P a b ha hb (by omega) (Q4 (by omega)))) rfl rfl rfl (Zo rfl (Zj rfl (Zf rfl (ZH ?_)))))))))))
          rw [zO (by assumption) (by assumption) (by assumption)]
          rw [jq (by omega)]
          rfl
         ·refine ZD rfl (Zo rfl (Zj rfl (Zf rfl (ZH ?_))))
          rw [zO (by assumption) (by assumption) (by assumption)]
          rw [ql (by omega)]
          rfl
        ·refine Yg (Zd (Zj rfl (Zj rfl (Yr (t:=103) rfl (fun h34=>?_) (fun h34=>?_))))) <;> simp only [NM] at h34
         ·refine ZB rfl (Zo rfl (Zj rfl (Ya rfl (Yn rfl rfl ZM (Ya rfl (Zi rfl (Ya rfl (Zi rfl (Ya rfl (Ys rfl (YF (UR P a b ha hb (by omega) (Q4 (by omega)))) rfl rfl rfl (Zo rfl (Zj rfl (Zf rfl (ZH ?_))))))))))))))
          rw [yb (by assumption) (by assumption) (by omega) (by omega) (by omega) (by omega) (by omega)]
          (rw [zd (by omega),Bool.true_or]; rfl)
         ·refine Ya rfl (Zj rfl (Zo rfl (Zj rfl (Yr (t:=106) rfl (fun h35=>?_) (fun h35=>?_))))) <;> simp only [NM] at h35
          ·refine Ya rfl (Yn rfl rfl ZM (Ya rfl (Zi rfl (Ya rfl (Zi rfl (Ya rfl (Ys rfl (YF (UR P a b ha hb (by omega) (Q4 (by omega)))) rfl rfl rfl (Zo rfl (Zj rfl (Zf rfl (ZH ?_)))))))))))
           rw [yb (by assumption) (by assumption) (by omega) (by omega) (by omega) (by omega) (by omega)]
           (rw [qK (by omega),jq (by omega)]; rfl)
          ·refine ZD rfl (Zo rfl (Zj rfl (Zf rfl (ZH ?_))))
           rw [yb (by assumption) (by assumption) (by omega) (by omega) (by omega) (by omega) (by omega)]
           (rw [qK (by omega),ql (by omega)]; rfl)
theorem ki {P X Q:Nat→Int} {s:Nat} (hQ:∀ j,j < 2→Q j = P (sqI s+j)):eqI 2 Q X = isX P X s:=by
 unfold isX
 rw [X3,hQ 0 (by omega),hQ 1 (by omega)]; rfl
theorem qD (P X:Nat→Int):RtR AM 48 1 [.agg 133 (ia P),.agg 2 (ia X)] [] (R8 P X) []:=by
 refine W7 (YI (a:=a48) rfl rfl (YH _) (ZP rfl) (m:=0) rfl (Zd (YB rfl (YB rfl (Yp rfl (Ze (Yp rfl (Yb (Yd (Zd (Yp rfl (Yb (Yj (Xe (.refl _) (Xg (fun m f _ L=>∃ (i:Nat) (vO:V) (ownO:HA),(i≤64)∧(m = 64 - i)∧(Rw 1 ((X4 i).filter (isX P X)) vO ownO)∧(f 2 = .ptr 0 0 133)∧(f 3 = .ptr 1 0 2)∧(f 5 = vO)∧(f 6 = .s (.int .i64 i))∧(L = (ownO++[(1,.sc .var 2 (ia X)),(0,.sc .var 133 (ia P))]))) (fun m f nb L hI=>?_) (64) (⟨0,.snil,[],by omega,rfl,.nil rfl,rfl,rfl,rfl,rfl,rfl⟩))))))))))))))))
 obtain ⟨i,vO,ownO,hi,hm,hrO,k2,k3,k5,k6,rfl⟩:=hI
 refine pH 2 k2 (pH 3 k3 (pH 5 k5 (pH 6 k6 (Yd (Zd (Zi rfl (Zq rfl (Yb (Yi rfl (fun h36=>?_) (fun h36=>?_)))))))))) <;> simp only [NM] at h36
 ·refine Yg (Yd (Yj (Yd (Yf (Zi rfl (Zx rfl (Zv rfl rfl rfl (Yo rfl rfl (List.mem_append_right _ ZM) (Yn rfl rfl (List.mem_append_right _ ZL) (Yv rfl rfl (Yb (Yi rfl (fun h37=>?_) (fun h37=>?_))))))))))))) <;> simp only [NM] at h37
  ·refine Ye (Yp (v:=vO) rfl (Zi rfl (Xd rfl (.one rfl .nil) (Xx (c:=[(i:Int)]) rfl hrO rfl ZL (.there .here) (by decide) (by decide) rfl (QT) (by have:=TS (isX P X) i; omega) (fun v1 own1 n1 hr1=>Yp (v:=v1) rfl (Yb (Ye (Zi rfl (Zr rfl rfl (Zi rfl (Yb ?_)))))))))))
   have e0:∀ j,j < 2→dp P (0+(i:Int).toNat*2) j = P (sqI i+j):=fun j hj=>by have hq:sqI (i:Int) = 0+(i:Int).toNat*2:=rfl; exact congrArg P (by omega)
   refine ⟨64 - (i+1),_,by omega,(List.Sublist.append (.refl _) (.cons _ (.refl _))),i+1,_,_,by omega,rfl,?_,rfl,rfl,rfl,rfl,rfl⟩
   exact (D7 (p:=isX P X) (i:=i) (by rw [← ki e0]; assumption)).symm ▸ hr1
  ·refine Yg (Ye (Zi rfl (Zr rfl rfl (Zi rfl (Yb ?_)))))
   have e0:∀ j,j < 2→dp P (0+(i:Int).toNat*2) j = P (sqI i+j):=fun j hj=>by have hq:sqI (i:Int) = 0+(i:Int).toNat*2:=rfl; exact congrArg P (by omega)
   refine ⟨64 - (i+1),_,by omega,(List.Sublist.append (.refl _) (.refl _)),i+1,_,_,by omega,rfl,?_,rfl,rfl,rfl,rfl,rfl⟩
   exact (yG (p:=isX P X) (i:=i) (by rw [← ki e0]; assumption)).symm ▸ hrO
 ·refine YZ (Xc (Zd (Yp (v:=vO) rfl (Yp (v:=vO) rfl (Yb (Yh (⟨_,YK (v:=vO) rfl (YS),?_⟩)))))))
  obtain rfl:i = 64:=by omega
  exact ⟨_,hrO,(fun _ h=>(List.mem_append_left _ h))⟩
def DJ (P:Nat→Int) (c s a:Int):Bool:=decide (P (sqI a+1) = c) && Xb P a s
def toL (P:Nat→Int) (s c:Int) (n:Nat):List Int:=if 0≤s∧s < 64 then (X4 n).filter (DJ P c s) else []
theorem toL_len (P:Nat→Int) (s c:Int) (n:Nat):(toL P s c n).length≤n:=by
 unfold toL
 split
 ·exact TS _ n
 ·exact Nat.zero_le _
def isR (P:Nat→Int) (c:Int) (s:Int):Bool:=decide (0 < (toL P s c 64).length)
def EI (P:Nat→Int) (c:Int):Bool:=if c = 0∨c = 1 then (R8 P (RV c)).any (isR P (Y0 c)) else false
theorem q5 {P:Nat→Int} {c s:Int} (hs:0≤s∧s < 64):isR P c s = Vx P c s:=by
 unfold isR toL Vx
 rw [if_pos hs,Bool.eq_iff_iff,decide_eq_true_eq,List.length_pos_iff_exists_mem,List.any_eq_true]
 constructor
 ·rintro ⟨a,ha⟩
  obtain ⟨h1,h2⟩:=List.mem_filter.1 ha
  refine ⟨a,h1,?_⟩
  unfold DJ at h2
  unfold QJ
  rw [Bool.and_eq_true] at h2 ⊢
  exact ⟨h2.1,decide_eq_true ((TH (mem64.1 h1) hs).2 h2.2)⟩
 ·rintro ⟨a,h1,h2⟩
  refine ⟨a,List.mem_filter.2 ⟨h1,?_⟩⟩
  unfold QJ at h2
  unfold DJ
  rw [Bool.and_eq_true] at h2 ⊢
  exact ⟨h2.1,(TH (mem64.1 h1) hs).1 (of_decide_eq_true h2.2)⟩
theorem EC (P:Nat→Int) (c:Int):EI P c = Xu P c:=by
 unfold EI Xu
 split
 ·rw [Bool.eq_iff_iff,List.any_eq_true,List.any_eq_true]
  constructor
  ·rintro ⟨x,hx,h⟩
   refine ⟨x,hx,?_⟩
   rw [← q5 (mem64.1 (List.mem_filter.1 hx).1)]; exact h
  ·rintro ⟨x,hx,h⟩
   refine ⟨x,hx,?_⟩
   rw [q5 (mem64.1 (List.mem_filter.1 hx).1)]; exact h
 ·rfl
theorem to_yes {P:Nat→Int} {s c:Int} {i:Nat} (hs:0≤s∧s < 64) (h1:P (sqI i+1) = c) (h2:Xb P i s = true):toL P s c (i+1) = toL P s c i++[(i:Int)]:=by
 unfold toL
 rw [if_pos hs,if_pos hs]
 exact D7 (p:=DJ P c s) (by unfold DJ; rw [decide_eq_true h1,h2]; rfl)
theorem to_no {P:Nat→Int} {s c:Int} {i:Nat} (hs:0≤s∧s < 64) (h:P (sqI i+1) ≠ c∨Xb P i s = false):toL P s c (i+1) = toL P s c i:=by
 unfold toL
 rw [if_pos hs,if_pos hs]
 refine yG (p:=DJ P c s) ?_
 unfold DJ
 rcases h with h | h
 ·rw [decide_eq_false h]; rfl
 ·rw [h,Bool.and_false]
theorem dTo_rt (P:Nat→Int) (s c:Int):RtR AM 65 1 [.agg 133 (ia P),.s (.int .i64 s),.s (.int .i64 c)] [] (toL P s c 64) []:=by
 refine W7 (YI (a:=a65) rfl rfl (YH _) (ZP rfl) (m:=0) rfl (Zd (YB rfl (Yp rfl (Ze (Yp rfl (Yb (Yd (Zd (Yp rfl (Yb (Yj (Xe (.refl _) ?_)))))))))))))
 refine Xg (fun m f _ L=>∃ (i:Nat) (vO:V) (ownO:HA),(i≤64)∧(m = 64 - i)∧(Rw 1 (toL P s c i) vO ownO)∧(f 1 = .s (.int .i64 s))∧(f 2 = .s (.int .i64 c))∧(f 3 = .ptr 0 0 133)∧(f 7 = vO)∧(f 8 = .s (.int .i64 i))∧(L = (ownO++[(0,.sc .var 133 (ia P))]))) (fun m f nb L hI=>?_) (64) (⟨0,.snil,[],by omega,rfl,.nil (by unfold toL; split <;> rfl),rfl,rfl,rfl,rfl,rfl,rfl⟩)
 obtain ⟨i,vO,ownO,hi,hm,hrO,k1,k2,k3,k7,k8,rfl⟩:=hI
 refine pH 1 k1 (pH 2 k2 (pH 3 k3 (pH 7 k7 (pH 8 k8 (Yd (Zd (Zi rfl (Zq rfl (Zj rfl (Yr (t:=11) rfl (fun h38=>?_) (fun h38=>?_))))))))))) <;> simp only [NM] at h38
 ·refine Ya rfl (Zi rfl (Ya rfl (Zq rfl (Zo rfl (Zj rfl (Yr (t:=15) rfl (fun h39=>?_) (fun h39=>?_))))))) <;> simp only [NM] at h39
  ·refine Ya rfl (Zi rfl (Ya rfl (Zq rfl (Zo rfl (Yb (Yi rfl (fun h40=>?_) (fun h40=>?_))))))) <;> simp only [NM] at h40
   ·refine Yg (Yd (Yj (Zd (Zi rfl (Zx rfl (Zv rfl rfl rfl (Yc rfl rfl rfl (Yl (x:=P (sqI i+1)) rfl rfl (List.mem_append_right _ ZL) (show P (0+(i:Int).toNat*2+1) = _ from congrArg P (by have hq:sqI (i:Int) = 0+(i:Int).toNat*2:=rfl; omega)) (Zi rfl (Zq rfl (Zj rfl (Yr (t:=28) rfl (fun h41=>?_) (fun h41=>?_))))))))))))) <;> simp only [NM] at h41
    ·refine Ya rfl (Yn rfl rfl (List.mem_append_right _ ZL) (Ya rfl (Zi rfl (Ya rfl (Zi rfl (Ya rfl (Ys rfl (YF (Qu P i s (by omega) (by omega))) rfl rfl rfl (Zo rfl (Yb (Yi rfl (fun h42=>?_) (fun h42=>?_)))))))))))
     ·refine Ye (Yp (v:=vO) rfl (Zi rfl (Xd rfl (.one rfl .nil) (Xx (c:=[(i:Int)]) rfl hrO rfl ZL (.there .here) (by decide) (by decide) rfl (QT) (by have:=toL_len P s c i; omega) (fun v1 own1 n1 hr1=>Yp (v:=v1) rfl (Yb (Ye (Zi rfl (Zr rfl rfl (Zi rfl (Yb (⟨64 - (i+1),_,by omega,(List.Sublist.append (.refl _) (.cons _ (.refl _))),i+1,_,_,by omega,rfl,?_,rfl,rfl,rfl,rfl,rfl,rfl⟩))))))))))))
      exact (to_yes (c:=c) ⟨by omega,by omega⟩ (by assumption) (by assumption)).symm ▸ hr1
     ·refine Yg (Ye (Zi rfl (Zr rfl rfl (Zi rfl (Yb (⟨64 - (i+1),_,by omega,(List.Sublist.append (.refl _) (.refl _)),i+1,_,_,by omega,rfl,?_,rfl,rfl,rfl,rfl,rfl,rfl⟩))))))
      exact (to_no (c:=c) ⟨by omega,by omega⟩ (by first | exact .inl (by assumption) | exact .inr (by assumption))).symm ▸ hrO
    ·refine ZD rfl (Zo rfl (Yb (ZA rfl (Yg (Ye (Zi rfl (Zr rfl rfl (Zi rfl (Yb (⟨64 - (i+1),_,by omega,(List.Sublist.append (.refl _) (.refl _)),i+1,_,_,by omega,rfl,?_,rfl,rfl,rfl,rfl,rfl,rfl⟩))))))))))
     exact (to_no (c:=c) ⟨by omega,by omega⟩ (by first | exact .inl (by assumption) | exact .inr (by assumption))).symm ▸ hrO
   ·refine YZ (Xc (Zd (Yp (v:=vO) rfl (Yp (v:=vO) rfl (Yb (Yh (⟨_,YK (v:=vO) rfl (YS),?_⟩)))))))
    have e:toL P s c 64 = toL P s c i:=by
     by_cases e:0≤s∧s < 64
     · obtain rfl : i = 64 := by omega
       rfl
     · unfold toL; rw [if_neg e,if_neg e]
    exact ⟨_,e ▸ hrO,(fun _ h=>(List.mem_append_left _ h))⟩
  ·refine ZC rfl (Zo rfl (Yb (ZA rfl (YZ (Xc (Zd (Yp (v:=vO) rfl (Yp (v:=vO) rfl (Yb (Yh (⟨_,YK (v:=vO) rfl (YS),?_⟩)))))))))))
   have e:toL P s c 64 = toL P s c i:=by
    by_cases e:0≤s∧s < 64
    · obtain rfl : i = 64 := by omega
      rfl
    · unfold toL; rw [if_neg e,if_neg e]
   exact ⟨_,e ▸ hrO,(fun _ h=>(List.mem_append_left _ h))⟩
 ·refine ZC rfl (Zo rfl (Zj rfl (ZC rfl (Zo rfl (Yb (ZA rfl (YZ (Xc (Zd (Yp (v:=vO) rfl (Yp (v:=vO) rfl (Yb (Yh (⟨_,YK (v:=vO) rfl (YS),?_⟩))))))))))))))
  have e:toL P s c 64 = toL P s c i:=by
   by_cases e:0≤s∧s < 64
   · obtain rfl : i = 64 := by omega
     rfl
   · unfold toL; rw [if_neg e,if_neg e]
  exact ⟨_,e ▸ hrO,(fun _ h=>(List.mem_append_left _ h))⟩
theorem wQ (P:Nat→Int) (c:Int) (l:List Int) (hlen:l.length≤1000000):RdR AM 47 1 [.agg 133 (ia P),.s (.int .i64 c)] [] l (.s (.bool (l.any (isR P c)))):=by
 refine ER fun v Bs hc=>?_
 refine YI (a:=a47) rfl rfl (YH _) (ZP rfl) rfl ?_ (by first | rfl | (cases hc <;> rfl))
 have hr0:=hc.rx
 rw [show Xj 0 Bs = Xj 0 Bs++[] from (List.append_nil _).symm]
 generalize hown:Xj 0 Bs = own0 at hr0 ⊢
 refine Zd (YB rfl (Yp rfl (Yb (Yd (Zd (Yp rfl (Yb (Yj (Xe (.cons_cons _ (List.Sublist.append (.refl _) .slnil)) (Xg (fun m f _ L=>∃ (i:Nat),(i≤l.length)∧(m = l.length - i)∧(∀ j:Nat,j < i→isR P c (l.getD j 0) = false)∧(f 1 = .s (.int .i64 c))∧(f 2 = v)∧(f 3 = .ptr Bs.length 0 133)∧(f 7 = .s (.int .i64 i))∧(L = (Bs.length,.sc .var 133 (ia P))::(own0++[]))) (fun m f nb L hI=>?_) (l.length) (⟨0,by omega,by omega,fun j hj=>by omega,rfl,rfl,rfl,rfl,rfl⟩)))))))))))
 obtain ⟨i,hi,hm,hn,k1,k2,k3,k7,rfl⟩:=hI
 refine pH 1 k1 (pH 2 k2 (pH 3 k3 (pH 7 k7 (Yd (Zd (Zi rfl (Yp (v:=v) rfl (Vn rfl hr0 (by decide) Ka (Zq rfl (Yb (Yi rfl (fun h43=>?_) (fun h43=>?_)))))))))))) <;> simp only [NM] at h43
 ·refine Yg (Yd (Yj (Yd (Yf (Yn rfl rfl ZL (Yp (v:=v) rfl (Zi rfl ?_)))))))
  obtain ⟨b0,q0,md0,c0,F0,rfl,rfl,hF0⟩:=hr0.at (by decide) Ka (by omega)
  refine Zw rfl rfl (Yl (x:=(l.getD i 0)) rfl rfl ZM (ld1 hF0 (by omega)) (Zi rfl (YD rfl (dTo_rt P (l.getD i 0) c) rfl rfl (fun v1 own1 n1 hr1=>Yp (v:=v1) rfl (Ze (Yp (v:=v1) rfl (Vn rfl hr1.rx (by decide) Ka (Zq rfl (Yb (Yi rfl (fun h44=>?_) (fun h44=>?_))))))))))) <;> simp only [NM] at h44
  ·refine Zd (Yp rfl (Zf rfl (⟨?_,(KG (List.mem_append_right _ ZM))⟩)))
   rw [uK (p:=isR P c) (i:=i) (by omega) (decide_eq_true (by omega))]; rfl
  ·refine Yg (Ye (Zi rfl (Zr rfl rfl (Zi rfl (Yb (⟨l.length - (i+1),_,by omega,(List.sublist_append_of_sublist_right (.refl _)),i+1,by omega,rfl,?_,rfl,rfl,rfl,rfl,rfl⟩))))))
   intro j hj
   by_cases e:j = i
   ·subst e; exact decide_eq_false (by omega)
   ·exact hn j (by omega)
 ·refine YZ (Xc (Zd (Yp rfl (Zf rfl ?_))))
  obtain rfl:i = l.length:=by omega
  refine ⟨?_,(fun _ h=>(.tail _ h))⟩
  rw [wX (p:=isR P c) hn]; rfl
theorem Ks (P:Nat→Int) (c:Int):WR AM 29 [.agg 133 (ia P),.s (.int .i64 c)] [] (fun v _ _=>v = .s (.bool (Xu P c))):=by
 refine YI (a:=a29) rfl rfl (YH _) (ZP rfl) (m:=0) rfl (Zd (YB rfl (Yp rfl (Yb (Yd (Zd (Zi rfl (Zq rfl (Zj rfl (Yr (t:=7) rfl (fun h45=>?_) (fun h45=>?_))))))))))) <;> simp only [NM] at h45
 ·refine Ya rfl (Zi rfl (Ya rfl (Zq rfl (Zo rfl (Yb (Yi rfl (fun h46=>?_) (fun h46=>?_))))))) <;> simp only [NM] at h46
  ·refine Zd (Yp rfl (Zf rfl ?_))
   rw [← EC]
   unfold EI
   (rw [if_neg (by omega)]; rfl)
  ·refine Yg (Yd (Yf (Yn rfl rfl ZL (Zi rfl (Yt rfl (YF (WQ _)) rfl rfl rfl (Yn rfl rfl ZL (Zi rfl (YA rfl (.one rfl (.one rfl .nil)) (Ux rfl (qD P (RV c)) rfl rfl (fun v1 own1 n1 hr1=>VF (caps:=[]) rfl (wQ P (Y0 c) _ (Nat.le_trans (JP _ _) (by decide))) rfl (hr1.rx) (fun _ h=>(List.mem_append_left _ h)) rfl rfl rfl (Zj rfl (Zf rfl ?_))))))))))))
   rw [← EC]
   unfold EI
   (rw [if_pos (by omega)]; rfl)
 ·refine ZC rfl (Zo rfl (Yb (ZA rfl (Yg (Yd (Yf (Yn rfl rfl ZL (Zi rfl (Yt rfl (YF (WQ _)) rfl rfl rfl (Yn rfl rfl ZL (Zi rfl (YA rfl (.one rfl (.one rfl .nil)) (Ux rfl (qD P (RV c)) rfl rfl (fun v2 own2 n2 hr2=>VF (caps:=[]) rfl (wQ P (Y0 c) _ (Nat.le_trans (JP _ _) (by decide))) rfl (hr2.rx) (fun _ h=>(List.mem_append_left _ h)) rfl rfl rfl (Zj rfl (Zf rfl ?_))))))))))))))))
  rw [← EC]
  unfold EI
  (rw [if_pos (by omega)]; rfl)
theorem Xf (P:Nat→Int) (s:Int):WR AM 128 [.agg 133 (ia P),.s (.int .i64 s)] [] (fun v _ _=>v = .s (.bool (YL P s))):=by
 refine YI (a:=a128) rfl rfl (YH _) (ZP rfl) (m:=0) rfl (Zd (YB rfl (Yp rfl (Ze (Zi rfl (Zq rfl (Zj rfl (Yr (t:=7) rfl (fun h1=>?_) (fun h1=>?_))))))))) <;> simp only [NM] at h1
 ·refine Ya rfl (Zi rfl (Ya rfl (Zq rfl (Zo rfl (Zj rfl (Yr (t:=11) rfl (fun h2=>?_) (fun h2=>?_))))))) <;> simp only [NM] at h2
  ·refine Ya rfl (Zi rfl (Ya rfl (Zx rfl (Ya rfl (Zv rfl rfl rfl (Ya rfl (Yo rfl rfl ZL (Ya rfl (YA rfl .nil (Ya rfl (Yv rfl rfl (Zo rfl (Zj rfl (Zf rfl (ZH ?_)))))))))))))))
   unfold YL isM
   (rw [decide_eq_true (by omega),Bool.true_and]; rfl)
  ·refine ZD rfl (ZC rfl (Zo rfl (Zj rfl (Zf rfl (ZH ?_)))))
   unfold YL isM
   (rw [decide_eq_false (by omega)]; rfl)
 ·refine ZC rfl (Zo rfl (Zj rfl (ZD rfl (ZC rfl (Zo rfl (Zj rfl (Zf rfl (ZH ?_))))))))
  unfold YL isM
  (rw [decide_eq_false (by omega)]; rfl)
section
variable {P:Nat→Int} {s t c:Int}
theorem goP_1 (h:t = s+8*(1 - 2*c)):goP P s t c = YL P t:=if_pos h
theorem wG (h1:¬ t = s+8*(1 - 2*c)) (h2:t = s+16*(1 - 2*c)∧s / 8 = 1+5*c):goP P s t c = (YL P (s+8*(1 - 2*c)) && YL P t):=by
 unfold goP; rw [if_neg h1,if_pos h2]
theorem Wp (h1:¬ t = s+8*(1 - 2*c)) (h2:¬ (t = s+16*(1 - 2*c)∧s / 8 = 1+5*c)):goP P s t c = (Xb P s t && ((!YP P t && decide (XZ P t = Y0 c)) || (YL P t && decide (t = P 130)))):=by
 unfold goP; rw [if_neg h1,if_neg h2]
theorem K8 (x:Int):eqI 2 (dp P (0+x.toNat*2)) (ovA (fun _=>0) 0 2 (ov (ov (fun _=>0) 0 4) 1 c)) = Vj P c x:=by
 rw [X3]; rfl
theorem js:eqI 2 P (ovA (fun _=>0) 0 2 (ov (ov (fun _=>0) 0 4) 1 c)) = Vj P c 0:=by
 rw [X3]; rfl
end
theorem vd (P:Nat→Int) (s t:Int) (hs:0≤s∧s < 64) (ht:0≤t∧t < 64) (hc:P (sqI s+1) = 0):WR AM 104 [.agg 133 (ia P),.s (.int .i64 s),.s (.int .i64 t)] [] (fun v _ _=>v = .s (.bool (goP P s t 0))):=by
 refine YI (a:=a104) rfl rfl (YH _) (ZP rfl) (m:=0) rfl (Zd (YB rfl (Yp rfl (Ze (Zi rfl (Zx rfl (Zv rfl rfl rfl (Yo rfl rfl ZL (Yx (Yy rfl rfl rfl rfl .here (Ze (Yp rfl (Yp rfl (Yb (Yd (Zd (Zy rfl (Yl (x:=0) rfl rfl ZL (hc) (Yq rfl rfl (kq (by omega)) (Yb (ZA rfl (Yg (Yd (Zd (Zi rfl (Zi rfl (Zi rfl (Zr rfl rfl (Zq rfl ?_)))))))))))))))))))))))))))))
 refine Yb (Yi rfl (fun h3=>?_) (fun h3=>?_)) <;> simp only [NM] at h3
 ·refine Zd (Yn rfl rfl ZM (Zi rfl (Ys rfl (YF (Xf P _)) rfl rfl rfl (Zj rfl (Zf rfl (ZH ?_))))))
  exact (goP_1 (by omega)).symm
 ·refine Yg (Yd (Zd (Zi rfl (Zi rfl (Zi rfl (X9 rfl rfl (by omega) (Zr rfl rfl (Zq rfl (Zj rfl (Yr (t:=32) rfl (fun h4=>?_) (fun h4=>?_))))))))))) <;> simp only [NM] at h4
  ·refine Ya rfl (Zi rfl (Ya rfl (Zt rfl rfl (Ya rfl (Zi rfl (Ya rfl (Zq rfl (Zo rfl (Yb (Yi rfl (fun h5=>?_) (fun h5=>?_))))))))))) <;> simp only [NM] at h5
   ·refine Zd (Yn rfl rfl ZM (Zi rfl (Zi rfl (Zr rfl rfl (Ys rfl (YF (Xf P _)) rfl rfl rfl (Zj rfl (Yr (t:=43) rfl (fun h6=>?_) (fun h6=>?_))))))))
    ·refine Ya rfl (Yn rfl rfl ZM (Ya rfl (Zi rfl (Ya rfl (Ys rfl (YF (Xf P _)) rfl rfl rfl (Zo rfl (Zj rfl (Zf rfl (ZH ?_)))))))))
     rw [wG (by omega) (by omega),show s+8*(1 - 2*0) = s+8 by omega]
     rw [show YL P (s+8) = true by assumption]
     rfl
    ·refine Z9 rfl rfl (ZC rfl (Zo rfl (Zj rfl (Zf rfl (ZH ?_)))))
     rw [wG (by omega) (by omega),show s+8*(1 - 2*0) = s+8 by omega]
     rw [show YL P (s+8) = false by assumption]
     rfl
   ·refine Yg (Yd (Zd (Yn rfl rfl ZM (Zi rfl (Zi rfl (Ys rfl (YF (Qu P s t hs ht)) rfl rfl rfl (Yu (r:=.bool _) rfl rfl (Yb (Yi rfl (fun h7=>?_) (fun h7=>?_)))))))))) <;> simp only [NM] at h7
    ·refine Zd (Yp rfl (Zf rfl (ZH ?_)))
     rw [Wp (by omega) (by omega)]
     rw [show Xb P s t = false by assumption]
     rfl
    ·refine Yg (Zd (Zi rfl (Zx rfl (Zv rfl rfl rfl (Yo rfl rfl ZM (Yx (Yy rfl rfl rfl rfl .here (Yb (Yd (Yf (Yn rfl rfl ZL (YA rfl .nil (Yv rfl rfl (Zj rfl (Yr (t:=60) rfl (fun h8=>?_) (fun h8=>?_)))))))))))))))) <;> simp only [NM] at h8
     ·change YP P t = false at h8
      refine Ya rfl (Zy rfl (Ya rfl (Yl (x:=XZ P t) rfl rfl ZL (rfl) (Ya rfl (Zy rfl (Ya rfl (Yl (x:=0) rfl rfl ZM (hc) (Ya rfl (Yt rfl (show RF AM 30 [.s (.int .i64 0)] (.s (.int .i64 (Y0 0))) from YF (WQ 0)) rfl rfl rfl (Ya rfl (Zq rfl (Zo rfl (Zj rfl (Yr (t:=68) rfl (fun h9=>?_) (fun h9=>?_))))))))))))))) <;> simp only [NM] at h9
      ·refine ZD rfl (YG rfl (YG rfl (YG rfl (YG rfl (ZB rfl (Zo rfl (Zj rfl (Zf rfl (ZH ?_)))))))))
       rw [Wp (by omega) (by omega)]
       rw [show Xb P s t = true by assumption]
       rw [show YP P t = false by assumption]
       rw [decide_eq_true (show XZ P t = Y0 0 by assumption)]
       rfl
      ·refine Ya rfl (Yn rfl rfl ZN (Ya rfl (Zi rfl (Ya rfl (Ys rfl (YF (Xf P _)) rfl rfl rfl (Ya rfl (Zj rfl (Yr (t:=72) rfl (fun h10=>?_) (fun h10=>?_)))))))))
       ·refine Ya rfl (Zi rfl (Ya rfl (Yc (o':=130) rfl rfl rfl (Ya rfl (Yl (x:=P 130) rfl rfl ZN (rfl) (Ya rfl (Zq rfl (Ya rfl (Zo rfl (Zo rfl (Zj rfl (Zf rfl (ZH ?_)))))))))))))
        rw [Wp (by omega) (by omega)]
        rw [show Xb P s t = true by assumption]
        rw [show YP P t = false by assumption]
        rw [show YL P t = true by assumption]
        rw [decide_eq_false (show ¬ XZ P t = Y0 0 by assumption)]
        rfl
       ·refine Z9 rfl rfl (ZC rfl (ZB rfl (Ya rfl (Zo rfl (Zo rfl (Zj rfl (Zf rfl (ZH ?_))))))))
        rw [Wp (by omega) (by omega)]
        rw [show Xb P s t = true by assumption]
        rw [show YP P t = false by assumption]
        rw [show YL P t = false by assumption]
        rw [decide_eq_false (show ¬ XZ P t = Y0 0 by assumption)]
        rfl
     ·change YP P t = true at h8
      refine ZD rfl (ZC rfl (Zo rfl (Zj rfl (Ya rfl (Yn rfl rfl ZN (Ya rfl (Zi rfl (Ya rfl (Ys rfl (YF (Xf P _)) rfl rfl rfl (Ya rfl (Zj rfl (Yr (t:=72) rfl (fun h11=>?_) (fun h11=>?_)))))))))))))
      ·refine Ya rfl (Zi rfl (Ya rfl (Yc (o':=130) rfl rfl rfl (Ya rfl (Yl (x:=P 130) rfl rfl ZN (rfl) (Ya rfl (Zq rfl (Ya rfl (Zo rfl (Zo rfl (Zj rfl (Zf rfl (ZH ?_)))))))))))))
       rw [Wp (by omega) (by omega)]
       rw [show Xb P s t = true by assumption]
       rw [show YP P t = true by assumption]
       rw [show YL P t = true by assumption]
       rfl
      ·refine Z9 rfl rfl (ZC rfl (ZB rfl (Ya rfl (Zo rfl (Zo rfl (Zj rfl (Zf rfl (ZH ?_))))))))
       rw [Wp (by omega) (by omega)]
       rw [show Xb P s t = true by assumption]
       rw [show YP P t = true by assumption]
       rw [show YL P t = false by assumption]
       rfl
  ·refine ZD rfl (Zo rfl (Yb (ZA rfl (Yg (Yd (Zd (Yn rfl rfl ZM (Zi rfl (Zi rfl (Ys rfl (YF (Qu P s t hs ht)) rfl rfl rfl (Yu (r:=.bool _) rfl rfl (Yb (Yi rfl (fun h12=>?_) (fun h12=>?_)))))))))))))) <;> simp only [NM] at h12
   ·refine Zd (Yp rfl (Zf rfl (ZH ?_)))
    rw [Wp (by omega) (by omega)]
    rw [show Xb P s t = false by assumption]
    rfl
   ·refine Yg (Zd (Zi rfl (Zx rfl (Zv rfl rfl rfl (Yo rfl rfl ZM (Yx (Yy rfl rfl rfl rfl .here (Yb (Yd (Yf (Yn rfl rfl ZL (YA rfl .nil (Yv rfl rfl (Zj rfl (Yr (t:=60) rfl (fun h13=>?_) (fun h13=>?_)))))))))))))))) <;> simp only [NM] at h13
    ·change YP P t = false at h13
     refine Ya rfl (Zy rfl (Ya rfl (Yl (x:=XZ P t) rfl rfl ZL (rfl) (Ya rfl (Zy rfl (Ya rfl (Yl (x:=0) rfl rfl ZM (hc) (Ya rfl (Yt rfl (show RF AM 30 [.s (.int .i64 0)] (.s (.int .i64 (Y0 0))) from YF (WQ 0)) rfl rfl rfl (Ya rfl (Zq rfl (Zo rfl (Zj rfl (Yr (t:=68) rfl (fun h14=>?_) (fun h14=>?_))))))))))))))) <;> simp only [NM] at h14
     ·refine ZD rfl (YG rfl (YG rfl (YG rfl (YG rfl (ZB rfl (Zo rfl (Zj rfl (Zf rfl (ZH ?_)))))))))
      rw [Wp (by omega) (by omega)]
      rw [show Xb P s t = true by assumption]
      rw [show YP P t = false by assumption]
      rw [decide_eq_true (show XZ P t = Y0 0 by assumption)]
      rfl
     ·refine Ya rfl (Yn rfl rfl ZN (Ya rfl (Zi rfl (Ya rfl (Ys rfl (YF (Xf P _)) rfl rfl rfl (Ya rfl (Zj rfl (Yr (t:=72) rfl (fun h15=>?_) (fun h15=>?_)))))))))
      ·refine Ya rfl (Zi rfl (Ya rfl (Yc (o':=130) rfl rfl rfl (Ya rfl (Yl (x:=P 130) rfl rfl ZN (rfl) (Ya rfl (Zq rfl (Ya rfl (Zo rfl (Zo rfl (Zj rfl (Zf rfl (ZH ?_)))))))))))))
       rw [Wp (by omega) (by omega)]
       rw [show Xb P s t = true by assumption]
       rw [show YP P t = false by assumption]
       rw [show YL P t = true by assumption]
       rw [decide_eq_false (show ¬ XZ P t = Y0 0 by assumption)]
       rfl
      ·refine Z9 rfl rfl (ZC rfl (ZB rfl (Ya rfl (Zo rfl (Zo rfl (Zj rfl (Zf rfl (ZH ?_))))))))
       rw [Wp (by omega) (by omega)]
       rw [show Xb P s t = true by assumption]
       rw [show YP P t = false by assumption]
       rw [show YL P t = false by assumption]
       rw [decide_eq_false (show ¬ XZ P t = Y0 0 by assumption)]
       rfl
    ·change YP P t = true at h13
     refine ZD rfl (ZC rfl (Zo rfl (Zj rfl (Ya rfl (Yn rfl rfl ZN (Ya rfl (Zi rfl (Ya rfl (Ys rfl (YF (Xf P _)) rfl rfl rfl (Ya rfl (Zj rfl (Yr (t:=72) rfl (fun h16=>?_) (fun h16=>?_)))))))))))))
     ·refine Ya rfl (Zi rfl (Ya rfl (Yc (o':=130) rfl rfl rfl (Ya rfl (Yl (x:=P 130) rfl rfl ZN (rfl) (Ya rfl (Zq rfl (Ya rfl (Zo rfl (Zo rfl (Zj rfl (Zf rfl (ZH ?_)))))))))))))
      rw [Wp (by omega) (by omega)]
      rw [show Xb P s t = true by assumption]
      rw [show YP P t = true by assumption]
      rw [show YL P t = true by assumption]
      rfl
     ·refine Z9 rfl rfl (ZC rfl (ZB rfl (Ya rfl (Zo rfl (Zo rfl (Zj rfl (Zf rfl (ZH ?_))))))))
      rw [Wp (by omega) (by omega)]
      rw [show Xb P s t = true by assumption]
      rw [show YP P t = true by assumption]
      rw [show YL P t = false by assumption]
      rfl
theorem qn (P:Nat→Int) (s t:Int) (hs:0≤s∧s < 64) (ht:0≤t∧t < 64) (hc:P (sqI s+1) = 0):WR AM 105 [.agg 133 (ia P),.s (.int .i64 s),.s (.int .i64 t)] [] (fun v _ _=>v = .s (.bool (goC P s t 0))):=by
 refine YI (a:=a105) rfl rfl (YH _) (ZP rfl) (m:=0) rfl (Zd (YB rfl (Yp rfl (Ze (Zi rfl (Zx rfl (Zv rfl rfl rfl (Yc rfl rfl rfl (Yl (x:=0) rfl rfl ZL (hc) (Zi rfl (Ze (Yp rfl (Yp rfl (Yp rfl (Yb (Yd (Zd (Zi rfl (Yq rfl rfl (kq (by omega)) (Yb (ZA rfl (Yg (Yd (Zd (Zi rfl (Zi rfl (Zq rfl (Zj rfl (Yr (t:=22) rfl (fun h17=>?_) (fun h17=>?_)))))))))))))))))))))))))))))) <;> simp only [NM] at h17
 ·refine ZC rfl (ZB rfl (Zo rfl (Zj rfl (ZC rfl (ZB rfl (Zo rfl (Yb (Zz rfl (Zd (Yp rfl (Zf rfl (ZH ?_))))))))))))
  unfold goC
  rw [if_pos (by omega)]
 ·refine Ya rfl (Yc (o':=129) rfl rfl rfl (Ya rfl (Yl (x:=P 129) rfl rfl ZL (rfl) (Ya rfl (Zq rfl (Zo rfl (Zj rfl (Yr (t:=27) rfl (fun h18=>?_) (fun h18=>?_))))))))) <;> simp only [NM] at h18
  ·refine ZC rfl (ZB rfl (Zo rfl (Yb (Zz rfl (Zd (Yp rfl (Zf rfl (ZH ?_))))))))
   unfold goC
   rw [if_pos (by omega)]
  ·refine Ya rfl (Yc (o':=129) rfl rfl rfl (Ya rfl (Yl (x:=P 129) rfl rfl ZL (rfl) (Ya rfl (Zq rfl (Zo rfl (Yb (Yi rfl (fun h19=>?_) (fun h19=>?_))))))))) <;> simp only [NM] at h19
   ·refine Zd (Yp rfl (Zf rfl (ZH ?_)))
    unfold goC
    rw [if_pos (by omega)]
   ·refine Yg (Zd ?_)
    obtain rfl:s = 4:=by omega
    refine Zi rfl (YA rfl (.one rfl (.one rfl .nil)) (Yx (Yy rfl rfl rfl rfl .here (Yb (Yd (Zd (Zi rfl (Zi rfl (Zr rfl rfl (Zq rfl (Yb (Yi rfl (fun h20=>?_) (fun h20=>?_))))))))))))) <;> simp only [NM] at h20
    ·refine Yd (Yf (Yc (o':=129) rfl rfl rfl (Yl (x:=P 129) rfl rfl ZM (rfl) (Zi rfl (Zt rfl rfl (Zu rfl rfl (Zq rfl (Zj rfl (Yr (t:=44) rfl (fun h21=>?_) (fun h21=>?_)))))))))) <;> simp only [NM] at h21
     ·refine Ya rfl (Zi rfl (Ya rfl (Zr rfl rfl (Ya rfl (Zx rfl (Ya rfl (Zv rfl rfl rfl (Ya rfl (Yo rfl rfl ZM (Ya rfl (Yn rfl rfl ZL (Ya rfl (Yv rfl rfl (Zo rfl (Zj rfl (Yr (t:=53) rfl (fun h22=>?_) (fun h22=>?_))))))))))))))))) <;> simp only [NM] at h22
      ·rw [K8] at h22
       refine Ya rfl (Yn rfl rfl ZM (Ya rfl (Zi rfl (Ya rfl (Zr rfl rfl (Ya rfl (Ys rfl (YF (Xf P _)) rfl rfl rfl (Zo rfl (Zj rfl (Yr (t:=59) rfl (fun h23=>?_) (fun h23=>?_)))))))))))
       ·refine Ya rfl (Yn rfl rfl ZM (Ya rfl (Zi rfl (Ya rfl (Zr rfl rfl (Ya rfl (Ys rfl (YF (Xf P _)) rfl rfl rfl (Zo rfl (Zj rfl (Zf rfl (ZH ?_)))))))))))
        unfold goC
        rw [if_neg (by omega)]
        rw [if_pos (by assumption)]
        simp_all [YO]
       ·refine Z9 rfl rfl (ZC rfl (ZB rfl (Zo rfl (Zj rfl (Zf rfl (ZH ?_))))))
        unfold goC
        rw [if_neg (by omega)]
        rw [if_pos (by assumption)]
        simp_all [YO]
      ·rw [K8] at h22
       refine ZD rfl (Zo rfl (Zj rfl (ZD rfl (Zo rfl (Zj rfl (Zf rfl (ZH ?_)))))))
       unfold goC
       rw [if_neg (by omega)]
       rw [if_pos (by assumption)]
       simp_all [YO]
     ·refine ZD rfl (ZC rfl (ZB rfl (Zo rfl (Zj rfl (ZD rfl (Zo rfl (Zj rfl (ZD rfl (Zo rfl (Zj rfl (Zf rfl (ZH ?_))))))))))))
      unfold goC
      rw [if_neg (by omega)]
      rw [if_pos (by assumption)]
      simp_all [YO]
    ·refine Yg (Yd (Yf (Zi rfl (Zi rfl (Zs rfl rfl (Zq rfl (Zj rfl (Yr (t:=69) rfl (fun h24=>?_) (fun h24=>?_))))))))) <;> simp only [NM] at h24
     ·refine Ya rfl (Yc (o':=129) rfl rfl rfl (Ya rfl (Yl (x:=P 129) rfl rfl ZM (rfl) (Ya rfl (Zi rfl (Ya rfl (Zt rfl rfl (Ya rfl (Zu rfl rfl (Ya rfl (Zq rfl (Zo rfl (Zj rfl (Yr (t:=77) rfl (fun h25=>?_) (fun h25=>?_))))))))))))))) <;> simp only [NM] at h25
      ·refine Ya rfl (Zi rfl (Ya rfl (Zs rfl rfl (Ya rfl (Zx rfl (Ya rfl (Zv rfl rfl rfl (Ya rfl (Yn rfl rfl ZM (Ya rfl (Yn rfl rfl ZL (Ya rfl (Yv rfl rfl (Zo rfl (Zj rfl (Yr (t:=86) rfl (fun h26=>?_) (fun h26=>?_))))))))))))))))) <;> simp only [NM] at h26
       ·rw [js] at h26
        refine Ya rfl (Yn rfl rfl ZM (Ya rfl (Zi rfl (Ya rfl (Zs rfl rfl (Ya rfl (Ys rfl (YF (Xf P _)) rfl rfl rfl (Zo rfl (Zj rfl (Yr (t:=92) rfl (fun h27=>?_) (fun h27=>?_)))))))))))
        ·refine Ya rfl (Yn rfl rfl ZM (Ya rfl (Zi rfl (Ya rfl (Zs rfl rfl (Ya rfl (Ys rfl (YF (Xf P _)) rfl rfl rfl (Zo rfl (Zj rfl (Yr (t:=98) rfl (fun h28=>?_) (fun h28=>?_)))))))))))
         ·refine Ya rfl (Yn rfl rfl ZM (Ya rfl (Zi rfl (Ya rfl (Zs rfl rfl (Ya rfl (Ys rfl (YF (Xf P _)) rfl rfl rfl (Zo rfl (Zj rfl (Zf rfl (ZH ?_)))))))))))
          unfold goC
          rw [if_neg (by omega)]
          rw [if_neg (by assumption)]
          simp_all [YO]
         ·refine Z9 rfl rfl (ZC rfl (ZB rfl (Zo rfl (Zj rfl (Zf rfl (ZH ?_))))))
          unfold goC
          rw [if_neg (by omega)]
          rw [if_neg (by assumption)]
          simp_all [YO]
        ·refine Z9 rfl rfl (ZC rfl (ZB rfl (Zo rfl (Zj rfl (ZD rfl (Zo rfl (Zj rfl (Zf rfl (ZH ?_)))))))))
         unfold goC
         rw [if_neg (by omega)]
         rw [if_neg (by assumption)]
         simp_all [YO]
       ·rw [js] at h26
        refine ZD rfl (Zo rfl (Zj rfl (ZD rfl (Zo rfl (Zj rfl (ZD rfl (Zo rfl (Zj rfl (Zf rfl (ZH ?_))))))))))
        unfold goC
        rw [if_neg (by omega)]
        rw [if_neg (by assumption)]
        simp_all [YO]
      ·refine ZD rfl (ZC rfl (ZB rfl (Zo rfl (Zj rfl (ZD rfl (Zo rfl (Zj rfl (ZD rfl (Zo rfl (Zj rfl (ZD rfl (Zo rfl (Zj rfl (Zf rfl (ZH ?_)))))))))))))))
       unfold goC
       rw [if_neg (by omega)]
       rw [if_neg (by assumption)]
       simp_all [YO]
     ·refine ZD rfl (ZC rfl (Zo rfl (Zj rfl (ZD rfl (ZC rfl (ZB rfl (Zo rfl (Zj rfl (ZD rfl (Zo rfl (Zj rfl (ZD rfl (Zo rfl (Zj rfl (ZD rfl (Zo rfl (Zj rfl (Zf rfl (ZH ?_)))))))))))))))))))
      unfold goC
      rw [if_neg (by omega)]
      rw [if_neg (by assumption)]
      simp_all [YO]
theorem vu (P:Nat→Int) (s t:Int) (hs:0≤s∧s < 64) (ht:0≤t∧t < 64) (hc:P (sqI s+1) = 1):WR AM 104 [.agg 133 (ia P),.s (.int .i64 s),.s (.int .i64 t)] [] (fun v _ _=>v = .s (.bool (goP P s t 1))):=by
 refine YI (a:=a104) rfl rfl (YH _) (ZP rfl) (m:=0) rfl (Zd (YB rfl (Yp rfl (Ze (Zi rfl (Zx rfl (Zv rfl rfl rfl (Yo rfl rfl ZL (Yx (Yy rfl rfl rfl rfl .here (Ze (Yp rfl (Yp rfl (Yb (Yd (Zd (Zy rfl (Yl (x:=1) rfl rfl ZL (hc) (Yq rfl rfl (Ui (by omega)) (Yb (Zz rfl (Ye (Yp rfl (Yp rfl (Yb (Yd (Zd (Zi rfl (Zi rfl ?_)))))))))))))))))))))))))))))
 refine Zi rfl (Zr rfl rfl (Zq rfl (Yb (Yi rfl (fun h29=>?_) (fun h29=>?_))))) <;> simp only [NM] at h29
 ·refine Zd (Yn rfl rfl ZM (Zi rfl (Ys rfl (YF (Xf P _)) rfl rfl rfl (Zj rfl (Zf rfl (ZH ?_))))))
  exact (goP_1 (by omega)).symm
 ·refine Yg (Yd (Zd (Zi rfl (Zi rfl (Zi rfl (X9 rfl rfl (by omega) (Zr rfl rfl (Zq rfl (Zj rfl (Yr (t:=32) rfl (fun h30=>?_) (fun h30=>?_))))))))))) <;> simp only [NM] at h30
  ·refine Ya rfl (Zi rfl (Ya rfl (Zt rfl rfl (Ya rfl (Zi rfl (Ya rfl (Zq rfl (Zo rfl (Yb (Yi rfl (fun h31=>?_) (fun h31=>?_))))))))))) <;> simp only [NM] at h31
   ·refine Zd (Yn rfl rfl ZM (Zi rfl (Zi rfl (Zr rfl rfl (Ys rfl (YF (Xf P _)) rfl rfl rfl (Zj rfl (Yr (t:=43) rfl (fun h32=>?_) (fun h32=>?_))))))))
    ·refine Ya rfl (Yn rfl rfl ZM (Ya rfl (Zi rfl (Ya rfl (Ys rfl (YF (Xf P _)) rfl rfl rfl (Zo rfl (Zj rfl (Zf rfl (ZH ?_)))))))))
     rw [wG (by omega) (by omega),show s+8*(1 - 2*1) = s+-8 by omega]
     rw [show YL P (s+-8) = true by assumption]
     rfl
    ·refine Z9 rfl rfl (ZC rfl (Zo rfl (Zj rfl (Zf rfl (ZH ?_)))))
     rw [wG (by omega) (by omega),show s+8*(1 - 2*1) = s+-8 by omega]
     rw [show YL P (s+-8) = false by assumption]
     rfl
   ·refine Yg (Yd (Zd (Yn rfl rfl ZM (Zi rfl (Zi rfl (Ys rfl (YF (Qu P s t hs ht)) rfl rfl rfl (Yu (r:=.bool _) rfl rfl (Yb (Yi rfl (fun h33=>?_) (fun h33=>?_)))))))))) <;> simp only [NM] at h33
    ·refine Zd (Yp rfl (Zf rfl (ZH ?_)))
     rw [Wp (by omega) (by omega)]
     rw [show Xb P s t = false by assumption]
     rfl
    ·refine Yg (Zd (Zi rfl (Zx rfl (Zv rfl rfl rfl (Yo rfl rfl ZM (Yx (Yy rfl rfl rfl rfl .here (Yb (Yd (Yf (Yn rfl rfl ZL (YA rfl .nil (Yv rfl rfl (Zj rfl (Yr (t:=60) rfl (fun h34=>?_) (fun h34=>?_)))))))))))))))) <;> simp only [NM] at h34
     ·change YP P t = false at h34
      refine Ya rfl (Zy rfl (Ya rfl (Yl (x:=XZ P t) rfl rfl ZL (rfl) (Ya rfl (Zy rfl (Ya rfl (Yl (x:=1) rfl rfl ZM (hc) (Ya rfl (Yt rfl (show RF AM 30 [.s (.int .i64 1)] (.s (.int .i64 (Y0 1))) from YF (WQ 1)) rfl rfl rfl (Ya rfl (Zq rfl (Zo rfl (Zj rfl (Yr (t:=68) rfl (fun h35=>?_) (fun h35=>?_))))))))))))))) <;> simp only [NM] at h35
      ·refine ZD rfl (YG rfl (YG rfl (YG rfl (YG rfl (ZB rfl (Zo rfl (Zj rfl (Zf rfl (ZH ?_)))))))))
       rw [Wp (by omega) (by omega)]
       rw [show Xb P s t = true by assumption]
       rw [show YP P t = false by assumption]
       rw [decide_eq_true (show XZ P t = Y0 1 by assumption)]
       rfl
      ·refine Ya rfl (Yn rfl rfl ZN (Ya rfl (Zi rfl (Ya rfl (Ys rfl (YF (Xf P _)) rfl rfl rfl (Ya rfl (Zj rfl (Yr (t:=72) rfl (fun h36=>?_) (fun h36=>?_)))))))))
       ·refine Ya rfl (Zi rfl (Ya rfl (Yc (o':=130) rfl rfl rfl (Ya rfl (Yl (x:=P 130) rfl rfl ZN (rfl) (Ya rfl (Zq rfl (Ya rfl (Zo rfl (Zo rfl (Zj rfl (Zf rfl (ZH ?_)))))))))))))
        rw [Wp (by omega) (by omega)]
        rw [show Xb P s t = true by assumption]
        rw [show YP P t = false by assumption]
        rw [show YL P t = true by assumption]
        rw [decide_eq_false (show ¬ XZ P t = Y0 1 by assumption)]
        rfl
       ·refine Z9 rfl rfl (ZC rfl (ZB rfl (Ya rfl (Zo rfl (Zo rfl (Zj rfl (Zf rfl (ZH ?_))))))))
        rw [Wp (by omega) (by omega)]
        rw [show Xb P s t = true by assumption]
        rw [show YP P t = false by assumption]
        rw [show YL P t = false by assumption]
        rw [decide_eq_false (show ¬ XZ P t = Y0 1 by assumption)]
        rfl
     ·change YP P t = true at h34
      refine ZD rfl (ZC rfl (Zo rfl (Zj rfl (Ya rfl (Yn rfl rfl ZN (Ya rfl (Zi rfl (Ya rfl (Ys rfl (YF (Xf P _)) rfl rfl rfl (Ya rfl (Zj rfl (Yr (t:=72) rfl (fun h37=>?_) (fun h37=>?_)))))))))))))
      ·refine Ya rfl (Zi rfl (Ya rfl (Yc (o':=130) rfl rfl rfl (Ya rfl (Yl (x:=P 130) rfl rfl ZN (rfl) (Ya rfl (Zq rfl (Ya rfl (Zo rfl (Zo rfl (Zj rfl (Zf rfl (ZH ?_)))))))))))))
       rw [Wp (by omega) (by omega)]
       rw [show Xb P s t = true by assumption]
       rw [show YP P t = true by assumption]
       rw [show YL P t = true by assumption]
       rfl
      ·refine Z9 rfl rfl (ZC rfl (ZB rfl (Ya rfl (Zo rfl (Zo rfl (Zj rfl (Zf rfl (ZH ?_))))))))
       rw [Wp (by omega) (by omega)]
       rw [show Xb P s t = true by assumption]
       rw [show YP P t = true by assumption]
       rw [show YL P t = false by assumption]
       rfl
  ·refine ZD rfl (Zo rfl (Yb (ZA rfl (Yg (Yd (Zd (Yn rfl rfl ZM (Zi rfl (Zi rfl (Ys rfl (YF (Qu P s t hs ht)) rfl rfl rfl (Yu (r:=.bool _) rfl rfl (Yb (Yi rfl (fun h38=>?_) (fun h38=>?_)))))))))))))) <;> simp only [NM] at h38
   ·refine Zd (Yp rfl (Zf rfl (ZH ?_)))
    rw [Wp (by omega) (by omega)]
    rw [show Xb P s t = false by assumption]
    rfl
   ·refine Yg (Zd (Zi rfl (Zx rfl (Zv rfl rfl rfl (Yo rfl rfl ZM (Yx (Yy rfl rfl rfl rfl .here (Yb (Yd (Yf (Yn rfl rfl ZL (YA rfl .nil (Yv rfl rfl (Zj rfl (Yr (t:=60) rfl (fun h39=>?_) (fun h39=>?_)))))))))))))))) <;> simp only [NM] at h39
    ·change YP P t = false at h39
     refine Ya rfl (Zy rfl (Ya rfl (Yl (x:=XZ P t) rfl rfl ZL (rfl) (Ya rfl (Zy rfl (Ya rfl (Yl (x:=1) rfl rfl ZM (hc) (Ya rfl (Yt rfl (show RF AM 30 [.s (.int .i64 1)] (.s (.int .i64 (Y0 1))) from YF (WQ 1)) rfl rfl rfl (Ya rfl (Zq rfl (Zo rfl (Zj rfl (Yr (t:=68) rfl (fun h40=>?_) (fun h40=>?_))))))))))))))) <;> simp only [NM] at h40
     ·refine ZD rfl (YG rfl (YG rfl (YG rfl (YG rfl (ZB rfl (Zo rfl (Zj rfl (Zf rfl (ZH ?_)))))))))
      rw [Wp (by omega) (by omega)]
      rw [show Xb P s t = true by assumption]
      rw [show YP P t = false by assumption]
      rw [decide_eq_true (show XZ P t = Y0 1 by assumption)]
      rfl
     ·refine Ya rfl (Yn rfl rfl ZN (Ya rfl (Zi rfl (Ya rfl (Ys rfl (YF (Xf P _)) rfl rfl rfl (Ya rfl (Zj rfl (Yr (t:=72) rfl (fun h41=>?_) (fun h41=>?_)))))))))
      ·refine Ya rfl (Zi rfl (Ya rfl (Yc (o':=130) rfl rfl rfl (Ya rfl (Yl (x:=P 130) rfl rfl ZN (rfl) (Ya rfl (Zq rfl (Ya rfl (Zo rfl (Zo rfl (Zj rfl (Zf rfl (ZH ?_)))))))))))))
       rw [Wp (by omega) (by omega)]
       rw [show Xb P s t = true by assumption]
       rw [show YP P t = false by assumption]
       rw [show YL P t = true by assumption]
       rw [decide_eq_false (show ¬ XZ P t = Y0 1 by assumption)]
       rfl
      ·refine Z9 rfl rfl (ZC rfl (ZB rfl (Ya rfl (Zo rfl (Zo rfl (Zj rfl (Zf rfl (ZH ?_))))))))
       rw [Wp (by omega) (by omega)]
       rw [show Xb P s t = true by assumption]
       rw [show YP P t = false by assumption]
       rw [show YL P t = false by assumption]
       rw [decide_eq_false (show ¬ XZ P t = Y0 1 by assumption)]
       rfl
    ·change YP P t = true at h39
     refine ZD rfl (ZC rfl (Zo rfl (Zj rfl (Ya rfl (Yn rfl rfl ZN (Ya rfl (Zi rfl (Ya rfl (Ys rfl (YF (Xf P _)) rfl rfl rfl (Ya rfl (Zj rfl (Yr (t:=72) rfl (fun h42=>?_) (fun h42=>?_)))))))))))))
     ·refine Ya rfl (Zi rfl (Ya rfl (Yc (o':=130) rfl rfl rfl (Ya rfl (Yl (x:=P 130) rfl rfl ZN (rfl) (Ya rfl (Zq rfl (Ya rfl (Zo rfl (Zo rfl (Zj rfl (Zf rfl (ZH ?_)))))))))))))
      rw [Wp (by omega) (by omega)]
      rw [show Xb P s t = true by assumption]
      rw [show YP P t = true by assumption]
      rw [show YL P t = true by assumption]
      rfl
     ·refine Z9 rfl rfl (ZC rfl (ZB rfl (Ya rfl (Zo rfl (Zo rfl (Zj rfl (Zf rfl (ZH ?_))))))))
      rw [Wp (by omega) (by omega)]
      rw [show Xb P s t = true by assumption]
      rw [show YP P t = true by assumption]
      rw [show YL P t = false by assumption]
      rfl
theorem qH (P:Nat→Int) (s t:Int) (hs:0≤s∧s < 64) (ht:0≤t∧t < 64) (hc:P (sqI s+1) = 1):WR AM 105 [.agg 133 (ia P),.s (.int .i64 s),.s (.int .i64 t)] [] (fun v _ _=>v = .s (.bool (goC P s t 1))):=by
 refine YI (a:=a105) rfl rfl (YH _) (ZP rfl) (m:=0) rfl (Zd (YB rfl (Yp rfl (Ze (Zi rfl (Zx rfl (Zv rfl rfl rfl (Yc rfl rfl rfl (Yl (x:=1) rfl rfl ZL (hc) (Zi rfl (Ze (Yp rfl (Yp rfl (Yp rfl (Yb (Yd (Zd (Zi rfl (Yq rfl rfl (Ui (by omega)) (Yb (Zz rfl (Ye (Yp rfl (Yp rfl (Yp rfl (Yb (Yd (Zd (Zi rfl ?_)))))))))))))))))))))))))))))
 refine Zi rfl (Zq rfl (Zj rfl (Yr (t:=22) rfl (fun h43=>?_) (fun h43=>?_)))) <;> simp only [NM] at h43
 ·refine ZC rfl (ZB rfl (Zo rfl (Zj rfl (ZC rfl (ZB rfl (Zo rfl (Yb (Zz rfl (Zd (Yp rfl (Zf rfl (ZH ?_))))))))))))
  unfold goC
  rw [if_pos (by omega)]
 ·refine Ya rfl (Yc (o':=129) rfl rfl rfl (Ya rfl (Yl (x:=P 129) rfl rfl ZL (rfl) (Ya rfl (Zq rfl (Zo rfl (Zj rfl (Yr (t:=27) rfl (fun h44=>?_) (fun h44=>?_))))))))) <;> simp only [NM] at h44
  ·refine ZC rfl (ZB rfl (Zo rfl (Yb (Zz rfl (Zd (Yp rfl (Zf rfl (ZH ?_))))))))
   unfold goC
   rw [if_pos (by omega)]
  ·refine Ya rfl (Yc (o':=129) rfl rfl rfl (Ya rfl (Yl (x:=P 129) rfl rfl ZL (rfl) (Ya rfl (Zq rfl (Zo rfl (Yb (Yi rfl (fun h45=>?_) (fun h45=>?_))))))))) <;> simp only [NM] at h45
   ·refine Zd (Yp rfl (Zf rfl (ZH ?_)))
    unfold goC
    rw [if_pos (by omega)]
   ·refine Yg (Zd ?_)
    obtain rfl:s = 60:=by omega
    refine Zi rfl (YA rfl (.one rfl (.one rfl .nil)) (Yx (Yy rfl rfl rfl rfl .here (Yb (Yd (Zd (Zi rfl (Zi rfl (Zr rfl rfl (Zq rfl (Yb (Yi rfl (fun h46=>?_) (fun h46=>?_))))))))))))) <;> simp only [NM] at h46
    ·refine Yd (Yf (Yc (o':=129) rfl rfl rfl (Yl (x:=P 129) rfl rfl ZM (rfl) (Zi rfl (Zt rfl rfl (Zu rfl rfl (Zq rfl (Zj rfl (Yr (t:=44) rfl (fun h47=>?_) (fun h47=>?_)))))))))) <;> simp only [NM] at h47
     ·refine Ya rfl (Zi rfl (Ya rfl (Zr rfl rfl (Ya rfl (Zx rfl (Ya rfl (Zv rfl rfl rfl (Ya rfl (Yo rfl rfl ZM (Ya rfl (Yn rfl rfl ZL (Ya rfl (Yv rfl rfl (Zo rfl (Zj rfl (Yr (t:=53) rfl (fun h48=>?_) (fun h48=>?_))))))))))))))))) <;> simp only [NM] at h48
      ·rw [K8] at h48
       refine Ya rfl (Yn rfl rfl ZM (Ya rfl (Zi rfl (Ya rfl (Zr rfl rfl (Ya rfl (Ys rfl (YF (Xf P _)) rfl rfl rfl (Zo rfl (Zj rfl (Yr (t:=59) rfl (fun h49=>?_) (fun h49=>?_)))))))))))
       ·refine Ya rfl (Yn rfl rfl ZM (Ya rfl (Zi rfl (Ya rfl (Zr rfl rfl (Ya rfl (Ys rfl (YF (Xf P _)) rfl rfl rfl (Zo rfl (Zj rfl (Zf rfl (ZH ?_)))))))))))
        unfold goC
        rw [if_neg (by omega)]
        rw [if_pos (by assumption)]
        simp_all [YO]
       ·refine Z9 rfl rfl (ZC rfl (ZB rfl (Zo rfl (Zj rfl (Zf rfl (ZH ?_))))))
        unfold goC
        rw [if_neg (by omega)]
        rw [if_pos (by assumption)]
        simp_all [YO]
      ·rw [K8] at h48
       refine ZD rfl (Zo rfl (Zj rfl (ZD rfl (Zo rfl (Zj rfl (Zf rfl (ZH ?_)))))))
       unfold goC
       rw [if_neg (by omega)]
       rw [if_pos (by assumption)]
       simp_all [YO]
     ·refine ZD rfl (ZC rfl (ZB rfl (Zo rfl (Zj rfl (ZD rfl (Zo rfl (Zj rfl (ZD rfl (Zo rfl (Zj rfl (Zf rfl (ZH ?_))))))))))))
      unfold goC
      rw [if_neg (by omega)]
      rw [if_pos (by assumption)]
      simp_all [YO]
    ·refine Yg (Yd (Yf (Zi rfl (Zi rfl (Zs rfl rfl (Zq rfl (Zj rfl (Yr (t:=69) rfl (fun h50=>?_) (fun h50=>?_))))))))) <;> simp only [NM] at h50
     ·refine Ya rfl (Yc (o':=129) rfl rfl rfl (Ya rfl (Yl (x:=P 129) rfl rfl ZM (rfl) (Ya rfl (Zi rfl (Ya rfl (Zt rfl rfl (Ya rfl (Zu rfl rfl (Ya rfl (Zq rfl (Zo rfl (Zj rfl (Yr (t:=77) rfl (fun h51=>?_) (fun h51=>?_))))))))))))))) <;> simp only [NM] at h51
      ·refine Ya rfl (Zi rfl (Ya rfl (Zs rfl rfl (Ya rfl (Zx rfl (Ya rfl (Zv rfl rfl rfl (Ya rfl (Yo rfl rfl ZM (Ya rfl (Yn rfl rfl ZL (Ya rfl (Yv rfl rfl (Zo rfl (Zj rfl (Yr (t:=86) rfl (fun h52=>?_) (fun h52=>?_))))))))))))))))) <;> simp only [NM] at h52
       ·rw [K8] at h52
        refine Ya rfl (Yn rfl rfl ZM (Ya rfl (Zi rfl (Ya rfl (Zs rfl rfl (Ya rfl (Ys rfl (YF (Xf P _)) rfl rfl rfl (Zo rfl (Zj rfl (Yr (t:=92) rfl (fun h53=>?_) (fun h53=>?_)))))))))))
        ·refine Ya rfl (Yn rfl rfl ZM (Ya rfl (Zi rfl (Ya rfl (Zs rfl rfl (Ya rfl (Ys rfl (YF (Xf P _)) rfl rfl rfl (Zo rfl (Zj rfl (Yr (t:=98) rfl (fun h54=>?_) (fun h54=>?_)))))))))))
         ·refine Ya rfl (Yn rfl rfl ZM (Ya rfl (Zi rfl (Ya rfl (Zs rfl rfl (Ya rfl (Ys rfl (YF (Xf P _)) rfl rfl rfl (Zo rfl (Zj rfl (Zf rfl (ZH ?_)))))))))))
          unfold goC
          rw [if_neg (by omega)]
          rw [if_neg (by assumption)]
          simp_all [YO]
         ·refine Z9 rfl rfl (ZC rfl (ZB rfl (Zo rfl (Zj rfl (Zf rfl (ZH ?_))))))
          unfold goC
          rw [if_neg (by omega)]
          rw [if_neg (by assumption)]
          simp_all [YO]
        ·refine Z9 rfl rfl (ZC rfl (ZB rfl (Zo rfl (Zj rfl (ZD rfl (Zo rfl (Zj rfl (Zf rfl (ZH ?_)))))))))
         unfold goC
         rw [if_neg (by omega)]
         rw [if_neg (by assumption)]
         simp_all [YO]
       ·rw [K8] at h52
        refine ZD rfl (Zo rfl (Zj rfl (ZD rfl (Zo rfl (Zj rfl (ZD rfl (Zo rfl (Zj rfl (Zf rfl (ZH ?_))))))))))
        unfold goC
        rw [if_neg (by omega)]
        rw [if_neg (by assumption)]
        simp_all [YO]
      ·refine ZD rfl (ZC rfl (ZB rfl (Zo rfl (Zj rfl (ZD rfl (Zo rfl (Zj rfl (ZD rfl (Zo rfl (Zj rfl (ZD rfl (Zo rfl (Zj rfl (Zf rfl (ZH ?_)))))))))))))))
       unfold goC
       rw [if_neg (by omega)]
       rw [if_neg (by assumption)]
       simp_all [YO]
     ·refine ZD rfl (ZC rfl (Zo rfl (Zj rfl (ZD rfl (ZC rfl (ZB rfl (Zo rfl (Zj rfl (ZD rfl (Zo rfl (Zj rfl (ZD rfl (Zo rfl (Zj rfl (ZD rfl (Zo rfl (Zj rfl (Zf rfl (ZH ?_)))))))))))))))))))
      unfold goC
      rw [if_neg (by omega)]
      rw [if_neg (by assumption)]
      simp_all [YO]
end Go.Proofs.YtlkighkfkdpncaaGreat
