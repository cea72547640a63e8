/- Texts of this seat, joined. -/
import Derived.Test.YtlkighkfkdpncaaGreatAm0
import Derived.Test.YtlkighkfkdpncaaGreatAm1
import Derived.Test.YtlkighkfkdpncaaGreatAm2
import Derived.Test.YtlkighkfkdpncaaGreatM0
import Derived.Test.YtlkighkfkdpncaaGreatM1
import Derived.Test.YtlkighkfkdpncaaGreatM2
import Derived.Test.YtlkighkfkdpncaaGreatM3
set_option linter.unusedSimpArgs false
set_option linter.unusedVariables false
namespace Go.Proofs.YtlkighkfkdpncaaGreat
open Go Go.Am
theorem Zaa {a b:Int} (h:b≤a):WX .geq (.int .i64 a) (.int .i64 b) = some (.bool true):=by
 show (if IntKind.i64 = IntKind.i64 then some (S.bool (decide (b≤a))) else none) = _
 rw [if_pos rfl,decide_eq_true h]
theorem Zal {a b:Int} (h:a < b):WX .geq (.int .i64 a) (.int .i64 b) = some (.bool false):=by
 show (if IntKind.i64 = IntKind.i64 then some (S.bool (decide (b≤a))) else none) = _
 rw [if_pos rfl,decide_eq_false (by omega)]
theorem lss_no {a b:Int} (h:b≤a):WX .lss (.int .i64 a) (.int .i64 b) = some (.bool false):=by
 show (if IntKind.i64 = IntKind.i64 then some (S.bool (decide (a < b))) else none) = _
 rw [if_pos rfl,decide_eq_false (by omega)]
theorem gY (P:Nat→Int):(WT P).length≤16896:=by
 unfold WT
 split
 ·exact Nat.le_trans (List.length_filter_le _ _) (ru _)
 ·exact Nat.zero_le _
theorem Zab {P:Nat→Int} (h:XG P = true):0≤P 131∧P 131≤1024:=by
 have h:=us h
 unfold Vq at h
 rw [Bool.and_eq_true,Bool.and_eq_true,Bool.and_eq_true] at h
 obtain ⟨⟨⟨hp,hcs⟩,hov⟩,hhf⟩:=h
 have hhf:=of_decide_eq_true hhf
 exact ⟨hhf.1,hhf.2.1⟩
theorem Zad {P:Nat→Int} (hz:∀ i,133≤i→P i = 0) {m:Mv} (hm:m∈WT P):XG P = true∧m∈yj P∧(XI P m.1 m.2.1 m.2.2 131 = 0∨(XI P m.1 m.2.1 m.2.2 131 = min (P 131+1) 1024∧XG (XI P m.1 m.2.1 m.2.2) = true)):=by
 obtain ⟨h1,h2,h3⟩:=(oI hz).1 hm
 have hb:=Zab h1
 have hin:m∈yj P:=by
  have:=hm
  unfold WT at this
  rw [if_pos h1,JA hz] at this; exact this
 refine ⟨h1,hin,?_⟩
 have he:=ZaH h2
 have hmv:XI P m.1 m.2.1 m.2.2 = V6 P (P (sqI m.1)) (P (sqI m.1+1)) m.1 m.2.1 m.2.2 (WK P):=by unfold XI; rw [if_pos he]
 have e1:XI P m.1 m.2.1 m.2.2 131 = VU P (P (sqI m.1)) (Y5 P (P (sqI m.1)) m.1 m.2.1):=by rw [hmv]; rfl
 have e2:XI P m.1 m.2.1 m.2.2 128 = Y0 (P 128):=by rw [hmv]; rfl
 by_cases hk:P (sqI m.1) = 1
 ·left; rw [e1]; unfold VU; rw [if_pos (.inl hk)]
 ·by_cases hw:0≤Y5 P (P (sqI m.1)) m.1 m.2.1
  ·left; rw [e1]; unfold VU; rw [if_pos (.inr hw)]
  ·right
   obtain ⟨hs,ht,hg,hmt⟩:=D9 h2
   have hw1:=(VK (P:=P) (k:=P (sqI m.1)) hs ht).1
   refine ⟨?_,?_⟩
   ·rw [e1]; unfold VU
    rw [if_neg (fun q=>q.elim hk hw),IntWalk.i64_in _ (by omega)]
    omega
   ·have hr:=Zau (us h1) h2 hk (by omega)
    obtain ⟨hP,hd⟩:=t7 (us h1)
    have hc:Xu (XI P m.1 m.2.1 m.2.2) (P 128) = false:=by
     unfold Wi at h3
     rw [Bool.and_eq_true,Bool.and_eq_true] at h3
     simpa using h3.2.2
    unfold XG
    rw [hr,e2,V5 hd,V5 (by omega),show 1 - (1 - P 128) = P 128 by omega,hc]; rfl
theorem Zar (P:Nat→Int) (hz:∀ i,133≤i→P i = 0) (hp:XG P = false):WR AM 6 [.agg 133 (ia P)] [] (fun v _ _=>v = .s (.bool true)):=by
 have hpos:=YF (Qg P)
 rw [hp] at hpos
 have hfp:=YF (vz P hz)
 have hsp:=YF (pA P hz)
 rw [hp] at hfp hsp
 refine YI (a:=a6) rfl rfl (YH _) (ZP rfl) (m:=0) rfl (Zd (YB rfl (Yp rfl (Yb (Yd (Zd (Ys rfl (YF qd) rfl rfl rfl (Yu (r:=.bool _) rfl rfl (Yb (ZA rfl (Yg (Yd (Yd (Yf (Yn rfl rfl ZL (Ys rfl (hsp) rfl rfl rfl (Zj rfl (ZC rfl (ZB rfl (Zo rfl (Zj rfl (Ya rfl (Yn rfl rfl ZL (Ya rfl (Yt rfl (hfp) rfl rfl rfl (Ya rfl (Yn rfl rfl ZL (Ya rfl (Ys rfl (hpos) rfl rfl rfl ?_)))))))))))))))))))))))))))))
 refine Ya rfl (Zj rfl (ZC rfl (ZB rfl (Ya rfl (Zo rfl (Ya rfl (pK rfl rfl (rfl) (Zo rfl (Yb (ZA rfl (Yg (Zd ?_))))))))))))
 obtain ⟨l,hleq⟩:∃ l,l = WT P:=⟨_,rfl⟩
 have hmv:=pp P
 rw [← hleq] at hmv
 have hlen:l.length≤16896:=by rw [hleq]; exact gY P
 have hl0:l.length = 0:=by rw [hleq]; unfold WT; rw [hp]; rfl
 refine Yn rfl rfl ZL (YD rfl (hmv) rfl rfl (fun v1 own1 n1 hr1=>Yp (v:=v1) rfl (Yb (Yd (Zd (Yp rfl (Yb (Yj (Xe (List.Sublist.append (.refl _) (.refl _)) (Xg (fun m f _ L=>∃ (i:Nat),(i≤l.length)∧(m = l.length - i)∧(f 1 = .ptr 0 0 133)∧(f 3 = v1)∧(f 4 = .s (.int .i64 i))∧(L = (own1++[(0,.sc .var 133 (ia P))]))) (fun m f nb L hI=>?_) (l.length) (⟨0,by omega,by omega,rfl,rfl,rfl,rfl⟩)))))))))))
 obtain ⟨i,hi,hm,k1,k3,k4,rfl⟩:=hI
 refine pH 1 k1 (pH 3 k3 (pH 4 k4 (Yd (Zd (Zi rfl (Yp (v:=v1) rfl (Vn rfl hr1.rx (by decide) (Xm l) (Yq rfl rfl (lss_no (by omega)) (Yb (ZA rfl (YZ (Xc (Zd (Yp rfl (Zf rfl ?_)))))))))))))))
 rfl
theorem Zat (P:Nat→Int) (hz:∀ i,133≤i→P i = 0) (hp:XG P = true) (h1:P 131 < 100):WR AM 6 [.agg 133 (ia P)] [] (fun v _ _=>v = .s (.bool true)):=by
 have hpos:=YF (Qg P)
 rw [hp] at hpos
 have hfp:=YF (vz P hz)
 have hsp:=YF (pA P hz)
 rw [hp] at hfp hsp
 have hbd:=Zab hp
 rw [decide_eq_false (show ¬ 100≤P 131 by omega)] at hfp
 rw [decide_eq_false (show ¬ 150≤P 131 by omega)] at hsp
 refine YI (a:=a6) rfl rfl (YH _) (ZP rfl) (m:=0) rfl (Zd (YB rfl (Yp rfl (Yb (Yd (Zd (Ys rfl (YF qd) rfl rfl rfl (Yu (r:=.bool _) rfl rfl (Yb (ZA rfl (Yg (Yd (Yd (Yf (Yn rfl rfl ZL (Ys rfl (hsp) rfl rfl rfl (Zj rfl (ZC rfl (ZB rfl (Zo rfl (Zj rfl (Ya rfl (Yn rfl rfl ZL (Ya rfl (Yt rfl (hfp) rfl rfl rfl (Ya rfl (Yn rfl rfl ZL (Ya rfl (Ys rfl (hpos) rfl rfl rfl ?_)))))))))))))))))))))))))))))
 refine Ya rfl (Zj rfl (Ya rfl (Yc (o':=131) rfl rfl rfl (Ya rfl (Yl (x:=P 131) rfl rfl ZL (rfl) (Ya rfl (Yq rfl rfl (Zal (by omega)) (Ya rfl (Zo rfl (Ya rfl (pK rfl rfl (rfl) (Zo rfl (Yb (ZA rfl (Yg (Zd ?_))))))))))))))))
 obtain ⟨l,hleq⟩:∃ l,l = WT P:=⟨_,rfl⟩
 have hmv:=pp P
 rw [← hleq] at hmv
 have hlen:l.length≤16896:=by rw [hleq]; exact gY P
 refine Yn rfl rfl ZL (YD rfl (hmv) rfl rfl (fun v1 own1 n1 hr1=>Yp (v:=v1) rfl (Yb (Yd (Zd (Yp rfl (Yb (Yj (Xe (List.Sublist.append (.refl _) (.refl _)) (Xg (fun m f _ L=>∃ (i:Nat),(i≤l.length)∧(m = l.length - i)∧(f 1 = .ptr 0 0 133)∧(f 3 = v1)∧(f 4 = .s (.int .i64 i))∧(L = (own1++[(0,.sc .var 133 (ia P))]))) (fun m f nb L hI=>?_) (l.length) (⟨0,by omega,by omega,rfl,rfl,rfl,rfl⟩)))))))))))
 obtain ⟨i,hi,hm,k1,k3,k4,rfl⟩:=hI
 refine pH 1 k1 (pH 3 k3 (pH 4 k4 (Yd (Zd (Zi rfl (Yp (v:=v1) rfl (Vn rfl hr1.rx (by decide) (Xm l) (Zq rfl (Yb (Yi rfl (fun h1=>?_) (fun h1=>?_))))))))))) <;> simp only [NM] at h1
 ·refine Yg (Yd (Yj (Yd (Yf (Yn rfl rfl (List.mem_append_right _ ZL) (Yp (v:=v1) rfl (Zi rfl ?_)))))))
  obtain ⟨b1,q1,md1,c1,F1,rfl,rfl,hF1⟩:=hr1.rx.at (by decide) (Xm l) (by omega)
  refine Zw rfl rfl ?_
  obtain ⟨hx0,hx1,hx2⟩:=su hF1 (i:=i) (by omega)
  have hgm:(l.getD i (0,0,0))∈WT P:=by rw [← hleq]; exact g6 (by omega)
  obtain ⟨hp1,hin,hqp⟩:=Zad hz hgm
  have hplay:=Zae P hz hp1 (l.getD i (0,0,0)).1 (l.getD i (0,0,0)).2.1 (l.getD i (0,0,0)).2.2 hin
  have hqz0:=fun (i9:Nat) (hi9:133≤i9)=>x6 (P:=P) (a:=(l.getD i (0,0,0)).1) (t:=(l.getD i (0,0,0)).2.1) (b:=(l.getD i (0,0,0)).2.2) hi9
  have hlit:∀ j,j < [(l.getD i (0,0,0)).1,(l.getD i (0,0,0)).2.1,(l.getD i (0,0,0)).2.2].length→(ovA (fun _=>0) (0*3) 3 (dp F1 (0+(i:Int).toNat*3))) j = [(l.getD i (0,0,0)).1,(l.getD i (0,0,0)).2.1,(l.getD i (0,0,0)).2.2].getD j 0:=fun j hj=>by
    match j,hj with
    | 0,_=>exact hx0
    | 1,_=>exact hx1
    | 2,_=>exact hx2
  obtain ⟨Q,hQ⟩:∃ Q,Q = XI P (l.getD i (0,0,0)).1 (l.getD i (0,0,0)).2.1 (l.getD i (0,0,0)).2.2:=⟨_,rfl⟩
  rw [← hQ] at hplay hqp hqz0
  have hqid:ovA (fun _=>0) 0 133 Q = Q:=JA hqz0
  have hqz:∀ i9,133≤i9→ovA (fun _=>0) 0 133 Q i9 = 0:=fun i9 hi9=>by rw [hqid]; exact hqz0 i9 hi9
  refine Yo rfl rfl ZL (Wm rfl (.agg rfl .nil) (gZ (caps:=[]) rfl (hplay) rfl ((.row rfl hlit)) (KG ZL) rfl rfl rfl (Zn rfl (YC (v:=.agg _ _) rfl rfl (YC (v:=.s (.int _ _)) rfl rfl (Yx (Yy rfl rfl rfl rfl .here (Zi rfl (Yb (Yd (Yf (Zi rfl (Yq rfl rfl (pR rfl) (Zj rfl (Ya rfl (Yc (o':=131) rfl rfl rfl (Ya rfl (Yl (x:=Q 131) rfl rfl ZL (rfl) (Ya rfl (Zq rfl (Ya rfl (Zj rfl (Yr (t:=52) rfl (fun h52=>?_) (fun h52=>?_)))))))))))))))))))))))) <;> simp only [NM] at h52
  ·refine Ya rfl ?_
   have hqp:=hqp.resolve_left h52
   refine Yc (o':=131) rfl rfl rfl (Ya rfl (Yl (x:=Q 131) rfl rfl ZL (rfl) (Ya rfl (Yc (o':=131) rfl rfl rfl (Ya rfl (Yl (x:=P 131) rfl rfl ZO (rfl) (Ya rfl (Zr rfl rfl (Ya rfl (T7 rfl rfl (Ya rfl (Yq rfl rfl (pR hqp.1) (Ya rfl (Zj rfl (Ya rfl (Yn rfl rfl ZO (Ya rfl (Ys rfl (hfp) rfl rfl rfl (Ya rfl (Zj rfl (ZC rfl (ZB rfl (Ya rfl (Zo rfl (Ya rfl (Zo rfl (Ya rfl (Zj rfl (Ya rfl ?_)))))))))))))))))))))))))))))
   refine Yn rfl rfl ZL (Ya rfl ?_)
   have hsq:=YF (pA (ovA (fun _=>0) 0 133 Q) hqz)
   rw [show (XG (ovA (fun _=>0) 0 133 Q) && decide (150≤ovA (fun _=>0) 0 133 Q 131)) = false by rw [hqid,decide_eq_false (by omega),Bool.and_false]] at hsq
   refine Yt rfl (hsq) rfl rfl rfl (Ya rfl (Yc (o':=131) rfl rfl rfl (Ya rfl (Yl (x:=P 131) rfl rfl ZO (rfl) (Ya rfl (Yq rfl rfl (Zal (by omega)) (Ya rfl (pK rfl rfl (rfl) (Ya rfl (Zo rfl (Ya rfl (Zo rfl (Zo rfl (Zj rfl (Ya rfl (Yc (o':=131) rfl rfl rfl (Ya rfl (Yl (x:=Q 131) rfl rfl ZL (rfl) (Ya rfl (Yq rfl rfl (kq h52) (Ya rfl (Zj rfl (ZC rfl (Ya rfl (Zo rfl (Zo rfl (Yb (ZA rfl (Yg ?_)))))))))))))))))))))))))))))
   refine Ye (Zi rfl (Zr rfl rfl (Zi rfl (Yb ?_))))
   refine ⟨l.length - (i+1),_,by omega,(.cons _ (.cons _ (.refl _))),i+1,by omega,rfl,rfl,rfl,rfl,rfl⟩
  ·refine ZE rfl (YG rfl (YG rfl (YG rfl (YG rfl (YG rfl (YG rfl (YG rfl (ZC rfl (YG rfl (YG rfl (YG rfl (YG rfl (YG rfl (YG rfl (ZB rfl (Ya rfl (Zo rfl (Zo rfl (Zj rfl (Ya rfl (Yc (o':=131) rfl rfl rfl (Ya rfl (Yl (x:=Q 131) rfl rfl ZL (rfl) (Ya rfl (Yq rfl rfl (Ui h52) (Ya rfl (Zj rfl (Ya rfl (Yn rfl rfl ZL ?_)))))))))))))))))))))))))))))
   refine Ya rfl ?_
   have hfq:=YF (vz (ovA (fun _=>0) 0 133 Q) hqz)
   rw [show (XG (ovA (fun _=>0) 0 133 Q) && decide (100≤ovA (fun _=>0) 0 133 Q 131)) = false by rw [hqid,decide_eq_false (by omega),Bool.and_false]] at hfq
   refine Ys rfl (hfq) rfl rfl rfl (Ya rfl (Zo rfl (Zo rfl (Yb (ZA rfl (Yg (Ye (Zi rfl (Zr rfl rfl (Zi rfl (Yb ?_)))))))))))
   refine ⟨l.length - (i+1),_,by omega,(.cons _ (.cons _ (.refl _))),i+1,by omega,rfl,rfl,rfl,rfl,rfl⟩
 ·refine YZ (Xc (Zd (Yp rfl (Zf rfl ?_))))
  rfl
theorem Zao (P:Nat→Int) (hz:∀ i,133≤i→P i = 0) (hp:XG P = true) (h1:100≤P 131) (h2:P 131 < 149):WR AM 6 [.agg 133 (ia P)] [] (fun v _ _=>v = .s (.bool true)):=by
 have hpos:=YF (Qg P)
 rw [hp] at hpos
 have hfp:=YF (vz P hz)
 have hsp:=YF (pA P hz)
 rw [hp] at hfp hsp
 have hbd:=Zab hp
 rw [decide_eq_true (show 100≤P 131 by omega)] at hfp
 rw [decide_eq_false (show ¬ 150≤P 131 by omega)] at hsp
 refine YI (a:=a6) rfl rfl (YH _) (ZP rfl) (m:=0) rfl (Zd (YB rfl (Yp rfl (Yb (Yd (Zd (Ys rfl (YF qd) rfl rfl rfl (Yu (r:=.bool _) rfl rfl (Yb (ZA rfl (Yg (Yd (Yd (Yf (Yn rfl rfl ZL (Ys rfl (hsp) rfl rfl rfl (Zj rfl (ZC rfl (ZB rfl (Zo rfl (Zj rfl (Ya rfl (Yn rfl rfl ZL (Ya rfl (Yt rfl (hfp) rfl rfl rfl (Ya rfl (Yn rfl rfl ZL (Ya rfl (Ys rfl (hpos) rfl rfl rfl ?_)))))))))))))))))))))))))))))
 refine Ya rfl (Zj rfl (Ya rfl (Yc (o':=131) rfl rfl rfl (Ya rfl (Yl (x:=P 131) rfl rfl ZL (rfl) (Ya rfl (Yq rfl rfl (Zaa (by omega)) (Ya rfl (Zo rfl (Ya rfl (pK rfl rfl (rfl) (Zo rfl (Yb (ZA rfl (Yg (Zd ?_))))))))))))))))
 obtain ⟨l,hleq⟩:∃ l,l = WT P:=⟨_,rfl⟩
 have hmv:=pp P
 rw [← hleq] at hmv
 have hlen:l.length≤16896:=by rw [hleq]; exact gY P
 refine Yn rfl rfl ZL (YD rfl (hmv) rfl rfl (fun v1 own1 n1 hr1=>Yp (v:=v1) rfl (Yb (Yd (Zd (Yp rfl (Yb (Yj (Xe (List.Sublist.append (.refl _) (.refl _)) (Xg (fun m f _ L=>∃ (i:Nat),(i≤l.length)∧(m = l.length - i)∧(f 1 = .ptr 0 0 133)∧(f 3 = v1)∧(f 4 = .s (.int .i64 i))∧(L = (own1++[(0,.sc .var 133 (ia P))]))) (fun m f nb L hI=>?_) (l.length) (⟨0,by omega,by omega,rfl,rfl,rfl,rfl⟩)))))))))))
 obtain ⟨i,hi,hm,k1,k3,k4,rfl⟩:=hI
 refine pH 1 k1 (pH 3 k3 (pH 4 k4 (Yd (Zd (Zi rfl (Yp (v:=v1) rfl (Vn rfl hr1.rx (by decide) (Xm l) (Zq rfl (Yb (Yi rfl (fun h2=>?_) (fun h2=>?_))))))))))) <;> simp only [NM] at h2
 ·refine Yg (Yd (Yj (Yd (Yf (Yn rfl rfl (List.mem_append_right _ ZL) (Yp (v:=v1) rfl (Zi rfl ?_)))))))
  obtain ⟨b1,q1,md1,c1,F1,rfl,rfl,hF1⟩:=hr1.rx.at (by decide) (Xm l) (by omega)
  refine Zw rfl rfl ?_
  obtain ⟨hx0,hx1,hx2⟩:=su hF1 (i:=i) (by omega)
  have hgm:(l.getD i (0,0,0))∈WT P:=by rw [← hleq]; exact g6 (by omega)
  obtain ⟨hp1,hin,hqp⟩:=Zad hz hgm
  have hplay:=Zae P hz hp1 (l.getD i (0,0,0)).1 (l.getD i (0,0,0)).2.1 (l.getD i (0,0,0)).2.2 hin
  have hqz0:=fun (i9:Nat) (hi9:133≤i9)=>x6 (P:=P) (a:=(l.getD i (0,0,0)).1) (t:=(l.getD i (0,0,0)).2.1) (b:=(l.getD i (0,0,0)).2.2) hi9
  have hlit:∀ j,j < [(l.getD i (0,0,0)).1,(l.getD i (0,0,0)).2.1,(l.getD i (0,0,0)).2.2].length→(ovA (fun _=>0) (0*3) 3 (dp F1 (0+(i:Int).toNat*3))) j = [(l.getD i (0,0,0)).1,(l.getD i (0,0,0)).2.1,(l.getD i (0,0,0)).2.2].getD j 0:=fun j hj=>by
    match j,hj with
    | 0,_=>exact hx0
    | 1,_=>exact hx1
    | 2,_=>exact hx2
  obtain ⟨Q,hQ⟩:∃ Q,Q = XI P (l.getD i (0,0,0)).1 (l.getD i (0,0,0)).2.1 (l.getD i (0,0,0)).2.2:=⟨_,rfl⟩
  rw [← hQ] at hplay hqp hqz0
  have hqid:ovA (fun _=>0) 0 133 Q = Q:=JA hqz0
  have hqz:∀ i9,133≤i9→ovA (fun _=>0) 0 133 Q i9 = 0:=fun i9 hi9=>by rw [hqid]; exact hqz0 i9 hi9
  refine Yo rfl rfl ZL (Wm rfl (.agg rfl .nil) (gZ (caps:=[]) rfl (hplay) rfl ((.row rfl hlit)) (KG ZL) rfl rfl rfl (Zn rfl (YC (v:=.agg _ _) rfl rfl (YC (v:=.s (.int _ _)) rfl rfl (Yx (Yy rfl rfl rfl rfl .here (Zi rfl (Yb (Yd (Yf (Zi rfl (Yq rfl rfl (pR rfl) (Zj rfl (Ya rfl (Yc (o':=131) rfl rfl rfl (Ya rfl (Yl (x:=Q 131) rfl rfl ZL (rfl) (Ya rfl (Zq rfl (Ya rfl (Zj rfl (Yr (t:=52) rfl (fun h52=>?_) (fun h52=>?_)))))))))))))))))))))))) <;> simp only [NM] at h52
  ·refine Ya rfl ?_
   have hqp:=hqp.resolve_left h52
   refine Yc (o':=131) rfl rfl rfl (Ya rfl (Yl (x:=Q 131) rfl rfl ZL (rfl) (Ya rfl (Yc (o':=131) rfl rfl rfl (Ya rfl (Yl (x:=P 131) rfl rfl ZO (rfl) (Ya rfl (Zr rfl rfl (Ya rfl (T7 rfl rfl (Ya rfl (Yq rfl rfl (pR hqp.1) (Ya rfl (Zj rfl (Ya rfl (Yn rfl rfl ZO (Ya rfl (Ys rfl (hfp) rfl rfl rfl (Ya rfl (Zj rfl (Ya rfl (Yn rfl rfl ZL (Ya rfl ?_)))))))))))))))))))))))
   have hfq:=YF (vz (ovA (fun _=>0) 0 133 Q) hqz)
   rw [show (XG (ovA (fun _=>0) 0 133 Q) && decide (100≤ovA (fun _=>0) 0 133 Q 131)) = true by rw [hqid,hqp.2,decide_eq_true (by omega)]; rfl] at hfq
   refine Ys rfl (hfq) rfl rfl rfl (Ya rfl (Yu (r:=.bool _) rfl rfl (Ya rfl (Zo rfl (Ya rfl (Zo rfl (Ya rfl (Zj rfl (Ya rfl (Yn rfl rfl ZL (Ya rfl ?_)))))))))))
   have hsq:=YF (pA (ovA (fun _=>0) 0 133 Q) hqz)
   rw [show (XG (ovA (fun _=>0) 0 133 Q) && decide (150≤ovA (fun _=>0) 0 133 Q 131)) = false by rw [hqid,decide_eq_false (by omega),Bool.and_false]] at hsq
   refine Yt rfl (hsq) rfl rfl rfl (Ya rfl (Yc (o':=131) rfl rfl rfl (Ya rfl (Yl (x:=P 131) rfl rfl ZO (rfl) (Ya rfl (Yq rfl rfl (Zal (by omega)) (Ya rfl (pK rfl rfl (rfl) (Ya rfl (Zo rfl (Ya rfl (Zo rfl (Zo rfl (Zj rfl (Ya rfl (Yc (o':=131) rfl rfl rfl (Ya rfl (Yl (x:=Q 131) rfl rfl ZL (rfl) (Ya rfl (Yq rfl rfl (kq h52) (Ya rfl (Zj rfl (ZC rfl (Ya rfl (Zo rfl (Zo rfl (Yb (ZA rfl (Yg ?_)))))))))))))))))))))))))))))
   refine Ye (Zi rfl (Zr rfl rfl (Zi rfl (Yb ?_))))
   refine ⟨l.length - (i+1),_,by omega,(.cons _ (.cons _ (.refl _))),i+1,by omega,rfl,rfl,rfl,rfl,rfl⟩
  ·refine ZE rfl (YG rfl (YG rfl (YG rfl (YG rfl (YG rfl (YG rfl (YG rfl (ZC rfl (YG rfl (YG rfl (YG rfl (YG rfl (YG rfl (YG rfl (ZB rfl (Ya rfl (Zo rfl (Zo rfl (Zj rfl (Ya rfl (Yc (o':=131) rfl rfl rfl (Ya rfl (Yl (x:=Q 131) rfl rfl ZL (rfl) (Ya rfl (Yq rfl rfl (Ui h52) (Ya rfl (Zj rfl (Ya rfl (Yn rfl rfl ZL ?_)))))))))))))))))))))))))))))
   refine Ya rfl ?_
   have hfq:=YF (vz (ovA (fun _=>0) 0 133 Q) hqz)
   rw [show (XG (ovA (fun _=>0) 0 133 Q) && decide (100≤ovA (fun _=>0) 0 133 Q 131)) = false by rw [hqid,decide_eq_false (by omega),Bool.and_false]] at hfq
   refine Ys rfl (hfq) rfl rfl rfl (Ya rfl (Zo rfl (Zo rfl (Yb (ZA rfl (Yg (Ye (Zi rfl (Zr rfl rfl (Zi rfl (Yb ?_)))))))))))
   refine ⟨l.length - (i+1),_,by omega,(.cons _ (.cons _ (.refl _))),i+1,by omega,rfl,rfl,rfl,rfl,rfl⟩
 ·refine YZ (Xc (Zd (Yp rfl (Zf rfl ?_))))
  rfl
theorem Zam (P:Nat→Int) (hz:∀ i,133≤i→P i = 0) (hp:XG P = true) (h1:P 131 = 149):WR AM 6 [.agg 133 (ia P)] [] (fun v _ _=>v = .s (.bool true)):=by
 have hpos:=YF (Qg P)
 rw [hp] at hpos
 have hfp:=YF (vz P hz)
 have hsp:=YF (pA P hz)
 rw [hp] at hfp hsp
 have hbd:=Zab hp
 rw [decide_eq_true (show 100≤P 131 by omega)] at hfp
 rw [decide_eq_false (show ¬ 150≤P 131 by omega)] at hsp
 refine YI (a:=a6) rfl rfl (YH _) (ZP rfl) (m:=0) rfl (Zd (YB rfl (Yp rfl (Yb (Yd (Zd (Ys rfl (YF qd) rfl rfl rfl (Yu (r:=.bool _) rfl rfl (Yb (ZA rfl (Yg (Yd (Yd (Yf (Yn rfl rfl ZL (Ys rfl (hsp) rfl rfl rfl (Zj rfl (ZC rfl (ZB rfl (Zo rfl (Zj rfl (Ya rfl (Yn rfl rfl ZL (Ya rfl (Yt rfl (hfp) rfl rfl rfl (Ya rfl (Yn rfl rfl ZL (Ya rfl (Ys rfl (hpos) rfl rfl rfl ?_)))))))))))))))))))))))))))))
 refine Ya rfl (Zj rfl (Ya rfl (Yc (o':=131) rfl rfl rfl (Ya rfl (Yl (x:=P 131) rfl rfl ZL (rfl) (Ya rfl (Yq rfl rfl (Zaa (by omega)) (Ya rfl (Zo rfl (Ya rfl (pK rfl rfl (rfl) (Zo rfl (Yb (ZA rfl (Yg (Zd ?_))))))))))))))))
 obtain ⟨l,hleq⟩:∃ l,l = WT P:=⟨_,rfl⟩
 have hmv:=pp P
 rw [← hleq] at hmv
 have hlen:l.length≤16896:=by rw [hleq]; exact gY P
 refine Yn rfl rfl ZL (YD rfl (hmv) rfl rfl (fun v1 own1 n1 hr1=>Yp (v:=v1) rfl (Yb (Yd (Zd (Yp rfl (Yb (Yj (Xe (List.Sublist.append (.refl _) (.refl _)) (Xg (fun m f _ L=>∃ (i:Nat),(i≤l.length)∧(m = l.length - i)∧(f 1 = .ptr 0 0 133)∧(f 3 = v1)∧(f 4 = .s (.int .i64 i))∧(L = (own1++[(0,.sc .var 133 (ia P))]))) (fun m f nb L hI=>?_) (l.length) (⟨0,by omega,by omega,rfl,rfl,rfl,rfl⟩)))))))))))
 obtain ⟨i,hi,hm,k1,k3,k4,rfl⟩:=hI
 refine pH 1 k1 (pH 3 k3 (pH 4 k4 (Yd (Zd (Zi rfl (Yp (v:=v1) rfl (Vn rfl hr1.rx (by decide) (Xm l) (Zq rfl (Yb (Yi rfl (fun h3=>?_) (fun h3=>?_))))))))))) <;> simp only [NM] at h3
 ·refine Yg (Yd (Yj (Yd (Yf (Yn rfl rfl (List.mem_append_right _ ZL) (Yp (v:=v1) rfl (Zi rfl ?_)))))))
  obtain ⟨b1,q1,md1,c1,F1,rfl,rfl,hF1⟩:=hr1.rx.at (by decide) (Xm l) (by omega)
  refine Zw rfl rfl ?_
  obtain ⟨hx0,hx1,hx2⟩:=su hF1 (i:=i) (by omega)
  have hgm:(l.getD i (0,0,0))∈WT P:=by rw [← hleq]; exact g6 (by omega)
  obtain ⟨hp1,hin,hqp⟩:=Zad hz hgm
  have hplay:=Zae P hz hp1 (l.getD i (0,0,0)).1 (l.getD i (0,0,0)).2.1 (l.getD i (0,0,0)).2.2 hin
  have hqz0:=fun (i9:Nat) (hi9:133≤i9)=>x6 (P:=P) (a:=(l.getD i (0,0,0)).1) (t:=(l.getD i (0,0,0)).2.1) (b:=(l.getD i (0,0,0)).2.2) hi9
  have hlit:∀ j,j < [(l.getD i (0,0,0)).1,(l.getD i (0,0,0)).2.1,(l.getD i (0,0,0)).2.2].length→(ovA (fun _=>0) (0*3) 3 (dp F1 (0+(i:Int).toNat*3))) j = [(l.getD i (0,0,0)).1,(l.getD i (0,0,0)).2.1,(l.getD i (0,0,0)).2.2].getD j 0:=fun j hj=>by
    match j,hj with
    | 0,_=>exact hx0
    | 1,_=>exact hx1
    | 2,_=>exact hx2
  obtain ⟨Q,hQ⟩:∃ Q,Q = XI P (l.getD i (0,0,0)).1 (l.getD i (0,0,0)).2.1 (l.getD i (0,0,0)).2.2:=⟨_,rfl⟩
  rw [← hQ] at hplay hqp hqz0
  have hqid:ovA (fun _=>0) 0 133 Q = Q:=JA hqz0
  have hqz:∀ i9,133≤i9→ovA (fun _=>0) 0 133 Q i9 = 0:=fun i9 hi9=>by rw [hqid]; exact hqz0 i9 hi9
  refine Yo rfl rfl ZL (Wm rfl (.agg rfl .nil) (gZ (caps:=[]) rfl (hplay) rfl ((.row rfl hlit)) (KG ZL) rfl rfl rfl (Zn rfl (YC (v:=.agg _ _) rfl rfl (YC (v:=.s (.int _ _)) rfl rfl (Yx (Yy rfl rfl rfl rfl .here (Zi rfl (Yb (Yd (Yf (Zi rfl (Yq rfl rfl (pR rfl) (Zj rfl (Ya rfl (Yc (o':=131) rfl rfl rfl (Ya rfl (Yl (x:=Q 131) rfl rfl ZL (rfl) (Ya rfl (Zq rfl (Ya rfl (Zj rfl (Yr (t:=52) rfl (fun h52=>?_) (fun h52=>?_)))))))))))))))))))))))) <;> simp only [NM] at h52
  ·refine Ya rfl ?_
   have hqp:=hqp.resolve_left h52
   refine Yc (o':=131) rfl rfl rfl (Ya rfl (Yl (x:=Q 131) rfl rfl ZL (rfl) (Ya rfl (Yc (o':=131) rfl rfl rfl (Ya rfl (Yl (x:=P 131) rfl rfl ZO (rfl) (Ya rfl (Zr rfl rfl (Ya rfl (T7 rfl rfl (Ya rfl (Yq rfl rfl (pR hqp.1) (Ya rfl (Zj rfl (Ya rfl (Yn rfl rfl ZO (Ya rfl (Ys rfl (hfp) rfl rfl rfl (Ya rfl (Zj rfl (Ya rfl (Yn rfl rfl ZL (Ya rfl ?_)))))))))))))))))))))))
   have hfq:=YF (vz (ovA (fun _=>0) 0 133 Q) hqz)
   rw [show (XG (ovA (fun _=>0) 0 133 Q) && decide (100≤ovA (fun _=>0) 0 133 Q 131)) = true by rw [hqid,hqp.2,decide_eq_true (by omega)]; rfl] at hfq
   refine Ys rfl (hfq) rfl rfl rfl (Ya rfl (Yu (r:=.bool _) rfl rfl (Ya rfl (Zo rfl (Ya rfl (Zo rfl (Ya rfl (Zj rfl (Ya rfl (Yn rfl rfl ZL (Ya rfl ?_)))))))))))
   have hsq:=YF (pA (ovA (fun _=>0) 0 133 Q) hqz)
   rw [show (XG (ovA (fun _=>0) 0 133 Q) && decide (150≤ovA (fun _=>0) 0 133 Q 131)) = true by rw [hqid,decide_eq_true (by omega),hqp.2]; rfl] at hsq
   refine Yt rfl (hsq) rfl rfl rfl (Ya rfl (Yc (o':=131) rfl rfl rfl (Ya rfl (Yl (x:=P 131) rfl rfl ZO (rfl) (Ya rfl (Yq rfl rfl (Zaa (by omega)) (Ya rfl (pK rfl rfl (rfl) (Ya rfl (Zo rfl (Ya rfl (Zo rfl (Zo rfl (Zj rfl (Ya rfl (Yc (o':=131) rfl rfl rfl (Ya rfl (Yl (x:=Q 131) rfl rfl ZL (rfl) (Ya rfl (Yq rfl rfl (kq h52) (Ya rfl (Zj rfl (ZC rfl (Ya rfl (Zo rfl (Zo rfl (Yb (ZA rfl (Yg ?_)))))))))))))))))))))))))))))
   refine Ye (Zi rfl (Zr rfl rfl (Zi rfl (Yb ?_))))
   refine ⟨l.length - (i+1),_,by omega,(.cons _ (.cons _ (.refl _))),i+1,by omega,rfl,rfl,rfl,rfl,rfl⟩
  ·refine ZE rfl (YG rfl (YG rfl (YG rfl (YG rfl (YG rfl (YG rfl (YG rfl (ZC rfl (YG rfl (YG rfl (YG rfl (YG rfl (YG rfl (YG rfl (ZB rfl (Ya rfl (Zo rfl (Zo rfl (Zj rfl (Ya rfl (Yc (o':=131) rfl rfl rfl (Ya rfl (Yl (x:=Q 131) rfl rfl ZL (rfl) (Ya rfl (Yq rfl rfl (Ui h52) (Ya rfl (Zj rfl (Ya rfl (Yn rfl rfl ZL ?_)))))))))))))))))))))))))))))
   refine Ya rfl ?_
   have hfq:=YF (vz (ovA (fun _=>0) 0 133 Q) hqz)
   rw [show (XG (ovA (fun _=>0) 0 133 Q) && decide (100≤ovA (fun _=>0) 0 133 Q 131)) = false by rw [hqid,decide_eq_false (by omega),Bool.and_false]] at hfq
   refine Ys rfl (hfq) rfl rfl rfl (Ya rfl (Zo rfl (Zo rfl (Yb (ZA rfl (Yg (Ye (Zi rfl (Zr rfl rfl (Zi rfl (Yb ?_)))))))))))
   refine ⟨l.length - (i+1),_,by omega,(.cons _ (.cons _ (.refl _))),i+1,by omega,rfl,rfl,rfl,rfl,rfl⟩
 ·refine YZ (Xc (Zd (Yp rfl (Zf rfl ?_))))
  rfl
theorem Zap (P:Nat→Int) (hz:∀ i,133≤i→P i = 0) (hp:XG P = true) (h1:150≤P 131):WR AM 6 [.agg 133 (ia P)] [] (fun v _ _=>v = .s (.bool true)):=by
 have hpos:=YF (Qg P)
 rw [hp] at hpos
 have hfp:=YF (vz P hz)
 have hsp:=YF (pA P hz)
 rw [hp] at hfp hsp
 have hbd:=Zab hp
 rw [decide_eq_true (show 100≤P 131 by omega)] at hfp
 rw [decide_eq_true (show 150≤P 131 by omega)] at hsp
 refine YI (a:=a6) rfl rfl (YH _) (ZP rfl) (m:=0) rfl (Zd (YB rfl (Yp rfl (Yb (Yd (Zd (Ys rfl (YF qd) rfl rfl rfl (Yu (r:=.bool _) rfl rfl (Yb (ZA rfl (Yg (Yd (Yd (Yf (Yn rfl rfl ZL (Ys rfl (hsp) rfl rfl rfl (Zj rfl (Ya rfl (Yn rfl rfl ZL (Ya rfl (Ys rfl (hfp) rfl rfl rfl (Ya rfl (Yu (r:=.bool _) rfl rfl (Zo rfl (Zj rfl (Ya rfl (Yn rfl rfl ZL (Ya rfl (Yt rfl (hfp) rfl rfl rfl ?_)))))))))))))))))))))))))))))
 refine Ya rfl (Yn rfl rfl ZL (Ya rfl (Ys rfl (hpos) rfl rfl rfl (Ya rfl (Zj rfl (Ya rfl (Yc (o':=131) rfl rfl rfl (Ya rfl (Yl (x:=P 131) rfl rfl ZL (rfl) (Ya rfl (Yq rfl rfl (Zaa (by omega)) (Ya rfl (Zo rfl (Ya rfl (pK rfl rfl (rfl) (Zo rfl (Yb (ZA rfl (Yg (Zd ?_))))))))))))))))))))
 obtain ⟨l,hleq⟩:∃ l,l = WT P:=⟨_,rfl⟩
 have hmv:=pp P
 rw [← hleq] at hmv
 have hlen:l.length≤16896:=by rw [hleq]; exact gY P
 refine Yn rfl rfl ZL (YD rfl (hmv) rfl rfl (fun v1 own1 n1 hr1=>Yp (v:=v1) rfl (Yb (Yd (Zd (Yp rfl (Yb (Yj (Xe (List.Sublist.append (.refl _) (.refl _)) (Xg (fun m f _ L=>∃ (i:Nat),(i≤l.length)∧(m = l.length - i)∧(f 1 = .ptr 0 0 133)∧(f 3 = v1)∧(f 4 = .s (.int .i64 i))∧(L = (own1++[(0,.sc .var 133 (ia P))]))) (fun m f nb L hI=>?_) (l.length) (⟨0,by omega,by omega,rfl,rfl,rfl,rfl⟩)))))))))))
 obtain ⟨i,hi,hm,k1,k3,k4,rfl⟩:=hI
 refine pH 1 k1 (pH 3 k3 (pH 4 k4 (Yd (Zd (Zi rfl (Yp (v:=v1) rfl (Vn rfl hr1.rx (by decide) (Xm l) (Zq rfl (Yb (Yi rfl (fun h4=>?_) (fun h4=>?_))))))))))) <;> simp only [NM] at h4
 ·refine Yg (Yd (Yj (Yd (Yf (Yn rfl rfl (List.mem_append_right _ ZL) (Yp (v:=v1) rfl (Zi rfl ?_)))))))
  obtain ⟨b1,q1,md1,c1,F1,rfl,rfl,hF1⟩:=hr1.rx.at (by decide) (Xm l) (by omega)
  refine Zw rfl rfl ?_
  obtain ⟨hx0,hx1,hx2⟩:=su hF1 (i:=i) (by omega)
  have hgm:(l.getD i (0,0,0))∈WT P:=by rw [← hleq]; exact g6 (by omega)
  obtain ⟨hp1,hin,hqp⟩:=Zad hz hgm
  have hplay:=Zae P hz hp1 (l.getD i (0,0,0)).1 (l.getD i (0,0,0)).2.1 (l.getD i (0,0,0)).2.2 hin
  have hqz0:=fun (i9:Nat) (hi9:133≤i9)=>x6 (P:=P) (a:=(l.getD i (0,0,0)).1) (t:=(l.getD i (0,0,0)).2.1) (b:=(l.getD i (0,0,0)).2.2) hi9
  have hlit:∀ j,j < [(l.getD i (0,0,0)).1,(l.getD i (0,0,0)).2.1,(l.getD i (0,0,0)).2.2].length→(ovA (fun _=>0) (0*3) 3 (dp F1 (0+(i:Int).toNat*3))) j = [(l.getD i (0,0,0)).1,(l.getD i (0,0,0)).2.1,(l.getD i (0,0,0)).2.2].getD j 0:=fun j hj=>by
    match j,hj with
    | 0,_=>exact hx0
    | 1,_=>exact hx1
    | 2,_=>exact hx2
  obtain ⟨Q,hQ⟩:∃ Q,Q = XI P (l.getD i (0,0,0)).1 (l.getD i (0,0,0)).2.1 (l.getD i (0,0,0)).2.2:=⟨_,rfl⟩
  rw [← hQ] at hplay hqp hqz0
  have hqid:ovA (fun _=>0) 0 133 Q = Q:=JA hqz0
  have hqz:∀ i9,133≤i9→ovA (fun _=>0) 0 133 Q i9 = 0:=fun i9 hi9=>by rw [hqid]; exact hqz0 i9 hi9
  refine Yo rfl rfl ZL (Wm rfl (.agg rfl .nil) (gZ (caps:=[]) rfl (hplay) rfl ((.row rfl hlit)) (KG ZL) rfl rfl rfl (Zn rfl (YC (v:=.agg _ _) rfl rfl (YC (v:=.s (.int _ _)) rfl rfl (Yx (Yy rfl rfl rfl rfl .here (Zi rfl (Yb (Yd (Yf (Zi rfl (Yq rfl rfl (pR rfl) (Zj rfl (Ya rfl (Yc (o':=131) rfl rfl rfl (Ya rfl (Yl (x:=Q 131) rfl rfl ZL (rfl) (Ya rfl (Zq rfl (Ya rfl (Zj rfl (Yr (t:=52) rfl (fun h52=>?_) (fun h52=>?_)))))))))))))))))))))))) <;> simp only [NM] at h52
  ·refine Ya rfl ?_
   have hqp:=hqp.resolve_left h52
   refine Yc (o':=131) rfl rfl rfl (Ya rfl (Yl (x:=Q 131) rfl rfl ZL (rfl) (Ya rfl (Yc (o':=131) rfl rfl rfl (Ya rfl (Yl (x:=P 131) rfl rfl ZO (rfl) (Ya rfl (Zr rfl rfl (Ya rfl (T7 rfl rfl (Ya rfl (Yq rfl rfl (pR hqp.1) (Ya rfl (Zj rfl (Ya rfl (Yn rfl rfl ZO (Ya rfl (Ys rfl (hfp) rfl rfl rfl (Ya rfl (Zj rfl (Ya rfl (Yn rfl rfl ZL (Ya rfl ?_)))))))))))))))))))))))
   have hfq:=YF (vz (ovA (fun _=>0) 0 133 Q) hqz)
   rw [show (XG (ovA (fun _=>0) 0 133 Q) && decide (100≤ovA (fun _=>0) 0 133 Q 131)) = true by rw [hqid,hqp.2,decide_eq_true (by omega)]; rfl] at hfq
   refine Ys rfl (hfq) rfl rfl rfl (Ya rfl (Yu (r:=.bool _) rfl rfl (Ya rfl (Zo rfl (Ya rfl (Zo rfl (Ya rfl (Zj rfl (Ya rfl (Yn rfl rfl ZL (Ya rfl ?_)))))))))))
   have hsq:=YF (pA (ovA (fun _=>0) 0 133 Q) hqz)
   rw [show (XG (ovA (fun _=>0) 0 133 Q) && decide (150≤ovA (fun _=>0) 0 133 Q 131)) = true by rw [hqid,decide_eq_true (by omega),hqp.2]; rfl] at hsq
   refine Yt rfl (hsq) rfl rfl rfl (Ya rfl (Yc (o':=131) rfl rfl rfl (Ya rfl (Yl (x:=P 131) rfl rfl ZO (rfl) (Ya rfl (Yq rfl rfl (Zaa (by omega)) (Ya rfl (pK rfl rfl (rfl) (Ya rfl (Zo rfl (Ya rfl (Zo rfl (Zo rfl (Zj rfl (Ya rfl (Yc (o':=131) rfl rfl rfl (Ya rfl (Yl (x:=Q 131) rfl rfl ZL (rfl) (Ya rfl (Yq rfl rfl (kq h52) (Ya rfl (Zj rfl (ZC rfl (Ya rfl (Zo rfl (Zo rfl (Yb (ZA rfl (Yg ?_)))))))))))))))))))))))))))))
   refine Ye (Zi rfl (Zr rfl rfl (Zi rfl (Yb ?_))))
   refine ⟨l.length - (i+1),_,by omega,(.cons _ (.cons _ (.refl _))),i+1,by omega,rfl,rfl,rfl,rfl,rfl⟩
  ·refine ZE rfl (YG rfl (YG rfl (YG rfl (YG rfl (YG rfl (YG rfl (YG rfl (ZC rfl (YG rfl (YG rfl (YG rfl (YG rfl (YG rfl (YG rfl (ZB rfl (Ya rfl (Zo rfl (Zo rfl (Zj rfl (Ya rfl (Yc (o':=131) rfl rfl rfl (Ya rfl (Yl (x:=Q 131) rfl rfl ZL (rfl) (Ya rfl (Yq rfl rfl (Ui h52) (Ya rfl (Zj rfl (Ya rfl (Yn rfl rfl ZL ?_)))))))))))))))))))))))))))))
   refine Ya rfl ?_
   have hfq:=YF (vz (ovA (fun _=>0) 0 133 Q) hqz)
   rw [show (XG (ovA (fun _=>0) 0 133 Q) && decide (100≤ovA (fun _=>0) 0 133 Q 131)) = false by rw [hqid,decide_eq_false (by omega),Bool.and_false]] at hfq
   refine Ys rfl (hfq) rfl rfl rfl (Ya rfl (Zo rfl (Zo rfl (Yb (ZA rfl (Yg (Ye (Zi rfl (Zr rfl rfl (Zi rfl (Yb ?_)))))))))))
   refine ⟨l.length - (i+1),_,by omega,(.cons _ (.cons _ (.refl _))),i+1,by omega,rfl,rfl,rfl,rfl,rfl⟩
 ·refine YZ (Xc (Zd (Yp rfl (Zf rfl ?_))))
  rfl
theorem Zai (P:Nat→Int) (hz:∀ i,133≤i→P i = 0):WR AM 6 [.agg 133 (ia P)] [] (fun v _ _=>v = .s (.bool true)):=by
 cases hp:XG P with
 | false=>exact Zar P hz hp
 | true =>
  by_cases h1:P 131 < 100
  ·exact Zat P hz hp h1
  ·by_cases h2:P 131 < 149
   ·exact Zao P hz hp (by omega) h2
   ·by_cases h3:P 131 = 149
    ·exact Zam P hz hp h3
    ·exact Zap P hz hp (by omega)
end Go.Proofs.YtlkighkfkdpncaaGreat
