/- Texts of this seat, joined. -/
import Derived.Test.YtlkighkfkdpncaaGreatDoorM5
set_option linter.unusedSimpArgs false
set_option linter.unusedVariables false
namespace Go.Proofs.YtlkighkfkdpncaaGreatDoor
open Go Go.Am
theorem Xr (P:Nat->Int) (s:Int):WR AM 188 [.agg 133 (ia P),.s (.int .i64 s)] [] (fun v _ _=>v=.s (.bool (YN P s))):=by
 refine YJ (a:=a188) rfl rfl (YI _) (ZQ rfl) (m:=0) rfl (Ze (YC rfl (Yq rfl (Zf (Zj rfl (Zr rfl (Zk rfl (Ys (t:=7) rfl (fun h1=>?_) (fun h1=>?_))))))))) <;> simp only [NM] at h1
 ·refine Yb rfl (Zj rfl (Yb rfl (Zr rfl (Zq rfl (Zk rfl (Ys (t:=11) rfl (fun h2=>?_) (fun h2=>?_))))))) <;> simp only [NM] at h2
  ·refine Yb rfl (Zj rfl (Yb rfl (Zy rfl (Yb rfl (Zw rfl rfl rfl (Yb rfl (Yp rfl rfl ZM (Yb rfl (YB rfl .nil (Yb rfl (Yw rfl rfl (Zq rfl (Zk rfl (Zg rfl (ZI ?_)))))))))))))))
   unfold YN isM
   (rw [ZaV (by omega),Bool.true_and]; rfl)
  refine ZE rfl (ZD rfl (Zq rfl (Zk rfl (Zg rfl (ZI ?_)))))
  unfold YN isM
  (rw [ZaT (by omega)]; rfl)
 refine ZD rfl (Zq rfl (Zk rfl (ZE rfl (ZD rfl (Zq rfl (Zk rfl (Zg rfl (ZI ?_))))))))
 unfold YN isM
 (rw [ZaT (by omega)]; rfl)
section
variable {P:Nat->Int} {s t c:Int}
theorem goP_1 (h:t=s+8*(1 - 2*c)):goP P s t c=YN P t:=Za8 h
theorem q5 (h1:¬ t=s+8*(1 - 2*c)) (h2:t=s+16*(1 - 2*c)/\s / 8=1+5*c):goP P s t c=(YN P (s+8*(1 - 2*c))&&YN P t):=by
 unfold goP; rw [Za7 h1,Za8 h2]
theorem WJ (h1:¬ t=s+8*(1 - 2*c)) (h2:¬ (t=s+16*(1 - 2*c)/\s / 8=1+5*c)):goP P s t c=(Xk P s t&&((!YT P t&&decide (We P t=Y5 c)) || (YN P t&&decide (t=P 130)))):=by
 unfold goP; rw [Za7 h1,Za7 h2]
theorem JW (x:Int):eqI 2 (dp P (0+x.toNat*2)) (ovA (fun _=>0) 0 2 (ov (ov (fun _=>0) 0 4) 1 c))=VE P c x:=by
 rw [Wd]; rfl
theorem kN:eqI 2 P (ovA (fun _=>0) 0 2 (ov (ov (fun _=>0) 0 4) 1 c))=VE P c 0:=by
 rw [Wd]; rfl
end
theorem tO (P:Nat->Int) (s t:Int) (hs:0<=s/\s < 64) (ht:0<=t/\t < 64) (hc:P (sqI s+1)=0):WR AM 169 [.agg 133 (ia P),.s (.int .i64 s),.s (.int .i64 t)] [] (fun v _ _=>v=.s (.bool (goP P s t 0))):=by
 refine YJ (a:=a169) rfl rfl (YI _) (ZQ rfl) (m:=0) rfl (Ze (YC rfl (Yq rfl (Zf (Zj rfl (Zy rfl (Zw rfl rfl rfl (Yp rfl rfl ZM (Yy (Yz rfl rfl rfl rfl .here (Zf (Yq rfl (Yq rfl (Yc (Ye (Ze (Zz rfl (Ym (x:=0) rfl rfl ZM (hc) (Yr rfl rfl (ub (by omega)) (Yc (ZB rfl (Yh (Ye (Ze (Zj rfl (Zj rfl (Zj rfl (Zs rfl rfl (Zr rfl ?_)))))))))))))))))))))))))))))
 refine Yc (Yj rfl (fun h3=>?_) (fun h3=>?_)) <;> simp only [NM] at h3
 ·refine Ze (Yo rfl rfl ZN (Zj rfl (Yt rfl (YG (Xr P _)) rfl rfl rfl (Zk rfl (Zg rfl (ZI ?_))))))
  exact (goP_1 (by omega)).symm
 refine Yh (Ye (Ze (Zj rfl (Zj rfl (Zj rfl (Wn rfl rfl (by omega) (Zs rfl rfl (Zr rfl (Zk rfl (Ys (t:=32) rfl (fun h4=>?_) (fun h4=>?_))))))))))) <;> simp only [NM] at h4
 ·refine Yb rfl (Zj rfl (Yb rfl (Zu rfl rfl (Yb rfl (Zj rfl (Yb rfl (Zr rfl (Zq rfl (Yc (Yj rfl (fun h5=>?_) (fun h5=>?_))))))))))) <;> simp only [NM] at h5
  ·refine Ze (Yo rfl rfl ZN (Zj rfl (Zj rfl (Zs rfl rfl (Yt rfl (YG (Xr P _)) rfl rfl rfl (Zk rfl (Ys (t:=43) rfl (fun h6=>?_) (fun h6=>?_))))))))
   ·refine Yb rfl (Yo rfl rfl ZN (Yb rfl (Zj rfl (Yb rfl (Yt rfl (YG (Xr P _)) rfl rfl rfl (Zq rfl (Zk rfl (Zg rfl (ZI ?_)))))))))
    rw [q5 (by omega) (by omega),show s+8*(1 - 2*0)=s+8 by omega]
    rw [show YN P (s+8)=true by assumption]
    rfl
   refine Ya rfl rfl (ZD rfl (Zq rfl (Zk rfl (Zg rfl (ZI ?_)))))
   rw [q5 (by omega) (by omega),show s+8*(1 - 2*0)=s+8 by omega]
   rw [show YN P (s+8)=false by assumption]
   rfl
  refine Yh (Ye (Ze (Yo rfl rfl ZN (Zj rfl (Zj rfl (Yt rfl (YG (Kj P s t hs ht)) rfl rfl rfl (Yv (r:=.bool _) rfl rfl (Yc (Yj rfl (fun h7=>?_) (fun h7=>?_)))))))))) <;> simp only [NM] at h7
  ·refine Ze (Yq rfl (Zg rfl (ZI ?_)))
   rw [WJ (by omega) (by omega)]
   rw [show Xk P s t=false by assumption]
   rfl
  refine Yh (Ze (Zj rfl (Zy rfl (Zw rfl rfl rfl (Yp rfl rfl ZN (Yy (Yz rfl rfl rfl rfl .here (Yc (Ye (Yg (Yo rfl rfl ZM (YB rfl .nil (Yw rfl rfl (Zk rfl (Ys (t:=60) rfl (fun h8=>?_) (fun h8=>?_)))))))))))))))) <;> simp only [NM] at h8
  ·change YT P t=false at h8
   refine Yb rfl (Zz rfl (Yb rfl (Ym (x:=We P t) rfl rfl ZM (rfl) (Yb rfl (Zz rfl (Yb rfl (Ym (x:=0) rfl rfl ZN (hc) (Yb rfl (Yu rfl (show RF AM 33 [.s (.int .i64 0)] (.s (.int .i64 (Y5 0))) from YG (WT 0)) rfl rfl rfl (Yb rfl (Zr rfl (Zq rfl (Zk rfl (Ys (t:=68) rfl (fun h9=>?_) (fun h9=>?_))))))))))))))) <;> simp only [NM] at h9
   ·refine ZE rfl (YH rfl (YH rfl (YH rfl (YH rfl (ZC rfl (Zq rfl (Zk rfl (Zg rfl (ZI ?_)))))))))
    rw [WJ (by omega) (by omega)]
    rw [show Xk P s t=true by assumption]
    rw [show YT P t=false by assumption]
    rw [ZaV (show We P t=Y5 0 by assumption)]
    rfl
   refine Yb rfl (Yo rfl rfl ZO (Yb rfl (Zj rfl (Yb rfl (Yt rfl (YG (Xr P _)) rfl rfl rfl (Yb rfl (Zk rfl (Ys (t:=72) rfl (fun h10=>?_) (fun h10=>?_)))))))))
   ·refine Yb rfl (Zj rfl (Yb rfl (Yd (o':=130) rfl rfl rfl (Yb rfl (Ym (x:=P 130) rfl rfl ZO (rfl) (Yb rfl (Zr rfl (Yb rfl (Zq rfl (Zq rfl (Zk rfl (Zg rfl (ZI ?_)))))))))))))
    rw [WJ (by omega) (by omega)]
    rw [show Xk P s t=true by assumption]
    rw [show YT P t=false by assumption]
    rw [show YN P t=true by assumption]
    rw [ZaT (show ¬ We P t=Y5 0 by assumption)]
    rfl
   refine Ya rfl rfl (ZD rfl (ZC rfl (Yb rfl (Zq rfl (Zq rfl (Zk rfl (Zg rfl (ZI ?_))))))))
   rw [WJ (by omega) (by omega)]
   rw [show Xk P s t=true by assumption]
   rw [show YT P t=false by assumption]
   rw [show YN P t=false by assumption]
   rw [ZaT (show ¬ We P t=Y5 0 by assumption)]
   rfl
  change YT P t=true at h8
  refine ZE rfl (ZD rfl (Zq rfl (Zk rfl (Yb rfl (Yo rfl rfl ZO (Yb rfl (Zj rfl (Yb rfl (Yt rfl (YG (Xr P _)) rfl rfl rfl (Yb rfl (Zk rfl (Ys (t:=72) rfl (fun h11=>?_) (fun h11=>?_)))))))))))))
  ·refine Yb rfl (Zj rfl (Yb rfl (Yd (o':=130) rfl rfl rfl (Yb rfl (Ym (x:=P 130) rfl rfl ZO (rfl) (Yb rfl (Zr rfl (Yb rfl (Zq rfl (Zq rfl (Zk rfl (Zg rfl (ZI ?_)))))))))))))
   rw [WJ (by omega) (by omega)]
   rw [show Xk P s t=true by assumption]
   rw [show YT P t=true by assumption]
   rw [show YN P t=true by assumption]
   rfl
  refine Ya rfl rfl (ZD rfl (ZC rfl (Yb rfl (Zq rfl (Zq rfl (Zk rfl (Zg rfl (ZI ?_))))))))
  rw [WJ (by omega) (by omega)]
  rw [show Xk P s t=true by assumption]
  rw [show YT P t=true by assumption]
  rw [show YN P t=false by assumption]
  rfl
 refine ZE rfl (Zq rfl (Yc (ZB rfl (Yh (Ye (Ze (Yo rfl rfl ZN (Zj rfl (Zj rfl (Yt rfl (YG (Kj P s t hs ht)) rfl rfl rfl (Yv (r:=.bool _) rfl rfl (Yc (Yj rfl (fun h12=>?_) (fun h12=>?_)))))))))))))) <;> simp only [NM] at h12
 ·refine Ze (Yq rfl (Zg rfl (ZI ?_)))
  rw [WJ (by omega) (by omega)]
  rw [show Xk P s t=false by assumption]
  rfl
 refine Yh (Ze (Zj rfl (Zy rfl (Zw rfl rfl rfl (Yp rfl rfl ZN (Yy (Yz rfl rfl rfl rfl .here (Yc (Ye (Yg (Yo rfl rfl ZM (YB rfl .nil (Yw rfl rfl (Zk rfl (Ys (t:=60) rfl (fun h13=>?_) (fun h13=>?_)))))))))))))))) <;> simp only [NM] at h13
 ·change YT P t=false at h13
  refine Yb rfl (Zz rfl (Yb rfl (Ym (x:=We P t) rfl rfl ZM (rfl) (Yb rfl (Zz rfl (Yb rfl (Ym (x:=0) rfl rfl ZN (hc) (Yb rfl (Yu rfl (show RF AM 33 [.s (.int .i64 0)] (.s (.int .i64 (Y5 0))) from YG (WT 0)) rfl rfl rfl (Yb rfl (Zr rfl (Zq rfl (Zk rfl (Ys (t:=68) rfl (fun h14=>?_) (fun h14=>?_))))))))))))))) <;> simp only [NM] at h14
  ·refine ZE rfl (YH rfl (YH rfl (YH rfl (YH rfl (ZC rfl (Zq rfl (Zk rfl (Zg rfl (ZI ?_)))))))))
   rw [WJ (by omega) (by omega)]
   rw [show Xk P s t=true by assumption]
   rw [show YT P t=false by assumption]
   rw [ZaV (show We P t=Y5 0 by assumption)]
   rfl
  refine Yb rfl (Yo rfl rfl ZO (Yb rfl (Zj rfl (Yb rfl (Yt rfl (YG (Xr P _)) rfl rfl rfl (Yb rfl (Zk rfl (Ys (t:=72) rfl (fun h15=>?_) (fun h15=>?_)))))))))
  ·refine Yb rfl (Zj rfl (Yb rfl (Yd (o':=130) rfl rfl rfl (Yb rfl (Ym (x:=P 130) rfl rfl ZO (rfl) (Yb rfl (Zr rfl (Yb rfl (Zq rfl (Zq rfl (Zk rfl (Zg rfl (ZI ?_)))))))))))))
   rw [WJ (by omega) (by omega)]
   rw [show Xk P s t=true by assumption]
   rw [show YT P t=false by assumption]
   rw [show YN P t=true by assumption]
   rw [ZaT (show ¬ We P t=Y5 0 by assumption)]
   rfl
  refine Ya rfl rfl (ZD rfl (ZC rfl (Yb rfl (Zq rfl (Zq rfl (Zk rfl (Zg rfl (ZI ?_))))))))
  rw [WJ (by omega) (by omega)]
  rw [show Xk P s t=true by assumption]
  rw [show YT P t=false by assumption]
  rw [show YN P t=false by assumption]
  rw [ZaT (show ¬ We P t=Y5 0 by assumption)]
  rfl
 change YT P t=true at h13
 refine ZE rfl (ZD rfl (Zq rfl (Zk rfl (Yb rfl (Yo rfl rfl ZO (Yb rfl (Zj rfl (Yb rfl (Yt rfl (YG (Xr P _)) rfl rfl rfl (Yb rfl (Zk rfl (Ys (t:=72) rfl (fun h16=>?_) (fun h16=>?_)))))))))))))
 ·refine Yb rfl (Zj rfl (Yb rfl (Yd (o':=130) rfl rfl rfl (Yb rfl (Ym (x:=P 130) rfl rfl ZO (rfl) (Yb rfl (Zr rfl (Yb rfl (Zq rfl (Zq rfl (Zk rfl (Zg rfl (ZI ?_)))))))))))))
  rw [WJ (by omega) (by omega)]
  rw [show Xk P s t=true by assumption]
  rw [show YT P t=true by assumption]
  rw [show YN P t=true by assumption]
  rfl
 refine Ya rfl rfl (ZD rfl (ZC rfl (Yb rfl (Zq rfl (Zq rfl (Zk rfl (Zg rfl (ZI ?_))))))))
 rw [WJ (by omega) (by omega)]
 rw [show Xk P s t=true by assumption]
 rw [show YT P t=true by assumption]
 rw [show YN P t=false by assumption]
 rfl
theorem jz (P:Nat->Int) (s t:Int) (hs:0<=s/\s < 64) (ht:0<=t/\t < 64) (hc:P (sqI s+1)=0):WR AM 170 [.agg 133 (ia P),.s (.int .i64 s),.s (.int .i64 t)] [] (fun v _ _=>v=.s (.bool (goC P s t 0))):=by
 refine YJ (a:=a170) rfl rfl (YI _) (ZQ rfl) (m:=0) rfl (Ze (YC rfl (Yq rfl (Zf (Zj rfl (Zy rfl (Zw rfl rfl rfl (Yd rfl rfl rfl (Ym (x:=0) rfl rfl ZM (hc) (Zj rfl (Zf (Yq rfl (Yq rfl (Yq rfl (Yc (Ye (Ze (Zj rfl (Yr rfl rfl (ub (by omega)) (Yc (ZB rfl (Yh (Ye (Ze (Zj rfl (Zj rfl (Zr rfl (Zk rfl (Ys (t:=22) rfl (fun h17=>?_) (fun h17=>?_)))))))))))))))))))))))))))))) <;> simp only [NM] at h17
 ·refine ZD rfl (ZC rfl (Zq rfl (Zk rfl (ZD rfl (ZC rfl (Zq rfl (Yc (ZA rfl (Ze (Yq rfl (Zg rfl (ZI ?_))))))))))))
  unfold goC
  rw [Za8 (by omega)]
 refine Yb rfl (Yd (o':=129) rfl rfl rfl (Yb rfl (Ym (x:=P 129) rfl rfl ZM (rfl) (Yb rfl (Zr rfl (Zq rfl (Zk rfl (Ys (t:=27) rfl (fun h18=>?_) (fun h18=>?_))))))))) <;> simp only [NM] at h18
 ·refine ZD rfl (ZC rfl (Zq rfl (Yc (ZA rfl (Ze (Yq rfl (Zg rfl (ZI ?_))))))))
  unfold goC
  rw [Za8 (by omega)]
 refine Yb rfl (Yd (o':=129) rfl rfl rfl (Yb rfl (Ym (x:=P 129) rfl rfl ZM (rfl) (Yb rfl (Zr rfl (Zq rfl (Yc (Yj rfl (fun h19=>?_) (fun h19=>?_))))))))) <;> simp only [NM] at h19
 ·refine Ze (Yq rfl (Zg rfl (ZI ?_)))
  unfold goC
  rw [Za8 (by omega)]
 refine Yh (Ze ?_)
 obtain rfl:s=4:=by omega
 refine Zj rfl (YB rfl (.one rfl (.one rfl .nil)) (Yy (Yz rfl rfl rfl rfl .here (Yc (Ye (Ze (Zj rfl (Zj rfl (Zs rfl rfl (Zr rfl (Yc (Yj rfl (fun h20=>?_) (fun h20=>?_))))))))))))) <;> simp only [NM] at h20
 ·refine Ye (Yg (Yd (o':=129) rfl rfl rfl (Ym (x:=P 129) rfl rfl ZN (rfl) (Zj rfl (Zu rfl rfl (Zv rfl rfl (Zr rfl (Zk rfl (Ys (t:=44) rfl (fun h21=>?_) (fun h21=>?_)))))))))) <;> simp only [NM] at h21
  ·refine Yb rfl (Zj rfl (Yb rfl (Zs rfl rfl (Yb rfl (Zy rfl (Yb rfl (Zw rfl rfl rfl (Yb rfl (Yp rfl rfl ZN (Yb rfl (Yo rfl rfl ZM (Yb rfl (Yw rfl rfl (Zq rfl (Zk rfl (Ys (t:=53) rfl (fun h22=>?_) (fun h22=>?_))))))))))))))))) <;> simp only [NM] at h22
   ·rw [JW] at h22
    refine Yb rfl (Yo rfl rfl ZN (Yb rfl (Zj rfl (Yb rfl (Zs rfl rfl (Yb rfl (Yt rfl (YG (Xr P _)) rfl rfl rfl (Zq rfl (Zk rfl (Ys (t:=59) rfl (fun h23=>?_) (fun h23=>?_)))))))))))
    ·refine Yb rfl (Yo rfl rfl ZN (Yb rfl (Zj rfl (Yb rfl (Zs rfl rfl (Yb rfl (Yt rfl (YG (Xr P _)) rfl rfl rfl (Zq rfl (Zk rfl (Zg rfl (ZI ?_)))))))))))
     unfold goC
     rw [Za7 (by omega)]
     rw [Za8 (by assumption)]
     simp_all [YS]
    refine Ya rfl rfl (ZD rfl (ZC rfl (Zq rfl (Zk rfl (Zg rfl (ZI ?_))))))
    unfold goC
    rw [Za7 (by omega)]
    rw [Za8 (by assumption)]
    simp_all [YS]
   rw [JW] at h22
   refine ZE rfl (Zq rfl (Zk rfl (ZE rfl (Zq rfl (Zk rfl (Zg rfl (ZI ?_)))))))
   unfold goC
   rw [Za7 (by omega)]
   rw [Za8 (by assumption)]
   simp_all [YS]
  refine ZE rfl (ZD rfl (ZC rfl (Zq rfl (Zk rfl (ZE rfl (Zq rfl (Zk rfl (ZE rfl (Zq rfl (Zk rfl (Zg rfl (ZI ?_))))))))))))
  unfold goC
  rw [Za7 (by omega)]
  rw [Za8 (by assumption)]
  simp_all [YS]
 refine Yh (Ye (Yg (Zj rfl (Zj rfl (Zt rfl rfl (Zr rfl (Zk rfl (Ys (t:=69) rfl (fun h24=>?_) (fun h24=>?_))))))))) <;> simp only [NM] at h24
 ·refine Yb rfl (Yd (o':=129) rfl rfl rfl (Yb rfl (Ym (x:=P 129) rfl rfl ZN (rfl) (Yb rfl (Zj rfl (Yb rfl (Zu rfl rfl (Yb rfl (Zv rfl rfl (Yb rfl (Zr rfl (Zq rfl (Zk rfl (Ys (t:=77) rfl (fun h25=>?_) (fun h25=>?_))))))))))))))) <;> simp only [NM] at h25
  ·refine Yb rfl (Zj rfl (Yb rfl (Zt rfl rfl (Yb rfl (Zy rfl (Yb rfl (Zw rfl rfl rfl (Yb rfl (Yo rfl rfl ZN (Yb rfl (Yo rfl rfl ZM (Yb rfl (Yw rfl rfl (Zq rfl (Zk rfl (Ys (t:=86) rfl (fun h26=>?_) (fun h26=>?_))))))))))))))))) <;> simp only [NM] at h26
   ·rw [kN] at h26
    refine Yb rfl (Yo rfl rfl ZN (Yb rfl (Zj rfl (Yb rfl (Zt rfl rfl (Yb rfl (Yt rfl (YG (Xr P _)) rfl rfl rfl (Zq rfl (Zk rfl (Ys (t:=92) rfl (fun h27=>?_) (fun h27=>?_)))))))))))
    ·refine Yb rfl (Yo rfl rfl ZN (Yb rfl (Zj rfl (Yb rfl (Zt rfl rfl (Yb rfl (Yt rfl (YG (Xr P _)) rfl rfl rfl (Zq rfl (Zk rfl (Ys (t:=98) rfl (fun h28=>?_) (fun h28=>?_)))))))))))
     ·refine Yb rfl (Yo rfl rfl ZN (Yb rfl (Zj rfl (Yb rfl (Zt rfl rfl (Yb rfl (Yt rfl (YG (Xr P _)) rfl rfl rfl (Zq rfl (Zk rfl (Zg rfl (ZI ?_)))))))))))
      unfold goC
      rw [Za7 (by omega)]
      rw [Za7 (by assumption)]
      simp_all [YS]
     refine Ya rfl rfl (ZD rfl (ZC rfl (Zq rfl (Zk rfl (Zg rfl (ZI ?_))))))
     unfold goC
     rw [Za7 (by omega)]
     rw [Za7 (by assumption)]
     simp_all [YS]
    refine Ya rfl rfl (ZD rfl (ZC rfl (Zq rfl (Zk rfl (ZE rfl (Zq rfl (Zk rfl (Zg rfl (ZI ?_)))))))))
    unfold goC
    rw [Za7 (by omega)]
    rw [Za7 (by assumption)]
    simp_all [YS]
   rw [kN] at h26
   refine ZE rfl (Zq rfl (Zk rfl (ZE rfl (Zq rfl (Zk rfl (ZE rfl (Zq rfl (Zk rfl (Zg rfl (ZI ?_))))))))))
   unfold goC
   rw [Za7 (by omega)]
   rw [Za7 (by assumption)]
   simp_all [YS]
  refine ZE rfl (ZD rfl (ZC rfl (Zq rfl (Zk rfl (ZE rfl (Zq rfl (Zk rfl (ZE rfl (Zq rfl (Zk rfl (ZE rfl (Zq rfl (Zk rfl (Zg rfl (ZI ?_)))))))))))))))
  unfold goC
  rw [Za7 (by omega)]
  rw [Za7 (by assumption)]
  simp_all [YS]
 refine ZE rfl (ZD rfl (Zq rfl (Zk rfl (ZE rfl (ZD rfl (ZC rfl (Zq rfl (Zk rfl (ZE rfl (Zq rfl (Zk rfl (ZE rfl (Zq rfl (Zk rfl (ZE rfl (Zq rfl (Zk rfl (Zg rfl (ZI ?_)))))))))))))))))))
 unfold goC
 rw [Za7 (by omega)]
 rw [Za7 (by assumption)]
 simp_all [YS]
theorem tS (P:Nat->Int) (s t:Int) (hs:0<=s/\s < 64) (ht:0<=t/\t < 64) (hc:P (sqI s+1)=1):WR AM 169 [.agg 133 (ia P),.s (.int .i64 s),.s (.int .i64 t)] [] (fun v _ _=>v=.s (.bool (goP P s t 1))):=by
 refine YJ (a:=a169) rfl rfl (YI _) (ZQ rfl) (m:=0) rfl (Ze (YC rfl (Yq rfl (Zf (Zj rfl (Zy rfl (Zw rfl rfl rfl (Yp rfl rfl ZM (Yy (Yz rfl rfl rfl rfl .here (Zf (Yq rfl (Yq rfl (Yc (Ye (Ze (Zz rfl (Ym (x:=1) rfl rfl ZM (hc) (Yr rfl rfl (K5 (by omega)) (Yc (ZA rfl (Yf (Yq rfl (Yq rfl (Yc (Ye (Ze (Zj rfl (Zj rfl ?_)))))))))))))))))))))))))))))
 refine Zj rfl (Zs rfl rfl (Zr rfl (Yc (Yj rfl (fun h29=>?_) (fun h29=>?_))))) <;> simp only [NM] at h29
 ·refine Ze (Yo rfl rfl ZN (Zj rfl (Yt rfl (YG (Xr P _)) rfl rfl rfl (Zk rfl (Zg rfl (ZI ?_))))))
  exact (goP_1 (by omega)).symm
 refine Yh (Ye (Ze (Zj rfl (Zj rfl (Zj rfl (Wn rfl rfl (by omega) (Zs rfl rfl (Zr rfl (Zk rfl (Ys (t:=32) rfl (fun h30=>?_) (fun h30=>?_))))))))))) <;> simp only [NM] at h30
 ·refine Yb rfl (Zj rfl (Yb rfl (Zu rfl rfl (Yb rfl (Zj rfl (Yb rfl (Zr rfl (Zq rfl (Yc (Yj rfl (fun h31=>?_) (fun h31=>?_))))))))))) <;> simp only [NM] at h31
  ·refine Ze (Yo rfl rfl ZN (Zj rfl (Zj rfl (Zs rfl rfl (Yt rfl (YG (Xr P _)) rfl rfl rfl (Zk rfl (Ys (t:=43) rfl (fun h32=>?_) (fun h32=>?_))))))))
   ·refine Yb rfl (Yo rfl rfl ZN (Yb rfl (Zj rfl (Yb rfl (Yt rfl (YG (Xr P _)) rfl rfl rfl (Zq rfl (Zk rfl (Zg rfl (ZI ?_)))))))))
    rw [q5 (by omega) (by omega),show s+8*(1 - 2*1)=s+-8 by omega]
    rw [show YN P (s+-8)=true by assumption]
    rfl
   refine Ya rfl rfl (ZD rfl (Zq rfl (Zk rfl (Zg rfl (ZI ?_)))))
   rw [q5 (by omega) (by omega),show s+8*(1 - 2*1)=s+-8 by omega]
   rw [show YN P (s+-8)=false by assumption]
   rfl
  refine Yh (Ye (Ze (Yo rfl rfl ZN (Zj rfl (Zj rfl (Yt rfl (YG (Kj P s t hs ht)) rfl rfl rfl (Yv (r:=.bool _) rfl rfl (Yc (Yj rfl (fun h33=>?_) (fun h33=>?_)))))))))) <;> simp only [NM] at h33
  ·refine Ze (Yq rfl (Zg rfl (ZI ?_)))
   rw [WJ (by omega) (by omega)]
   rw [show Xk P s t=false by assumption]
   rfl
  refine Yh (Ze (Zj rfl (Zy rfl (Zw rfl rfl rfl (Yp rfl rfl ZN (Yy (Yz rfl rfl rfl rfl .here (Yc (Ye (Yg (Yo rfl rfl ZM (YB rfl .nil (Yw rfl rfl (Zk rfl (Ys (t:=60) rfl (fun h34=>?_) (fun h34=>?_)))))))))))))))) <;> simp only [NM] at h34
  ·change YT P t=false at h34
   refine Yb rfl (Zz rfl (Yb rfl (Ym (x:=We P t) rfl rfl ZM (rfl) (Yb rfl (Zz rfl (Yb rfl (Ym (x:=1) rfl rfl ZN (hc) (Yb rfl (Yu rfl (show RF AM 33 [.s (.int .i64 1)] (.s (.int .i64 (Y5 1))) from YG (WT 1)) rfl rfl rfl (Yb rfl (Zr rfl (Zq rfl (Zk rfl (Ys (t:=68) rfl (fun h35=>?_) (fun h35=>?_))))))))))))))) <;> simp only [NM] at h35
   ·refine ZE rfl (YH rfl (YH rfl (YH rfl (YH rfl (ZC rfl (Zq rfl (Zk rfl (Zg rfl (ZI ?_)))))))))
    rw [WJ (by omega) (by omega)]
    rw [show Xk P s t=true by assumption]
    rw [show YT P t=false by assumption]
    rw [ZaV (show We P t=Y5 1 by assumption)]
    rfl
   refine Yb rfl (Yo rfl rfl ZO (Yb rfl (Zj rfl (Yb rfl (Yt rfl (YG (Xr P _)) rfl rfl rfl (Yb rfl (Zk rfl (Ys (t:=72) rfl (fun h36=>?_) (fun h36=>?_)))))))))
   ·refine Yb rfl (Zj rfl (Yb rfl (Yd (o':=130) rfl rfl rfl (Yb rfl (Ym (x:=P 130) rfl rfl ZO (rfl) (Yb rfl (Zr rfl (Yb rfl (Zq rfl (Zq rfl (Zk rfl (Zg rfl (ZI ?_)))))))))))))
    rw [WJ (by omega) (by omega)]
    rw [show Xk P s t=true by assumption]
    rw [show YT P t=false by assumption]
    rw [show YN P t=true by assumption]
    rw [ZaT (show ¬ We P t=Y5 1 by assumption)]
    rfl
   refine Ya rfl rfl (ZD rfl (ZC rfl (Yb rfl (Zq rfl (Zq rfl (Zk rfl (Zg rfl (ZI ?_))))))))
   rw [WJ (by omega) (by omega)]
   rw [show Xk P s t=true by assumption]
   rw [show YT P t=false by assumption]
   rw [show YN P t=false by assumption]
   rw [ZaT (show ¬ We P t=Y5 1 by assumption)]
   rfl
  change YT P t=true at h34
  refine ZE rfl (ZD rfl (Zq rfl (Zk rfl (Yb rfl (Yo rfl rfl ZO (Yb rfl (Zj rfl (Yb rfl (Yt rfl (YG (Xr P _)) rfl rfl rfl (Yb rfl (Zk rfl (Ys (t:=72) rfl (fun h37=>?_) (fun h37=>?_)))))))))))))
  ·refine Yb rfl (Zj rfl (Yb rfl (Yd (o':=130) rfl rfl rfl (Yb rfl (Ym (x:=P 130) rfl rfl ZO (rfl) (Yb rfl (Zr rfl (Yb rfl (Zq rfl (Zq rfl (Zk rfl (Zg rfl (ZI ?_)))))))))))))
   rw [WJ (by omega) (by omega)]
   rw [show Xk P s t=true by assumption]
   rw [show YT P t=true by assumption]
   rw [show YN P t=true by assumption]
   rfl
  refine Ya rfl rfl (ZD rfl (ZC rfl (Yb rfl (Zq rfl (Zq rfl (Zk rfl (Zg rfl (ZI ?_))))))))
  rw [WJ (by omega) (by omega)]
  rw [show Xk P s t=true by assumption]
  rw [show YT P t=true by assumption]
  rw [show YN P t=false by assumption]
  rfl
 refine ZE rfl (Zq rfl (Yc (ZB rfl (Yh (Ye (Ze (Yo rfl rfl ZN (Zj rfl (Zj rfl (Yt rfl (YG (Kj P s t hs ht)) rfl rfl rfl (Yv (r:=.bool _) rfl rfl (Yc (Yj rfl (fun h38=>?_) (fun h38=>?_)))))))))))))) <;> simp only [NM] at h38
 ·refine Ze (Yq rfl (Zg rfl (ZI ?_)))
  rw [WJ (by omega) (by omega)]
  rw [show Xk P s t=false by assumption]
  rfl
 refine Yh (Ze (Zj rfl (Zy rfl (Zw rfl rfl rfl (Yp rfl rfl ZN (Yy (Yz rfl rfl rfl rfl .here (Yc (Ye (Yg (Yo rfl rfl ZM (YB rfl .nil (Yw rfl rfl (Zk rfl (Ys (t:=60) rfl (fun h39=>?_) (fun h39=>?_)))))))))))))))) <;> simp only [NM] at h39
 ·change YT P t=false at h39
  refine Yb rfl (Zz rfl (Yb rfl (Ym (x:=We P t) rfl rfl ZM (rfl) (Yb rfl (Zz rfl (Yb rfl (Ym (x:=1) rfl rfl ZN (hc) (Yb rfl (Yu rfl (show RF AM 33 [.s (.int .i64 1)] (.s (.int .i64 (Y5 1))) from YG (WT 1)) rfl rfl rfl (Yb rfl (Zr rfl (Zq rfl (Zk rfl (Ys (t:=68) rfl (fun h40=>?_) (fun h40=>?_))))))))))))))) <;> simp only [NM] at h40
  ·refine ZE rfl (YH rfl (YH rfl (YH rfl (YH rfl (ZC rfl (Zq rfl (Zk rfl (Zg rfl (ZI ?_)))))))))
   rw [WJ (by omega) (by omega)]
   rw [show Xk P s t=true by assumption]
   rw [show YT P t=false by assumption]
   rw [ZaV (show We P t=Y5 1 by assumption)]
   rfl
  refine Yb rfl (Yo rfl rfl ZO (Yb rfl (Zj rfl (Yb rfl (Yt rfl (YG (Xr P _)) rfl rfl rfl (Yb rfl (Zk rfl (Ys (t:=72) rfl (fun h41=>?_) (fun h41=>?_)))))))))
  ·refine Yb rfl (Zj rfl (Yb rfl (Yd (o':=130) rfl rfl rfl (Yb rfl (Ym (x:=P 130) rfl rfl ZO (rfl) (Yb rfl (Zr rfl (Yb rfl (Zq rfl (Zq rfl (Zk rfl (Zg rfl (ZI ?_)))))))))))))
   rw [WJ (by omega) (by omega)]
   rw [show Xk P s t=true by assumption]
   rw [show YT P t=false by assumption]
   rw [show YN P t=true by assumption]
   rw [ZaT (show ¬ We P t=Y5 1 by assumption)]
   rfl
  refine Ya rfl rfl (ZD rfl (ZC rfl (Yb rfl (Zq rfl (Zq rfl (Zk rfl (Zg rfl (ZI ?_))))))))
  rw [WJ (by omega) (by omega)]
  rw [show Xk P s t=true by assumption]
  rw [show YT P t=false by assumption]
  rw [show YN P t=false by assumption]
  rw [ZaT (show ¬ We P t=Y5 1 by assumption)]
  rfl
 change YT P t=true at h39
 refine ZE rfl (ZD rfl (Zq rfl (Zk rfl (Yb rfl (Yo rfl rfl ZO (Yb rfl (Zj rfl (Yb rfl (Yt rfl (YG (Xr P _)) rfl rfl rfl (Yb rfl (Zk rfl (Ys (t:=72) rfl (fun h42=>?_) (fun h42=>?_)))))))))))))
 ·refine Yb rfl (Zj rfl (Yb rfl (Yd (o':=130) rfl rfl rfl (Yb rfl (Ym (x:=P 130) rfl rfl ZO (rfl) (Yb rfl (Zr rfl (Yb rfl (Zq rfl (Zq rfl (Zk rfl (Zg rfl (ZI ?_)))))))))))))
  rw [WJ (by omega) (by omega)]
  rw [show Xk P s t=true by assumption]
  rw [show YT P t=true by assumption]
  rw [show YN P t=true by assumption]
  rfl
 refine Ya rfl rfl (ZD rfl (ZC rfl (Yb rfl (Zq rfl (Zq rfl (Zk rfl (Zg rfl (ZI ?_))))))))
 rw [WJ (by omega) (by omega)]
 rw [show Xk P s t=true by assumption]
 rw [show YT P t=true by assumption]
 rw [show YN P t=false by assumption]
 rfl
theorem j5 (P:Nat->Int) (s t:Int) (hs:0<=s/\s < 64) (ht:0<=t/\t < 64) (hc:P (sqI s+1)=1):WR AM 170 [.agg 133 (ia P),.s (.int .i64 s),.s (.int .i64 t)] [] (fun v _ _=>v=.s (.bool (goC P s t 1))):=by
 refine YJ (a:=a170) rfl rfl (YI _) (ZQ rfl) (m:=0) rfl (Ze (YC rfl (Yq rfl (Zf (Zj rfl (Zy rfl (Zw rfl rfl rfl (Yd rfl rfl rfl (Ym (x:=1) rfl rfl ZM (hc) (Zj rfl (Zf (Yq rfl (Yq rfl (Yq rfl (Yc (Ye (Ze (Zj rfl (Yr rfl rfl (K5 (by omega)) (Yc (ZA rfl (Yf (Yq rfl (Yq rfl (Yq rfl (Yc (Ye (Ze (Zj rfl ?_)))))))))))))))))))))))))))))
 refine Zj rfl (Zr rfl (Zk rfl (Ys (t:=22) rfl (fun h43=>?_) (fun h43=>?_)))) <;> simp only [NM] at h43
 ·refine ZD rfl (ZC rfl (Zq rfl (Zk rfl (ZD rfl (ZC rfl (Zq rfl (Yc (ZA rfl (Ze (Yq rfl (Zg rfl (ZI ?_))))))))))))
  unfold goC
  rw [Za8 (by omega)]
 refine Yb rfl (Yd (o':=129) rfl rfl rfl (Yb rfl (Ym (x:=P 129) rfl rfl ZM (rfl) (Yb rfl (Zr rfl (Zq rfl (Zk rfl (Ys (t:=27) rfl (fun h44=>?_) (fun h44=>?_))))))))) <;> simp only [NM] at h44
 ·refine ZD rfl (ZC rfl (Zq rfl (Yc (ZA rfl (Ze (Yq rfl (Zg rfl (ZI ?_))))))))
  unfold goC
  rw [Za8 (by omega)]
 refine Yb rfl (Yd (o':=129) rfl rfl rfl (Yb rfl (Ym (x:=P 129) rfl rfl ZM (rfl) (Yb rfl (Zr rfl (Zq rfl (Yc (Yj rfl (fun h45=>?_) (fun h45=>?_))))))))) <;> simp only [NM] at h45
 ·refine Ze (Yq rfl (Zg rfl (ZI ?_)))
  unfold goC
  rw [Za8 (by omega)]
 refine Yh (Ze ?_)
 obtain rfl:s=60:=by omega
 refine Zj rfl (YB rfl (.one rfl (.one rfl .nil)) (Yy (Yz rfl rfl rfl rfl .here (Yc (Ye (Ze (Zj rfl (Zj rfl (Zs rfl rfl (Zr rfl (Yc (Yj rfl (fun h46=>?_) (fun h46=>?_))))))))))))) <;> simp only [NM] at h46
 ·refine Ye (Yg (Yd (o':=129) rfl rfl rfl (Ym (x:=P 129) rfl rfl ZN (rfl) (Zj rfl (Zu rfl rfl (Zv rfl rfl (Zr rfl (Zk rfl (Ys (t:=44) rfl (fun h47=>?_) (fun h47=>?_)))))))))) <;> simp only [NM] at h47
  ·refine Yb rfl (Zj rfl (Yb rfl (Zs rfl rfl (Yb rfl (Zy rfl (Yb rfl (Zw rfl rfl rfl (Yb rfl (Yp rfl rfl ZN (Yb rfl (Yo rfl rfl ZM (Yb rfl (Yw rfl rfl (Zq rfl (Zk rfl (Ys (t:=53) rfl (fun h48=>?_) (fun h48=>?_))))))))))))))))) <;> simp only [NM] at h48
   ·rw [JW] at h48
    refine Yb rfl (Yo rfl rfl ZN (Yb rfl (Zj rfl (Yb rfl (Zs rfl rfl (Yb rfl (Yt rfl (YG (Xr P _)) rfl rfl rfl (Zq rfl (Zk rfl (Ys (t:=59) rfl (fun h49=>?_) (fun h49=>?_)))))))))))
    ·refine Yb rfl (Yo rfl rfl ZN (Yb rfl (Zj rfl (Yb rfl (Zs rfl rfl (Yb rfl (Yt rfl (YG (Xr P _)) rfl rfl rfl (Zq rfl (Zk rfl (Zg rfl (ZI ?_)))))))))))
     unfold goC
     rw [Za7 (by omega)]
     rw [Za8 (by assumption)]
     simp_all [YS]
    refine Ya rfl rfl (ZD rfl (ZC rfl (Zq rfl (Zk rfl (Zg rfl (ZI ?_))))))
    unfold goC
    rw [Za7 (by omega)]
    rw [Za8 (by assumption)]
    simp_all [YS]
   rw [JW] at h48
   refine ZE rfl (Zq rfl (Zk rfl (ZE rfl (Zq rfl (Zk rfl (Zg rfl (ZI ?_)))))))
   unfold goC
   rw [Za7 (by omega)]
   rw [Za8 (by assumption)]
   simp_all [YS]
  refine ZE rfl (ZD rfl (ZC rfl (Zq rfl (Zk rfl (ZE rfl (Zq rfl (Zk rfl (ZE rfl (Zq rfl (Zk rfl (Zg rfl (ZI ?_))))))))))))
  unfold goC
  rw [Za7 (by omega)]
  rw [Za8 (by assumption)]
  simp_all [YS]
 refine Yh (Ye (Yg (Zj rfl (Zj rfl (Zt rfl rfl (Zr rfl (Zk rfl (Ys (t:=69) rfl (fun h50=>?_) (fun h50=>?_))))))))) <;> simp only [NM] at h50
 ·refine Yb rfl (Yd (o':=129) rfl rfl rfl (Yb rfl (Ym (x:=P 129) rfl rfl ZN (rfl) (Yb rfl (Zj rfl (Yb rfl (Zu rfl rfl (Yb rfl (Zv rfl rfl (Yb rfl (Zr rfl (Zq rfl (Zk rfl (Ys (t:=77) rfl (fun h51=>?_) (fun h51=>?_))))))))))))))) <;> simp only [NM] at h51
  ·refine Yb rfl (Zj rfl (Yb rfl (Zt rfl rfl (Yb rfl (Zy rfl (Yb rfl (Zw rfl rfl rfl (Yb rfl (Yp rfl rfl ZN (Yb rfl (Yo rfl rfl ZM (Yb rfl (Yw rfl rfl (Zq rfl (Zk rfl (Ys (t:=86) rfl (fun h52=>?_) (fun h52=>?_))))))))))))))))) <;> simp only [NM] at h52
   ·rw [JW] at h52
    refine Yb rfl (Yo rfl rfl ZN (Yb rfl (Zj rfl (Yb rfl (Zt rfl rfl (Yb rfl (Yt rfl (YG (Xr P _)) rfl rfl rfl (Zq rfl (Zk rfl (Ys (t:=92) rfl (fun h53=>?_) (fun h53=>?_)))))))))))
    ·refine Yb rfl (Yo rfl rfl ZN (Yb rfl (Zj rfl (Yb rfl (Zt rfl rfl (Yb rfl (Yt rfl (YG (Xr P _)) rfl rfl rfl (Zq rfl (Zk rfl (Ys (t:=98) rfl (fun h54=>?_) (fun h54=>?_)))))))))))
     ·refine Yb rfl (Yo rfl rfl ZN (Yb rfl (Zj rfl (Yb rfl (Zt rfl rfl (Yb rfl (Yt rfl (YG (Xr P _)) rfl rfl rfl (Zq rfl (Zk rfl (Zg rfl (ZI ?_)))))))))))
      unfold goC
      rw [Za7 (by omega)]
      rw [Za7 (by assumption)]
      simp_all [YS]
     refine Ya rfl rfl (ZD rfl (ZC rfl (Zq rfl (Zk rfl (Zg rfl (ZI ?_))))))
     unfold goC
     rw [Za7 (by omega)]
     rw [Za7 (by assumption)]
     simp_all [YS]
    refine Ya rfl rfl (ZD rfl (ZC rfl (Zq rfl (Zk rfl (ZE rfl (Zq rfl (Zk rfl (Zg rfl (ZI ?_)))))))))
    unfold goC
    rw [Za7 (by omega)]
    rw [Za7 (by assumption)]
    simp_all [YS]
   rw [JW] at h52
   refine ZE rfl (Zq rfl (Zk rfl (ZE rfl (Zq rfl (Zk rfl (ZE rfl (Zq rfl (Zk rfl (Zg rfl (ZI ?_))))))))))
   unfold goC
   rw [Za7 (by omega)]
   rw [Za7 (by assumption)]
   simp_all [YS]
  refine ZE rfl (ZD rfl (ZC rfl (Zq rfl (Zk rfl (ZE rfl (Zq rfl (Zk rfl (ZE rfl (Zq rfl (Zk rfl (ZE rfl (Zq rfl (Zk rfl (Zg rfl (ZI ?_)))))))))))))))
  unfold goC
  rw [Za7 (by omega)]
  rw [Za7 (by assumption)]
  simp_all [YS]
 refine ZE rfl (ZD rfl (Zq rfl (Zk rfl (ZE rfl (ZD rfl (ZC rfl (Zq rfl (Zk rfl (ZE rfl (Zq rfl (Zk rfl (ZE rfl (Zq rfl (Zk rfl (ZE rfl (Zq rfl (Zk rfl (Zg rfl (ZI ?_)))))))))))))))))))
 unfold goC
 rw [Za7 (by omega)]
 rw [Za7 (by assumption)]
 simp_all [YS]
theorem pawn_is (P:Nat->Int) (s t:Int) (hs:0<=s/\s < 64) (ht:0<=t/\t < 64) (hc:P (sqI s+1)=0\/P (sqI s+1)=1):RF AM 169 [.agg 133 (ia P),.s (.int .i64 s),.s (.int .i64 t)] (.s (.bool (goP P s t (P (sqI s+1))))):=by
 rcases hc with hc | hc
 ·rw [hc]; exact YG (tO P s t hs ht hc)
 rw [hc]; exact YG (tS P s t hs ht hc)
theorem qd (P:Nat->Int) (s t:Int) (hs:0<=s/\s < 64) (ht:0<=t/\t < 64) (hc:P (sqI s+1)=0\/P (sqI s+1)=1):RF AM 170 [.agg 133 (ia P),.s (.int .i64 s),.s (.int .i64 t)] (.s (.bool (goC P s t (P (sqI s+1))))):=by
 rcases hc with hc | hc
 ·rw [hc]; exact YG (jz P s t hs ht hc)
 rw [hc]; exact YG (j5 P s t hs ht hc)
theorem wb {P:Nat->Int} {s t:Int} (h:YZ (P (sqI s)) (P (sqI s+1))=false\/P (sqI s+1)≠P 128\/s=t):Vd P s t=false:=by
 unfold Vd Ww
 rcases h with h | h | h
 ·rw [h]; rfl
 ·rw [ZaT h]; simp
 rw [ZaT (show ¬ s≠t from fun q=>q h)]; simp
theorem KK {P:Nat->Int} {s t:Int} (h1:YZ (P (sqI s)) (P (sqI s+1))=true) (h2:P (sqI s+1)=P 128) (h3:¬ s=t):Vd P s t=goK P s t (P (sqI s)) (P (sqI s+1)):=by
 unfold Vd Ww
 rw [h1,ZaV h2,ZaV h3]; rfl
theorem yy {k c:Int} (h:YZ k c=true):c=0\/c=1:=(of_decide_eq_true h).2.2
theorem sU (P:Nat->Int) (s t:Int) (hs:0<=s/\s < 64) (ht:0<=t/\t < 64):WR AM 143 [.agg 133 (ia P),.s (.int .i64 s),.s (.int .i64 t)] [] (fun v _ _=>v=.s (.bool (Vd P s t))):=by
 refine YJ (a:=a143) rfl rfl (YI _) (ZQ rfl) (m:=0) rfl (Ze (YC rfl (Yq rfl (Zf (Zj rfl (Zy rfl (Zw rfl rfl rfl (Yp rfl rfl ZM (Yy (Yz rfl rfl rfl rfl .here (Yc (Ye (Ze (Yo rfl rfl ZM (Yt rfl (show RF AM 95 _ (.s (.bool (YZ (P (sqI s)) (P (sqI s+1))))) from YG (TI _)) rfl rfl rfl (Yv (r:=.bool _) rfl rfl (Zk rfl (Ys (t:=16) rfl (fun h1=>?_) (fun h1=>?_))))))))))))))))))) <;> simp only [NM] at h1
 ·refine ZE rfl (ZC rfl (Zq rfl (Zk rfl (ZD rfl (ZC rfl (Zq rfl (Yc (ZA rfl (Ze (Yq rfl (Zg rfl (ZI ?_))))))))))))
  exact (wb (by first | exact .inl (by assumption) | exact .inr (.inl (by assumption)) | exact .inr (.inr (by assumption)))).symm
 refine Yb rfl (Zz rfl (Yb rfl (Ym (x:=P (sqI s+1)) rfl rfl ZM (rfl) (Yb rfl (Yd (o':=128) rfl rfl rfl (Yb rfl (Ym (x:=P 128) rfl rfl ZN (rfl) (Yb rfl (Zr rfl (Zq rfl (Zk rfl (Ys (t:=23) rfl (fun h2=>?_) (fun h2=>?_))))))))))))) <;> simp only [NM] at h2
 ·refine ZD rfl (ZC rfl (Zq rfl (Yc (ZA rfl (Ze (Yq rfl (Zg rfl (ZI ?_))))))))
  exact (wb (by first | exact .inl (by assumption) | exact .inr (.inl (by assumption)) | exact .inr (.inr (by assumption)))).symm
 refine Yb rfl (Zj rfl (Yb rfl (Zj rfl (Yb rfl (Zr rfl (Zq rfl (Yc (Yj rfl (fun h3=>?_) (fun h3=>?_))))))))) <;> simp only [NM] at h3
 ·refine Ze (Yq rfl (Zg rfl (ZI ?_)))
  exact (wb (by first | exact .inl (by assumption) | exact .inr (.inl (by assumption)) | exact .inr (.inr (by assumption)))).symm
 refine Yh (Ye (Ze (Zy rfl (Ym (x:=P (sqI s)) rfl rfl ZM (rfl) (Zr rfl (Yc (Yj rfl (fun h4=>?_) (fun h4=>?_)))))))) <;> simp only [NM] at h4
 ·refine Ze (Yo rfl rfl ZN (Zj rfl (Zj rfl (Yt rfl (pawn_is P s t hs ht (yy (k:=P (sqI s)) (by assumption))) rfl rfl rfl (Zk rfl (Zg rfl (ZI ?_)))))))
  rw [KK (by assumption) (by assumption) (by assumption)]
  unfold goK
  rw [Za8 (by assumption)]
 refine Yh (Ze (Zj rfl (Zy rfl (Zw rfl rfl rfl (Yp rfl rfl ZN (Yy (Yz rfl rfl rfl rfl .here (Yc (Ye (Ze (Yo rfl rfl ZO (Zj rfl (Zj rfl (Yt rfl (YG (Kj P s t hs ht)) rfl rfl rfl (Zk rfl (Ys (t:=43) rfl (fun h5=>?_) (fun h5=>?_)))))))))))))))))
 ·refine Yb rfl (Yo rfl rfl ZM (Yb rfl (YB rfl .nil (Yb rfl (Yw rfl rfl (Yb rfl (Zk rfl (Ys (t:=47) rfl (fun h6=>?_) (fun h6=>?_))))))))) <;> simp only [NM] at h6
  ·change YT P t=true at h6
   refine ZE rfl (ZC rfl (Yb rfl (Zq rfl (Zq rfl (Yc (ZA rfl (Ze (Yq rfl (Zg rfl (ZI ?_))))))))))
   rw [KK (by assumption) (by assumption) (by assumption)]
   unfold goK
   rw [Za7 (by assumption)]
   unfold VS
   rw [show Xk P s t=true by assumption]
   rw [show YT P t=true by assumption]
   rfl
  change YT P t=false at h6
  refine Yb rfl (Zz rfl (Yb rfl (Ym (x:=We P t) rfl rfl ZM (rfl) (Yb rfl (Zz rfl (Yb rfl (Ym (x:=P (sqI s+1)) rfl rfl ZN (rfl) (Yb rfl (Zr rfl (Yb rfl (Zq rfl (Zq rfl (Yc (Yj rfl (fun h7=>?_) (fun h7=>?_))))))))))))))) <;> simp only [NM] at h7
  ·refine Ze (Yq rfl (Zg rfl (ZI ?_)))
   rw [KK (by assumption) (by assumption) (by assumption)]
   unfold goK
   rw [Za7 (by assumption)]
   unfold VS
   rw [show Xk P s t=true by assumption]
   rw [show YT P t=false by assumption]
   rw [ZaT (show ¬ We P t=P (sqI s+1) by assumption)]
   rfl
  refine Yh (Ze (Zy rfl (Ym (x:=P (sqI s)) rfl rfl ZN (rfl) (Zr rfl (Zk rfl (Ys (t:=58) rfl (fun h8=>?_) (fun h8=>?_))))))) <;> simp only [NM] at h8
  ·refine Yb rfl (Yo rfl rfl ZO (Yb rfl (Zj rfl (Yb rfl (Zj rfl (Yb rfl (Yt rfl (qd P s t hs ht (yy (k:=P (sqI s)) (by assumption))) rfl rfl rfl (Zq rfl (Zk rfl (Zg rfl (ZI ?_)))))))))))
   rw [KK (by assumption) (by assumption) (by assumption)]
   unfold goK
   rw [Za7 (by assumption)]
   unfold VS
   rw [show Xk P s t=true by assumption]
   rw [show YT P t=false by assumption]
   rw [ZaV (show We P t=P (sqI s+1) by assumption)]
   rw [ZaV (show P (sqI s)=6 by assumption)]
   rfl
  refine ZE rfl (Zq rfl (Zk rfl (Zg rfl (ZI ?_))))
  rw [KK (by assumption) (by assumption) (by assumption)]
  unfold goK
  rw [Za7 (by assumption)]
  unfold VS
  rw [show Xk P s t=true by assumption]
  rw [show YT P t=false by assumption]
  rw [ZaV (show We P t=P (sqI s+1) by assumption)]
  rw [ZaT (show ¬ P (sqI s)=6 by assumption)]
  rfl
 refine Ya rfl rfl (ZD rfl (ZC rfl (YH rfl (YH rfl (YH rfl (YH rfl (YH rfl (ZC rfl (Zq rfl (Yc (ZB rfl (Yh (Ze (Zy rfl (Ym (x:=P (sqI s)) rfl rfl ZN (rfl) (Zr rfl (Zk rfl (Ys (t:=58) rfl (fun h9=>?_) (fun h9=>?_))))))))))))))))))) <;> simp only [NM] at h9
 ·refine Yb rfl (Yo rfl rfl ZO (Yb rfl (Zj rfl (Yb rfl (Zj rfl (Yb rfl (Yt rfl (qd P s t hs ht (yy (k:=P (sqI s)) (by assumption))) rfl rfl rfl (Zq rfl (Zk rfl (Zg rfl (ZI ?_)))))))))))
  rw [KK (by assumption) (by assumption) (by assumption)]
  unfold goK
  rw [Za7 (by assumption)]
  unfold VS
  rw [show Xk P s t=false by assumption]
  rw [ZaV (show P (sqI s)=6 by assumption)]
  rfl
 refine ZE rfl (Zq rfl (Zk rfl (Zg rfl (ZI ?_))))
 rw [KK (by assumption) (by assumption) (by assumption)]
 unfold goK
 rw [Za7 (by assumption)]
 unfold VS
 rw [show Xk P s t=false by assumption]
 rw [ZaT (show ¬ P (sqI s)=6 by assumption)]
 rfl
def Wr (P:Nat->Int) (s:Int) (n:Nat):List Mv:=if 0<=s/\s < 64 then V5 P s n else []
theorem EA (P:Nat->Int) (s:Int) (n:Nat):V5 P s (n+1)=V5 P s n++if Vd P s n=true then toM s (P (sqI s)) (P (sqI s+1)) n else []:=by
 unfold V5 Wg
 rw [List.range_succ,List.map_append,List.flatMap_append]
 simp
theorem o7 {P:Nat->Int} {s:Int} {n:Nat} (h:Vd P s n=false):Wr P s (n+1)=Wr P s n:=by
 unfold Wr
 rw [EA,h]; simp
theorem UH {P:Nat->Int} {s:Int} {n:Nat} (hs:0<=s/\s < 64) (h:Vd P s n=true):YY (Wr P s (n+1))=YY (Wr P s n)++YY (toM s (P (sqI s)) (P (sqI s+1)) n):=by
 unfold Wr
 rw [Za8 hs,Za8 hs,EA,Za8 h,Ki]
theorem Dc (P:Nat->Int) (s:Int):∀ n:Nat,(Wr P s n).length<=n*4
 | 0=>by unfold Wr; split <;> exact Zbt _
 | n+1=>by
  have ih:=Dc P s n
  unfold Wr at ih ⊢
  split
  ·rename_i h
   rw [Za8 h] at ih
   rw [EA,ZaG]
   have:(if Vd P s n=true then toM s (P (sqI s)) (P (sqI s+1)) n else []).length<=4:=by
    split
    ·exact uU _ _ _ _
    exact Zbt _
   omega
  exact Zbt _
theorem VC (P:Nat->Int) (s:Int) (n:Nat):(YY (Wr P s n)).length<=n*12:=by
 have:=Dc P s n
 rw [Xj]; omega
theorem x4 {s k c t:Int} (h:k=1/\t / 8=7*(1 - c)):YY (toM s k c t)=Qb s t 4:=by
 unfold toM wH
 rw [Za8 (ZaV h)]; rfl
theorem TB {s k c t:Int} (h:¬ (k=1/\t / 8=7*(1 - c))):YY (toM s k c t)=[s,t,0]:=by
 unfold toM wH
 rw [Za7 (by rw [ZaL]; exact h)]; rfl
theorem rj {P:Nat->Int} {s t:Int} (h:Vd P s t=true):P (sqI s+1)=0\/P (sqI s+1)=1:=(Ja h).2.1
theorem o0 (P:Nat->Int) (s:Int):RtR AM 116 3 [.agg 133 (ia P),.s (.int .i64 s)] [] (YY (Wr P s 64)) []:=by
 refine Vs (YJ (a:=a116) rfl rfl (YI _) (ZQ rfl) (m:=0) rfl (Ze (YC rfl (Yq rfl (Zf (Yq rfl (Yc (Ye (Ze (Yq rfl (Yc (Yk (Xm (.refl _) ?_)))))))))))))
 refine Xp (fun m f _ L=>∃ (i:Nat) (vO:V) (ownO:HA),(i<=64)/\(m=64 - i)/\(Rw 3 (YY (Wr P s i)) vO ownO)/\(f 1=.s (.int .i64 s))/\(f 2=.ptr 0 0 133)/\(f 5=vO)/\(f 6=.s (.int .i64 i))/\(L=(ownO++[(0,.sc .var 133 (ia P))]))) (fun m f nb L hI=>?_) (64) (⟨0,.snil,[],by omega,rfl,.nil (by unfold Wr; split <;> rfl),rfl,rfl,rfl,rfl,rfl⟩)
 obtain ⟨i,vO,ownO,hi,hm,hrO,k1,k2,k5,k6,rfl⟩:=hI
 refine Za 1 k1 (Za 2 k2 (Za 5 k5 (Za 6 k6 (Ye (Ze (Zj rfl (Zr rfl (Zk rfl (Ys (t:=11) rfl (fun h10=>?_) (fun h10=>?_)))))))))) <;> simp only [NM] at h10
 ·refine Yb rfl (Zj rfl (Yb rfl (Zr rfl (Zq rfl (Zk rfl (Ys (t:=15) rfl (fun h11=>?_) (fun h11=>?_))))))) <;> simp only [NM] at h11
  ·refine Yb rfl (Zj rfl (Yb rfl (Zr rfl (Zq rfl (Yc (Yj rfl (fun h12=>?_) (fun h12=>?_))))))) <;> simp only [NM] at h12
   ·refine Yh (Ye (Yk (Ye (Ze (Yo rfl rfl (Zaz _ ZM) (Zj rfl (Zj rfl (Yt rfl (YG (sU P s i ⟨by omega,by omega⟩ (by omega))) rfl rfl rfl (Yv (r:=.bool _) rfl rfl (Yc (Yj rfl (fun h13=>?_) (fun h13=>?_)))))))))))) <;> simp only [NM] at h13
    ·refine YX (Xe (Yf (Zj rfl (Zs rfl rfl (Zj rfl (Yc (⟨64 - (i+1),_,by omega,(ZaE (.refl _) (.refl _)),i+1,_,_,by omega,rfl,?_,rfl,rfl,rfl,rfl,rfl⟩)))))))
     (rw [o7 (by assumption)]; exact hrO)
    refine Yh (Ze ?_)
    have hgo:Vd P s i=true:=by assumption
    have hgs:=rj hgo
    refine Zj rfl (Zy rfl (Zw rfl rfl rfl (Yp rfl rfl (Zaz _ ZM) (Yy (Yz rfl rfl rfl rfl .here (Zf (Zy rfl (Ym (x:=P (sqI s)) rfl rfl ZM (rfl) (Zr rfl (Zk rfl (Ys (t:=33) rfl (fun h14=>?_) (fun h14=>?_)))))))))))) <;> simp only [NM] at h14
    ·refine Yb rfl (Zz rfl (Yb rfl (Ym (x:=P (sqI s+1)) rfl rfl ZM (rfl) (Yb rfl (Zr rfl (Yb rfl (Zk rfl (Ys (t:=37) rfl (fun h15=>?_) (fun h15=>?_))))))))) <;> simp only [NM] at h15
     ·refine Yb rfl (Zj rfl (Yb rfl (Zu rfl rfl (Yb rfl (Zr rfl (Yb rfl (Zq rfl (Yb rfl (Zk rfl (Ys (t:=42) rfl (fun h16=>?_) (fun h16=>?_))))))))))) <;> simp only [NM] at h16
      ·refine ZE rfl (YH rfl (YH rfl (YH rfl (ZC rfl (Yb rfl (Zq rfl (Zq rfl (Yc (ZA rfl (Ze (Yq rfl (Yc (Yk (Xm (.cons _ (ZaE (.refl _) (.refl _))) (Xp (fun m f _ L=>∃ (j:Nat) (vP:V) (ownP:HA),(j<=4)/\(m=4 - j)/\(Rw 3 (YY (Wr P s i)++Qb s i j) vP ownP)/\(f 1=.s (.int .i64 s))/\(f 2=.ptr 0 0 133)/\(f 5=vP)/\(f 6=.s (.int .i64 i))/\(f 8=.s (.int .i64 (2+(j:Int))))/\(L=(ownP++[(0,.sc .var 133 (ia P))]))) (fun m f nb L hI=>?_) (4) (⟨0,vO,ownO,by omega,by omega,by rw [show Qb s i 0=[] from rfl,ZaQ]; exact hrO,rfl,rfl,rfl,rfl,rfl,rfl⟩))))))))))))))))
       obtain ⟨j,vP,ownP,hj,hm2,hrP,k1,k2,k5,k6,k8,rfl⟩:=hI
       refine Za 1 k1 (Za 2 k2 (Za 5 k5 (Za 6 k6 (Za 8 k8 (Ye (Ze (Zj rfl (Zr rfl (Yc (Yj rfl (fun h17=>?_) (fun h17=>?_))))))))))) <;> simp only [NM] at h17
       ·refine Yh (Ye (Yk (Yf (Yq (v:=vP) rfl (Zj rfl (Zj rfl (Zj rfl (YB rfl (.one rfl (.one rfl (.one rfl .nil))) (Wo rfl (.agg rfl .nil) (XK (c:=[s,(i:Int),2+(j:Int)]) rfl hrP rfl ZM (.there .here) (by decide) (by decide) rfl ((QH rfl rfl rfl)) (by have e1:=VC P s i; have e2:=TV s i j; rw [ZaG]; omega) (fun v1 own1 n1 hr1=>Yq (v:=v1) rfl (Yc (Yf (Zj rfl (Zs rfl rfl (Zj rfl (Yc (⟨4 - (j+1),_,by omega,(ZaE (.refl _) (.cons _ (.refl _))),j+1,_,_,by omega,rfl,?_,rfl,rfl,rfl,rfl,by rw [show (2:Int)+((j+1:Nat):Int)=2+(j:Int)+1 by omega]; rfl,rfl⟩))))))))))))))))))
        rw [RT _ _ _ (by omega),<- ZaJ]; exact hr1
       refine YX (Xe (Yf (Zj rfl (Zs rfl rfl (Zj rfl (Yc (⟨64 - (i+1),_,by omega,(ZaE (.refl _) (.refl _)),i+1,_,_,by omega,rfl,?_,rfl,rfl,rfl,rfl,rfl⟩)))))))
       (rw [UH ⟨by omega,by omega⟩ hgo,x4 (by omega)]; obtain rfl:j=4:=(by omega); exact hrP)
      refine Yb rfl (Zz rfl (Yb rfl (Ym (x:=P (sqI s+1)) rfl rfl ZM (rfl) (Yb rfl (Zr rfl (Yb rfl (Zk rfl (Ys (t:=46) rfl (fun h18=>?_) (fun h18=>?_))))))))) <;> simp only [NM] at h18
      ·refine Yb rfl (Zj rfl (Yb rfl (Zu rfl rfl (Yb rfl (Zr rfl (Yb rfl (Zq rfl (Yb rfl (Zq rfl (Zq rfl (Yc (Yj rfl (fun h19=>?_) (fun h19=>?_))))))))))))) <;> simp only [NM] at h19
       ·refine Ze (Yq rfl (Yc (Yk (Xm (.cons _ (ZaE (.refl _) (.refl _))) (Xp (fun m f _ L=>∃ (j:Nat) (vP:V) (ownP:HA),(j<=4)/\(m=4 - j)/\(Rw 3 (YY (Wr P s i)++Qb s i j) vP ownP)/\(f 1=.s (.int .i64 s))/\(f 2=.ptr 0 0 133)/\(f 5=vP)/\(f 6=.s (.int .i64 i))/\(f 8=.s (.int .i64 (2+(j:Int))))/\(L=(ownP++[(0,.sc .var 133 (ia P))]))) (fun m f nb L hI=>?_) (4) (⟨0,vO,ownO,by omega,by omega,by rw [show Qb s i 0=[] from rfl,ZaQ]; exact hrO,rfl,rfl,rfl,rfl,rfl,rfl⟩))))))
        obtain ⟨j,vP,ownP,hj,hm2,hrP,k1,k2,k5,k6,k8,rfl⟩:=hI
        refine Za 1 k1 (Za 2 k2 (Za 5 k5 (Za 6 k6 (Za 8 k8 (Ye (Ze (Zj rfl (Zr rfl (Yc (Yj rfl (fun h20=>?_) (fun h20=>?_))))))))))) <;> simp only [NM] at h20
        ·refine Yh (Ye (Yk (Yf (Yq (v:=vP) rfl (Zj rfl (Zj rfl (Zj rfl (YB rfl (.one rfl (.one rfl (.one rfl .nil))) (Wo rfl (.agg rfl .nil) (XK (c:=[s,(i:Int),2+(j:Int)]) rfl hrP rfl ZM (.there .here) (by decide) (by decide) rfl ((QH rfl rfl rfl)) (by have e1:=VC P s i; have e2:=TV s i j; rw [ZaG]; omega) (fun v2 own2 n2 hr2=>Yq (v:=v2) rfl (Yc (Yf (Zj rfl (Zs rfl rfl (Zj rfl (Yc (⟨4 - (j+1),_,by omega,(ZaE (.refl _) (.cons _ (.refl _))),j+1,_,_,by omega,rfl,?_,rfl,rfl,rfl,rfl,by rw [show (2:Int)+((j+1:Nat):Int)=2+(j:Int)+1 by omega]; rfl,rfl⟩))))))))))))))))))
         rw [RT _ _ _ (by omega),<- ZaJ]; exact hr2
        refine YX (Xe (Yf (Zj rfl (Zs rfl rfl (Zj rfl (Yc (⟨64 - (i+1),_,by omega,(ZaE (.refl _) (.refl _)),i+1,_,_,by omega,rfl,?_,rfl,rfl,rfl,rfl,rfl⟩)))))))
        (rw [UH ⟨by omega,by omega⟩ hgo,x4 (by omega)]; obtain rfl:j=4:=(by omega); exact hrP)
       refine Yf (Yq (v:=vO) rfl (Zj rfl (Zj rfl (YB rfl (.one rfl (.one rfl .nil)) (Wo rfl (.agg rfl .nil) (XK (c:=[s,(i:Int),0]) rfl hrO rfl ZM (.there (.there .here)) (by decide) (by decide) rfl ((QH rfl rfl rfl)) (by have:=VC P s i; omega) (fun v3 own3 n3 hr3=>Yq (v:=v3) rfl (Yc (Yf (Zj rfl (Zs rfl rfl (Zj rfl (Yc (⟨64 - (i+1),_,by omega,(ZaE (.refl _) (.cons _ (.cons _ (.refl _)))),i+1,_,_,by omega,rfl,?_,rfl,rfl,rfl,rfl,rfl⟩))))))))))))))
       (rw [UH ⟨by omega,by omega⟩ hgo,TB (by omega)]; exact hr3)
      refine ZD rfl (ZC rfl (Yb rfl (Zq rfl (Yb rfl (Zq rfl (Zq rfl (Yc (ZB rfl (Yf (Yq (v:=vO) rfl (Zj rfl (Zj rfl (YB rfl (.one rfl (.one rfl .nil)) (Wo rfl (.agg rfl .nil) (XK (c:=[s,(i:Int),0]) rfl hrO rfl ZM (.there (.there .here)) (by decide) (by decide) rfl ((QH rfl rfl rfl)) (by have:=VC P s i; omega) (fun v4 own4 n4 hr4=>Yq (v:=v4) rfl (Yc (Yf (Zj rfl (Zs rfl rfl (Zj rfl (Yc (⟨64 - (i+1),_,by omega,(ZaE (.refl _) (.cons _ (.cons _ (.refl _)))),i+1,_,_,by omega,rfl,?_,rfl,rfl,rfl,rfl,rfl⟩)))))))))))))))))))))))
      (rw [UH ⟨by omega,by omega⟩ hgo,TB (by omega)]; exact hr4)
     refine ZD rfl (ZC rfl (Yb rfl (Zq rfl (Yb rfl (Zk rfl (Yb rfl (Zz rfl (Yb rfl (Ym (x:=P (sqI s+1)) rfl rfl ZM (rfl) (Yb rfl (Zr rfl (Yb rfl (Zk rfl (Ys (t:=46) rfl (fun h21=>?_) (fun h21=>?_))))))))))))))) <;> simp only [NM] at h21
     ·refine Yb rfl (Zj rfl (Yb rfl (Zu rfl rfl (Yb rfl (Zr rfl (Yb rfl (Zq rfl (Yb rfl (Zq rfl (Zq rfl (Yc (Yj rfl (fun h22=>?_) (fun h22=>?_))))))))))))) <;> simp only [NM] at h22
      ·refine Ze (Yq rfl (Yc (Yk (Xm (.cons _ (ZaE (.refl _) (.refl _))) (Xp (fun m f _ L=>∃ (j:Nat) (vP:V) (ownP:HA),(j<=4)/\(m=4 - j)/\(Rw 3 (YY (Wr P s i)++Qb s i j) vP ownP)/\(f 1=.s (.int .i64 s))/\(f 2=.ptr 0 0 133)/\(f 5=vP)/\(f 6=.s (.int .i64 i))/\(f 8=.s (.int .i64 (2+(j:Int))))/\(L=(ownP++[(0,.sc .var 133 (ia P))]))) (fun m f nb L hI=>?_) (4) (⟨0,vO,ownO,by omega,by omega,by rw [show Qb s i 0=[] from rfl,ZaQ]; exact hrO,rfl,rfl,rfl,rfl,rfl,rfl⟩))))))
       obtain ⟨j,vP,ownP,hj,hm2,hrP,k1,k2,k5,k6,k8,rfl⟩:=hI
       refine Za 1 k1 (Za 2 k2 (Za 5 k5 (Za 6 k6 (Za 8 k8 (Ye (Ze (Zj rfl (Zr rfl (Yc (Yj rfl (fun h23=>?_) (fun h23=>?_))))))))))) <;> simp only [NM] at h23
       ·refine Yh (Ye (Yk (Yf (Yq (v:=vP) rfl (Zj rfl (Zj rfl (Zj rfl (YB rfl (.one rfl (.one rfl (.one rfl .nil))) (Wo rfl (.agg rfl .nil) (XK (c:=[s,(i:Int),2+(j:Int)]) rfl hrP rfl ZM (.there .here) (by decide) (by decide) rfl ((QH rfl rfl rfl)) (by have e1:=VC P s i; have e2:=TV s i j; rw [ZaG]; omega) (fun v5 own5 n5 hr5=>Yq (v:=v5) rfl (Yc (Yf (Zj rfl (Zs rfl rfl (Zj rfl (Yc (⟨4 - (j+1),_,by omega,(ZaE (.refl _) (.cons _ (.refl _))),j+1,_,_,by omega,rfl,?_,rfl,rfl,rfl,rfl,by rw [show (2:Int)+((j+1:Nat):Int)=2+(j:Int)+1 by omega]; rfl,rfl⟩))))))))))))))))))
        rw [RT _ _ _ (by omega),<- ZaJ]; exact hr5
       refine YX (Xe (Yf (Zj rfl (Zs rfl rfl (Zj rfl (Yc (⟨64 - (i+1),_,by omega,(ZaE (.refl _) (.refl _)),i+1,_,_,by omega,rfl,?_,rfl,rfl,rfl,rfl,rfl⟩)))))))
       (rw [UH ⟨by omega,by omega⟩ hgo,x4 (by omega)]; obtain rfl:j=4:=(by omega); exact hrP)
      refine Yf (Yq (v:=vO) rfl (Zj rfl (Zj rfl (YB rfl (.one rfl (.one rfl .nil)) (Wo rfl (.agg rfl .nil) (XK (c:=[s,(i:Int),0]) rfl hrO rfl ZM (.there (.there .here)) (by decide) (by decide) rfl ((QH rfl rfl rfl)) (by have:=VC P s i; omega) (fun v6 own6 n6 hr6=>Yq (v:=v6) rfl (Yc (Yf (Zj rfl (Zs rfl rfl (Zj rfl (Yc (⟨64 - (i+1),_,by omega,(ZaE (.refl _) (.cons _ (.cons _ (.refl _)))),i+1,_,_,by omega,rfl,?_,rfl,rfl,rfl,rfl,rfl⟩))))))))))))))
      (rw [UH ⟨by omega,by omega⟩ hgo,TB (by omega)]; exact hr6)
     refine ZD rfl (ZC rfl (Yb rfl (Zq rfl (Yb rfl (Zq rfl (Zq rfl (Yc (ZB rfl (Yf (Yq (v:=vO) rfl (Zj rfl (Zj rfl (YB rfl (.one rfl (.one rfl .nil)) (Wo rfl (.agg rfl .nil) (XK (c:=[s,(i:Int),0]) rfl hrO rfl ZM (.there (.there .here)) (by decide) (by decide) rfl ((QH rfl rfl rfl)) (by have:=VC P s i; omega) (fun v7 own7 n7 hr7=>Yq (v:=v7) rfl (Yc (Yf (Zj rfl (Zs rfl rfl (Zj rfl (Yc (⟨64 - (i+1),_,by omega,(ZaE (.refl _) (.cons _ (.cons _ (.refl _)))),i+1,_,_,by omega,rfl,?_,rfl,rfl,rfl,rfl,rfl⟩)))))))))))))))))))))))
     (rw [UH ⟨by omega,by omega⟩ hgo,TB (by omega)]; exact hr7)
    refine ZE rfl (YH rfl (YH rfl (YH rfl (ZD rfl (YH rfl (YH rfl (YH rfl (YH rfl (YH rfl (YH rfl (YH rfl (YH rfl (ZC rfl (Zq rfl (Yc (ZB rfl (Yf (Yq (v:=vO) rfl (Zj rfl (Zj rfl (YB rfl (.one rfl (.one rfl .nil)) (Wo rfl (.agg rfl .nil) (XK (c:=[s,(i:Int),0]) rfl hrO rfl ZM (.there (.there .here)) (by decide) (by decide) rfl ((QH rfl rfl rfl)) (by have:=VC P s i; omega) (fun v8 own8 n8 hr8=>Yq (v:=v8) rfl (Yc (Yf (Zj rfl (Zs rfl rfl (Zj rfl ?_)))))))))))))))))))))))))))))
    refine Yc (⟨64 - (i+1),_,by omega,(ZaE (.refl _) (.cons _ (.cons _ (.refl _)))),i+1,_,_,by omega,rfl,?_,rfl,rfl,rfl,rfl,rfl⟩)
    (rw [UH ⟨by omega,by omega⟩ hgo,TB (by omega)]; exact hr8)
   refine YX (Xe (Ze (Yq (v:=vO) rfl (Yq (v:=vO) rfl (Yc (Yi (⟨_,YK (v:=vO) rfl (YP),?_⟩)))))))
   have e:Wr P s 64=Wr P s i:=by
    by_cases e:0<=s/\s < 64
    · obtain rfl : i = 64 := by omega
      rfl
    unfold Wr; rw [Za7 e,Za7 e]
   exact ⟨_,e ▸ hrO,(fun _ h=>(ZaC _ h))⟩
  refine ZD rfl (Zq rfl (Yc (ZB rfl (YX (Xe (Ze (Yq (v:=vO) rfl (Yq (v:=vO) rfl (Yc (Yi (⟨_,YK (v:=vO) rfl (YP),?_⟩)))))))))))
  have e:Wr P s 64=Wr P s i:=by
   by_cases e:0<=s/\s < 64
   · obtain rfl : i = 64 := by omega
     rfl
   unfold Wr; rw [Za7 e,Za7 e]
  exact ⟨_,e ▸ hrO,(fun _ h=>(ZaC _ h))⟩
 refine ZD rfl (Zq rfl (Zk rfl (ZD rfl (Zq rfl (Yc (ZB rfl (YX (Xe (Ze (Yq (v:=vO) rfl (Yq (v:=vO) rfl (Yc (Yi (⟨_,YK (v:=vO) rfl (YP),?_⟩))))))))))))))
 have e:Wr P s 64=Wr P s i:=by
  by_cases e:0<=s/\s < 64
  · obtain rfl : i = 64 := by omega
    rfl
  unfold Wr; rw [Za7 e,Za7 e]
 exact ⟨_,e ▸ hrO,(fun _ h=>(ZaC _ h))⟩
theorem z6 (P:Nat->Int):∀ n:Nat,n<=64->(UQ P n).length<=n*256
 | 0,_=>Zbt _
 | n+1,hn=>by
  have ih:=z6 P n (by omega)
  rw [qA,ZaG]
  have h2:=Dc P n 64
  unfold Wr at h2
  rw [Za8 (show 0<=(n:Int)/\(n:Int) < 64 by omega)] at h2
  omega
theorem dAll_rt (P:Nat->Int):RtR AM 93 3 [.agg 133 (ia P)] [] (YY (UQ P 64)) []:=by
 refine Vs (YJ (a:=a93) rfl rfl (YI _) (ZQ rfl) (m:=0) rfl (Ze (YC rfl (Yq rfl (Zf (Yq rfl (Yc (Ye (Ze (Yq rfl (Yc (Yk (Xm (.refl _) (Xp (fun m f _ L=>∃ (i:Nat) (vO:V) (ownO:HA),(i<=64)/\(m=64 - i)/\(Rw 3 (YY (UQ P i)) vO ownO)/\(f 1=.ptr 0 0 133)/\(f 3=vO)/\(f 4=.s (.int .i64 i))/\(L=(ownO++[(0,.sc .var 133 (ia P))]))) (fun m f nb L hI=>?_) (64) (⟨0,.snil,[],by omega,rfl,.nil rfl,rfl,rfl,rfl,rfl⟩)))))))))))))))
 obtain ⟨i,vO,ownO,hi,hm,hrO,k1,k3,k4,rfl⟩:=hI
 refine Za 1 k1 (Za 3 k3 (Za 4 k4 (Ye (Ze (Zj rfl (Zr rfl (Yc (Yj rfl (fun h24=>?_) (fun h24=>?_))))))))) <;> simp only [NM] at h24
 ·refine Yh (Ye (Yk (Yf (Yq (v:=vO) rfl (Yo rfl rfl (Zaz _ ZM) (Zj rfl (YE rfl (o0 P i) rfl rfl (fun v1 own1 n1 hr1=>Ed rfl hrO rfl (hr1.rx) (fun _ h=>(ZaC _ h)) (Dr.appR _ .here) (by decide) (by have e1:=z6 P i (by omega); have e2:=VC P i 64; rw [Xj]; omega) (fun v2 own2 n2 hr2=>Yq (v:=v2) rfl (Yc (Yf (Zj rfl (Zs rfl rfl (Zj rfl (Yc (⟨64 - (i+1),_,by omega,(ZaE (.refl _) (Za9 (.refl _))),i+1,_,_,by omega,rfl,?_,rfl,rfl,rfl,rfl⟩))))))))))))))))
  rw [qA,Ki,show V5 P i 64=Wr P i 64 from (Za8 ⟨by omega,by omega⟩).symm]; exact hr2
 refine YX (Xe (Ze (Yq (v:=vO) rfl (Yq (v:=vO) rfl (Yc (Yi (⟨_,YK (v:=vO) rfl (YP),?_⟩)))))))
 obtain rfl:i=64:=by omega
 exact ⟨_,hrO,(fun _ h=>(ZaC _ h))⟩
theorem wQ (P:Nat->Int):WR AM 66 [.agg 133 (ia P)] [] (fun v _ _=>v=.s (.bool (WC P))):=by
 refine YJ (a:=a66) rfl rfl (YI _) (ZQ rfl) (m:=0) rfl (Ze (YC rfl (Yq rfl (Yc (Ye (Yg (Yo rfl rfl ZM (Yt rfl (YG (sg P)) rfl rfl rfl (Zk rfl (Ys (t:=5) rfl (fun h1=>?_) (fun h1=>?_)))))))))))
 ·refine Yb rfl (Yo rfl rfl ZM (Yb rfl (Yd (o':=128) rfl rfl rfl (Yb rfl (Ym (x:=P 128) rfl rfl ZM (rfl) (Yb rfl (Yu rfl (YG (WT _)) rfl rfl rfl (Yb rfl (Yt rfl (YG (QT P _)) rfl rfl rfl (Yb rfl (Yv (r:=.bool _) rfl rfl (Zq rfl (Zk rfl (Zg rfl (ZI ?_)))))))))))))))
  unfold WC
  (rw [show VO P=true by assumption]; rfl)
 refine Ya rfl rfl (ZE rfl (ZC rfl (Zq rfl (Zk rfl (Zg rfl (ZI ?_))))))
 unfold WC
 (rw [show VO P=false by assumption]; rfl)
theorem tA (P X:Nat->Int) (ha:0<=X 0/\X 0 < 64) (ht:0<=X 1/\X 1 < 64):WR AM 117 [.agg 133 (ia P),.agg 3 (ia X)] [] (fun v _ _=>v=.s (.bool (Wm P (X 0) (X 1)))):=by
 refine YJ (a:=a117) rfl rfl (YI _) (ZQ rfl) (m:=0) rfl (Ze (YC rfl (YC rfl (Yq rfl (Zf (Zy rfl (Ym rfl rfl ZM rfl (Zy rfl (Zw rfl rfl rfl (Yd rfl rfl rfl (Ym (x:=P (sqI (X 0))) rfl rfl ZN (rfl) (Zr rfl (Zk rfl (Ys (t:=12) rfl (fun h2=>?_) (fun h2=>?_))))))))))))))) <;> simp only [NM] at h2
 ·refine Yb rfl (Zz rfl (Yb rfl (Ym rfl rfl ZM rfl (Yb rfl (Zy rfl (Yb rfl (Ym rfl rfl ZM rfl (Yb rfl (Zs rfl rfl (Yb rfl (Zr rfl (Yb rfl (Zk rfl (Ys (t:=19) rfl (fun h3=>?_) (fun h3=>?_))))))))))))))) <;> simp only [NM] at h3
  ·refine ZE rfl (ZD rfl (Yb rfl (Zq rfl (Zq rfl (Zk rfl (Zg rfl (ZI ?_)))))))
   unfold Wm
   (rw [ZaV (by omega)]; done)
  refine Yb rfl (Zz rfl (Yb rfl (Ym rfl rfl ZM rfl (Yb rfl (Zy rfl (Yb rfl (Ym rfl rfl ZM rfl (Yb rfl (Zt rfl rfl (Yb rfl (Zr rfl (Yb rfl (Zq rfl (Zq rfl (Zk rfl (Zg rfl (ZI ?_)))))))))))))))))
  unfold Wm
  (rw [ZaP]; simp only [Za2,ZaL]; omega)
 refine ZE rfl (ZD rfl (ZC rfl (YH rfl (YH rfl (YH rfl (YH rfl (YH rfl (YH rfl (ZC rfl (Zq rfl (Zk rfl (Zg rfl (ZI ?_)))))))))))))
 unfold Wm
 (rw [ZaT (by omega)]; done)
def Vp (P:Nat->Int) (m:Mv):Bool:=decide (Wf P m.1 m.2.1 m.2.2=0)&&(!Xt (Xq P m.1 m.2.1 m.2.2) (P 128)&&(!Wm P m.1 m.2.1 || (!Xt P (P 128)&&!([(m.1+m.2.1) / 2].any (isR P (Y5 (P 128)))))))
section
variable {P:Nat->Int} {m:Mv}
theorem fine_a (h:Wf P m.1 m.2.1 m.2.2≠0):Vp P m=false:=by unfold Vp; rw [ZaT h]; rfl
theorem fine_b (h:Xt (Xq P m.1 m.2.1 m.2.2) (P 128)=true):Vp P m=false:=by unfold Vp; rw [h]; simp
theorem kn (h1:Wf P m.1 m.2.1 m.2.2=0) (h2:Xt (Xq P m.1 m.2.1 m.2.2) (P 128)=false):Vp P m=(!Wm P m.1 m.2.1 || (!Xt P (P 128)&&!([(m.1+m.2.1) / 2].any (isR P (Y5 (P 128)))))):=by unfold Vp; rw [ZaV h1,h2]; rfl
end
theorem rA (P X:Nat->Int) (ha:0<=X 0/\X 0 < 64) (ht:0<=X 1/\X 1 < 64):WR AM 94 [.agg 133 (ia P),.agg 3 (ia X)] [] (fun v _ _=>v=.s (.bool (Vp P (X 0,X 1,X 2)))):=by
 refine YJ (a:=a94) rfl rfl (YI _) (ZQ rfl) (m:=0) rfl (Ze (YC rfl (YC rfl (Yq rfl (Zf ?_)))))
 have hmove:=YG (Kr P X)
 have hid:ovA (fun _=>0) 0 133 (Xq P (X 0) (X 1) (X 2))=(Xq P (X 0) (X 1) (X 2)):=UX (fun i hi=>UF hi)
 have hchk:=YG (QT (ovA (fun _=>0) 0 133 (Xq P (X 0) (X 1) (X 2))) (P 128))
 rw [show Xt (ovA (fun _=>0) 0 133 (Xq P (X 0) (X 1) (X 2))) (P 128)=Xt (Xq P (X 0) (X 1) (X 2)) (P 128) by rw [hid]] at hchk
 refine Yo rfl rfl ZN (Yo rfl rfl ZM (Yt rfl (hmove) rfl rfl rfl (Zo rfl (YD (v:=.agg _ _) rfl rfl (YD (v:=.s (.int _ _)) rfl rfl (Yy (Yz rfl rfl rfl rfl .here (Zj rfl (Yc (Ye (Ze (Zj rfl (Zr rfl (Zk rfl (Ys (t:=15) rfl (fun h4=>?_) (fun h4=>?_)))))))))))))))) <;> simp only [NM] at h4
 ·refine ZE rfl (Zq rfl (Yc (ZA rfl (Ze (Yq rfl (Zg rfl (ZI ?_)))))))
  exact (fine_a (m:=(X 0,X 1,X 2)) (by assumption)).symm
 refine Yb rfl (Yo rfl rfl ZM (Yb rfl (Yd (o':=128) rfl rfl rfl (Yb rfl (Ym (x:=P 128) rfl rfl ZO (rfl) (Yb rfl (Yt rfl (hchk) rfl rfl rfl (Zq rfl (Yc (Yj rfl (fun h5=>?_) (fun h5=>?_)))))))))))
 ·refine Ze (Yq rfl (Zg rfl (ZI ?_)))
  exact (fine_b (m:=(X 0,X 1,X 2)) (by assumption)).symm
 refine Yh (Ye (Ze (Yo rfl rfl ZO (Yo rfl rfl ZN (Yt rfl (YG (tA P X ha ht)) rfl rfl rfl (Yv (r:=.bool _) rfl rfl (Yc (Yj rfl (fun h6=>?_) (fun h6=>?_))))))))) <;> simp only [NM] at h6
 ·refine Ze (Yq rfl (Zg rfl (ZI ?_)))
  rw [kn (m:=(X 0,X 1,X 2)) (by assumption) (by assumption)]
  show _=(!Wm P (X 0) (X 1) || (!Xt P (P 128)&&!([(X 0+X 1) / 2].any (isR P (Y5 (P 128))))))
  rw [show Wm P (X 0) (X 1)=false by assumption]
  rfl
 refine Yh (Ye (Yg (Yo rfl rfl ZO (Yd (o':=128) rfl rfl rfl (Ym (x:=P 128) rfl rfl ZO (rfl) (Yt rfl (YG (QT P (P 128))) rfl rfl rfl (Yv (r:=.bool _) rfl rfl (Zk rfl (Ys (t:=30) rfl (fun h7=>?_) (fun h7=>?_)))))))))) <;> simp only [NM] at h7
 ·refine Yb rfl (Yo rfl rfl ZO (Yb rfl (Yd (o':=128) rfl rfl rfl (Yb rfl (Ym (x:=P 128) rfl rfl ZO (rfl) (Yb rfl (Yu rfl (YG (WT _)) rfl rfl rfl (Yb rfl (Zy rfl (Yb rfl (Ym (x:=X 0) rfl rfl ZN (rfl) (Yb rfl (Zz rfl (Yb rfl (Ym (x:=X 1) rfl rfl ZN (rfl) (Yb rfl (Zs rfl rfl (Yb rfl (Zu rfl rfl (Yb rfl (Xo rfl (.one rfl .nil) (Yb rfl (Wp (caps:=[]) rfl (jJ P (Y5 (P 128)) [(X 0+X 1) / 2] (YF rfl)) rfl ((.row rfl yB)) (Qf ZM) rfl rfl rfl (Yb rfl (Yv (r:=.bool _) rfl rfl (Zq rfl (Zk rfl (Zg rfl (ZI ?_)))))))))))))))))))))))))))))
  rw [kn (m:=(X 0,X 1,X 2)) (by assumption) (by assumption)]
  show _=(!Wm P (X 0) (X 1) || (!Xt P (P 128)&&!([(X 0+X 1) / 2].any (isR P (Y5 (P 128))))))
  rw [show Wm P (X 0) (X 1)=true by assumption]
  rw [show Xt P (P 128)=false by assumption]
  rfl
 refine ZF rfl (ZE rfl (ZC rfl (Zq rfl (Zk rfl (Zg rfl (ZI ?_))))))
 rw [kn (m:=(X 0,X 1,X 2)) (by assumption) (by assumption)]
 show _=(!Wm P (X 0) (X 1) || (!Xt P (P 128)&&!([(X 0+X 1) / 2].any (isR P (Y5 (P 128))))))
 rw [show Wm P (X 0) (X 1)=true by assumption]
 rw [show Xt P (P 128)=true by assumption]
 rfl
def Ut (P:Nat->Int):List Mv:=if WC P=true then (UQ P 64).filter (Vp P) else []
theorem fin_yes {P X:Nat->Int} {l:List Mv} {i:Nat} (hi:i < l.length) (h0:X 0=(l.getD i (0,0,0)).1) (h1:X 1=(l.getD i (0,0,0)).2.1) (h2:X 2=(l.getD i (0,0,0)).2.2) (h:Vp P (X 0,X 1,X 2)=true):YY ((l.take i).filter (Vp P))++[X 0,X 1,X 2]=YY ((l.take (i+1)).filter (Vp P)):=by
 have e:(X 0,X 1,X 2)=l.getD i (0,0,0):=Prod.ext h0 (Prod.ext h1 h2)
 rw [Vh (0,0,0) hi,List.filter_append,List.filter_cons,<- e,h,Za8 rfl,Ki]; rfl
theorem fin_no {P X:Nat->Int} {l:List Mv} {i:Nat} (hi:i < l.length) (h0:X 0=(l.getD i (0,0,0)).1) (h1:X 1=(l.getD i (0,0,0)).2.1) (h2:X 2=(l.getD i (0,0,0)).2.2) (h:Vp P (X 0,X 1,X 2)=false):YY ((l.take (i+1)).filter (Vp P))=YY ((l.take i).filter (Vp P)):=by
 have e:(X 0,X 1,X 2)=l.getD i (0,0,0):=Prod.ext h0 (Prod.ext h1 h2)
 rw [Vh (0,0,0) hi,List.filter_append,List.filter_cons,<- e,h,Za7 (by decide)]; simp
theorem vn (P:Nat->Int) {l:List Mv} (i:Nat):(YY ((l.take i).filter (Vp P))).length<=l.length*3:=by
 have h1:=Zbk (Vp P) (l.take i)
 rw [ZaN] at h1
 rw [Xj]; omega
theorem qq (P:Nat->Int):RtR AM 56 3 [.agg 133 (ia P)] [] (YY (Ut P)) []:=by
 refine Vs (YJ (a:=a56) rfl rfl (YI _) (ZQ rfl) (m:=0) rfl (Ze (YC rfl (Yq rfl (Yc (Ye (Ze (Yo rfl rfl ZM (Yt rfl (YG (wQ P)) rfl rfl rfl (Yv (r:=.bool _) rfl rfl (Yc (Yj rfl (fun h8=>?_) (fun h8=>?_))))))))))))) <;> simp only [NM] at h8
 ·refine Ze (Yq rfl (Yc (Yi (⟨_,YK (v:=.snil) rfl (YP),?_⟩))))
  have e:Ut P=[]:=by unfold Ut; rw [Za7 (by rw [show WC P=false by assumption]; decide)]
  exact ⟨[],.nil (by rw [e]; rfl),fun _ h=>by cases h⟩
 refine Yh (Ze (Yq rfl (Zf ?_)))
 obtain ⟨l,hleq⟩:∃ l,l=UQ P 64:=⟨_,rfl⟩
 have hall:=dAll_rt P
 rw [<- hleq] at hall
 have hlen:=z6 P 64 (by omega)
 rw [<- hleq] at hlen
 refine Yo rfl rfl ZM (YE rfl (hall) rfl rfl (fun v1 own1 n1 hr1=>Yq (v:=v1) rfl (Yc (Ye (Ze (Yq rfl (Yc (Yk (Xm (ZaE (.refl _) (.refl _)) (Xp (fun m f _ L=>∃ (i:Nat) (vO:V) (ownO:HA),(i<=l.length)/\(m=l.length - i)/\(Rw 3 (YY ((l.take i).filter (Vp P))) vO ownO)/\(f 1=.ptr 0 0 133)/\(f 3=vO)/\(f 4=v1)/\(f 5=.s (.int .i64 i))/\(L=(ownO++(own1++[(0,.sc .var 133 (ia P))])))) (fun m f nb L hI=>?_) (l.length) (⟨0,.snil,[],by omega,by omega,Rw.nil rfl,rfl,rfl,rfl,rfl,rfl⟩)))))))))))
 obtain ⟨i,vO,ownO,hi,hm,hrO,k1,k3,k4,k5,rfl⟩:=hI
 refine Za 1 k1 (Za 3 k3 (Za 4 k4 (Za 5 k5 (Ye (Ze (Zj rfl (Yq (v:=v1) rfl (Wq rfl hr1.rx (by decide) (Xj l) (Zr rfl (Yc (Yj rfl (fun h9=>?_) (fun h9=>?_)))))))))))) <;> simp only [NM] at h9
 ·refine Yh (Ye (Yk (Ye (Yg (Yo rfl rfl (Zaz _ (Zaz _ ZM)) (Yq (v:=v1) rfl (Zj rfl ?_)))))))
  obtain ⟨b1,q1,md1,c1,F1,rfl,rfl,hF1⟩:=hr1.rx.at (by decide) (Xj l) (by omega)
  refine Zx rfl rfl ?_
  obtain ⟨hx0,hx1,hx2⟩:=xq hF1 (i:=i) (by omega)
  obtain ⟨hba,hbt,_,_⟩:=Ry (P:=P) (m:=l.getD i (0,0,0)) (by rw [<- hleq]; exact mv_in (by omega))
  have hfine:=YG (rA P (dp F1 (0+(i:Int).toNat*3)) (by rw [show (dp F1 (0+(i:Int).toNat*3)) 0=_ from hx0]; exact hba) (by rw [show (dp F1 (0+(i:Int).toNat*3)) 1=_ from hx1]; exact hbt))
  refine Yp rfl rfl (Zaz _ ZM) (Yt rfl (hfine) rfl rfl rfl (Yc (Yj rfl (fun h10=>?_) (fun h10=>?_))))
  ·refine Yf (Yq (v:=vO) rfl (Zn rfl (Zj rfl (Zx rfl rfl (Yp rfl rfl (Zaz _ ZM) (Wo rfl (.agg rfl .nil) (XK (c:=[(dp F1 (0+(i:Int).toNat*3)) 0,(dp F1 (0+(i:Int).toNat*3)) 1,(dp F1 (0+(i:Int).toNat*3)) 2]) rfl hrO rfl ZM (.there .here) (by decide) (by decide) rfl ((QH rfl rfl rfl)) (by have:=vn P (l:=l) i; omega) (fun v2 own2 n2 hr2=>Yq (v:=v2) rfl (Yc (Yf (Zj rfl (Zs rfl rfl (Zj rfl (Yc (⟨l.length - (i+1),_,by omega,(ZaE (.refl _) (.cons _ (.refl _))),i+1,_,_,by omega,rfl,?_,rfl,rfl,rfl,rfl,rfl⟩)))))))))))))))
   (rw [<- fin_yes (P:=P) (by omega) hx0 hx1 hx2 (by assumption)]; exact hr2)
  refine Yh (Yf (Zj rfl (Zs rfl rfl (Zj rfl (Yc (⟨l.length - (i+1),_,by omega,(ZaE (.refl _) (.refl _)),i+1,_,_,by omega,rfl,?_,rfl,rfl,rfl,rfl,rfl⟩))))))
  (rw [fin_no (P:=P) (by omega) hx0 hx1 hx2 (by assumption)]; exact hrO)
 refine YX (Xe (Ze (Yq (v:=vO) rfl (Yq (v:=vO) rfl (Yc (Yi (⟨_,YK (v:=vO) rfl (YP),?_⟩)))))))
 obtain rfl:i=l.length:=by omega
 rw [List.take_length] at hrO
 have e:Ut P=l.filter (Vp P):=by rw [hleq]; exact Za8 (by assumption)
 exact ⟨_,e ▸ hrO,(fun _ h=>(ZaC _ h))⟩
def q6 (s:Int):Int:=if s=1 then 2 else 1
def ofN (P:Nat->Int) (n:Nat):Int × Int:=if WC P=false\/0 < n then (0,0) else if Xt P (P 128)=true then (q6 (Y5 (P 128)),1) else (3,2)
section
variable {P:Nat->Int} {n:Nat}
theorem wF (h:WC P=false\/0 < n):ofN P n=(0,0):=Za8 h
theorem of_go (h1:WC P=true) (h2:¬ 0 < n):¬ (WC P=false\/0 < n):=fun h=>h.elim (fun h=>by rw [h1] at h; cases h) h2
theorem uF (h1:WC P=true) (h2:¬ 0 < n) (h3:Xt P (P 128)=true):ofN P n=(q6 (Y5 (P 128)),1):=by
 unfold ofN; rw [Za7 (of_go h1 h2),Za8 h3]
theorem ju (h1:WC P=true) (h2:¬ 0 < n) (h3:Xt P (P 128)=false):ofN P n=(3,2):=by
 unfold ofN; rw [Za7 (of_go h1 h2),Za7 (by rw [h3]; decide)]
end
theorem tv (s:Int):WR AM 67 [.s (.int .i64 s)] [] (fun v _ _=>v=.s (.int .i64 (q6 s))):=by
 refine YJ (a:=a67) rfl rfl (YI _) (ZQ rfl) (m:=0) rfl (Ze (Yq rfl (Yc (Ye (Ze (Zj rfl (Zr rfl (Yc (Yj rfl (fun h11=>?_) (fun h11=>?_)))))))))) <;> simp only [NM] at h11
 ·refine Ze (Yq rfl (Yc (Yi (⟨_,ZL rfl,?_⟩))))
  refine ZJ ?_
  exact (Za8 (by omega)).symm
 refine Yh (Ze (Yq rfl (Yc (Yi (⟨_,ZL rfl,?_⟩)))))
 refine ZJ ?_
 exact (Za7 (by omega)).symm
theorem oY (P:Nat->Int):WR AM 31 [.agg 133 (ia P)] [] (fun v _ _=>v=.tup [.s (.int .i64 (ofN P (Ut P).length).1),.s (.int .i64 (ofN P (Ut P).length).2)]):=by
 refine YJ (a:=a31) rfl rfl (YI _) (ZQ rfl) (m:=0) rfl (Ze (YC rfl (Yq rfl (Yq rfl (Zf (Yo rfl rfl ZM (YE rfl (qq P) rfl rfl (fun v1 own1 n1 hr1=>Yq (v:=v1) rfl (Yc (Ye (Ze (Yo rfl rfl (Zaz _ ZM) (Yt rfl (YG (wQ P)) rfl rfl rfl (Yv (r:=.bool _) rfl rfl (Zk rfl (Ys (t:=10) rfl (fun h12=>?_) (fun h12=>?_))))))))))))))))) <;> simp only [NM] at h12
 ·refine ZD rfl (ZC rfl (Zq rfl (Yc (ZA rfl (Ze (Yq rfl (Yq rfl (Yc (Yi (⟨_,YK (v:=.s (.int _ _)) rfl (ZL rfl),?_⟩))))))))))
  (rw [wF (by first | exact .inl (by assumption) | exact .inr (by omega))]; rfl)
 refine Yb rfl (Yq (v:=v1) rfl (Yb rfl (Wq rfl hr1.rx (by decide) (Xj _) (Yb rfl (Zr rfl (Zq rfl (Yc (Yj rfl (fun h13=>?_) (fun h13=>?_))))))))) <;> simp only [NM] at h13
 ·refine Ze (Yq rfl (Yq rfl (Yc (Yi (⟨_,YK (v:=.s (.int _ _)) rfl (ZL rfl),?_⟩)))))
  (rw [wF (by first | exact .inl (by assumption) | exact .inr (by omega))]; rfl)
 refine Yh (Ye (Ze (Yo rfl rfl (Zaz _ ZM) (Yd (o':=128) rfl rfl rfl (Ym (x:=P 128) rfl rfl (Zaz _ ZM) (rfl) (Yt rfl (YG (QT P (P 128))) rfl rfl rfl (Yc (Yj rfl (fun h14=>?_) (fun h14=>?_)))))))))
 ·refine Ze (Yd (o':=128) rfl rfl rfl (Ym (x:=P 128) rfl rfl (Zaz _ ZM) (rfl) (Yt rfl (YG (WT _)) rfl rfl rfl (Yt rfl (YG (tv _)) rfl rfl rfl (Zj rfl (Yq rfl (Yc (Yi (⟨_,YK (v:=.s (.int _ _)) rfl (ZL rfl),?_⟩)))))))))
  (rw [uF (by assumption) (by omega) (by assumption)]; rfl)
 refine Yh (Ze (Yq rfl (Yq rfl (Yc (Yi (⟨_,YK (v:=.s (.int _ _)) rfl (ZL rfl),?_⟩))))))
 (rw [ju (by assumption) (by omega) (by assumption)]; rfl)
def sumB (g:Nat->Int):Nat->Int
 | 0=>0
 | n+1=>sumB g n+g n
def Clean (P:Nat->Int):Prop:=∀ s:Nat,s < 64->(P (s*2)=0/\P (s*2+1)=0)\/(1<=P (s*2)/\P (s*2)<=6/\(P (s*2+1)=0\/P (s*2+1)=1))
theorem sqI_nat (s:Nat):sqI (s:Int)=s*2:=by show 0+(s:Int).toNat*2=_; omega
def betOK (a b:Int):Bool:=!(WK a b || WH a b) || (jO (Di (JO a) (JO b)) ((Di a b).map JO)&&(Di a b).all fun t=>decide (0<=t/\t < 64))
theorem find_mem {P:Nat->Int} {c x:Int}:x∈TU P (T4 c)↔(0<=x/\x < 64)/\P (sqI x)=6/\P (sqI x+1)=c:=by
 unfold TU
 rw [ZaS,mem64]
 unfold isX
 rw [ZaL]
 exact Iff.rfl
theorem Zaa {P:Nat->Int} {c:Int} (hc:c=0\/c=1):Xt P c=true↔∃ x,((0<=x/\x < 64)/\P (sqI x)=6/\P (sqI x+1)=c)/\VX P (1 - c) x=true:=by
 unfold Xt
 rw [Za8 hc,Uq hc,List.any_eq_true]
 constructor
 ·rintro ⟨x,hx,h⟩; exact ⟨x,find_mem.1 hx,h⟩
 rintro ⟨x,hx,h⟩; exact ⟨x,find_mem.2 hx,h⟩
theorem sO {P:Nat->Int} (h:VO P=true):Clean P/\(P 128=0\/P 128=1):=by
 unfold VO at h
 simp only [ZaM] at h
 have h:=R0 h.1.1.1
 refine ⟨fun s hs=>?_,h.2.2.2⟩
 have:=h.1 s hs
 unfold okM at this
 rw [sqI_nat] at this
 omega
def mvT (m:Mv):Mv:=(JO m.1,JO m.2.1,m.2.2)
theorem wide_of {P:Nat->Int} {s t:Int} (hs:0<=s/\s < 64) (ht:0<=t/\t < 64) (hg:Vd P s t=true) (h:Wm P s t=true):(s=4\/s=60)/\(t=s+2\/t=s - 2):=by
 unfold Wm at h
 rw [ZaL] at h
 obtain ⟨h1,h2⟩:=h
 obtain ⟨_,hc,_,_⟩:=Ja hg
 unfold Vd at hg
 rw [ZaM] at hg
 have hg:=hg.2
 unfold goK at hg
 rw [Za7 (by omega),Bool.or_eq_true,ZaM,ZaM] at hg
 rcases hg with ⟨ha,_⟩ | ⟨_,hg⟩
 ·have:=jH ha h1
  unfold XT at this
  split at this <;> omega
 unfold goC at hg
 split at hg
 ·cases hg
 omega
theorem oo {P:Nat->Int} {c:Int} {a:Nat} (hk:P (sqI (a:Int))=6/\P (sqI (a:Int)+1)=c):∀ n:Nat,a < n->1<=kM P c n
 | 0,h=>by omega
 | n+1,h=>by
  have hb:=q4 P c n
  unfold kM
  by_cases e:a=n
  ·subst e; rw [Za8 hk]; omega
  have:=oo hk n (by omega)
  split <;> omega
theorem jr {P:Nat->Int} {c:Int} {a b:Nat} (ha:P (sqI (a:Int))=6/\P (sqI (a:Int)+1)=c) (hb:P (sqI (b:Int))=6/\P (sqI (b:Int)+1)=c) (hab:a < b):∀ n:Nat,b < n->2<=kM P c n
 | 0,h=>by omega
 | n+1,h=>by
  unfold kM
  by_cases e:b=n
  ·subst e
   have:=oo ha b hab
   rw [Za8 hb]; omega
  have:=jr ha hb hab n (by omega)
  split <;> omega
theorem te {P:Nat->Int} (h:VO P=true):kM P (P 128) 64=1:=by
 unfold VO at h
 simp only [ZaM] at h
 obtain ⟨_,h0,h1,h2⟩:=R0 h.1.1.1
 rcases h2 with h2 | h2 <;> rw [h2] <;> assumption
theorem Zas {P:Nat->Int} {c x y:Int} (h:kM P c 64=1) (hx:(0<=x/\x < 64)/\P (sqI x)=6/\P (sqI x+1)=c) (hy:(0<=y/\y < 64)/\P (sqI y)=6/\P (sqI y+1)=c):x=y:=by
 obtain ⟨a,rfl⟩:∃ a:Nat,x=a:=⟨x.toNat,by omega⟩
 obtain ⟨b,rfl⟩:∃ b:Nat,y=b:=⟨y.toNat,by omega⟩
 rcases Nat.lt_trichotomy a b with e | e | e
 ·have:=jr hx.2 hy.2 e 64 (by omega); omega
 ·rw [e]
 have:=jr hy.2 hx.2 e 64 (by omega); omega
theorem sk {P:Nat->Int} (h:VO P=true) {x:Int} (hx:0<=x/\x < 64) (hk:P (sqI x)=6) (hs:P (sqI x+1)=P 128):Xt P (P 128)=VX P (Y5 (P 128)) x:=by
 have hc:=(sO h).2
 rw [ZaP,Zaa hc,Uq hc]
 constructor
 ·rintro ⟨y,hy,h2⟩
  rw [Zas (te h) ⟨hx,hk,hs⟩ hy]; exact h2
 intro h2; exact ⟨x,⟨hx,hk,hs⟩,h2⟩
theorem s8 {P:Nat->Int} (h:WC P=true):VO P=true:=by
 unfold WC at h
 rw [ZaM] at h
 exact h.1
theorem si {P:Nat->Int} (hp:WC P=true) {m:Mv} (h:m∈UQ P 64):Vp P m=Wv P m:=by
 obtain ⟨hs,ht,hg,hm⟩:=Ry h
 have he:=j7 h
 unfold Vp Wv
 rw [ZaV he]
 cases hc:Wm P m.1 m.2.1 with
 | false=>simp
 | true =>
  have hw:=wide_of hs ht hg hc
  have hk:P (sqI m.1)=6:=by
   unfold Wm at hc
   rw [ZaL] at hc; exact hc.1
  rw [sk (s8 hp) hs hk (Ja hg).2.2.1]
  unfold y0
  simp only [List.any_cons,List.any_nil,Bool.or_false]
  rw [ks (s:=(m.1+m.2.1) / 2) (by omega)]
  cases Xt (Xq P m.1 m.2.1 m.2.2) (P 128) <;> cases VX P (Y5 (P 128)) m.1 <;> cases VX P (Y5 (P 128)) ((m.1+m.2.1) / 2) <;> rfl
theorem Dh {P:Nat->Int} (hz:∀ i,133<=i->P i=0):XE P=if WC P=true then (UQ P 64).filter (Wv P) else []:=by
 unfold XE yE
 rw [UX hz,vX]
theorem Eb {P:Nat->Int} (hz:∀ i,133<=i->P i=0):XE P=Ut P:=by
 rw [Dh hz]
 unfold Ut
 by_cases hp:WC P=true
 ·rw [Za8 hp,Za8 hp]
  exact List.filter_congr fun m hm=>(si hp hm).symm
 rw [Za7 hp,Za7 hp]
theorem DV {P:Nat->Int} (hz:∀ i,133<=i->P i=0) {m:Mv}:m∈XE P↔WC P=true/\m∈UQ P 64/\Wv P m=true:=by
 rw [Dh hz]
 by_cases hp:WC P=true
 ·rw [Za8 hp,ZaS]; simp [hp]
 rw [Za7 hp]; simp [hp]
def Ej:List (S × V):=[(.int .i64 2,.s (.str ⟨#[78]⟩)),(.int .i64 3,.s (.str ⟨#[66]⟩)),(.int .i64 4,.s (.str ⟨#[82]⟩)),(.int .i64 5,.s (.str ⟨#[81]⟩)),(.int .i64 6,.s (.str ⟨#[75]⟩))]
theorem kL :WR AM 19 [] [] (fun v _ L=>v=.map 0/\(0,Blk.mp .var Ej)∈L):=by
 refine YJ (a:=a19) rfl rfl (YI _) (ZQ rfl) (m:=0) rfl (Ze (Yq rfl (Zf (jt (UB rfl rfl rfl rfl rfl rfl .here (UB rfl rfl rfl rfl rfl rfl .here (UB rfl rfl rfl rfl rfl rfl .here (UB rfl rfl rfl rfl rfl rfl .here (UB rfl rfl rfl rfl rfl rfl .here (Yq (v:=.map _) rfl (Yq (v:=.map _) rfl (Yc (Yi (⟨_,YK (v:=.map _) rfl (YP),?_⟩))))))))))))))
 exact ⟨rfl,.head _⟩
theorem xz:RN AM 19 [] [] (fun b=>.map b) (.mp .var Ej) []:=by
 obtain ⟨v,σ',n',L',h1,h2,rfl,h3⟩:=kL
 exact ⟨0,σ',h1,Zbt _,(h2.2.mem h3).2,trivial⟩
def Q6 (x:Mv):List Mv->Int
 | []=>-1
 | y::l=>if x=y then 0 else if Q6 x l=-1 then -1 else Q6 x l+1
theorem uX (x:Mv):∀ l:List Mv,-1<=Q6 x l/\Q6 x l < l.length
 | []=>⟨Int.le_refl _,by simp [Q6]⟩
 | y::l=>by
  have:=uX x l
  unfold Q6
  rw [Zbq]
  split
  ·omega
  split <;> omega
theorem wI {x:Mv}:∀ {l:List Mv},(∀ i:Nat,i < l.length->x≠l.getD i (0,0,0))->Q6 x l=-1
 | [],_=>rfl
 | y::l,h=>by
  unfold Q6
  have h0:=h 0 (by simp)
  have ih:=wI (x:=x) (l:=l) fun i hi=>by have:=h (i+1) (by simpa using hi); simpa using this
  rw [Za7 (fun e=>h0 (by simp [e])),Za8 ih]
theorem wq {x:Mv}:∀ {l:List Mv} {i:Nat},i < l.length->x=l.getD i (0,0,0)->(∀ j:Nat,j < i->x≠l.getD j (0,0,0))->Q6 x l=i
 | [],i,h,_,_=>by simp at h
 | y::l,0,_,h,_=>by
  unfold Q6
  rw [Za8 (by simpa using h)]; rfl
 | y::l,i+1,hi,h,hn=>by
  unfold Q6
  have h0:=hn 0 (by omega)
  have ih:=wq (x:=x) (l:=l) (i:=i) (by simpa using hi) (by simpa using h) fun j hj=>by have:=hn (j+1) (by omega); simpa using this
  rw [Za7 (fun e=>h0 (by simp [e])),Za7 (by omega),ih]; omega
theorem idxV_mem {x:Mv}:∀ {l:List Mv},0<=Q6 x l↔x∈l
 | []=>by simp [Q6]
 | y::l=>by
  have ih:=idxV_mem (x:=x) (l:=l)
  have:=uX x l
  unfold Q6
  rw [ZaX]
  by_cases e:x=y
  ·rw [Za8 e]; simp [e]
  rw [Za7 e]
  simp only [e,false_or]
  rw [<- ih]
  split <;> omega
theorem eq3 {P Q:Nat->Int} {m:Mv} (h0:Q 0=m.1) (h1:Q 1=m.2.1) (h2:Q 2=m.2.2):eqI 3 P Q=decide ((P 0,P 1,P 2)=m):=by
 rw [ZaP,Uw,ZaL]
 constructor
 ·intro h
  exact Prod.ext ((h 0 (by omega)).trans h0) (Prod.ext ((h 1 (by omega)).trans h1) ((h 2 (by omega)).trans h2))
 rintro h
 have e0:=congrArg (fun m:Mv=>m.1) h
 have e1:=congrArg (fun m:Mv=>m.2.1) h
 have e2:=congrArg (fun m:Mv=>m.2.2) h
 exact three (e0.trans h0.symm) (e1.trans h1.symm) (e2.trans h2.symm)
theorem eq3' {P Q:Nat->Int} {m:Mv} (h0:Q 0=m.1) (h1:Q 1=m.2.1) (h2:Q 2=m.2.2):eqI 3 Q P=decide ((P 0,P 1,P 2)=m):=by
 rw [<- eq3 (P:=P) h0 h1 h2,ZaP,Uw,Uw]
 exact ⟨fun h i hi=>(h i hi).symm,fun h i hi=>(h i hi).symm⟩
theorem pQ (M:Nat->Int) (l:List Mv) (hlen:l.length<=1000000):RdR AM 79 3 [] [.agg 3 (ia M)] (YY l) (.s (.int .i64 (Q6 (M 0,M 1,M 2) l))):=by
 refine Ql fun v Bs hc=>?_
 refine YJ (a:=a79) rfl rfl (YI _) (ZQ rfl) rfl ?_ (by first | rfl | (cases hc <;> rfl))
 have hr0:=hc.rx
 rw [show Xb 0 Bs=Xb 0 Bs++[] from (ZaQ _).symm]
 generalize hown:Xb 0 Bs=own0 at hr0 ⊢
 refine Ze (YC rfl (Yq rfl (Yc (Ye (Ze (Yq (v:=v) rfl (Wq rfl hr0 (by decide) (Xj l) (Yq rfl (Yc (Yk (Xm (.cons_cons _ (ZaE (.refl _) .slnil)) (Xp (fun m f _ L=>∃ (i:Nat),(i<=l.length)/\(m=l.length - i)/\(∀ j:Nat,j < i->(M 0,M 1,M 2)≠l.getD j (0,0,0))/\(f 0=v)/\(f 3=.ptr Bs.length 0 3)/\(f 7=.s (.int .i64 l.length))/\(f 8=.s (.int .i64 i))/\(L=(Bs.length,.sc .var 3 (ia M))::(own0++[]))) (fun m f nb L hI=>?_) (l.length) (⟨0,by omega,by omega,fun j hj=>by omega,rfl,rfl,rfl,rfl,rfl⟩)))))))))))))
 obtain ⟨i,hi,hm,hn,k0,k3,k7,k8,rfl⟩:=hI
 refine Za 0 k0 (Za 3 k3 (Za 7 k7 (Za 8 k8 (Ze (Zr rfl (Yc (Ye (Yj rfl (fun h1=>?_) (fun h1=>?_))))))))) <;> simp only [NM] at h1
 ·skip
  refine Yh (Ye (Yk (Ze (Zj rfl (Zj rfl (Yc (Ye (Yg (Yo rfl rfl ZM (Yq (v:=v) rfl (Zj rfl ?_)))))))))))
  obtain ⟨b0,q0,md0,c0,F0,rfl,rfl,hF0⟩:=hr0.at (by decide) (Xj l) (by omega)
  refine Zx rfl rfl (Yp rfl rfl ZN ?_)
  obtain ⟨hx0,hx1,hx2⟩:=xq hF0 (i:=i) (by omega)
  have heq:=eq3 (P:=M) hx0 hx1 hx2
  refine Yx (b:=decide ((M 0,M 1,M 2)=(l.getD i (0,0,0)))) rfl rfl heq (Yc (Yj rfl (fun hdec=>?_) (fun hdec=>?_)))
  ·simp only [NM] at hdec
   (have hyes:(M 0,M 1,M 2)=(l.getD i (0,0,0)):=by simpa using hdec)
   refine Ze (Zj rfl (Zj rfl (Yc (Yi (⟨_,ZL rfl,?_⟩)))))
   refine ⟨ZJ ?_,(fun _ h=>(.tail _ h))⟩
   exact (wq (by omega) hyes hn).symm
  simp only [NM] at hdec
  (have hne:(M 0,M 1,M 2)≠(l.getD i (0,0,0)):=by simpa using hdec)
  refine Yh (Yf (Zs rfl rfl (Zj rfl (Yc (⟨l.length - (i+1),_,by omega,(.refl _),i+1,by omega,rfl,?_,rfl,rfl,rfl,rfl,rfl⟩)))))
  intro j hj
  by_cases e:j=i
  ·subst e; exact hne
  exact hn j (by omega)
 skip
 refine YX (Xe (Ze (Yq rfl (Yc (Yi (⟨_,ZL rfl,?_⟩))))))
 refine ⟨ZJ ?_,(fun _ h=>(.tail _ h))⟩
 exact (wI fun j hj=>hn j (by omega)).symm
theorem vk (M:Nat->Int) (l:List Mv) (hlen:l.length<=1000000):RdR AM 41 3 [] [.agg 3 (ia M)] (YY l) (.s (.bool (decide ((M 0,M 1,M 2)∈l)))):=by
 refine Ql fun v Bs hc=>?_
 refine YJ (a:=a41) rfl rfl (YI _) (ZQ rfl) rfl ?_ (by first | rfl | (cases hc <;> rfl))
 have hr0:=hc.rx
 rw [show Xb 0 Bs=Xb 0 Bs++[] from (ZaQ _).symm]
 generalize hown:Xb 0 Bs=own0 at hr0 ⊢
 refine Ze (YC rfl (Yq rfl (Zf (Yq (v:=v) rfl (Yo rfl rfl ZM (Wp (caps:=[]) rfl (pQ M l hlen) rfl (hr0) (fun _ h=>(.tail _ (ZaC _ h))) rfl rfl rfl (Zr rfl (Zk rfl (Zg rfl (⟨ZI ?_,(fun _ h=>(.tail _ h))⟩))))))))))
 exact decide_eq_decide.2 idxV_mem
theorem vx (P:Nat->Int):(XE P).length<=16896:=by
 unfold XE
 split
 ·exact ZaZ (Zbk _ _) (zW _)
 exact Zbt _
theorem E2 (P M:Nat->Int):WR AM 13 [.agg 133 (ia P),.agg 3 (ia M)] [] (fun v _ _=>v=.s (.bool (decide ((M 0,M 1,M 2)∈XE P)))):=by
 refine YJ (a:=a13) rfl rfl (YI _) (ZQ rfl) (m:=0) rfl (Ze (YC rfl (YC rfl (Yq rfl (Yc (Ye (Yg (Yo rfl rfl ZN (Uh rfl (vj P) rfl rfl (fun v1 own1 n1 hr1=>Yo rfl rfl (Zaz _ ZM) (Wp (caps:=[]) rfl (vk M (XE P) (ZaZ (vx P) (YF rfl))) rfl (hr1.rx) (fun _ h=>(ZaC _ h)) rfl rfl rfl (Zk rfl (Zg rfl ?_)))))))))))))
 rfl
theorem vQ (P:Nat->Int):(Ut P).length<=16896:=by
 unfold Ut
 split
 ·exact ZaZ (Zbk _ _) (by rw [<- vX]; exact zW _)
 exact Zbt _
theorem EW (P M:Nat->Int):WR AM 27 [.agg 133 (ia P),.agg 3 (ia M)] [] (fun v _ _=>v=.s (.bool (decide ((M 0,M 1,M 2)∈Ut P)))):=by
 refine YJ (a:=a27) rfl rfl (YI _) (ZQ rfl) (m:=0) rfl (Ze (YC rfl (YC rfl (Yq rfl (Zf ?_)))))
 obtain ⟨l,hleq⟩:∃ l,l=Ut P:=⟨_,rfl⟩
 have hmv:=qq P
 rw [<- hleq] at hmv ⊢
 have hlen:l.length<=16896:=by rw [hleq]; exact vQ P
 refine Yo rfl rfl ZN (YE rfl (hmv) rfl rfl (fun v1 own1 n1 hr1=>Yq (v:=v1) rfl (Yc (Ye (Ze (Yq rfl (Yc (Yk (Xm (ZaE (.refl _) (.refl _)) (Xp (fun m f _ L=>∃ (i:Nat),(i<=l.length)/\(m=l.length - i)/\(∀ j:Nat,j < i->(M 0,M 1,M 2)≠l.getD j (0,0,0))/\(f 2=.ptr 0 0 133)/\(f 3=.ptr 1 0 3)/\(f 5=v1)/\(f 6=.s (.int .i64 i))/\(L=(own1++[(1,.sc .var 3 (ia M)),(0,.sc .var 133 (ia P))]))) (fun m f nb L hI=>?_) (l.length) (⟨0,by omega,by omega,fun j hj=>by omega,rfl,rfl,rfl,rfl,rfl⟩)))))))))))
 obtain ⟨i,hi,hm,hn,k2,k3,k5,k6,rfl⟩:=hI
 refine Za 2 k2 (Za 3 k3 (Za 5 k5 (Za 6 k6 (Ye (Ze (Zj rfl (Yq (v:=v1) rfl (Wq rfl hr1.rx (by decide) (Xj l) (Zr rfl (Yc (Yj rfl (fun h2=>?_) (fun h2=>?_)))))))))))) <;> simp only [NM] at h2
 ·skip
  refine Yh (Ye (Yk (Ye (Yg (Yq (v:=v1) rfl (Zj rfl ?_))))))
  obtain ⟨b1,q1,md1,c1,F1,rfl,rfl,hF1⟩:=hr1.rx.at (by decide) (Xj l) (by omega)
  refine Zx rfl rfl (Yp rfl rfl ZM (Yo rfl rfl ZN ?_))
  obtain ⟨hx0,hx1,hx2⟩:=xq hF1 (i:=i) (by omega)
  have heq:=eq3' (P:=M) hx0 hx1 hx2
  refine Yx (b:=decide ((M 0,M 1,M 2)=(l.getD i (0,0,0)))) rfl rfl heq (Yc (Yj rfl (fun hdec=>?_) (fun hdec=>?_)))
  ·simp only [NM] at hdec
   (have hyes:(M 0,M 1,M 2)=(l.getD i (0,0,0)):=by simpa using hdec)
   refine Ze (Yq rfl (Zg rfl (ZI ?_)))
   exact (ZaV (idxV_mem.1 (by rw [wq (by omega) hyes hn]; omega))).symm
  simp only [NM] at hdec
  (have hne:(M 0,M 1,M 2)≠(l.getD i (0,0,0)):=by simpa using hdec)
  refine Yh (Yf (Zj rfl (Zs rfl rfl (Zj rfl (Yc (⟨l.length - (i+1),_,by omega,(.refl _),i+1,by omega,rfl,?_,rfl,rfl,rfl,rfl,rfl⟩))))))
  intro j hj
  by_cases e:j=i
  ·subst e; exact hne
  exact hn j (by omega)
 skip
 refine YX (Xe (Ze (Yq rfl (Zg rfl (ZI ?_)))))
 exact (ZaT fun h=>by have:=idxV_mem.2 h; rw [wI fun j hj=>hn j (by omega)] at this; omega).symm
theorem pS (s:Int):WR AM 52 [.s (.int .i64 s)] [] (fun v _ _=>v=.s (.int .i64 (q6 s))):=by
 refine YJ (a:=a52) rfl rfl (YI _) (ZQ rfl) (m:=0) rfl (Ze (Yq rfl (Yc (Ye (Ze (Zj rfl (Zr rfl (Yc (Yj rfl (fun h1=>?_) (fun h1=>?_)))))))))) <;> simp only [NM] at h1
 ·refine Ze (Yq rfl (Yc (Yi (⟨_,ZL rfl,?_⟩))))
  refine ZJ ?_
  exact (Za8 (by omega)).symm
 refine Yh (Ze (Yq rfl (Yc (Yi (⟨_,ZL rfl,?_⟩)))))
 refine ZJ ?_
 exact (Za7 (by omega)).symm
def Rg (P:Nat->Int):Bool:=WC P&&decide ((XE P).length=0)
theorem stuck_f {P:Nat->Int} (h:Rg P=false):WC P=false\/0 < (XE P).length:=by
 unfold Rg at h
 cases hp:WC P with
 | false=>exact .inl rfl
 | true =>
  rw [hp,Bool.true_and] at h
  have:=of_decide_eq_false h
  exact .inr (by omega)
theorem D8 {P:Nat->Int} (h:Rg P=true):WC P=true/\¬ 0 < (XE P).length:=by
 unfold Rg at h
 rw [ZaM,ZaL] at h
 exact ⟨h.1,by omega⟩
theorem u9 (P:Nat->Int) (hz:∀ i,133<=i->P i=0):WR AM 51 [.agg 133 (ia P)] [] (fun v _ _=>v=.s (.bool (Rg P))):=by
 refine YJ (a:=a51) rfl rfl (YI _) (ZQ rfl) (m:=0) rfl (Ze (YC rfl (Yq rfl (Zf (Zy rfl (Yo rfl rfl ZM (Yt rfl (YG (Jv P)) rfl rfl rfl (Zk rfl (Ys (t:=6) rfl (fun h2=>?_) (fun h2=>?_))))))))))
 ·refine Yb rfl (Zy rfl (Yb rfl (Yo rfl rfl ZM (Yb rfl (YE rfl (vj P) rfl rfl (fun v1 own1 n1 hr1=>Yb rfl (Wq rfl hr1.rx (by decide) (Xj _) (Yb rfl (Zr rfl (Zq rfl (Zk rfl (Zg rfl (ZI ?_)))))))))))))
  unfold Rg
  (rw [show WC P=true by assumption,Bool.true_and,ZaP,Za2,ZaL]; omega)
 refine Ya rfl rfl (ZE rfl (Zq rfl (Zk rfl (Zg rfl (ZI ?_)))))
 unfold Rg
 (rw [show WC P=false by assumption]; rfl)
theorem of_walk (P:Nat->Int) (hz:∀ i,133<=i->P i=0):WR AM 24 [.agg 133 (ia P)] [] (fun v _ _=>v=.tup [.s (.int .i64 (ofN P (XE P).length).1),.s (.int .i64 (ofN P (XE P).length).2)]):=by
 have hid:ovA (fun _=>0) 0 133 P=P:=UX hz
 refine YJ (a:=a24) rfl rfl (YI _) (ZQ rfl) (m:=0) rfl (Ze (YC rfl (Yq rfl (Yq rfl (Yc (Ye (Ze (Yo rfl rfl ZM (YB rfl (.agg rfl .nil) ?_)))))))))
 rw [hid]
 refine Yy (Yz rfl rfl rfl rfl .here ?_)
 rw [hid]
 refine Yc (Yk (Ze (Yo rfl rfl ZM (Yt rfl (YG (u9 P hz)) rfl rfl rfl (Yv (r:=.bool _) rfl rfl (Zk rfl (Yc (Yj rfl (fun h3=>?_) (fun h3=>?_))))))))) <;> simp only [NM] at h3
 ·refine Ze (Yq rfl (Yq rfl (Yc (Yi (⟨_,YK (v:=.s (.int _ _)) rfl (ZL rfl),?_⟩)))))
  (rw [wF (stuck_f (by assumption))]; rfl)
 refine Ze (Yo rfl rfl ZN (Zy rfl (Yd (o':=128) rfl rfl rfl (Ym (x:=P 128) rfl rfl ZM (rfl) (Yt rfl (RO P (P 128)) rfl rfl rfl (Zk rfl (Yc (Yj rfl (fun h4=>?_) (fun h4=>?_)))))))))
 ·refine Ze (Zy rfl (Yd (o':=128) rfl rfl rfl (Ym (x:=P 128) rfl rfl ZM (rfl) (Yt rfl (YG (Uc _)) rfl rfl rfl (Yt rfl (YG (pS _)) rfl rfl rfl (Zj rfl (Yq rfl (Yc (Yi (⟨_,YK (v:=.s (.int _ _)) rfl (ZL rfl),?_⟩))))))))))
  (rw [uF (D8 (by assumption)).1 (D8 (by assumption)).2 (by assumption)]; rfl)
 refine Yh (Ze (Yq rfl (Yq rfl (Yc (Yi (⟨_,YK (v:=.s (.int _ _)) rfl (ZL rfl),?_⟩))))))
 (rw [ju (D8 (by assumption)).1 (D8 (by assumption)).2 (by assumption)]; rfl)
def kI (P:Nat->Int) (c:Int) (s:Nat):Int:=if P (s*2)=6/\P (s*2+1)=c then 1 else 0
def okX (X:Nat->Int):Prop:=(X 0=0/\X 1=0)\/((1<=X 0/\X 0<=6/\(X 1=0\/X 1=1))/\X 0≠1)
def XA (k:Int):ByteArray:=if k=2 then ⟨#[78]⟩ else if k=3 then ⟨#[66]⟩ else if k=4 then ⟨#[82]⟩ else if k=5 then ⟨#[81]⟩ else if k=6 then ⟨#[75]⟩ else ⟨#[]⟩
theorem VL (k:Int):(QV (.int .i64 k) Ej).getD (.s (.str ⟨#[]⟩))=.s (.str (XA k)):=by
 by_cases h2:k=2
 ·subst h2; rfl
 by_cases h3:k=3
 ·subst h3; rfl
 by_cases h4:k=4
 ·subst h4; rfl
 by_cases h5:k=5
 ·subst h5; rfl
 by_cases h6:k=6
 ·subst h6; rfl
 simp [QV,Ej,S.eqB,XA,h2,h3,h4,h5,h6,Ne.symm h2,Ne.symm h3,Ne.symm h4,Ne.symm h5,Ne.symm h6]
theorem QA (k:Int):(XA k).size=if 2<=k/\k<=6 then 1 else 0:=by
 unfold XA
 by_cases h2:k=2
 ·subst h2; rfl
 by_cases h3:k=3
 ·subst h3; rfl
 by_cases h4:k=4
 ·subst h4; rfl
 by_cases h5:k=5
 ·subst h5; rfl
 by_cases h6:k=6
 ·subst h6; rfl
 rw [Za7 h2,Za7 h3,Za7 h4,Za7 h5,Za7 h6,Za7 (by omega)]; rfl
theorem j3:XA 1=⟨#[]⟩:=rfl
theorem Vv (k:Int):(XA k).size<=1:=by rw [QA]; split <;> omega
theorem Xh {x:Int} (h:0<=x/\x < 64):(Y2 x).size=2:=by rw [wl h]; rfl
def RI (c:Int):ByteArray:=if c=-1 then ⟨#[45]⟩ else ⟨#[120]⟩
theorem Wi {c:Int} (h:c=-1):RI c=⟨#[45]⟩:=Za8 h
theorem XZ {c:Int} (h:c≠-1):RI c=⟨#[120]⟩:=Za7 h
theorem rr (c:Int):(RI c).size=1:=by unfold RI; split <;> rfl
def Q1 (P:Nat->Int) (a t:Int):ByteArray:=XA (P (sqI a))++Y2 a++RI (Y7 P (P (sqI a)) a t)++Y2 t
def UM (P:Nat->Int) (a t b:Int):ByteArray :=
 if P (sqI a)=6/\t - a=2 then ⟨#[79,45,79]⟩ else if P (sqI a)=6/\t - a=-2 then ⟨#[79,45,79,45,79]⟩ else if b=0 then Q1 P a t else Q1 P a t++⟨#[61]⟩++XA b
def RU (Q:Nat->Int) (s:ByteArray):ByteArray:=if (ofN Q (XE Q).length).2=1 then s++⟨#[35]⟩ else if Xt Q (Q 128)=true then s++⟨#[43]⟩ else s
def Kn (P:Nat->Int) (a t b:Int):ByteArray:=RU (Xq P a t b) (UM P a t b)
theorem Ub {P:Nat->Int} {a t:Int} (ha:0<=a/\a < 64) (ht:0<=t/\t < 64):5<=(Q1 P a t).size/\(Q1 P a t).size<=6:=by
 unfold Q1
 simp only [Zbf,Xh ha,Xh ht,rr]
 have:=Vv (P (sqI a))
 omega
theorem qF {P:Nat->Int} {a t b:Int} (ha:0<=a/\a < 64) (ht:0<=t/\t < 64):(UM P a t b).size≠0/\(UM P a t b).size<=16:=by
 have h:=Ub (P:=P) ha ht
 have h2:=Vv b
 have h3:(⟨#[61]⟩:ByteArray).size=1:=rfl
 unfold UM
 split
 ·exact ⟨by decide,by decide⟩
 split
 ·exact ⟨by decide,by decide⟩
 split
 ·omega
 simp only [Zbf]; omega
theorem rz {P:Nat->Int} {a t b:Int} (h:P (sqI a)=6) (h2:t - a=2):(⟨#[79,45,79]⟩:ByteArray)=UM P a t b:=by unfold UM; rw [Za8 ⟨h,h2⟩]
theorem u7 {P:Nat->Int} {a t b:Int} (h:P (sqI a)=6) (h2:t - a=-2):(⟨#[79,45,79,45,79]⟩:ByteArray)=UM P a t b:=by unfold UM; rw [Za7 (by omega),Za8 ⟨h,h2⟩]
theorem VA {P:Nat->Int} {a t b:Int} (h1:¬ (P (sqI a)=6/\t - a=2)) (h2:¬ (P (sqI a)=6/\t - a=-2)) (hb:b=0) {s:ByteArray} (hs:s=Q1 P a t):s=UM P a t b:=by unfold UM; rw [Za7 h1,Za7 h2,Za8 hb,hs]
theorem VB {P:Nat->Int} {a t b:Int} (h1:¬ (P (sqI a)=6/\t - a=2)) (h2:¬ (P (sqI a)=6/\t - a=-2)) (hb:b≠0) {s:ByteArray} (hs:s=Q1 P a t):s++⟨#[61]⟩++XA b=UM P a t b:=by unfold UM; rw [Za7 h1,Za7 h2,Za7 hb,hs]
theorem WF {P:Nat->Int} {a t:Int} {g:ByteArray} (hg:g=RI (Y7 P (P (sqI a)) a t)):XA (P (sqI a))++Y2 a++g++Y2 t=Q1 P a t:=by rw [hg]; rfl
theorem UY {P:Nat->Int} {a t:Int} {g:ByteArray} (hk:P (sqI a)=1) (hg:g=RI (Y7 P (P (sqI a)) a t)):Y2 a++g++Y2 t=Q1 P a t:=by
 rw [hg]; unfold Q1
 rw [hk,j3,show (⟨#[]⟩:ByteArray)++Y2 a=Y2 a from ByteArray.empty_append]
theorem Long_no (P M:Nat->Int) (hm:(M 0,M 1,M 2) ∉ XE P):WR AM 8 [.agg 133 (ia P),.agg 3 (ia M)] [] (fun v _ _=>v=.tup [.s (.str ⟨#[]⟩),.s (.int .i64 8)]):=by
 have his:=YG (E2 P M)
 rw [ZaT hm] at his
 refine YJ (a:=a8) rfl rfl (YI _) (ZQ rfl) (m:=0) rfl (Ze (YC rfl (YC rfl (Yq rfl (Yq rfl (Yc (Ye (Ze (Yo rfl rfl ZN (Yo rfl rfl ZM (Yt rfl (his) rfl rfl rfl (Yv (r:=.bool _) rfl rfl (Yc (ZA rfl (Ze (Yq rfl (Yq rfl (Yc (Yi (⟨_,YK (v:=.s _) rfl (ZL rfl),?_⟩))))))))))))))))))))
 rfl
theorem kU (P M:Nat->Int) (hz:∀ i,133<=i->P i=0) (hm:(M 0,M 1,M 2)∈XE P):WR AM 8 [.agg 133 (ia P),.agg 3 (ia M)] [] (fun v _ _=>v=.tup [.s (.str (Kn P (M 0) (M 1) (M 2))),.s (.int .i64 0)]):=by
 have his:=YG (E2 P M)
 rw [ZaV hm] at his
 obtain ⟨h1p,h2p,h3p⟩:=(DV hz).1 hm
 obtain ⟨hsq,htq,hg,hmt⟩:=Ry h2p
 have he:=j7 h2p
 obtain ⟨hk6,_,_,hne⟩:=Ja hg
 simp only at hsq htq hg hmt he hk6 hne
 have htk:=YG (tL P M)
 rw [Za8 he] at htk
 have hmv:=YG (wS P M)
 rw [he] at hmv
 have hsz:=qF (P:=P) (b:=M 2) hsq htq
 refine YJ (a:=a8) rfl rfl (YI _) (ZQ rfl) (m:=0) rfl (Ze (YC rfl (YC rfl (Yq rfl (Yq rfl (Yc (Ye (Ze (Yo rfl rfl ZN (Yo rfl rfl ZM (Yt rfl (his) rfl rfl rfl (Yv (r:=.bool _) rfl rfl (Yc (ZB rfl (Yh (Ye (Yg (EP (v:=.aggv [.pnil,.snil]) rfl (uN rfl rfl (tU uT rfl rfl xz (Zy rfl (Ym (x:=M 0) rfl rfl ZO (rfl) (Zy rfl (Zw rfl rfl rfl (Yp rfl rfl ZP (Yy (Zl rfl (Yq (v:=.map _) rfl (Yz rfl rfl rfl rfl .here ?_)))))))))))))))))))))))))))))
 refine Yc (WD (fun f n L=>∃ (kb:Nat) (s:ByteArray),(s=UM P (M 0) (M 1) (M 2))/\(f 2=.ptr 0 0 133)/\(f 3=.ptr 1 0 3)/\(f 6=.ptr 2 0 2)/\(L=[(kb,.sc (.gty 5) s.size (Wh s)),(2,QM 54 2 kb s.size),(1,.sc .var 3 (ia M)),(0,.sc .var 133 (ia P))])) ?_ (fun f nb L hI=>?_))
 ·refine Ze (Zz rfl (Ym (x:=M 1) rfl rfl ZP (rfl) (Zy rfl (Ym (x:=M 0) rfl rfl ZP (rfl) (Zt rfl rfl (Zj rfl (Yc (Yk (Ze (Zy rfl (Ym (x:=(P (sqI (M 0)))) rfl rfl ZM (rfl) (Zr rfl (Zk rfl (Ys (t:=64) rfl (fun h64=>?_) (fun h64=>?_))))))))))))))) <;> simp only [NM] at h64
  ·refine Yb rfl (Zj rfl (Yb rfl (Zr rfl (Zq rfl (Zk rfl (Yc (Yj rfl (fun h60=>?_) (fun h60=>?_)))))))) <;> simp only [NM] at h60
   ·refine Yf (Zl rfl (EK rfl (XS (Lr:=[(_,_)]) (L0:=[_,_,_,_]) (kQ (gS1 ⟨#[79,45,79]⟩) (.ex 1) ⟨#[79,45,79]⟩ rfl (by decide) (by decide)) rfl rfl (Zbr (.refl _) ((Zbs _ ((Zbs _ ((Zbs _ (.refl _)).trans (.swap _ _ _))).trans (.swap _ _ _))).trans (.swap _ _ _))) rfl rfl rfl rfl rfl rfl rfl (Yc ?_))))
    refine ⟨_,(.cons_cons _ (.cons_cons _ (.cons _ (.cons _ (.cons _ (.refl _)))))),6,_,rz h64 h60,rfl,rfl,rfl,rfl⟩
   refine Ze (Zy rfl (Ym (x:=(P (sqI (M 0)))) rfl rfl ZM (rfl) (Zr rfl (Zk rfl (Ys (t:=75) rfl (fun h75=>?_) (fun h75=>?_)))))) <;> simp only [NM] at h75
   ·refine Yb rfl (Zj rfl (Yb rfl (Zr rfl (Zq rfl (Zk rfl (Yc (Yj rfl (fun h71=>?_) (fun h71=>?_)))))))) <;> simp only [NM] at h71
    ·refine Yf (Zl rfl (EK rfl (XS (Lr:=[(_,_)]) (L0:=[_,_,_,_]) (kQ (gS1 ⟨#[79,45,79,45,79]⟩) (.ex 1) ⟨#[79,45,79,45,79]⟩ rfl (by decide) (by decide)) rfl rfl (Zbr (.refl _) ((Zbs _ ((Zbs _ ((Zbs _ (.refl _)).trans (.swap _ _ _))).trans (.swap _ _ _))).trans (.swap _ _ _))) rfl rfl rfl rfl rfl rfl rfl (Yc ?_))))
     refine ⟨_,(.cons_cons _ (.cons_cons _ (.cons _ (.cons _ (.cons _ (.refl _)))))),6,_,u7 h75 h71,rfl,rfl,rfl,rfl⟩
    refine Ze (Yq rfl (Yc (Ye (Ze (Yo rfl rfl (.tail _ ZP) (Yo rfl rfl ZP (Yt rfl (htk) rfl rfl rfl (Zr rfl (Yc (Yj rfl (fun h35=>?_) (fun h35=>?_))))))))))) <;> simp only [NM] at h35
    ·refine Yf (Yq rfl (Yc (Ye (Yg (Zl rfl (Yq (v:=.map _) rfl (Zy rfl (Ym (x:=(P (sqI (M 0)))) rfl rfl ZM (rfl) (Vo rfl rfl ZN rfl (VL _) (Zy rfl (Ym (x:=M 0) rfl rfl ZP (rfl) (Yu rfl (Ul _) rfl rfl rfl (Yq (v:=.s _) rfl (Zz rfl (Ym (x:=M 1) rfl rfl ZP (rfl) (Yu rfl (Ul _) rfl rfl rfl (TM rfl rfl rfl rfl ?_)))))))))))))))))
     by_cases hk1:P (sqI (M 0))=1
     ·refine XS (Lr:=[(_,_)]) (L0:=[_,_,_,_]) (RP (gS4 (XA (P (sqI (M 0)))) (Y2 (M 0)) ⟨#[120]⟩ (Y2 (M 1))) (.ex 4) (XA (P (sqI (M 0)))) (Y2 (M 0)) ⟨#[120]⟩ (Y2 (M 1)) rfl rfl rfl rfl (by rw [hk1]; rfl) (by rw [Xh hsq]; omega) (by rw [Xh hsq,Xh htq]; exact YF rfl)) rfl rfl (Zbr (.refl _) ((Zbs _ ((Zbs _ ((Zbs _ (.refl _)).trans (.swap _ _ _))).trans (.swap _ _ _))).trans (.swap _ _ _))) rfl rfl rfl rfl rfl rfl rfl (Zf (Yd (o':=2) rfl rfl rfl (Ym (x:=M 2) rfl rfl (.tail _ (.tail _ ZP)) (rfl) (Zr rfl (Yc (Yj rfl (fun h52=>?_) (fun h52=>?_))))))) <;> simp only [NM] at h52
      ·refine Yf (Zl rfl (Yq (v:=.map _) rfl (Yd (o':=2) rfl rfl rfl (Ym (x:=M 2) rfl rfl (.tail _ (.tail _ ZP)) (rfl) (Vo rfl rfl (.tail _ ZP) rfl (VL _) (Qh rfl rfl (XS (Lr:=[(_,_),(_,_)]) (L0:=[_,_,_,_,_]) (Qn (gS2 ⟨#[61]⟩ (XA (M 2))) (.ex 2) ⟨#[61]⟩ (XA (M 2)) (Y2 (M 0)++⟨#[120]⟩++Y2 (M 1)) rfl rfl (by rw [UY hk1 ((XZ h35).symm)]; have h8:=Vv (M 2); have h9:=Ub (P:=P) hsq htq; have h7:(⟨#[61]⟩:ByteArray).size=1:=rfl; omega)) rfl rfl (Zbr (Zbr (.refl _) ((Zbs _ (.refl _)).trans (.swap _ _ _))) ((Zbs _ ((Zbs _ (.refl _)).trans (.swap _ _ _))).trans (.swap _ _ _))) rfl rfl rfl rfl rfl rfl rfl (Yc ?_))))))))
       refine ⟨_,(.cons_cons _ (.cons_cons _ (.cons _ (.cons _ (.cons _ (.cons _ (.cons _ (.refl _)))))))),8,_,VB (fun q=>h60 q.2) (fun q=>h71 q.2) h52 (UY hk1 ((XZ h35).symm)),rfl,rfl,rfl,rfl⟩
      refine Yh ?_
      refine ⟨_,(.cons_cons _ (.cons_cons _ (.cons _ (.cons _ (.cons _ (.refl _)))))),6,_,VA (fun q=>h60 q.2) (fun q=>h71 q.2) h52 (UY hk1 ((XZ h35).symm)),rfl,rfl,rfl,rfl⟩
     refine XS (Lr:=[(_,_)]) (L0:=[_,_,_,_]) (TL (gS4 (XA (P (sqI (M 0)))) (Y2 (M 0)) ⟨#[120]⟩ (Y2 (M 1))) (.ex 4) (XA (P (sqI (M 0)))) (Y2 (M 0)) ⟨#[120]⟩ (Y2 (M 1)) rfl rfl rfl rfl (by rw [QA,Za8 (by omega)]; omega) (by rw [Xh hsq,Xh htq,QA,Za8 (by omega)]; exact YF rfl)) rfl rfl (Zbr (.refl _) ((Zbs _ ((Zbs _ ((Zbs _ (.refl _)).trans (.swap _ _ _))).trans (.swap _ _ _))).trans (.swap _ _ _))) rfl rfl rfl rfl rfl rfl rfl (Zf (Yd (o':=2) rfl rfl rfl (Ym (x:=M 2) rfl rfl (.tail _ (.tail _ ZP)) (rfl) (Zr rfl (Yc (Yj rfl (fun h52=>?_) (fun h52=>?_))))))) <;> simp only [NM] at h52
     ·refine Yf (Zl rfl (Yq (v:=.map _) rfl (Yd (o':=2) rfl rfl rfl (Ym (x:=M 2) rfl rfl (.tail _ (.tail _ ZP)) (rfl) (Vo rfl rfl (.tail _ ZP) rfl (VL _) (Qh rfl rfl (XS (Lr:=[(_,_),(_,_)]) (L0:=[_,_,_,_,_]) (Qn (gS2 ⟨#[61]⟩ (XA (M 2))) (.ex 2) ⟨#[61]⟩ (XA (M 2)) (XA (P (sqI (M 0)))++Y2 (M 0)++⟨#[120]⟩++Y2 (M 1)) rfl rfl (by rw [WF ((XZ h35).symm)]; have h8:=Vv (M 2); have h9:=Ub (P:=P) hsq htq; have h7:(⟨#[61]⟩:ByteArray).size=1:=rfl; omega)) rfl rfl (Zbr (Zbr (.refl _) ((Zbs _ (.refl _)).trans (.swap _ _ _))) ((Zbs _ ((Zbs _ (.refl _)).trans (.swap _ _ _))).trans (.swap _ _ _))) rfl rfl rfl rfl rfl rfl rfl (Yc ?_))))))))
      refine ⟨_,(.cons_cons _ (.cons_cons _ (.cons _ (.cons _ (.cons _ (.cons _ (.cons _ (.refl _)))))))),8,_,VB (fun q=>h60 q.2) (fun q=>h71 q.2) h52 (WF ((XZ h35).symm)),rfl,rfl,rfl,rfl⟩
     refine Yh ?_
     refine ⟨_,(.cons_cons _ (.cons_cons _ (.cons _ (.cons _ (.cons _ (.refl _)))))),6,_,VA (fun q=>h60 q.2) (fun q=>h71 q.2) h52 (WF ((XZ h35).symm)),rfl,rfl,rfl,rfl⟩
    refine Yh (Ye (Yg (Zl rfl (Yq (v:=.map _) rfl (Zy rfl (Ym (x:=(P (sqI (M 0)))) rfl rfl ZM (rfl) (Vo rfl rfl ZN rfl (VL _) (Zy rfl (Ym (x:=M 0) rfl rfl ZP (rfl) (Yu rfl (Ul _) rfl rfl rfl (Yq (v:=.s _) rfl (Zz rfl (Ym (x:=M 1) rfl rfl ZP (rfl) (Yu rfl (Ul _) rfl rfl rfl (TM rfl rfl rfl rfl ?_)))))))))))))))
    by_cases hk1:P (sqI (M 0))=1
    ·refine XS (Lr:=[(_,_)]) (L0:=[_,_,_,_]) (RP (gS4 (XA (P (sqI (M 0)))) (Y2 (M 0)) ⟨#[45]⟩ (Y2 (M 1))) (.ex 4) (XA (P (sqI (M 0)))) (Y2 (M 0)) ⟨#[45]⟩ (Y2 (M 1)) rfl rfl rfl rfl (by rw [hk1]; rfl) (by rw [Xh hsq]; omega) (by rw [Xh hsq,Xh htq]; exact YF rfl)) rfl rfl (Zbr (.refl _) ((Zbs _ ((Zbs _ ((Zbs _ (.refl _)).trans (.swap _ _ _))).trans (.swap _ _ _))).trans (.swap _ _ _))) rfl rfl rfl rfl rfl rfl rfl (Zf (Yd (o':=2) rfl rfl rfl (Ym (x:=M 2) rfl rfl (.tail _ (.tail _ ZP)) (rfl) (Zr rfl (Yc (Yj rfl (fun h52=>?_) (fun h52=>?_))))))) <;> simp only [NM] at h52
     ·refine Yf (Zl rfl (Yq (v:=.map _) rfl (Yd (o':=2) rfl rfl rfl (Ym (x:=M 2) rfl rfl (.tail _ (.tail _ ZP)) (rfl) (Vo rfl rfl (.tail _ ZP) rfl (VL _) (Qh rfl rfl (XS (Lr:=[(_,_),(_,_)]) (L0:=[_,_,_,_,_]) (Qn (gS2 ⟨#[61]⟩ (XA (M 2))) (.ex 2) ⟨#[61]⟩ (XA (M 2)) (Y2 (M 0)++⟨#[45]⟩++Y2 (M 1)) rfl rfl (by rw [UY hk1 ((Wi h35).symm)]; have h8:=Vv (M 2); have h9:=Ub (P:=P) hsq htq; have h7:(⟨#[61]⟩:ByteArray).size=1:=rfl; omega)) rfl rfl (Zbr (Zbr (.refl _) ((Zbs _ (.refl _)).trans (.swap _ _ _))) ((Zbs _ ((Zbs _ (.refl _)).trans (.swap _ _ _))).trans (.swap _ _ _))) rfl rfl rfl rfl rfl rfl rfl (Yc ?_))))))))
      refine ⟨_,(.cons_cons _ (.cons_cons _ (.cons _ (.cons _ (.cons _ (.cons _ (.cons _ (.refl _)))))))),8,_,VB (fun q=>h60 q.2) (fun q=>h71 q.2) h52 (UY hk1 ((Wi h35).symm)),rfl,rfl,rfl,rfl⟩
     refine Yh ?_
     refine ⟨_,(.cons_cons _ (.cons_cons _ (.cons _ (.cons _ (.cons _ (.refl _)))))),6,_,VA (fun q=>h60 q.2) (fun q=>h71 q.2) h52 (UY hk1 ((Wi h35).symm)),rfl,rfl,rfl,rfl⟩
    refine XS (Lr:=[(_,_)]) (L0:=[_,_,_,_]) (TL (gS4 (XA (P (sqI (M 0)))) (Y2 (M 0)) ⟨#[45]⟩ (Y2 (M 1))) (.ex 4) (XA (P (sqI (M 0)))) (Y2 (M 0)) ⟨#[45]⟩ (Y2 (M 1)) rfl rfl rfl rfl (by rw [QA,Za8 (by omega)]; omega) (by rw [Xh hsq,Xh htq,QA,Za8 (by omega)]; exact YF rfl)) rfl rfl (Zbr (.refl _) ((Zbs _ ((Zbs _ ((Zbs _ (.refl _)).trans (.swap _ _ _))).trans (.swap _ _ _))).trans (.swap _ _ _))) rfl rfl rfl rfl rfl rfl rfl (Zf (Yd (o':=2) rfl rfl rfl (Ym (x:=M 2) rfl rfl (.tail _ (.tail _ ZP)) (rfl) (Zr rfl (Yc (Yj rfl (fun h52=>?_) (fun h52=>?_))))))) <;> simp only [NM] at h52
    ·refine Yf (Zl rfl (Yq (v:=.map _) rfl (Yd (o':=2) rfl rfl rfl (Ym (x:=M 2) rfl rfl (.tail _ (.tail _ ZP)) (rfl) (Vo rfl rfl (.tail _ ZP) rfl (VL _) (Qh rfl rfl (XS (Lr:=[(_,_),(_,_)]) (L0:=[_,_,_,_,_]) (Qn (gS2 ⟨#[61]⟩ (XA (M 2))) (.ex 2) ⟨#[61]⟩ (XA (M 2)) (XA (P (sqI (M 0)))++Y2 (M 0)++⟨#[45]⟩++Y2 (M 1)) rfl rfl (by rw [WF ((Wi h35).symm)]; have h8:=Vv (M 2); have h9:=Ub (P:=P) hsq htq; have h7:(⟨#[61]⟩:ByteArray).size=1:=rfl; omega)) rfl rfl (Zbr (Zbr (.refl _) ((Zbs _ (.refl _)).trans (.swap _ _ _))) ((Zbs _ ((Zbs _ (.refl _)).trans (.swap _ _ _))).trans (.swap _ _ _))) rfl rfl rfl rfl rfl rfl rfl (Yc ?_))))))))
     refine ⟨_,(.cons_cons _ (.cons_cons _ (.cons _ (.cons _ (.cons _ (.cons _ (.cons _ (.refl _)))))))),8,_,VB (fun q=>h60 q.2) (fun q=>h71 q.2) h52 (WF ((Wi h35).symm)),rfl,rfl,rfl,rfl⟩
    refine Yh ?_
    refine ⟨_,(.cons_cons _ (.cons_cons _ (.cons _ (.cons _ (.cons _ (.refl _)))))),6,_,VA (fun q=>h60 q.2) (fun q=>h71 q.2) h52 (WF ((Wi h35).symm)),rfl,rfl,rfl,rfl⟩
   exfalso; omega
  refine ZD rfl (Zq rfl (Zk rfl (Yc (ZB rfl (Ze (Zy rfl (Ym (x:=(P (sqI (M 0)))) rfl rfl ZM (rfl) (Zr rfl (Zk rfl (Ys (t:=75) rfl (fun h75=>?_) (fun h75=>?_))))))))))) <;> simp only [NM] at h75
  ·exfalso; omega
  refine ZD rfl (Zq rfl (Zk rfl (Yc (ZB rfl (Ze (Yq rfl (Yc (Ye (Ze (Yo rfl rfl (.tail _ ZP) (Yo rfl rfl ZP (Yt rfl (htk) rfl rfl rfl (Zr rfl (Yc (Yj rfl (fun h35=>?_) (fun h35=>?_)))))))))))))))) <;> simp only [NM] at h35
  ·refine Yf (Yq rfl (Yc (Ye (Yg (Zl rfl (Yq (v:=.map _) rfl (Zy rfl (Ym (x:=(P (sqI (M 0)))) rfl rfl ZM (rfl) (Vo rfl rfl ZN rfl (VL _) (Zy rfl (Ym (x:=M 0) rfl rfl ZP (rfl) (Yu rfl (Ul _) rfl rfl rfl (Yq (v:=.s _) rfl (Zz rfl (Ym (x:=M 1) rfl rfl ZP (rfl) (Yu rfl (Ul _) rfl rfl rfl (TM rfl rfl rfl rfl ?_)))))))))))))))))
   by_cases hk1:P (sqI (M 0))=1
   ·refine XS (Lr:=[(_,_)]) (L0:=[_,_,_,_]) (RP (gS4 (XA (P (sqI (M 0)))) (Y2 (M 0)) ⟨#[120]⟩ (Y2 (M 1))) (.ex 4) (XA (P (sqI (M 0)))) (Y2 (M 0)) ⟨#[120]⟩ (Y2 (M 1)) rfl rfl rfl rfl (by rw [hk1]; rfl) (by rw [Xh hsq]; omega) (by rw [Xh hsq,Xh htq]; exact YF rfl)) rfl rfl (Zbr (.refl _) ((Zbs _ ((Zbs _ ((Zbs _ (.refl _)).trans (.swap _ _ _))).trans (.swap _ _ _))).trans (.swap _ _ _))) rfl rfl rfl rfl rfl rfl rfl (Zf (Yd (o':=2) rfl rfl rfl (Ym (x:=M 2) rfl rfl (.tail _ (.tail _ ZP)) (rfl) (Zr rfl (Yc (Yj rfl (fun h52=>?_) (fun h52=>?_))))))) <;> simp only [NM] at h52
    ·refine Yf (Zl rfl (Yq (v:=.map _) rfl (Yd (o':=2) rfl rfl rfl (Ym (x:=M 2) rfl rfl (.tail _ (.tail _ ZP)) (rfl) (Vo rfl rfl (.tail _ ZP) rfl (VL _) (Qh rfl rfl (XS (Lr:=[(_,_),(_,_)]) (L0:=[_,_,_,_,_]) (Qn (gS2 ⟨#[61]⟩ (XA (M 2))) (.ex 2) ⟨#[61]⟩ (XA (M 2)) (Y2 (M 0)++⟨#[120]⟩++Y2 (M 1)) rfl rfl (by rw [UY hk1 ((XZ h35).symm)]; have h8:=Vv (M 2); have h9:=Ub (P:=P) hsq htq; have h7:(⟨#[61]⟩:ByteArray).size=1:=rfl; omega)) rfl rfl (Zbr (Zbr (.refl _) ((Zbs _ (.refl _)).trans (.swap _ _ _))) ((Zbs _ ((Zbs _ (.refl _)).trans (.swap _ _ _))).trans (.swap _ _ _))) rfl rfl rfl rfl rfl rfl rfl (Yc ?_))))))))
     refine ⟨_,(.cons_cons _ (.cons_cons _ (.cons _ (.cons _ (.cons _ (.cons _ (.cons _ (.refl _)))))))),8,_,VB (fun q=>h64 q.1) (fun q=>h75 q.1) h52 (UY hk1 ((XZ h35).symm)),rfl,rfl,rfl,rfl⟩
    refine Yh ?_
    refine ⟨_,(.cons_cons _ (.cons_cons _ (.cons _ (.cons _ (.cons _ (.refl _)))))),6,_,VA (fun q=>h64 q.1) (fun q=>h75 q.1) h52 (UY hk1 ((XZ h35).symm)),rfl,rfl,rfl,rfl⟩
   refine XS (Lr:=[(_,_)]) (L0:=[_,_,_,_]) (TL (gS4 (XA (P (sqI (M 0)))) (Y2 (M 0)) ⟨#[120]⟩ (Y2 (M 1))) (.ex 4) (XA (P (sqI (M 0)))) (Y2 (M 0)) ⟨#[120]⟩ (Y2 (M 1)) rfl rfl rfl rfl (by rw [QA,Za8 (by omega)]; omega) (by rw [Xh hsq,Xh htq,QA,Za8 (by omega)]; exact YF rfl)) rfl rfl (Zbr (.refl _) ((Zbs _ ((Zbs _ ((Zbs _ (.refl _)).trans (.swap _ _ _))).trans (.swap _ _ _))).trans (.swap _ _ _))) rfl rfl rfl rfl rfl rfl rfl (Zf (Yd (o':=2) rfl rfl rfl (Ym (x:=M 2) rfl rfl (.tail _ (.tail _ ZP)) (rfl) (Zr rfl (Yc (Yj rfl (fun h52=>?_) (fun h52=>?_))))))) <;> simp only [NM] at h52
   ·refine Yf (Zl rfl (Yq (v:=.map _) rfl (Yd (o':=2) rfl rfl rfl (Ym (x:=M 2) rfl rfl (.tail _ (.tail _ ZP)) (rfl) (Vo rfl rfl (.tail _ ZP) rfl (VL _) (Qh rfl rfl (XS (Lr:=[(_,_),(_,_)]) (L0:=[_,_,_,_,_]) (Qn (gS2 ⟨#[61]⟩ (XA (M 2))) (.ex 2) ⟨#[61]⟩ (XA (M 2)) (XA (P (sqI (M 0)))++Y2 (M 0)++⟨#[120]⟩++Y2 (M 1)) rfl rfl (by rw [WF ((XZ h35).symm)]; have h8:=Vv (M 2); have h9:=Ub (P:=P) hsq htq; have h7:(⟨#[61]⟩:ByteArray).size=1:=rfl; omega)) rfl rfl (Zbr (Zbr (.refl _) ((Zbs _ (.refl _)).trans (.swap _ _ _))) ((Zbs _ ((Zbs _ (.refl _)).trans (.swap _ _ _))).trans (.swap _ _ _))) rfl rfl rfl rfl rfl rfl rfl (Yc ?_))))))))
    refine ⟨_,(.cons_cons _ (.cons_cons _ (.cons _ (.cons _ (.cons _ (.cons _ (.cons _ (.refl _)))))))),8,_,VB (fun q=>h64 q.1) (fun q=>h75 q.1) h52 (WF ((XZ h35).symm)),rfl,rfl,rfl,rfl⟩
   refine Yh ?_
   refine ⟨_,(.cons_cons _ (.cons_cons _ (.cons _ (.cons _ (.cons _ (.refl _)))))),6,_,VA (fun q=>h64 q.1) (fun q=>h75 q.1) h52 (WF ((XZ h35).symm)),rfl,rfl,rfl,rfl⟩
  refine Yh (Ye (Yg (Zl rfl (Yq (v:=.map _) rfl (Zy rfl (Ym (x:=(P (sqI (M 0)))) rfl rfl ZM (rfl) (Vo rfl rfl ZN rfl (VL _) (Zy rfl (Ym (x:=M 0) rfl rfl ZP (rfl) (Yu rfl (Ul _) rfl rfl rfl (Yq (v:=.s _) rfl (Zz rfl (Ym (x:=M 1) rfl rfl ZP (rfl) (Yu rfl (Ul _) rfl rfl rfl (TM rfl rfl rfl rfl ?_)))))))))))))))
  by_cases hk1:P (sqI (M 0))=1
  ·refine XS (Lr:=[(_,_)]) (L0:=[_,_,_,_]) (RP (gS4 (XA (P (sqI (M 0)))) (Y2 (M 0)) ⟨#[45]⟩ (Y2 (M 1))) (.ex 4) (XA (P (sqI (M 0)))) (Y2 (M 0)) ⟨#[45]⟩ (Y2 (M 1)) rfl rfl rfl rfl (by rw [hk1]; rfl) (by rw [Xh hsq]; omega) (by rw [Xh hsq,Xh htq]; exact YF rfl)) rfl rfl (Zbr (.refl _) ((Zbs _ ((Zbs _ ((Zbs _ (.refl _)).trans (.swap _ _ _))).trans (.swap _ _ _))).trans (.swap _ _ _))) rfl rfl rfl rfl rfl rfl rfl (Zf (Yd (o':=2) rfl rfl rfl (Ym (x:=M 2) rfl rfl (.tail _ (.tail _ ZP)) (rfl) (Zr rfl (Yc (Yj rfl (fun h52=>?_) (fun h52=>?_))))))) <;> simp only [NM] at h52
   ·refine Yf (Zl rfl (Yq (v:=.map _) rfl (Yd (o':=2) rfl rfl rfl (Ym (x:=M 2) rfl rfl (.tail _ (.tail _ ZP)) (rfl) (Vo rfl rfl (.tail _ ZP) rfl (VL _) (Qh rfl rfl (XS (Lr:=[(_,_),(_,_)]) (L0:=[_,_,_,_,_]) (Qn (gS2 ⟨#[61]⟩ (XA (M 2))) (.ex 2) ⟨#[61]⟩ (XA (M 2)) (Y2 (M 0)++⟨#[45]⟩++Y2 (M 1)) rfl rfl (by rw [UY hk1 ((Wi h35).symm)]; have h8:=Vv (M 2); have h9:=Ub (P:=P) hsq htq; have h7:(⟨#[61]⟩:ByteArray).size=1:=rfl; omega)) rfl rfl (Zbr (Zbr (.refl _) ((Zbs _ (.refl _)).trans (.swap _ _ _))) ((Zbs _ ((Zbs _ (.refl _)).trans (.swap _ _ _))).trans (.swap _ _ _))) rfl rfl rfl rfl rfl rfl rfl (Yc ?_))))))))
    refine ⟨_,(.cons_cons _ (.cons_cons _ (.cons _ (.cons _ (.cons _ (.cons _ (.cons _ (.refl _)))))))),8,_,VB (fun q=>h64 q.1) (fun q=>h75 q.1) h52 (UY hk1 ((Wi h35).symm)),rfl,rfl,rfl,rfl⟩
   refine Yh ?_
   refine ⟨_,(.cons_cons _ (.cons_cons _ (.cons _ (.cons _ (.cons _ (.refl _)))))),6,_,VA (fun q=>h64 q.1) (fun q=>h75 q.1) h52 (UY hk1 ((Wi h35).symm)),rfl,rfl,rfl,rfl⟩
  refine XS (Lr:=[(_,_)]) (L0:=[_,_,_,_]) (TL (gS4 (XA (P (sqI (M 0)))) (Y2 (M 0)) ⟨#[45]⟩ (Y2 (M 1))) (.ex 4) (XA (P (sqI (M 0)))) (Y2 (M 0)) ⟨#[45]⟩ (Y2 (M 1)) rfl rfl rfl rfl (by rw [QA,Za8 (by omega)]; omega) (by rw [Xh hsq,Xh htq,QA,Za8 (by omega)]; exact YF rfl)) rfl rfl (Zbr (.refl _) ((Zbs _ ((Zbs _ ((Zbs _ (.refl _)).trans (.swap _ _ _))).trans (.swap _ _ _))).trans (.swap _ _ _))) rfl rfl rfl rfl rfl rfl rfl (Zf (Yd (o':=2) rfl rfl rfl (Ym (x:=M 2) rfl rfl (.tail _ (.tail _ ZP)) (rfl) (Zr rfl (Yc (Yj rfl (fun h52=>?_) (fun h52=>?_))))))) <;> simp only [NM] at h52
  ·refine Yf (Zl rfl (Yq (v:=.map _) rfl (Yd (o':=2) rfl rfl rfl (Ym (x:=M 2) rfl rfl (.tail _ (.tail _ ZP)) (rfl) (Vo rfl rfl (.tail _ ZP) rfl (VL _) (Qh rfl rfl (XS (Lr:=[(_,_),(_,_)]) (L0:=[_,_,_,_,_]) (Qn (gS2 ⟨#[61]⟩ (XA (M 2))) (.ex 2) ⟨#[61]⟩ (XA (M 2)) (XA (P (sqI (M 0)))++Y2 (M 0)++⟨#[45]⟩++Y2 (M 1)) rfl rfl (by rw [WF ((Wi h35).symm)]; have h8:=Vv (M 2); have h9:=Ub (P:=P) hsq htq; have h7:(⟨#[61]⟩:ByteArray).size=1:=rfl; omega)) rfl rfl (Zbr (Zbr (.refl _) ((Zbs _ (.refl _)).trans (.swap _ _ _))) ((Zbs _ ((Zbs _ (.refl _)).trans (.swap _ _ _))).trans (.swap _ _ _))) rfl rfl rfl rfl rfl rfl rfl (Yc ?_))))))))
   refine ⟨_,(.cons_cons _ (.cons_cons _ (.cons _ (.cons _ (.cons _ (.cons _ (.cons _ (.refl _)))))))),8,_,VB (fun q=>h64 q.1) (fun q=>h75 q.1) h52 (WF ((Wi h35).symm)),rfl,rfl,rfl,rfl⟩
  refine Yh ?_
  refine ⟨_,(.cons_cons _ (.cons_cons _ (.cons _ (.cons _ (.cons _ (.refl _)))))),6,_,VA (fun q=>h64 q.1) (fun q=>h75 q.1) h52 (WF ((Wi h35).symm)),rfl,rfl,rfl,rfl⟩
 obtain ⟨kb,s,hs,k2,k3,k6,rfl⟩:=hI
 refine Za 2 k2 (Za 3 k3 (Za 6 k6 ?_))
 rw [<- hs] at hsz
 have hqz0:=fun (i9:Nat) (hi9:133<=i9)=>UF (P:=P) (a:=M 0) (t:=M 1) (b:=M 2) hi9
 obtain ⟨Q,hQ⟩:∃ Q,Q=Xq P (M 0) (M 1) (M 2):=⟨_,rfl⟩
 rw [<- hQ] at hmv hqz0
 have hqid:ovA (fun _=>0) 0 133 Q=Q:=UX hqz0
 have hof:RF AM 24 [.agg 133 (ia (ovA (fun _=>0) 0 133 Q))] (.tup [.s (.int .i64 (ofN Q (XE Q).length).1),.s (.int .i64 (ofN Q (XE Q).length).2)]):=by rw [hqid]; exact YG (of_walk Q hqz0)
 have hchk:RF AM 25 [.agg 133 (ia (ovA (fun _=>0) 0 133 Q)),.s (.int .i64 (Q 128))] (.s (.bool (Xt Q (Q 128)))):=by rw [hqid]; exact RO Q (Q 128)
 refine Ze (Yo rfl rfl ZP (Yo rfl rfl ZO (Yt rfl (hmv) rfl rfl rfl (Zo rfl (YD (v:=.agg _ _) rfl rfl (YD (v:=.s (.int _ _)) rfl rfl (Yy (Yz rfl rfl rfl rfl .here (Zj rfl (Yc (Ye (Ze (Yo rfl rfl ZM (Yt rfl (hof) rfl rfl rfl (Zo rfl (YD (v:=.s (.int _ _)) rfl rfl (YD (v:=.s (.int _ _)) rfl rfl (Zj rfl (Zj rfl (Yc (Yk (Ze (Zj rfl (Zr rfl (Zk rfl (Yc (Yj rfl (fun h93=>?_) (fun h93=>?_)))))))))))))))))))))))))))) <;> simp only [NM] at h93
 ·refine Yf (Zl rfl (EK rfl (XS (Lr:=[(_,_),(_,_)]) (L0:=[_,_,_]) (kj (gS1 ⟨#[35]⟩) (.ex 1) ⟨#[35]⟩ s rfl (by have h7:(⟨#[35]⟩:ByteArray).size=1:=rfl; omega)) rfl rfl (Zbr (Zbr (.refl _) ((Zbs _ ((Zbs _ (.refl _)).trans (.swap _ _ _))).trans (.swap _ _ _))) ((Zbs _ ((Zbs _ ((Zbs _ (.refl _)).trans (.swap _ _ _))).trans (.swap _ _ _))).trans (.swap _ _ _))) rfl rfl rfl rfl rfl rfl rfl (Zf (Zl rfl (YM rfl (Zy rfl (D9 (yG (s++⟨#[35]⟩) (by simp only [Zbf]; omega) (by have h7:(⟨#[35]⟩:ByteArray).size=1:=rfl; simp only [Zbf]; omega)) rfl rfl rfl rfl ZN .here (Yq (v:=.s _) rfl (Yq rfl (Yc (Yi (⟨_,YK (v:=.s _) rfl (ZL rfl),?_⟩)))))))))))))
  refine congrArg (fun x=>V.tup [.s (.str x),.s (.int .i64 0)]) ?_
  unfold Kn RU
  rw [<- hQ,<- hs]
  rw [Za8 h93]
 refine Ze (Yo rfl rfl ZM (Yd (o':=128) rfl rfl rfl (Ym (x:=Q 128) rfl rfl ZM (rfl) (Yt rfl (hchk) rfl rfl rfl (Zk rfl (Yc (Yj rfl (fun h99=>?_) (fun h99=>?_))))))))
 ·refine Yf (Zl rfl (EK rfl (XS (Lr:=[(_,_),(_,_)]) (L0:=[_,_,_]) (kj (gS1 ⟨#[43]⟩) (.ex 1) ⟨#[43]⟩ s rfl (by have h7:(⟨#[43]⟩:ByteArray).size=1:=rfl; omega)) rfl rfl (Zbr (Zbr (.refl _) ((Zbs _ ((Zbs _ (.refl _)).trans (.swap _ _ _))).trans (.swap _ _ _))) ((Zbs _ ((Zbs _ ((Zbs _ (.refl _)).trans (.swap _ _ _))).trans (.swap _ _ _))).trans (.swap _ _ _))) rfl rfl rfl rfl rfl rfl rfl (Zf (Zl rfl (YM rfl (Zy rfl (D9 (yG (s++⟨#[43]⟩) (by simp only [Zbf]; omega) (by have h7:(⟨#[43]⟩:ByteArray).size=1:=rfl; simp only [Zbf]; omega)) rfl rfl rfl rfl ZN .here (Yq (v:=.s _) rfl (Yq rfl (Yc (Yi (⟨_,YK (v:=.s _) rfl (ZL rfl),?_⟩)))))))))))))
  refine congrArg (fun x=>V.tup [.s (.str x),.s (.int .i64 0)]) ?_
  unfold Kn RU
  rw [<- hQ,<- hs]
  rw [Za7 h93,Za8 h99]
 refine Yh (Ze (Zl rfl (YM rfl (Zy rfl (D9 (yG s (by omega) (by omega)) rfl rfl rfl rfl ZO (.there .here) (Yq (v:=.s _) rfl (Yq rfl (Yc (Yi (⟨_,YK (v:=.s _) rfl (ZL rfl),?_⟩))))))))))
 refine congrArg (fun x=>V.tup [.s (.str x),.s (.int .i64 0)]) ?_
 unfold Kn RU
 rw [<- hQ,<- hs]
 rw [Za7 h93,h99,Za7 Bool.false_ne_true]
end Go.Proofs.YtlkighkfkdpncaaGreatDoor
