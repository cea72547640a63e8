/- Texts of this seat, joined. -/
import Derived.Test.YtlkighkfkdpncaaGreatAm0
import Derived.Test.YtlkighkfkdpncaaGreatAm1
import Derived.Test.YtlkighkfkdpncaaGreatAm2
import Derived.Test.YtlkighkfkdpncaaGreatM0
set_option linter.unusedSimpArgs false
set_option linter.unusedVariables false
namespace Go.Proofs.YtlkighkfkdpncaaGreat
open Go Go.Am
theorem zT (x:Int) (h:¬ (0≤x∧x < 64)):RF AM 58 [.s (.int .i64 x)] (.agg 3 (lc [.int .i64 (-1),.int .i64 (-1),.bool false])):=by
 have:=YF (sd x)
 rw [ofL,if_neg h] at this
 exact this
def E7 (x:Int):Int:=if 0≤x∧x < 64 then x % 8 else -1
def X6 (x:Int):Int:=if 0≤x∧x < 64 then x / 8 else -1
def isM (x:Int):Bool:=decide (0≤x∧x < 64)
def atM (a b:Int):Int:=if 0≤a∧a < 8∧0≤b∧b < 8 then b*8+a else -1
theorem File_in (x:Int) (h:0≤x∧x < 64):WR AM 40 [.s (.int .i64 x)] [] (fun v _ _=>v = .s (.int .i64 (E7 x))):=by
 refine YI (a:=a40) rfl rfl (YH _) (ZP rfl) (m:=0) rfl (Zd (Yp rfl (Ze (Zi rfl (Ys rfl (wL _ h) rfl rfl rfl (E4 rfl rfl (K6 (a:=.int _ _) rfl rfl rfl (Zi rfl (Yb (Yh (⟨_,YK (v:=_) rfl (YS),?_⟩)))))))))))
 rw [E7,if_pos h]; rfl
theorem rW (x:Int) (h:¬ (0≤x∧x < 64)):WR AM 40 [.s (.int .i64 x)] [] (fun v _ _=>v = .s (.int .i64 (E7 x))):=by
 refine YI (a:=a40) rfl rfl (YH _) (ZP rfl) (m:=0) rfl (Zd (Yp rfl (Ze (Zi rfl (Ys rfl (zT _ h) rfl rfl rfl (E4 rfl rfl (K6 (a:=.int _ _) rfl rfl rfl (Zi rfl (Yb (Yh (⟨_,YK (v:=_) rfl (YS),?_⟩)))))))))))
 rw [E7,if_neg h]; rfl
theorem rP (x:Int):RF AM 40 [.s (.int .i64 x)] (.s (.int .i64 (E7 x))):=by
 by_cases h:0≤x∧x < 64
 ·exact YF (File_in x h)
 ·exact YF (rW x h)
theorem Rank_in (x:Int) (h:0≤x∧x < 64):WR AM 41 [.s (.int .i64 x)] [] (fun v _ _=>v = .s (.int .i64 (X6 x))):=by
 refine YI (a:=a41) rfl rfl (YH _) (ZP rfl) (m:=0) rfl (Zd (Yp rfl (Ze (Zi rfl (Ys rfl (wL _ h) rfl rfl rfl (E4 rfl rfl (K6 (a:=.int _ _) rfl rfl rfl (Zi rfl (Yb (Yh (⟨_,YK (v:=_) rfl (YS),?_⟩)))))))))))
 rw [X6,if_pos h]; rfl
theorem sR (x:Int) (h:¬ (0≤x∧x < 64)):WR AM 41 [.s (.int .i64 x)] [] (fun v _ _=>v = .s (.int .i64 (X6 x))):=by
 refine YI (a:=a41) rfl rfl (YH _) (ZP rfl) (m:=0) rfl (Zd (Yp rfl (Ze (Zi rfl (Ys rfl (zT _ h) rfl rfl rfl (E4 rfl rfl (K6 (a:=.int _ _) rfl rfl rfl (Zi rfl (Yb (Yh (⟨_,YK (v:=_) rfl (YS),?_⟩)))))))))))
 rw [X6,if_neg h]; rfl
theorem QY (x:Int):RF AM 41 [.s (.int .i64 x)] (.s (.int .i64 (X6 x))):=by
 by_cases h:0≤x∧x < 64
 ·exact YF (Rank_in x h)
 ·exact YF (sR x h)
theorem Is_in (x:Int) (h:0≤x∧x < 64):WR AM 43 [.s (.int .i64 x)] [] (fun v _ _=>v = .s (.bool (isM x))):=by
 refine YI (a:=a43) rfl rfl (YH _) (ZP rfl) (m:=0) rfl (Zd (Yp rfl (Ze (Zi rfl (Ys rfl (wL _ h) rfl rfl rfl (K6 (a:=.bool _) rfl rfl rfl (Yp (v:=.s _) rfl (Yb (Yh (⟨_,YK (v:=_) rfl (YS),?_⟩))))))))))
 rw [isM,decide_eq_true h]; rfl
theorem Is_out (x:Int) (h:¬ (0≤x∧x < 64)):WR AM 43 [.s (.int .i64 x)] [] (fun v _ _=>v = .s (.bool (isM x))):=by
 refine YI (a:=a43) rfl rfl (YH _) (ZP rfl) (m:=0) rfl (Zd (Yp rfl (Ze (Zi rfl (Ys rfl (zT _ h) rfl rfl rfl (K6 (a:=.bool _) rfl rfl rfl (Yp (v:=.s _) rfl (Yb (Yh (⟨_,YK (v:=_) rfl (YS),?_⟩))))))))))
 rw [isM,decide_eq_false h]; rfl
theorem Ju (x:Int):RF AM 43 [.s (.int .i64 x)] (.s (.bool (isM x))):=by
 by_cases h:0≤x∧x < 64
 ·exact YF (Is_in x h)
 ·exact YF (Is_out x h)
theorem qI {A:AP} {N:Nat} {f:FE} {n:Nat} {L:HA} {K:KN} {Zp:V→KN} {l:List I} {d:Nat} {kd kd':IntKind} {x:O} {a:Int} (hx:x.fv N f = .s (.int kd' a)) (k:WO A N l (upd f d (.s (.int kd (kd.wrap a)))) n L K Zp):WO A N (⟨some d,none,.p (.conv kd x)⟩::l) f n L K Zp :=
 Vu (v:=.s (.int kd (kd.wrap a))) (by simp only [YT,Y7,hx]) k
theorem E9 {a:Int} (h:-9223372036854775808≤a∧a≤9223372036854775807):IntKind.u64.wrap a < 8↔0≤a∧a < 8:=by
 rw [IntKind.wrap_u64]
 omega
theorem atM_bd (a b:Int):-1≤atM a b∧atM a b < 64:=by
 unfold atM
 split <;> omega
theorem vq (P:Nat→Int) (ha:-9223372036854775808≤P 0∧P 0≤9223372036854775807) (hb:-9223372036854775808≤P 1∧P 1≤9223372036854775807):WR AM 76 [.agg 2 (ia P)] [] (fun v _ _=>v = .s (.bool (decide (0≤P 0∧P 0 < 8∧0≤P 1∧P 1 < 8)))):=by
 refine YI (a:=a76) rfl rfl (YH _) (ZP rfl) (m:=0) rfl (Zd (YB rfl (Yp rfl (Ze (Zx rfl (Yl rfl rfl ZL rfl (qI rfl (Zq rfl (Zj rfl (Yr (t:=7) rfl (fun h1=>?_) (fun h1=>?_))))))))))) <;> simp only [NM] at h1
 ·refine Ya rfl (Zy rfl (Ya rfl (Yl rfl rfl ZL rfl (Ya rfl (qI rfl (Ya rfl (Zq rfl (Zo rfl (Zj rfl (Zf rfl (ZH ?_)))))))))))
  have e0:=E9 ha
  have e1:=E9 hb
  rw [Bool.eq_iff_iff]
  simp only [decide_eq_true_eq,Bool.false_eq_true,false_iff]
  omega
 ·refine ZD rfl (Zo rfl (Zj rfl (Zf rfl (ZH ?_))))
  have e0:=E9 ha
  have e1:=E9 hb
  rw [Bool.eq_iff_iff]
  simp only [decide_eq_true_eq,Bool.false_eq_true,false_iff]
  omega
theorem Tv (P:Nat→Int) (ha:-9223372036854775808≤P 0∧P 0≤9223372036854775807) (hb:-9223372036854775808≤P 1∧P 1≤9223372036854775807):WR AM 57 [.agg 2 (ia P)] [] (fun v _ _=>v = .s (.int .i64 (atM (P 0) (P 1)))):=by
 refine YI (a:=a57) rfl rfl (YH _) (ZP rfl) (m:=0) rfl (Zd (YB rfl (Yp rfl (Yb (Yd (Zd (Yn rfl rfl ZL (Ys rfl (YF (vq _ ha hb)) rfl rfl rfl (Yu (r:=.bool _) rfl rfl (Yb (Yi rfl (fun h2=>?_) (fun h2=>?_)))))))))))) <;> simp only [NM] at h2
 ·refine Zd (Yp rfl (Yb (Yh (⟨_,ZK rfl,?_⟩))))
  refine ZI ?_
  unfold atM
  split <;> omega
 ·refine Yg (Zd (Zy rfl (Yl rfl rfl ZL rfl (X9 rfl rfl (by omega) (Zx rfl (Yl rfl rfl ZL rfl (Zr rfl rfl (Zi rfl (Yb (Yh (⟨_,ZK rfl,?_⟩)))))))))))
  refine ZI ?_
  unfold atM
  split <;> omega
theorem At_run (a b:Int) (ha:-9223372036854775808≤a∧a≤9223372036854775807) (hb:-9223372036854775808≤b∧b≤9223372036854775807):WR AM 39 [.s (.int .i64 a),.s (.int .i64 b)] [] (fun v _ _=>v = .s (.int .i64 (atM a b))):=by
 refine YI (a:=a39) rfl rfl (YH _) (ZP rfl) (m:=0) rfl (Zd (Yp rfl (Ze (Zi rfl (Zi rfl (YA rfl (.one rfl (.one rfl .nil)) (Ys rfl (YF (Tv _ ha hb)) rfl rfl rfl (Zi rfl (Yb (Yh (⟨_,ZK rfl,?_⟩)))))))))))
 rfl
def Y0 (s:Int):Int:=if s = 0 then 1 else 0
def YU (k s:Int):Bool:=decide (1≤k∧k≤6∧(s = 0∨s = 1))
def K4 (x:Int):Int:=(7 - x / 8)*8+x % 8
def sideT (k s:Int):Int:=if YU k s = true then Y0 s else s
theorem WA {P:Nat→Int} {o m:Nat} {Q:Nat→Int} {i:Nat} (h:i < o∨o+m≤i):ovA P o m Q i = P i:=by
 have e:(Nat.ble o i && Nat.blt i (o+m)) = false:=by
  cases h1:Nat.ble o i with
  | false=>rfl
  | true =>
   cases h2:Nat.blt i (o+m) with
   | false=>rfl
   | true =>
    have:=YE h1
    have:=YE h2
    omega
 show (bif Nat.ble o i && Nat.blt i (o+m) then Q (i - o) else P i) = P i
 rw [e]; rfl
theorem XR {P:Nat→Int} {o m:Nat} {Q:Nat→Int} {i:Nat} (h:o≤i∧i < o+m):ovA P o m Q i = Q (i - o):=by
 have e:(Nat.ble o i && Nat.blt i (o+m)) = true:=by
  rw [Nat.ble_eq_true_of_le h.1,show Nat.blt i (o+m) = true from Nat.ble_eq_true_of_le h.2]; rfl
 show (bif Nat.ble o i && Nat.blt i (o+m) then Q (i - o) else P i) = Q (i - o)
 rw [e]; rfl
theorem VH (s:Int):WR AM 22 [.s (.int .i64 s)] [] (fun v _ _=>v = .s (.int .i64 (Y0 s))):=by
 refine YI (a:=a22) rfl rfl (YH _) (ZP rfl) (m:=0) rfl (Zd (Yp rfl (Yb (Yd (Zd (Zi rfl (Zq rfl (Yb (Yi rfl (fun h3=>?_) (fun h3=>?_)))))))))) <;> simp only [NM] at h3
 ·refine Zd (Yp rfl (Yb (Yh (⟨_,ZK rfl,?_⟩))))
  (rw [show Y0 s = 1 from if_pos (by omega)]; rfl)
 ·refine Yg (Zd (Yp rfl (Yb (Yh (⟨_,ZK rfl,?_⟩)))))
  (rw [show Y0 s = 0 from if_neg (by omega)]; rfl)
theorem Zay (P:Nat→Int):WR AM 42 [.agg 2 (ia P)] [] (fun v _ _=>v = .s (.bool (YU (P 0) (P 1)))):=by
 refine YI (a:=a42) rfl rfl (YH _) (ZP rfl) (m:=0) rfl (Zd (YB rfl (Yp rfl (Ze (Zx rfl (Yl rfl rfl ZL rfl (Zq rfl (Zj rfl (Yr (t:=6) rfl (fun h4=>?_) (fun h4=>?_)))))))))) <;> simp only [NM] at h4
 ·refine Ya rfl (Zx rfl (Ya rfl (Yl rfl rfl ZL rfl (Ya rfl (Zq rfl (Zo rfl (Zj rfl (Yr (t:=11) rfl (fun h5=>?_) (fun h5=>?_))))))))) <;> simp only [NM] at h5
  ·refine Ya rfl (Zy rfl (Ya rfl (Yl rfl rfl ZL rfl (Ya rfl (Zq rfl (Ya rfl (Zj rfl (Yr (t:=15) rfl (fun h6=>?_) (fun h6=>?_))))))))) <;> simp only [NM] at h6
   ·refine ZC rfl (ZB rfl (Ya rfl (Zo rfl (Zo rfl (Zj rfl (Zf rfl (ZH ?_)))))))
    unfold YU
    rw [Bool.eq_iff_iff]
    simp only [beq_iff_eq,decide_eq_true_eq,Bool.false_eq_true,true_iff,false_iff]
    omega
   ·refine Ya rfl (Zy rfl (Ya rfl (Yl rfl rfl ZL rfl (Ya rfl (Zq rfl (Ya rfl (Zo rfl (Zo rfl (Zj rfl (Zf rfl (ZH ?_)))))))))))
    unfold YU
    rw [Bool.eq_iff_iff]
    simp only [beq_iff_eq,decide_eq_true_eq,Bool.false_eq_true,true_iff,false_iff]
    omega
  ·refine ZD rfl (YG rfl (YG rfl (YG rfl (ZB rfl (Zo rfl (Zj rfl (Zf rfl (ZH ?_))))))))
   unfold YU
   rw [Bool.eq_iff_iff]
   simp only [beq_iff_eq,decide_eq_true_eq,Bool.false_eq_true,true_iff,false_iff]
   omega
 ·refine ZC rfl (ZB rfl (Zo rfl (Zj rfl (ZD rfl (YG rfl (YG rfl (YG rfl (ZB rfl (Zo rfl (Zj rfl (Zf rfl (ZH ?_))))))))))))
  unfold YU
  rw [Bool.eq_iff_iff]
  simp only [beq_iff_eq,decide_eq_true_eq,Bool.false_eq_true,true_iff,false_iff]
  omega
def castT (c:Int):Int:=if 0≤c∧c≤15 then c / 4+c % 4*4 else c
def overT (x:Int):Int:=if isM x = true then K4 x else x
def acr (s:Nat):Nat:=(7 - s / 8)*8+s % 8
def Turned (P Q:Nat→Int) (i:Nat):Prop:=∀ s:Nat,s < i→Q (acr s*2) = P (s*2)∧Q (acr s*2+1) = sideT (P (s*2)) (P (s*2+1))
theorem WF {P:Nat→Int} {o i:Nat} {x:Int} (h:i ≠ o):ov P o x i = P i:=by
 have e:Nat.beq i o = false:=by
  cases hb:Nat.beq i o with
  | false=>rfl
  | true=>exact absurd (Nat.eq_of_beq_eq_true hb) h
 show (bif Nat.beq i o then x else P i) = P i
 rw [e]; rfl
structure TurnOf (P Q:Nat→Int):Prop where
 sq:Turned P Q 64
 side:Q 128 = Y0 (P 128)
 castle:Q 129 = castT (P 129)
 WU:Q 130 = overT (P 130)
 half:Q 131 = P 131
 full:Q 132 = P 132
 out:∀ i,133≤i→Q i = 0
abbrev sqI (x:Int):Nat:=0+x.toNat*2
theorem Ug {P Q X Y:Nat→Int} {o m:Nat} {n:Nat} (h:∀ i,i < n→P i = Q i) (hx:∀ j,j < m→X j = Y j):∀ i,i < n→ovA P o m X i = ovA Q o m Y i:=by
 intro i hi
 by_cases k:o≤i∧i < o+m
 ·rw [XR k,XR k]; exact hx _ (by omega)
 ·rw [WA (by omega),WA (by omega)]; exact h i hi
def YN (s f r:Int):Int:=if (0≤s∧s < 64)∧(-8 < f∧f < 8)∧(-8 < r∧r < 8) then atM (s % 8+f) (s / 8+r) else -1
theorem VT (s f r:Int):-1≤YN s f r∧YN s f r < 64:=by
 unfold YN
 split
 ·exact atM_bd _ _
 ·omega
def onM (s f r:Int):Nat→Int:=if (0≤s∧s < 64)∧(-8 < f∧f < 8)∧(-8 < r∧r < 8) then (fun i=>if i = 0 then s % 8+f else if i = 1 then s / 8+r else 0) else (fun i=>if i = 0 then -1 else if i = 1 then -1 else 0)
theorem ze {x y:Int}:ovA (fun _=>0) 0 2 (ov (ov (fun _=>0) 0 x) 1 y) = fun i=>if i = 0 then x else if i = 1 then y else 0:=by
 funext i
 by_cases h0:i = 0
 ·subst h0; rfl
 ·by_cases h1:i = 1
  ·subst h1; rfl
  ·rw [WA (by omega),if_neg h0,if_neg h1]
theorem on_in (s f r:Int) (h:0≤s∧s < 64):WR AM 75 [.agg 3 (lc [.int .i64 (s % 8),.int .i64 (s / 8),.bool true]),.s (.int .i64 f),.s (.int .i64 r)] [] (fun v _ _=>v = .agg 2 (ia (onM s f r))):=by
 refine YI (a:=a75) rfl rfl (YH _) (ZP rfl) (m:=0) rfl (Zd (YB rfl (Yx (Yb (Yd (Zd (Yc (o':=2) rfl rfl rfl (Ym (x:=.bool _) rfl rfl ZM rfl (Yu (r:=.bool _) rfl rfl (Zj rfl (Ya rfl (Zi rfl (Ya rfl (Zi rfl (Ya rfl (WO_mx2 rfl rfl (Ya rfl (Zq rfl (Zo rfl (Zj rfl (Yr (t:=16) rfl (fun h5=>?_) (fun h5=>?_)))))))))))))))))))))) <;> simp only [NM] at h5
 ·refine ZD rfl (Zo rfl (Yb (Zz rfl (Zd (YA rfl (.one rfl (.one rfl .nil)) (Yy rfl rfl rfl rfl .here (Yb (Yh (⟨_,X5 rfl rfl ZL (YS),?_⟩)))))))))
  refine congrArg (fun g=>V.agg 2 (ia g)) ?_
  rw [ze]
  exact (if_neg (fun q=>by omega)).symm
 ·refine Ya rfl (Zi rfl (Ya rfl (Zi rfl (Ya rfl (T7 rfl rfl (Ya rfl (Zq rfl (Zo rfl (Yb (Yi rfl (fun h6=>?_) (fun h6=>?_))))))))))) <;> simp only [NM] at h6
  ·refine Zd (YA rfl (.one rfl (.one rfl .nil)) (Yy rfl rfl rfl rfl .here (Yb (Yh (⟨_,X5 rfl rfl ZL (YS),?_⟩)))))
   refine congrArg (fun g=>V.agg 2 (ia g)) ?_
   rw [ze]
   exact (if_neg (fun q=>by omega)).symm
  ·refine Yg (Zd (Zx rfl (Zx rfl (Ym (x:=.int _ _) rfl rfl ZM rfl (Zi rfl (Zr rfl rfl (Zx rfl (Zy rfl (Ym (x:=.int _ _) rfl rfl ZM rfl (Zi rfl (Zr rfl rfl (YA rfl (.one rfl (.one rfl .nil)) (Yy rfl rfl rfl rfl .here (Yb (Yh (⟨_,X5 rfl rfl ZL (YS),?_⟩))))))))))))))))
   refine congrArg (fun g=>V.agg 2 (ia g)) ?_
   rw [ze]
   exact (if_pos ⟨h,by omega,by omega⟩).symm
theorem on_out (s f r:Int) (h:¬ (0≤s∧s < 64)):WR AM 75 [.agg 3 (lc [.int .i64 (-1),.int .i64 (-1),.bool false]),.s (.int .i64 f),.s (.int .i64 r)] [] (fun v _ _=>v = .agg 2 (ia (onM s f r))):=by
 refine YI (a:=a75) rfl rfl (YH _) (ZP rfl) (m:=0) rfl (Zd (YB rfl (Yx (Yb (Yd (Zd (Yc (o':=2) rfl rfl rfl (Ym (x:=.bool _) rfl rfl ZM rfl (Yu (r:=.bool _) rfl rfl (Zj rfl (ZD rfl (Zo rfl (Zj rfl (ZD rfl (Zo rfl (Yb (Zz rfl (Zd (YA rfl (.one rfl (.one rfl .nil)) (Yy rfl rfl rfl rfl .here (Yb (Yh (⟨_,X5 rfl rfl ZL (YS),?_⟩)))))))))))))))))))))))
 refine congrArg (fun g=>V.agg 2 (ia g)) ?_
 rw [ze]
 exact (if_neg (fun q=>by omega)).symm
theorem zD (s:Int) {f r:Int} (i:Nat):-9223372036854775808≤onM s f r i∧onM s f r i≤9223372036854775807:=by
 unfold onM
 split
 ·dsimp only; split
  ·omega
  ·split <;> omega
 ·dsimp only; split
  ·omega
  ·split <;> omega
theorem tU (s f r:Int):atM (onM s f r 0) (onM s f r 1) = YN s f r:=by
 unfold onM YN
 by_cases h:(0≤s∧s < 64)∧(-8 < f∧f < 8)∧(-8 < r∧r < 8)
 ·rw [if_pos h,if_pos h]; rfl
 ·rw [if_neg h,if_neg h]; rfl
theorem Step_in (s f r:Int) (h:0≤s∧s < 64):WR AM 56 [.s (.int .i64 s),.s (.int .i64 f),.s (.int .i64 r)] [] (fun v _ _=>v = .s (.int .i64 (YN s f r))):=by
 refine YI (a:=a56) rfl rfl (YH _) (ZP rfl) (m:=0) rfl (Zd (Yp rfl (Ze (Zi rfl (Ys rfl (wL _ h) rfl rfl rfl (Zi rfl (Zi rfl (Ys rfl (YF (on_in _ _ _ h)) rfl rfl rfl (Ys rfl (YF (Tv _ (zD s 0) (zD s 1))) rfl rfl rfl (Zi rfl (Yb (Yh (⟨_,ZK rfl,?_⟩)))))))))))))
 exact congrArg (fun b=>V.s (S.int .i64 b)) (tU s f r)
theorem pn (s f r:Int) (h:¬ (0≤s∧s < 64)):WR AM 56 [.s (.int .i64 s),.s (.int .i64 f),.s (.int .i64 r)] [] (fun v _ _=>v = .s (.int .i64 (YN s f r))):=by
 refine YI (a:=a56) rfl rfl (YH _) (ZP rfl) (m:=0) rfl (Zd (Yp rfl (Ze (Zi rfl (Ys rfl (zT _ h) rfl rfl rfl (Zi rfl (Zi rfl (Ys rfl (YF (on_out _ _ _ h)) rfl rfl rfl (Ys rfl (YF (Tv _ (zD s 0) (zD s 1))) rfl rfl rfl (Zi rfl (Yb (Yh (⟨_,ZK rfl,?_⟩)))))))))))))
 exact congrArg (fun b=>V.s (S.int .i64 b)) (tU s f r)
theorem Uo (s f r:Int):RF AM 56 [.s (.int .i64 s),.s (.int .i64 f),.s (.int .i64 r)] (.s (.int .i64 (YN s f r))):=by
 by_cases h:0≤s∧s < 64
 ·exact YF (Step_in s f r h)
 ·exact YF (pn s f r h)
def pickM (x n:Int):Int:=if x.tmod n < 0 then x.tmod n+n else x.tmod n
def YP (P:Nat→Int) (x:Int):Bool:=eqI 2 (dp P (sqI x)) (fun _=>0)
def pc (k c:Int):Nat→Int:=fun i=>if i = 0 then k else c
def nopc:Nat→Int:=fun _=>0
def atT (P:Nat→Int) (k a t:Int):Int:=if k = 1∧t % 8 ≠ a % 8∧t = P 130∧YP P t = true then a / 8*8+t % 8 else t
def Y5 (P:Nat→Int) (k a t:Int):Int:=if YP P (atT P k a t) = true then -1 else atT P k a t
def YO (c:Int):Int:=if c = 0 then 1 else 4
def YW (k a t c C:Int):Int:=if k = 6∧a = 56*c+4∧t = a+2∧C / YO c % 2 = 1 then 1 else if k = 6∧a = 56*c+4∧t = a - 2∧C / (2*YO c) % 2 = 1 then -1 else 0
def WJ (k a t c:Int):Bool:=decide (k = 1∧t % 8 = a % 8∧a / 8 = 1+5*c∧t / 8 = a / 8+2*(1 - 2*c))
def WK (P:Nat→Int):Int:=if P 129 < 0∨15 < P 129 then 0 else P 129
def Xp (s:Int):Int:=if 4 = s then 3 else if 7 = s then 1 else if 0 = s then 2 else if 60 = s then 12 else if 63 = s then 4 else if 56 = s then 8 else 0
def orM (x y:Int):Int:=IntKind.i64.wrap (BitVec.ofInt 64 x ||| BitVec.ofInt 64 y).toNat
def Q1 (x y:Int):Int:=IntKind.i64.wrap (BitVec.ofInt 64 x &&& BitVec.ofInt 64 y).toNat
def VD (x y:Int):Int:=IntKind.i64.wrap (BitVec.ofInt 64 x &&& ~~~(BitVec.ofInt 64 y)).toNat
def UN (c s k:Int):Int:=if c / k % 2 = 1∧s / k % 2 = 0 then k else 0
def Vb (c s:Int):Int:=UN c s 1+UN c s 2+UN c s 4+UN c s 8
def Xv (P:Nat→Int) (a t b:Int):Bool:=decide (1≤P (sqI a)∧P (sqI a)≤6∧P (sqI a+1) = P 128∧(P (sqI a+1) = 0∨P (sqI a+1) = 1)∧(if P (sqI a) = 1∧t / 8 = 7*(1 - P (sqI a+1)) then 2≤b∧b≤5 else b = 0))
def Wk (P:Nat→Int) (a t b:Int):Int:=if (0≤a∧a < 64)∧(0≤t∧t < 64)∧a ≠ t then (if Xv P a t b = true then 0 else 8) else 6
def T1 (P:Nat→Int) (w:Int):Nat→Int:=if 0≤w then ovA P (sqI w) 2 nopc else P
def oV (P:Nat→Int) (w a:Int):Nat→Int:=ovA (T1 P w) (sqI a) 2 nopc
def Tt (P:Nat→Int) (w a t k c b:Int):Nat→Int:=ovA (oV P w a) (sqI t) 2 (pc (if b = 0 then k else b) c)
def VA (P:Nat→Int) (w a t k c b g:Int):Nat→Int :=
 if g = 1 then ovA (ovA (Tt P w a t k c b) (sqI (a+3)) 2 nopc) (sqI (a+1)) 2 (pc 4 c)
 else if g = -1 then ovA (ovA (Tt P w a t k c b) (sqI (a - 4)) 2 nopc) (sqI (a - 1)) 2 (pc 4 c) else Tt P w a t k c b
def Un (k a t c:Int):Int:=if WJ k a t c = true then (a+t) / 2 else -1
def VU (P:Nat→Int) (k w:Int):Int:=if k = 1∨0≤w then 0 else IntKind.i64.wrap (min (P 131) 1023+1)
def Qj (P:Nat→Int):Int:=if P 128 = 1 then IntKind.i64.wrap (min (P 132) 16383+1) else P 132
def V6 (P:Nat→Int) (k c a t b C:Int):Nat→Int:=fun i =>
 if i < 128 then VA P (Y5 P k a t) a t k c b (YW k a t c C) i else if i = 128 then Y0 (P 128) else if i = 129 then VD C (orM (orM 0 (Xp a)) (Xp t))
 else if i = 130 then Un k a t c else if i = 131 then VU P k (Y5 P k a t) else if i = 132 then Qj P else 0
def XI (P:Nat→Int) (a t b:Int):Nat→Int:=if Wk P a t b = 0 then V6 P (P (sqI a)) (P (sqI a+1)) a t b (WK P) else fun _=>0
theorem Uk {P:Nat→Int} {a t b:Int} (h:¬ ((0≤a∧a < 64)∧(0≤t∧t < 64)∧a ≠ t)):Wk P a t b = 6:=if_neg h
theorem Wf {P:Nat→Int} {a t b:Int} (h:(0≤a∧a < 64)∧(0≤t∧t < 64)∧a ≠ t) (hc:Xv P a t b = false):Wk P a t b = 8:=by
 rw [Wk,if_pos h,hc]; rfl
theorem W8 {P:Nat→Int} {a t b:Int} (h:(0≤a∧a < 64)∧(0≤t∧t < 64)∧a ≠ t) (hc:Xv P a t b = true):Wk P a t b = 0:=by
 rw [Wk,if_pos h,hc]; rfl
theorem yl {P:Nat→Int} {k a t:Int} (ha:0≤a∧a < 64) (ht:0≤t∧t < 64):0≤atT P k a t∧atT P k a t < 64:=by
 unfold atT; split <;> omega
theorem VK {P:Nat→Int} {k a t:Int} (ha:0≤a∧a < 64) (ht:0≤t∧t < 64):-1≤Y5 P k a t∧Y5 P k a t < 64:=by
 have:=yl (P:=P) (k:=k) ha ht
 unfold Y5; split <;> omega
theorem tC {c:Int} (h:c = 0∨c = 1):WX .shl (.int .i64 1) (.int .i64 (2*c)) = some (.int .i64 (YO c)):=by
 rcases h with rfl | rfl <;> rfl
theorem tL {c:Int} (h:c = 0∨c = 1):WX .shl (.int .i64 (YO c)) (.int .u64 1) = some (.int .i64 (2*YO c)):=by
 rcases h with rfl | rfl <;> rfl
theorem and_bit:∀ C:Fin 16,∀ s∈[1,2,4,8],(Q1 (C.val:Int) s ≠ 0↔(C.val:Int) / s % 2 = 1):=by decide +kernel
theorem wU {C s:Int} (h:0≤C∧C≤15) (hs:s = 1∨s = 2∨s = 4∨s = 8):Q1 C s ≠ 0↔C / s % 2 = 1:=by
 obtain ⟨n,rfl⟩:∃ n:Nat,C = n:=⟨C.toNat,by omega⟩
 exact and_bit ⟨n,by omega⟩ s (by simp; omega)
theorem Zax (s:Int):Xp s∈[0,1,2,3,4,8,12]:=by
 unfold Xp
 repeat' split
 all_goals decide
theorem Tp (P:Nat→Int):0≤WK P∧WK P≤15:=by
 unfold WK; split <;> omega
theorem emptyM_iff {P:Nat→Int} {x:Int}:YP P x = true↔P (sqI x) = 0∧P (sqI x+1) = 0:=by
 unfold YP
 rw [Qx]
 constructor
 ·intro h; exact ⟨h 0 (by omega),h 1 (by omega)⟩
 ·rintro ⟨h0,h1⟩ i hi
  have:i = 0∨i = 1:=by omega
  rcases this with rfl | rfl
  ·exact h0
  ·exact h1
theorem J0 {P Q:Nat→Int} {x:Int} (hx:0≤x∧x < 64) (h:∀ i,i < 128→P i = Q i):YP P x = YP Q x:=by
 have e:sqI x+1 < 128:=by show 0+x.toNat*2+1 < 128; omega
 rw [Bool.eq_iff_iff,emptyM_iff,emptyM_iff,h _ (by omega),h _ e]
theorem pu {P Q:Nat→Int} {k a t:Int} (ht:0≤t∧t < 64) (h:∀ i,i < 128→P i = Q i) (h130:P 130 = Q 130):atT P k a t = atT Q k a t:=by
 unfold atT
 rw [J0 ht h,h130]
theorem jO {P Q:Nat→Int} {k a t:Int} (ha:0≤a∧a < 64) (ht:0≤t∧t < 64) (h:∀ i,i < 128→P i = Q i) (h130:P 130 = Q 130):Y5 P k a t = Y5 Q k a t:=by
 unfold Y5
 rw [pu ht h h130,J0 (yl ha ht) h]
theorem xc {x:Int} (h:0≤x∧x < 64):RF AM 40 [.s (.int .i64 x)] (.s (.int .i64 (x % 8))):=by
 have:=rP x
 rw [E7,if_pos h] at this
 exact this
theorem Rs {x:Int} (h:0≤x∧x < 64):RF AM 41 [.s (.int .i64 x)] (.s (.int .i64 (x / 8))):=by
 have:=QY x
 rw [X6,if_pos h] at this
 exact this
def upM (c s k:Int):Int:=if k≤1 then 0 else if k≤2 then UN c s 1 else if k≤4 then UN c s 1+UN c s 2 else if k≤8 then UN c s 1+UN c s 2+UN c s 4 else Vb c s
def straightL:List (Int × Int):=[(1,0),(-1,0),(0,1),(0,-1)]
def slantL:List (Int × Int):=[(1,1),(1,-1),(-1,1),(-1,-1)]
def jumpL:List (Int × Int):=[(1,2),(2,1),(2,-1),(1,-2),(-1,-2),(-2,-1),(-2,1),(-1,2)]
def WV (f r:Int):Nat→Int→List Int
 | 0,_=>[]
 | k+1,s=>if YN s f r = -1 then [] else YN s f r::WV f r k (YN s f r)
def VL (P:Nat→Int):List Int→List Int
 | []=>[]
 | t::l=>if YP P t = true then t::VL P l else [t]
def XS (P:Nat→Int) (s:Int) (ways:List (Int × Int)):List Int:=ways.flatMap fun w=>VL P (WV w.1 w.2 8 s)
def XP (s:Int) (ways:List (Int × Int)):List Int:=(ways.map fun w=>YN s w.1 w.2).filter fun t=>t != -1
def VV (P:Nat→Int) (s k c:Int):List Int :=
 if c = 0∨c = 1 then
  if k = 1 then XP s [(-1,1 - 2*c),(1,1 - 2*c)]
  else if k = 2 then XP s jumpL
  else if k = 6 then XP s (straightL++slantL)
  else if k = 4 then XS P s straightL
  else if k = 3 then XS P s slantL
  else if k = 5 then XS P s (straightL++slantL)
  else []
 else []
def XY (P:Nat→Int) (s:Int):List Int:=VV P s (P (sqI s)) (P (sqI s+1))
def Wb (P:Nat→Int) (s:Int):List Int:=if 0≤s∧s < 64 then QW (XY P s) else []
def XF (n:Int):Int:=if n < 0 then -n else n
def sgnM (n:Int):Int:=if n < 0 then -1 else if 0 < n then 1 else 0
def V9 (a b:Int):Int:=8*sgnM (b / 8 - a / 8)+sgnM (b % 8 - a % 8)
def UC (a b:Int):Nat:=max (XF (b / 8 - a / 8)).toNat (XF (b % 8 - a % 8)).toNat
def UE (P:Nat→Int) (a b:Int):Bool:=(List.range (UC a b - 1)).all fun (j:Nat)=>YP P (a+V9 a b*((j:Int)+1))
def Wt (a b:Int):Bool:=decide (b % 8 - a % 8 = 0∨b / 8 - a / 8 = 0)
def Wq (a b:Int):Bool:=decide (XF (b % 8 - a % 8) = XF (b / 8 - a / 8))
def KI (P:Nat→Int) (a b k c:Int):Bool :=
 if YU k c = false∨a = b then false
 else if k = 1 then decide (XF (b % 8 - a % 8) = 1∧b / 8 - a / 8 = 1 - 2*c)
 else if k = 2 then decide (XF (b % 8 - a % 8)*XF (b / 8 - a / 8) = 2)
 else if k = 6 then decide (XF (b % 8 - a % 8)≤1∧XF (b / 8 - a / 8)≤1)
 else if k = 4 then Wt a b && UE P a b
 else if k = 3 then Wq a b && UE P a b
 else (Wt a b || Wq a b) && UE P a b
def Xb (P:Nat→Int) (a b:Int):Bool:=KI P a b (P (sqI a)) (P (sqI a+1))
def Q3 (a b:Int):Int × Int:=(sgnM (b % 8 - a % 8),sgnM (b / 8 - a / 8))
def ED (a b:Int):List Int:=(List.range (UC a b - 1)).map fun (j:Nat)=>a+V9 a b*((j:Int)+1)
def QH (f:Nat→Bool):Bool:=Xi 64 f
theorem Ve {f:Nat→Bool} (h:QH f = true) (x:Fin 64):f x.val = true:=by
 have:∀ n,Xi n f = true→∀ i,i < n→f i = true:=by
  intro n
  induction n with
  | zero=>intro _ i hi; omega
  | succ n ih =>
   intro h i hi
   simp only [Xi,Bool.and_eq_true] at h
   by_cases e:i = n
   ·subst e; exact h.2
   ·exact ih h.1 i (by omega)
 exact this 64 h x.val x.isLt
def ja:List Int→List Int→Bool
 | [],[]=>true
 | x::l,y::r=>decide (x = y) && ja l r
 | _,_=>false
theorem kb:∀ {l r:List Int},ja l r = true→l = r
 | [],[],_=>rfl
 | x::l,y::r,h=>by
  simp only [ja,Bool.and_eq_true,decide_eq_true_eq] at h
  rw [h.1,kb h.2]
 | [],_::_,h=>by cases h
 | _::_,[],h=>by cases h
def J9 (b:Int):List Int→Bool
 | []=>false
 | x::l=>decide (b = x) || J9 b l
theorem QB {b:Int}:∀ {l:List Int},J9 b l = decide (b∈l)
 | []=>by simp [J9]
 | x::l=>by simp only [J9,QB (l:=l),List.mem_cons,Bool.decide_or]
def prefL (b:Int):List Int→List Int
 | []=>[]
 | x::l=>if x = b then [] else x::prefL b l
def chk (a:Int) (w:Int × Int):List Int→List Int→Bool
 | _,[]=>true
 | pre,b::l=>(decide (a ≠ b) && (decide ((Q3 a b).1 = w.1) && decide ((Q3 a b).2 = w.2)) && (Wt a b || Wq a b)) && ja pre (ED a b) && !J9 b pre && chk a w (pre++[b]) l
theorem tV {a b:Int} {w:Int × Int}:∀ {r pre:List Int},chk a w pre r = true→b∈r→(a ≠ b∧Q3 a b = w∧(Wt a b || Wq a b) = true)∧(b ∉ pre∧pre++r.takeWhile (fun t=>t != b) = ED a b)
 | [],_,_,h=>by cases h
 | x::r,pre,h,hm=>by
  simp only [chk,Bool.and_eq_true,decide_eq_true_eq,Bool.not_eq_true',QB,decide_eq_false_iff_not] at h
  obtain ⟨⟨⟨⟨⟨h1,h2,h3⟩,h4⟩,h5⟩,h6⟩,h7⟩:=h
  by_cases e:x = b
  ·subst e
   refine ⟨⟨h1,Prod.ext h2 h3,h4⟩,h6,?_⟩
   have:(x::r).takeWhile (fun t=>t != x) = []:=by simp
   rw [this,List.append_nil]
   exact kb h5
  ·rcases List.mem_cons.1 hm with e' | hm
   ·exact absurd e'.symm e
   ·obtain ⟨k1,k2,k3⟩:=tV h7 hm
    refine ⟨k1,fun h=>k2 (List.mem_append_left _ h),?_⟩
    have:(x::r).takeWhile (fun t=>t != b) = x::r.takeWhile (fun t=>t != b):=by simp [e]
    rw [this,← k3,List.append_assoc]; rfl
def rayOK (a b:Int):Bool:=decide (a = b) || (!(Wt a b || Wq a b) || J9 b (WV (Q3 a b).1 (Q3 a b).2 8 a))
theorem ray_all:(QH fun a=>QH fun b=>rayOK a b) = true:=by decide +kernel
theorem chk_all:(QH fun a=>(straightL++slantL).all fun w=>chk a w [] (WV w.1 w.2 8 a)) = true:=by decide +kernel
theorem ray_to (a b:Fin 64) (hn:(a.val:Int) ≠ b.val) (h:(Wt a.val b.val || Wq a.val b.val) = true):(b.val:Int)∈WV (Q3 a.val b.val).1 (Q3 a.val b.val).2 8 a.val:=by
 have h1:=Ve (Ve ray_all a) b
 unfold rayOK at h1
 rw [decide_eq_false hn,Bool.false_or,h,Bool.not_true,Bool.false_or,QB] at h1
 exact of_decide_eq_true h1
theorem tz {a:Fin 64} {b:Int} {w:Int × Int} (hw:w∈straightL++slantL) (h:b∈WV w.1 w.2 8 a.val):((a.val:Int) ≠ b∧Q3 a.val b = w∧(Wt a.val b || Wq a.val b) = true)∧(WV w.1 w.2 8 a.val).takeWhile (fun t=>t != b) = ED a.val b:=by
 have h2:=tV (List.all_eq_true.1 (Ve chk_all a) w hw) h
 exact ⟨h2.1,by simpa using h2.2.2⟩
def kZ (a b:Int):Bool:=decide (a = b) || (Wt a b == (decide (Q3 a b∈straightL) && (Wt a b || Wq a b)) && (Wq a b == (decide (Q3 a b∈slantL) && (Wt a b || Wq a b))))
def Ep (a b:Int):Bool :=
 (J9 b (XP a jumpL) == (decide (a ≠ b) && decide (XF (b % 8 - a % 8)*XF (b / 8 - a / 8) = 2))) &&
 (J9 b (XP a (straightL++slantL)) == (decide (a ≠ b) && (decide (XF (b % 8 - a % 8)≤1) && decide (XF (b / 8 - a / 8)≤1)))) &&
 [0,1].all fun c=>J9 b (XP a [(-1,1 - 2*c),(1,1 - 2*c)]) == (decide (a ≠ b) && (decide (XF (b % 8 - a % 8) = 1) && decide (b / 8 - a / 8 = 1 - 2*c)))
theorem kr:(QH fun a=>QH fun b=>kZ a b) = true:=by decide +kernel
theorem pB:(QH fun a=>QH fun b=>Ep a b) = true:=by decide +kernel
theorem rT (a b:Fin 64) (hn:(a.val:Int) ≠ b.val):Wt a.val b.val = decide (Q3 a.val b.val∈straightL∧(Wt a.val b.val || Wq a.val b.val) = true):=by
 have h:=Ve (Ve kr a) b
 unfold kZ at h
 rw [decide_eq_false hn,Bool.false_or,Bool.and_eq_true,beq_iff_eq,beq_iff_eq] at h
 rw [Bool.decide_and]
 exact h.1.trans (by simp)
theorem pD (a b:Fin 64) (hn:(a.val:Int) ≠ b.val):Wq a.val b.val = decide (Q3 a.val b.val∈slantL∧(Wt a.val b.val || Wq a.val b.val) = true):=by
 have h:=Ve (Ve kr a) b
 unfold kZ at h
 rw [decide_eq_false hn,Bool.false_or,Bool.and_eq_true,beq_iff_eq,beq_iff_eq] at h
 rw [Bool.decide_and]
 exact h.2.trans (by simp)
theorem yM (a b:Fin 64):Ep a.val b.val = true:=Ve (Ve pB a) b
theorem xL (a b:Fin 64) (c:Int) (hc:c∈[0,1]):decide ((b.val:Int)∈XP a.val [(-1,1 - 2*c),(1,1 - 2*c)]) = decide ((a.val:Int) ≠ b.val∧XF ((b.val:Int) % 8 - (a.val:Int) % 8) = 1∧(b.val:Int) / 8 - (a.val:Int) / 8 = 1 - 2*c):=by
 have h:=yM a b
 unfold Ep at h
 rw [Bool.and_eq_true] at h
 have h:=List.all_eq_true.1 h.2 c hc
 rw [beq_iff_eq,QB] at h
 rw [h,Bool.decide_and,Bool.decide_and]
theorem xA (a b:Fin 64):decide ((b.val:Int)∈XP a.val jumpL) = decide ((a.val:Int) ≠ b.val∧XF ((b.val:Int) % 8 - (a.val:Int) % 8)*XF ((b.val:Int) / 8 - (a.val:Int) / 8) = 2):=by
 have h:=yM a b
 unfold Ep at h
 rw [Bool.and_eq_true,Bool.and_eq_true,beq_iff_eq,QB] at h
 rw [h.1.1,Bool.decide_and]
theorem wm (a b:Fin 64):decide ((b.val:Int)∈XP a.val (straightL++slantL)) = decide ((a.val:Int) ≠ b.val∧XF ((b.val:Int) % 8 - (a.val:Int) % 8)≤1∧XF ((b.val:Int) / 8 - (a.val:Int) / 8)≤1):=by
 have h:=yM a b
 unfold Ep at h
 rw [Bool.and_eq_true,Bool.and_eq_true,beq_iff_eq,beq_iff_eq,QB,QB] at h
 rw [h.1.2,Bool.decide_and,Bool.decide_and]
def DX:List Int→Bool
 | []=>true
 | x::l=>!J9 x l && DX l
theorem Rn:∀ {l:List Int},DX l = true→l.Nodup
 | [],_=>.nil
 | x::l,h=>by
  simp only [DX,Bool.and_eq_true,Bool.not_eq_true',QB,decide_eq_false_iff_not] at h
  exact List.nodup_cons.2 ⟨h.1,Rn h.2⟩
theorem nod_all:(QH fun a=>DX (XP a jumpL) && DX (XP a (straightL++slantL)) && ([0,1].all fun c=>DX (XP a [(-1,1 - 2*c),(1,1 - 2*c)])) && DX ((straightL++slantL).flatMap fun w=>WV w.1 w.2 8 a)) = true:=by decide +kernel
theorem zB (a:Fin 64):(XP a.val jumpL).Nodup∧(XP a.val (straightL++slantL)).Nodup∧(∀ c∈[0,1],(XP a.val [(-1,1 - 2*c),(1,1 - 2*c)]).Nodup)∧((straightL++slantL).flatMap fun w=>WV w.1 w.2 8 a.val).Nodup:=by
 have h:=Ve nod_all a
 simp only [Bool.and_eq_true] at h
 exact ⟨Rn h.1.1.1,Rn h.1.1.2,fun c hc=>Rn (List.all_eq_true.1 h.1.2 c hc),Rn h.2⟩
theorem upto_mem {P:Nat→Int} {b:Int}:∀ {l:List Int},b∈VL P l↔b∈l∧(l.takeWhile (fun t=>t != b)).all (fun t=>YP P t) = true
 | []=>by simp [VL]
 | t::l=>by
  unfold VL
  by_cases e:t = b
  ·subst e
   have h:(t::l).takeWhile (fun s=>s != t) = []:=by simp
   rw [h]
   by_cases h:YP P t = true
   ·rw [if_pos h]; simp
   ·rw [if_neg h]; simp
  ·have h1:(t::l).takeWhile (fun s=>s != b) = t::l.takeWhile (fun s=>s != b):=by simp [e]
   rw [h1]
   by_cases h:YP P t = true
   ·rw [if_pos h,List.mem_cons,List.mem_cons,upto_mem,List.all_cons,h,Bool.true_and]
    have:b ≠ t:=Ne.symm e
    simp [this]
   ·rw [if_neg h,List.all_cons]
    have:b ≠ t:=Ne.symm e
    simp [this,h]
theorem R2 (P:Nat→Int):∀ l:List Int,List.Sublist (VL P l) l
 | []=>.slnil
 | t::l=>by
  unfold VL
  by_cases h:YP P t = true
  ·rw [if_pos h]; exact (R2 P l).cons_cons _
  ·rw [if_neg h]; exact (List.nil_sublist l).cons_cons _
theorem jo {α β:Type} {f g:α→List β} (h:∀ x,List.Sublist (f x) (g x)):∀ l:List α,List.Sublist (l.flatMap f) (l.flatMap g)
 | []=>by simp
 | x::l=>by rw [List.flatMap_cons,List.flatMap_cons]; exact (h x).append (jo h l)
theorem rL {α β:Type} {f:α→List β} {l1 l2:List α} (h:List.Sublist l1 l2):List.Sublist (l1.flatMap f) (l2.flatMap f):=by
 induction h with
 | slnil=>exact .refl _
 | cons x _ ih=>rw [List.flatMap_cons]; exact ih.trans (List.sublist_append_right _ _)
 | cons_cons x _ ih=>rw [List.flatMap_cons,List.flatMap_cons]; exact (List.Sublist.refl _).append ih
theorem QM {a:Int} (h:0≤a∧a < 64):∃ x:Fin 64,(x.val:Int) = a:=⟨⟨a.toNat,by omega⟩,by simp; omega⟩
theorem Rg {P:Nat→Int} {s:Int} (hs:0≤s∧s < 64) {ways:List (Int × Int)} (hw:List.Sublist ways (straightL++slantL)):(XS P s ways).Nodup:=by
 obtain ⟨x,rfl⟩:=QM hs
 exact ((jo (fun w=>R2 P _) ways).trans (rL hw)).nodup (zB x).2.2.2
theorem zN {P:Nat→Int} {s:Int} (hs:0≤s∧s < 64):(XY P s).Nodup:=by
 have hn:∀ k c,(VV P s k c).Nodup:=by
  intro k c
  unfold VV
  obtain ⟨x,hx⟩:=QM hs
  have h:=zB x
  rw [hx] at h
  by_cases hc:c = 0∨c = 1
  ·rw [if_pos hc]
   have h3:=h.2.2.1 c (by rcases hc with rfl | rfl <;> simp)
   repeat' split
   ·exact h3
   ·exact h.1
   ·exact h.2.1
   ·exact Rg hs (List.sublist_append_left _ _)
   ·exact Rg hs (List.sublist_append_right _ _)
   ·exact Rg hs (.refl _)
   ·exact .nil
  ·rw [if_neg hc]; exact .nil
 exact hn _ _
theorem JX {P:Nat→Int} {a b:Int} (ha:0≤a∧a < 64) (hb:0≤b∧b < 64) {ways:List (Int × Int)} (hw:∀ w∈ways,w∈straightL++slantL) :
  b∈XS P a ways↔a ≠ b∧Q3 a b∈ways∧(Wt a b || Wq a b) = true∧UE P a b = true:=by
 obtain ⟨x,rfl⟩:=QM ha
 obtain ⟨y,rfl⟩:=QM hb
 have ho:UE P x.val y.val = (ED x.val y.val).all fun t=>YP P t:=by
  unfold UE ED
  rw [List.all_map]; rfl
 unfold XS
 rw [List.mem_flatMap]
 constructor
 ·rintro ⟨w,hm,hu⟩
  obtain ⟨h1,h2⟩:=upto_mem.1 hu
  obtain ⟨⟨f1,f2,f3⟩,f4⟩:=tz (hw w hm) h1
  rw [f4,← ho] at h2
  exact ⟨f1,by rw [f2]; exact hm,f3,h2⟩
 ·rintro ⟨h1,h2,h3,h4⟩
  have f1:=ray_to x y h1 h3
  obtain ⟨_,f4⟩:=tz (hw _ h2) f1
  exact ⟨_,h2,upto_mem.2 ⟨f1,by rw [f4,← ho]; exact h4⟩⟩
theorem TH {P:Nat→Int} {a b:Int} (ha:0≤a∧a < 64) (hb:0≤b∧b < 64):b∈XY P a↔Xb P a b = true:=by
 have hk:∀ k c,b∈VV P a k c↔KI P a b k c = true:=by
  intro k c
  unfold VV KI
  by_cases hab:a = b
  ·have hor:YU k c = false∨a = b:=.inr hab
   rw [if_pos hor]
   clear hor
   subst hab
   have e1:=xL; have e2:=xA; have e3:=wm
   obtain ⟨x,hx⟩:=QM ha
   have g2:=e2 x x; have g3:=e3 x x
   rw [hx] at g2 g3
   simp only [ne_eq,not_true_eq_false,false_and,decide_false,decide_eq_false_iff_not] at g2 g3
   simp only [Bool.false_eq_true,iff_false]
   by_cases hc:c = 0∨c = 1
   ·rw [if_pos hc]
    have g1:=e1 x x c (by rcases hc with rfl | rfl <;> simp)
    rw [hx] at g1
    simp only [ne_eq,not_true_eq_false,false_and,decide_false,decide_eq_false_iff_not] at g1
    have ga:∀ ways:List (Int × Int),(∀ w∈ways,w∈straightL++slantL)→a ∉ XS P a ways:=fun ways hw h=>((JX ha ha hw).1 h).1 rfl
    repeat' split
    ·exact g1
    ·exact g2
    ·exact g3
    ·exact ga _ fun w h=>List.mem_append_left _ h
    ·exact ga _ fun w h=>List.mem_append_right _ h
    ·exact ga _ fun w h=>h
    ·simp
   ·rw [if_neg hc]; simp
  ·obtain ⟨x,hx⟩:=QM ha
   obtain ⟨y,hy⟩:=QM hb
   have hxy:(x.val:Int) ≠ y.val:=by rw [hx,hy]; exact hab
   by_cases hc:c = 0∨c = 1
   ·rw [if_pos hc]
    by_cases hm:YU k c = true
    ·have hn:¬ (YU k c = false∨a = b):=by
      rintro (h | h)
      ·rw [hm] at h; cases h
      ·exact hab h
     rw [if_neg hn]
     have hk:1≤k∧k≤6:=by
      unfold YU at hm
      simp only [decide_eq_true_eq] at hm
      omega
     have g1:=xL x y c (by rcases hc with rfl | rfl <;> simp)
     have g2:=xA x y
     have g3:=wm x y
     have g4:=rT x y hxy
     have g5:=pD x y hxy
     rw [hx,hy] at g1 g2 g3 g4 g5
     simp only [ne_eq,hab,not_false_eq_true,true_and] at g1 g2 g3
     by_cases k1:k = 1
     ·rw [if_pos k1,if_pos k1,← g1,decide_eq_true_eq]
     rw [if_neg k1,if_neg k1]
     by_cases k2:k = 2
     ·rw [if_pos k2,if_pos k2,← g2,decide_eq_true_eq]
     rw [if_neg k2,if_neg k2]
     by_cases k6:k = 6
     ·rw [if_pos k6,if_pos k6,← g3,decide_eq_true_eq]
     rw [if_neg k6,if_neg k6]
     by_cases k4:k = 4
     ·rw [if_pos k4,if_pos k4,JX ha hb fun w h=>List.mem_append_left _ h,Bool.and_eq_true]
      constructor
      ·rintro ⟨_,h1,h2,h3⟩
       exact ⟨g4.trans (decide_eq_true ⟨h1,h2⟩),h3⟩
      ·rintro ⟨h1,h2⟩
       obtain ⟨h3,h4⟩:=of_decide_eq_true (g4.symm.trans h1)
       exact ⟨hab,h3,h4,h2⟩
     rw [if_neg k4,if_neg k4]
     by_cases k3:k = 3
     ·rw [if_pos k3,if_pos k3,JX ha hb fun w h=>List.mem_append_right _ h,Bool.and_eq_true]
      constructor
      ·rintro ⟨_,h1,h2,h3⟩
       exact ⟨g5.trans (decide_eq_true ⟨h1,h2⟩),h3⟩
      ·rintro ⟨h1,h2⟩
       obtain ⟨h3,h4⟩:=of_decide_eq_true (g5.symm.trans h1)
       exact ⟨hab,h3,h4,h2⟩
     rw [if_neg k3,if_neg k3,if_pos (show k = 5 by omega),JX ha hb fun w h=>h,Bool.and_eq_true]
     simp only [ne_eq,hab,not_false_eq_true,true_and]
     constructor
     ·rintro ⟨_,h⟩; exact h
     ·rintro ⟨h1,h2⟩
      refine ⟨?_,h1,h2⟩
      rw [Bool.or_eq_true] at h1
      rcases h1 with h | h
      ·rw [g4] at h
       exact List.mem_append_left _ (of_decide_eq_true h).1
      ·rw [g5] at h
       exact List.mem_append_right _ (of_decide_eq_true h).1
    ·have hm':YU k c = false:=by simpa using hm
     rw [if_pos (show YU k c = false∨a = b from .inl hm')]
     unfold YU at hm
     simp only [decide_eq_true_eq] at hm
     rw [if_neg (by omega),if_neg (by omega),if_neg (by omega),if_neg (by omega),if_neg (by omega),if_neg (by omega)]
     simp
   ·rw [if_neg hc]
    have hm':YU k c = false:=by
     unfold YU
     simp only [decide_eq_false_iff_not]
     omega
    rw [if_pos (show YU k c = false∨a = b from .inl hm')]
    simp
 exact hk _ _
theorem ring_bd {s t:Int} {ways:List (Int × Int)} (h:t∈XP s ways):0≤t∧t < 64:=by
 unfold XP at h
 rw [List.mem_filter,List.mem_map] at h
 obtain ⟨⟨w,_,rfl⟩,h⟩:=h
 have:=VT s w.1 w.2
 have:YN s w.1 w.2 ≠ -1:=by simpa using h
 omega
theorem zX {f r:Int}:∀ {k:Nat} {s t:Int},t∈WV f r k s→0≤t∧t < 64
 | 0,s,t,h=>by cases h
 | k+1,s,t,h=>by
  unfold WV at h
  split at h
  ·cases h
  ·rename_i hn
   rcases List.mem_cons.1 h with rfl | h
   ·have:=VT s f r; omega
   ·exact zX h
theorem kA {P:Nat→Int} {s t:Int} (h:t∈XY P s):0≤t∧t < 64:=by
 have ha:∀ ways,t∈XS P s ways→0≤t∧t < 64:=by
  intro ways h
  unfold XS at h
  rw [List.mem_flatMap] at h
  obtain ⟨w,_,h⟩:=h
  exact zX ((R2 P _).subset h)
 have hk:∀ k c,t∈VV P s k c→0≤t∧t < 64:=by
  intro k c h
  unfold VV at h
  repeat' split at h
  all_goals first | exact ring_bd h | exact ha _ h | cases h
 exact hk _ _ h
def X4 (n:Nat):List Int:=(List.range n).map fun (i:Nat)=>(i:Int)
def attL (P:Nat→Int) (s:Int):List Int:=if 0≤s∧s < 64 then (X4 64).filter (Xb P s) else []
theorem sS (p:Int→Bool) (n:Nat):((X4 n).filter p).Pairwise (· < ·):=by
 refine List.Pairwise.filter _ ?_
 unfold X4
 rw [List.pairwise_map]
 exact List.pairwise_lt_range.imp (fun h=>by omega)
theorem rV (P:Nat→Int) (s:Int):Wb P s = attL P s:=by
 unfold Wb attL
 by_cases h:0≤s∧s < 64
 ·rw [if_pos h,if_pos h]
  refine srtM_is (zN h) (sS _ _) fun x=>?_
  rw [List.mem_filter]
  unfold X4
  rw [List.mem_map]
  constructor
  ·intro hx
   have hb:=kA hx
   exact ⟨⟨x.toNat,List.mem_range.2 (by omega),by omega⟩,(TH h hb).1 hx⟩
  ·rintro ⟨⟨i,hi,rfl⟩,hx⟩
   exact (TH h ⟨by omega,by have:=List.mem_range.1 hi; omega⟩).2 hx
 ·rw [if_neg h,if_neg h]
end Go.Proofs.YtlkighkfkdpncaaGreat
namespace Go.Am
open Go
section
variable {A:AP} {N:Nat} {f:FE} {n:Nat} {L:HA} {K:KN} {Zp:V→KN} {l:List I} {d:Nat}
def bytes2 (a b:Int):Nat→S:=WU (WU (fun _=>.int .u8 0) (0*1) 1 (fun _=>.int .u8 a)) (1*1) 1 (fun _=>.int .u8 b)
end
end Go.Am
namespace Go.Proofs.YtlkighkfkdpncaaGreat
open Go Go.Am
def darkM (x:Int):Bool:=decide ((0≤x∧x < 64)∧(x % 8+x / 8) % 2 = 0)
def nameS (x:Int):ByteArray:=if 0≤x∧x < 64 then ⟨#[UInt8.ofNat (97+(x % 8).toNat),UInt8.ofNat (49+(x / 8).toNat)]⟩ else ⟨#[]⟩
def rayF (s f r:Int):Nat→Int
 | 0=>YN s f r
 | k+1=>YN (rayF s f r k) f r
def muM (s f r:Int):Nat:=if s < 0 then 0 else if 0 < f then (8 - s % 8).toNat else if f < 0 then (s % 8+1).toNat else if 0 < r then (8 - s / 8).toNat else (s / 8+1).toNat
theorem rE {s f r:Int} (h:YN s f r ≠ -1):(0≤s∧s < 64)∧(0≤s % 8+f∧s % 8+f < 8)∧(0≤s / 8+r∧s / 8+r < 8)∧YN s f r = (s / 8+r)*8+(s % 8+f):=by
 unfold YN atM at h ⊢
 by_cases c:(0≤s∧s < 64)∧(-8 < f∧f < 8)∧(-8 < r∧r < 8)
 ·rw [if_pos c] at h ⊢
  by_cases e:0≤s % 8+f∧s % 8+f < 8∧0≤s / 8+r∧s / 8+r < 8
  ·rw [if_pos e]; exact ⟨c.1,⟨e.1,e.2.1⟩,⟨e.2.2.1,e.2.2.2⟩,rfl⟩
  ·rw [if_neg e] at h; exact absurd rfl h
 ·rw [if_neg c] at h; exact absurd rfl h
theorem DV {s f r:Int} (hz:¬ (f = 0∧r = 0)) (hs:s ≠ -1) (hb:-1≤s∧s < 64):muM (YN s f r) f r < muM s f r:=by
 have h0:=VT s f r
 by_cases h:YN s f r = -1
 ·rw [h,show muM (-1) f r = 0 from if_pos (by decide)]
  have n2:¬ s < 0:=by omega
  unfold muM
  rw [if_neg n2]
  by_cases a:0 < f
  ·rw [if_pos a]; omega
  ·rw [if_neg a]
   by_cases b:f < 0
   ·rw [if_pos b]; omega
   ·rw [if_neg b]
    by_cases c:0 < r
    ·rw [if_pos c]; omega
    ·rw [if_neg c]; omega
 ·have ⟨h1,h2,h3,h4⟩:=rE h
  have e1:YN s f r % 8 = s % 8+f:=by omega
  have e2:YN s f r / 8 = s / 8+r:=by omega
  have n1:¬ YN s f r < 0:=by omega
  have n2:¬ s < 0:=by omega
  unfold muM
  rw [if_neg n1,if_neg n2,e1,e2]
  by_cases a:0 < f
  ·rw [if_pos a,if_pos a]; omega
  ·rw [if_neg a,if_neg a]
   by_cases b:f < 0
   ·rw [if_pos b,if_pos b]; omega
   ·rw [if_neg b,if_neg b]
    by_cases c:0 < r
    ·rw [if_pos c,if_pos c]; omega
    ·rw [if_neg c,if_neg c]; omega
theorem uA {s f r:Int} (h:s < 64):muM s f r≤8:=by
 unfold muM
 split
 ·omega
 ·split
  ·omega
  ·split
   ·omega
   ·split <;> omega
structure RayOf (s f r:Int) (n:Nat):Prop where
 on:∀ j:Nat,j < n→rayF s f r j ≠ -1
 off:rayF s f r n = -1
def wN (s:Int) (K:Nat→Int):Nat→Nat × (Nat→Int)
 | 0=>(0,fun _=>0)
 | i+1=>if YN s (dp K (0+(i:Int).toNat*2) 0) (dp K (0+(i:Int).toNat*2) 1) = -1 then wN s K i else ((wN s K i).1+1,fun j=>if j < (wN s K i).1 then (wN s K i).2 j else YN s (dp K (0+(i:Int).toNat*2) 0) (dp K (0+(i:Int).toNat*2) 1))
theorem sx {c:Int} (h:0≤c∧c≤15):WX .shr (.int .i64 c) (.int .i64 0) = some (.int .i64 (c / 1)):=by
 have:c = 0∨c = 1∨c = 2∨c = 3∨c = 4∨c = 5∨c = 6∨c = 7∨c = 8∨c = 9∨c = 10∨c = 11∨c = 12∨c = 13∨c = 14∨c = 15:=by omega
 rcases this with rfl | rfl | rfl | rfl | rfl | rfl | rfl | rfl | rfl | rfl | rfl | rfl | rfl | rfl | rfl | rfl <;> rfl
theorem sy {c:Int} (h:0≤c∧c≤15):WX .shr (.int .i64 c) (.int .i64 1) = some (.int .i64 (c / 2)):=by
 have:c = 0∨c = 1∨c = 2∨c = 3∨c = 4∨c = 5∨c = 6∨c = 7∨c = 8∨c = 9∨c = 10∨c = 11∨c = 12∨c = 13∨c = 14∨c = 15:=by omega
 rcases this with rfl | rfl | rfl | rfl | rfl | rfl | rfl | rfl | rfl | rfl | rfl | rfl | rfl | rfl | rfl | rfl <;> rfl
theorem tT {c:Int} (h:0≤c∧c≤15):WX .shr (.int .i64 c) (.int .i64 2) = some (.int .i64 (c / 4)):=by
 have:c = 0∨c = 1∨c = 2∨c = 3∨c = 4∨c = 5∨c = 6∨c = 7∨c = 8∨c = 9∨c = 10∨c = 11∨c = 12∨c = 13∨c = 14∨c = 15:=by omega
 rcases this with rfl | rfl | rfl | rfl | rfl | rfl | rfl | rfl | rfl | rfl | rfl | rfl | rfl | rfl | rfl | rfl <;> rfl
theorem tS {c:Int} (h:0≤c∧c≤15):WX .shr (.int .i64 c) (.int .i64 3) = some (.int .i64 (c / 8)):=by
 have:c = 0∨c = 1∨c = 2∨c = 3∨c = 4∨c = 5∨c = 6∨c = 7∨c = 8∨c = 9∨c = 10∨c = 11∨c = 12∨c = 13∨c = 14∨c = 15:=by omega
 rcases this with rfl | rfl | rfl | rfl | rfl | rfl | rfl | rfl | rfl | rfl | rfl | rfl | rfl | rfl | rfl | rfl <;> rfl
theorem JO {c:Int} (h:0≤c∧c≤15):WX .and (.int .i64 c) (.int .i64 1) = some (.int .i64 (c % 2)):=by
 have:c = 0∨c = 1∨c = 2∨c = 3∨c = 4∨c = 5∨c = 6∨c = 7∨c = 8∨c = 9∨c = 10∨c = 11∨c = 12∨c = 13∨c = 14∨c = 15:=by omega
 rcases this with rfl | rfl | rfl | rfl | rfl | rfl | rfl | rfl | rfl | rfl | rfl | rfl | rfl | rfl | rfl | rfl <;> rfl
def YY (P:Nat→Int) (x k c:Int):Bool:=decide (P (sqI x) = k∧P (sqI x+1) = c)
theorem X3 {X Y:Nat→Int}:eqI 2 X Y = decide (X 0 = Y 0∧X 1 = Y 1):=by
 rw [Bool.eq_iff_iff,Qx,decide_eq_true_eq]
 constructor
 ·intro h; exact ⟨h 0 (by omega),h 1 (by omega)⟩
 ·rintro ⟨h0,h1⟩ i hi
  have:i = 0∨i = 1:=by omega
  rcases this with rfl | rfl
  ·exact h0
  ·exact h1
def okM (P:Nat→Int) (s:Nat):Prop:=(P (sqI s) = 0∧P (sqI s+1) = 0)∨((1≤P (sqI s)∧P (sqI s)≤6∧(P (sqI s+1) = 0∨P (sqI s+1) = 1))∧¬ (P (sqI s) = 1∧(s < 8∨56≤s)))
def kM (P:Nat→Int) (c:Int):Nat→Int
 | 0=>0
 | n+1=>kM P c n+(if P (sqI n) = 6∧P (sqI n+1) = c then 1 else 0)
theorem wJ (P:Nat→Int) (c:Int):∀ n:Nat,0≤kM P c n∧kM P c n≤n
 | 0=>⟨Int.le_refl _,Int.le_refl _⟩
 | n+1=>by
  have:=wJ P c n
  unfold kM
  split <;> omega
instance (P:Nat→Int) (s:Nat):Decidable (okM P s):=by unfold okM; infer_instance
def Wz (P:Nat→Int):Bool:=decide ((∀ s:Nat,s < 64→okM P s)∧kM P 0 64 = 1∧kM P 1 64 = 1∧(P 128 = 0∨P 128 = 1))
theorem XX {P:Nat→Int} (h:¬ ((∀ s:Nat,s < 64→okM P s)∧kM P 0 64 = 1∧kM P 1 64 = 1∧(P 128 = 0∨P 128 = 1))):Wz P = false:=by
 unfold Wz; exact decide_eq_false h
theorem Uh {P:Nat→Int} (h:(∀ s:Nat,s < 64→okM P s)∧kM P 0 64 = 1∧kM P 1 64 = 1∧(P 128 = 0∨P 128 = 1)):Wz P = true:=by
 unfold Wz; exact decide_eq_true h
theorem JW {P:Nat→Int} (h:Wz P = true):(∀ s:Nat,s < 64→okM P s)∧kM P 0 64 = 1∧kM P 1 64 = 1∧(P 128 = 0∨P 128 = 1):=by
 unfold Wz at h; exact of_decide_eq_true h
theorem WI {P:Nat→Int} {i:Nat} (h:∀ s:Nat,s < i→okM P s) (hi:okM P i):∀ s:Nat,s < i+1→okM P s:=fun s hs=>by
 by_cases e:s = i
 ·subst e; exact hi
 ·exact h s (by omega)
theorem UO {P C:Nat→Int} {i:Nat} (h0:C 0 = kM P 0 i) (h1:C 1 = kM P 1 i) (hk:¬ P (sqI i) = 6):C 0 = kM P 0 (i+1)∧C 1 = kM P 1 (i+1):=by
 unfold kM
 rw [if_neg (fun q=>hk q.1),if_neg (fun q=>hk q.1)]
 omega
theorem UM {P C:Nat→Int} {i:Nat} (h0:C 0 = kM P 0 i) (h1:C 1 = kM P 1 i) (hk:P (sqI i) = 6) (hc:P (sqI i+1) = 0∨P (sqI i+1) = 1):ov C (0+(P (sqI i+1)).toNat*1) (C (0+(P (sqI i+1)).toNat*1)+1) 0 = kM P 0 (i+1)∧ov C (0+(P (sqI i+1)).toNat*1) (C (0+(P (sqI i+1)).toNat*1)+1) 1 = kM P 1 (i+1):=by
 unfold kM
 rcases hc with hc | hc
 ·rw [if_pos ⟨hk,hc⟩,if_neg (by omega),hc]
  exact ⟨by show C 0+1 = _; omega,by show C 1 = _; omega⟩
 ·rw [if_neg (by omega),if_pos ⟨hk,hc⟩,hc]
  exact ⟨by show C 0 = _; omega,by show C 1+1 = _; omega⟩
theorem Kc {P C:Nat→Int} {i:Nat} (h0:C 0 = kM P 0 i) (h1:C 1 = kM P 1 i) (hi:i≤64) (hc:P (sqI i+1) = 0∨P (sqI i+1) = 1):-9223372036854775808≤C (0+(P (sqI i+1)).toNat*1)+1∧C (0+(P (sqI i+1)).toNat*1)+1≤9223372036854775807:=by
 have:=wJ P 0 i
 have:=wJ P 1 i
 rcases hc with hc | hc
 ·rw [hc]; show _≤C 0+1∧C 0+1≤_; omega
 ·rw [hc]; show _≤C 1+1∧C 1+1≤_; omega
theorem dp_ix {P:Nat→Int} {i:Nat}:(fun j=>ia P ((i:Int).toNat*2+j)) = ia (dp P (sqI i)):=by
 funext j
 show _ = ia P (0+(i:Int).toNat*2+j)
 rw [Nat.zero_add]
theorem ovA2 {F X:Nat→Int}:ovA F 0 2 X 0 = X 0∧ovA F 0 2 X 1 = X 1:=⟨rfl,rfl⟩
def Y3 (P:Nat→Int) (s a b:Int):Bool:=decide (P (sqI a) = 6∧P (sqI a+1) = s∧P (sqI b) = 4∧P (sqI b+1) = s)
def YX (P:Nat→Int):Bool:=decide ((0≤P 129∧P 129≤15)∧(P 129 % 2 = 0∨Y3 P 0 4 7 = true)∧(P 129 / 2 % 2 = 0∨Y3 P 0 4 0 = true)∧(P 129 / 4 % 2 = 0∨Y3 P 1 60 63 = true)∧(P 129 / 8 = 0∨Y3 P 1 60 56 = true))
def Xh (P:Nat→Int):Bool:=decide (P 130 = -1∨((0≤P 130∧P 130 < 64)∧P 131 = 0∧((P 128 = 1∧P 130 / 8 = 2∧YY P (P 130) 0 0 = true∧YY P (P 130 - 8) 0 0 = true∧YY P (P 130+8) 1 0 = true)∨(P 128 = 0∧P 130 / 8 = 5∧YY P (P 130) 0 0 = true∧YY P (P 130+8) 0 0 = true∧YY P (P 130 - 8) 1 1 = true))))
def Vq (P:Nat→Int):Bool:=Wz P && YX P && Xh P && decide (0≤P 131∧P 131≤1024∧1≤P 132∧P 132≤16384)
theorem QC {x r:Int} (h:X6 x = r) (hr:0≤r):(0≤x∧x < 64)∧x / 8 = r:=by
 unfold X6 at h
 split at h
 ·exact ⟨by assumption,h⟩
 ·omega
theorem kh {x d:Int} (hx:0≤x∧x < 64) (h:0≤x / 8+d∧x / 8+d < 8):YN x 0 d = x+8*d:=by
 unfold YN atM
 rw [if_pos ⟨hx,by omega,by omega⟩,if_pos (by omega)]
 omega
theorem WM (P:Nat→Int) (k s x:Int) (hx:0≤x∧x < 64):WR AM 54 [.agg 133 (ia P),.s (.int .i64 k),.s (.int .i64 s),.s (.int .i64 x)] [] (fun v _ _=>v = .s (.bool (YY P x k s))):=by
 refine YI (a:=a54) rfl rfl (YH _) (ZP rfl) (m:=0) rfl (Zd (YB rfl (Yp rfl (Ze (Zi rfl (Zx rfl (Zx rfl (Zv rfl rfl rfl (Yo rfl rfl ZL (Zi rfl (Zi rfl (YA rfl (.one rfl (.one rfl .nil)) (Yv rfl rfl (Zj rfl (Zf rfl (ZH ?_))))))))))))))))
 exact X3
theorem Ti {md:Md} (P:Nat→Int) (x:Int) (hx:0≤x∧x < 64):WR AM 55 [.s (.int .i64 x),.ptr 0 0 133] [.sc md 133 (ia P)] (fun v _ L=>v = .s (.bool (YY P x 0 0))∧(0,Blk.sc md 133 (ia P))∈L):=by
 refine YI (a:=a55) rfl rfl (YH _) (ZP rfl) (m:=1) rfl (Zd (Yp rfl (Ze (Zi rfl (Zx rfl (Zx rfl (Zv rfl rfl rfl (Yo rfl rfl ZL (YA rfl .nil (Yv rfl rfl (Zj rfl (Zf rfl (⟨ZH ?_,ZL⟩)))))))))))))
 exact X3
theorem ub (P:Nat→Int):WR AM 36 [.agg 133 (ia P)] [] (fun v _ _=>v = .s (.bool (YX P))):=by
 refine YI (a:=a36) rfl rfl (YH _) (ZP rfl) (m:=0) rfl (Zd (YB rfl (Yp rfl (Yb (Yd (Zd (Zx rfl (Yc (o':=129) rfl rfl rfl (Yl rfl rfl ZL rfl (Zq rfl (Zj rfl (Yr (t:=10) rfl (fun h26=>?_) (fun h26=>?_))))))))))))) <;> simp only [NM] at h26
 ·refine ZD rfl (Zo rfl (Yb (Zz rfl (Zd (Yp rfl (Zf rfl (ZH ?_)))))))
  rw [Bool.eq_iff_iff]
  simp only [YX,Y3,YY,decide_eq_true_eq,decide_eq_false_iff_not,Bool.false_eq_true,false_iff,true_iff] at *
  omega
 ·refine Ya rfl (Zx rfl (Ya rfl (Yc (o':=129) rfl rfl rfl (Ya rfl (Yl rfl rfl ZL rfl (Ya rfl (Zq rfl (Zo rfl (Yb (Yi rfl (fun h27=>?_) (fun h27=>?_))))))))))) <;> simp only [NM] at h27
  ·refine Zd (Yp rfl (Zf rfl (ZH ?_)))
   rw [Bool.eq_iff_iff]
   simp only [YX,Y3,YY,decide_eq_true_eq,decide_eq_false_iff_not,Bool.false_eq_true,false_iff,true_iff] at *
   omega
  ·refine Yg (Yd (Zd (YA rfl (.one rfl (.one rfl (.one rfl (.one rfl .nil)))) (Yp rfl (Yb (Yj (KX (fun f n L=>(0≤P 129∧P 129≤15)∧(P 129 / 1 % 2 = 0∨(P (sqI 4) = 6∧P (sqI 4+1) = 0∧P (sqI 7) = 4∧P (sqI 7+1) = 0))∧(f 1 = .ptr 0 0 133)∧(f 16 = .agg 4 (ia (ov (ov (ov (ov (fun _=>0) 0 7) 1 0) 2 63) 3 56)))∧(f 17 = .s (.int .i64 1))∧(L = [(0,.sc .var 133 (ia P))])∧(n = 1)) ?_ (fun f nb L hI=>?_))))))))
   ·refine Zd (Zq rfl (Yb (Yd (Yi rfl (fun h28=>?_) (fun h28=>?_))))) <;> simp only [NM] at h28
    ·refine Yg (Yd (Yj (Zd (Zi rfl (zj (a:=.int .i64 7) rfl rfl rfl (by omega) rfl (Zi rfl (Zi rfl (Yb (Yd (Zd (Zx rfl (Yc (o':=129) rfl rfl rfl (Yl rfl rfl ZL rfl (Zi rfl (Yq rfl rfl (sx ⟨by omega,by omega⟩) (Yq rfl rfl (JO ⟨by omega,by omega⟩) (Zq rfl (Yb (Yi rfl (fun h29=>?_) (fun h29=>?_)))))))))))))))))))) <;> simp only [NM] at h29
     ·refine YZ (Xc (Ye (Yq (r:=.int .i64 1) rfl rfl rfl (Zi rfl (Yb (⟨_,(.refl _),⟨by omega,by omega⟩,?_,rfl,rfl,rfl,rfl,rfl⟩))))))
      omega
     ·refine Yg (Zd (Zi rfl (Yq (r:=.int .i64 0) rfl rfl rfl (Zi rfl (Ze (Yn rfl rfl ZL (Zi rfl (Zi rfl (Ys rfl (YF (WM _ _ _ _ (by omega))) rfl rfl rfl (Yu (r:=.bool _) rfl rfl (Zj rfl (Yr (t:=35) rfl (fun h30=>?_) (fun h30=>?_))))))))))))) <;> simp only [NM] at h30
      ·refine ZE rfl (Zo rfl (Yb (Zz rfl (Zd (Yp rfl (Zf rfl (ZH ?_)))))))
       rw [Bool.eq_iff_iff]
       simp only [YX,Y3,YY,decide_eq_true_eq,decide_eq_false_iff_not,Bool.false_eq_true,false_iff,true_iff] at *
       omega
      ·refine Ya rfl (Yn rfl rfl ZL (Ya rfl (Zi rfl (Ya rfl (Zi rfl (Ya rfl (Yq (r:=.int .i64 0) rfl rfl rfl (Ya rfl (Yq (r:=.int .i64 0) rfl rfl rfl (Ya rfl (Yq (r:=.int .i64 4) rfl rfl rfl (Ya rfl (Ys rfl (YF (WM _ _ _ _ (by omega))) rfl rfl rfl (Ya rfl (Yu (r:=.bool _) rfl rfl (Zo rfl (Yb (Yi rfl (fun h31=>?_) (fun h31=>?_))))))))))))))))))) <;> simp only [NM] at h31
       ·refine Zd (Yp rfl (Zf rfl (ZH ?_)))
        rw [Bool.eq_iff_iff]
        simp only [YX,Y3,YY,decide_eq_true_eq,decide_eq_false_iff_not,Bool.false_eq_true,false_iff,true_iff] at *
        omega
       ·refine Yg (Ye (Yq (r:=.int .i64 1) rfl rfl rfl (Zi rfl (Yb (⟨_,(.refl _),⟨by omega,by omega⟩,?_,rfl,rfl,rfl,rfl,rfl⟩)))))
        try simp only [YY,decide_eq_true_eq,decide_eq_false_iff_not] at *
        omega
    ·exfalso; omega
   ·obtain ⟨hC,hf0,k1,k16,k17,rfl,rfl⟩:=hI
    refine pH 1 k1 (pH 16 k16 (pH 17 k17 (KX (fun f n L=>(P 129 / 2 % 2 = 0∨(P (sqI 4) = 6∧P (sqI 4+1) = 0∧P (sqI 0) = 4∧P (sqI 0+1) = 0))∧(f 1 = .ptr 0 0 133)∧(f 16 = .agg 4 (ia (ov (ov (ov (ov (fun _=>0) 0 7) 1 0) 2 63) 3 56)))∧(f 17 = .s (.int .i64 2))∧(L = [(0,.sc .var 133 (ia P))])∧(n = 1)) ?_ (fun f nb L hI=>?_))))
    ·refine Zd (Zq rfl (Yb (Yd (Yi rfl (fun h32=>?_) (fun h32=>?_))))) <;> simp only [NM] at h32
     ·refine Yg (Yd (Yj (Zd (Zi rfl (zj (a:=.int .i64 0) rfl rfl rfl (by omega) rfl (Zi rfl (Zi rfl (Yb (Yd (Zd (Zx rfl (Yc (o':=129) rfl rfl rfl (Yl rfl rfl ZL rfl (Zi rfl (Yq rfl rfl (sy ⟨by omega,by omega⟩) (Yq rfl rfl (JO ⟨by omega,by omega⟩) (Zq rfl (Yb (Yi rfl (fun h33=>?_) (fun h33=>?_)))))))))))))))))))) <;> simp only [NM] at h33
      ·refine YZ (Xc (Ye (Yq (r:=.int .i64 2) rfl rfl rfl (Zi rfl (Yb (⟨_,(.refl _),?_,rfl,rfl,rfl,rfl,rfl⟩))))))
       omega
      ·refine Yg (Zd (Zi rfl (Yq (r:=.int .i64 0) rfl rfl rfl (Zi rfl (Ze (Yn rfl rfl ZL (Zi rfl (Zi rfl (Ys rfl (YF (WM _ _ _ _ (by omega))) rfl rfl rfl (Yu (r:=.bool _) rfl rfl (Zj rfl (Yr (t:=35) rfl (fun h34=>?_) (fun h34=>?_))))))))))))) <;> simp only [NM] at h34
       ·refine ZE rfl (Zo rfl (Yb (Zz rfl (Zd (Yp rfl (Zf rfl (ZH ?_)))))))
        rw [Bool.eq_iff_iff]
        simp only [YX,Y3,YY,decide_eq_true_eq,decide_eq_false_iff_not,Bool.false_eq_true,false_iff,true_iff] at *
        omega
       ·refine Ya rfl (Yn rfl rfl ZL (Ya rfl (Zi rfl (Ya rfl (Zi rfl (Ya rfl (Yq (r:=.int .i64 0) rfl rfl rfl (Ya rfl (Yq (r:=.int .i64 0) rfl rfl rfl (Ya rfl (Yq (r:=.int .i64 4) rfl rfl rfl (Ya rfl (Ys rfl (YF (WM _ _ _ _ (by omega))) rfl rfl rfl (Ya rfl (Yu (r:=.bool _) rfl rfl (Zo rfl (Yb (Yi rfl (fun h35=>?_) (fun h35=>?_))))))))))))))))))) <;> simp only [NM] at h35
        ·refine Zd (Yp rfl (Zf rfl (ZH ?_)))
         rw [Bool.eq_iff_iff]
         simp only [YX,Y3,YY,decide_eq_true_eq,decide_eq_false_iff_not,Bool.false_eq_true,false_iff,true_iff] at *
         omega
        ·refine Yg (Ye (Yq (r:=.int .i64 2) rfl rfl rfl (Zi rfl (Yb (⟨_,(.refl _),?_,rfl,rfl,rfl,rfl,rfl⟩)))))
         try simp only [YY,decide_eq_true_eq,decide_eq_false_iff_not] at *
         omega
     ·exfalso; omega
    ·obtain ⟨hf1,k1,k16,k17,rfl,rfl⟩:=hI
     refine pH 1 k1 (pH 16 k16 (pH 17 k17 (KX (fun f n L=>(P 129 / 4 % 2 = 0∨(P (sqI 60) = 6∧P (sqI 60+1) = 1∧P (sqI 63) = 4∧P (sqI 63+1) = 1))∧(f 1 = .ptr 0 0 133)∧(f 16 = .agg 4 (ia (ov (ov (ov (ov (fun _=>0) 0 7) 1 0) 2 63) 3 56)))∧(f 17 = .s (.int .i64 3))∧(L = [(0,.sc .var 133 (ia P))])∧(n = 1)) ?_ (fun f nb L hI=>?_))))
     ·refine Zd (Zq rfl (Yb (Yd (Yi rfl (fun h36=>?_) (fun h36=>?_))))) <;> simp only [NM] at h36
      ·refine Yg (Yd (Yj (Zd (Zi rfl (zj (a:=.int .i64 63) rfl rfl rfl (by omega) rfl (Zi rfl (Zi rfl (Yb (Yd (Zd (Zx rfl (Yc (o':=129) rfl rfl rfl (Yl rfl rfl ZL rfl (Zi rfl (Yq rfl rfl (tT ⟨by omega,by omega⟩) (Yq rfl rfl (JO ⟨by omega,by omega⟩) (Zq rfl (Yb (Yi rfl (fun h37=>?_) (fun h37=>?_)))))))))))))))))))) <;> simp only [NM] at h37
       ·refine YZ (Xc (Ye (Yq (r:=.int .i64 3) rfl rfl rfl (Zi rfl (Yb (⟨_,(.refl _),?_,rfl,rfl,rfl,rfl,rfl⟩))))))
        omega
       ·refine Yg (Zd (Zi rfl (Yq (r:=.int .i64 1) rfl rfl rfl (Zi rfl (Ze (Yn rfl rfl ZL (Zi rfl (Zi rfl (Ys rfl (YF (WM _ _ _ _ (by omega))) rfl rfl rfl (Yu (r:=.bool _) rfl rfl (Zj rfl (Yr (t:=35) rfl (fun h38=>?_) (fun h38=>?_))))))))))))) <;> simp only [NM] at h38
        ·refine ZE rfl (Zo rfl (Yb (Zz rfl (Zd (Yp rfl (Zf rfl (ZH ?_)))))))
         rw [Bool.eq_iff_iff]
         simp only [YX,Y3,YY,decide_eq_true_eq,decide_eq_false_iff_not,Bool.false_eq_true,false_iff,true_iff] at *
         omega
        ·refine Ya rfl (Yn rfl rfl ZL (Ya rfl (Zi rfl (Ya rfl (Zi rfl (Ya rfl (Yq (r:=.int .i64 7) rfl rfl rfl (Ya rfl (Yq (r:=.int .i64 56) rfl rfl rfl (Ya rfl (Yq (r:=.int .i64 60) rfl rfl rfl (Ya rfl (Ys rfl (YF (WM _ _ _ _ (by omega))) rfl rfl rfl (Ya rfl (Yu (r:=.bool _) rfl rfl (Zo rfl (Yb (Yi rfl (fun h39=>?_) (fun h39=>?_))))))))))))))))))) <;> simp only [NM] at h39
         ·refine Zd (Yp rfl (Zf rfl (ZH ?_)))
          rw [Bool.eq_iff_iff]
          simp only [YX,Y3,YY,decide_eq_true_eq,decide_eq_false_iff_not,Bool.false_eq_true,false_iff,true_iff] at *
          omega
         ·refine Yg (Ye (Yq (r:=.int .i64 3) rfl rfl rfl (Zi rfl (Yb (⟨_,(.refl _),?_,rfl,rfl,rfl,rfl,rfl⟩)))))
          try simp only [YY,decide_eq_true_eq,decide_eq_false_iff_not] at *
          omega
      ·exfalso; omega
     ·obtain ⟨hf2,k1,k16,k17,rfl,rfl⟩:=hI
      refine pH 1 k1 (pH 16 k16 (pH 17 k17 (KX (fun f n L=>(P 129 / 8 % 2 = 0∨(P (sqI 60) = 6∧P (sqI 60+1) = 1∧P (sqI 56) = 4∧P (sqI 56+1) = 1))∧(f 1 = .ptr 0 0 133)∧(f 16 = .agg 4 (ia (ov (ov (ov (ov (fun _=>0) 0 7) 1 0) 2 63) 3 56)))∧(f 17 = .s (.int .i64 4))∧(L = [(0,.sc .var 133 (ia P))])∧(n = 1)) ?_ (fun f nb L hI=>?_))))
      ·refine Zd (Zq rfl (Yb (Yd (Yi rfl (fun h40=>?_) (fun h40=>?_))))) <;> simp only [NM] at h40
       ·refine Yg (Yd (Yj (Zd (Zi rfl (zj (a:=.int .i64 56) rfl rfl rfl (by omega) rfl (Zi rfl (Zi rfl (Yb (Yd (Zd (Zx rfl (Yc (o':=129) rfl rfl rfl (Yl rfl rfl ZL rfl (Zi rfl (Yq rfl rfl (tS ⟨by omega,by omega⟩) (Yq rfl rfl (JO ⟨by omega,by omega⟩) (Zq rfl (Yb (Yi rfl (fun h41=>?_) (fun h41=>?_)))))))))))))))))))) <;> simp only [NM] at h41
        ·refine YZ (Xc (Ye (Yq (r:=.int .i64 4) rfl rfl rfl (Zi rfl (Yb (⟨_,(.refl _),?_,rfl,rfl,rfl,rfl,rfl⟩))))))
         omega
        ·refine Yg (Zd (Zi rfl (Yq (r:=.int .i64 1) rfl rfl rfl (Zi rfl (Ze (Yn rfl rfl ZL (Zi rfl (Zi rfl (Ys rfl (YF (WM _ _ _ _ (by omega))) rfl rfl rfl (Yu (r:=.bool _) rfl rfl (Zj rfl (Yr (t:=35) rfl (fun h42=>?_) (fun h42=>?_))))))))))))) <;> simp only [NM] at h42
         ·refine ZE rfl (Zo rfl (Yb (Zz rfl (Zd (Yp rfl (Zf rfl (ZH ?_)))))))
          rw [Bool.eq_iff_iff]
          simp only [YX,Y3,YY,decide_eq_true_eq,decide_eq_false_iff_not,Bool.false_eq_true,false_iff,true_iff] at *
          omega
         ·refine Ya rfl (Yn rfl rfl ZL (Ya rfl (Zi rfl (Ya rfl (Zi rfl (Ya rfl (Yq (r:=.int .i64 7) rfl rfl rfl (Ya rfl (Yq (r:=.int .i64 56) rfl rfl rfl (Ya rfl (Yq (r:=.int .i64 60) rfl rfl rfl (Ya rfl (Ys rfl (YF (WM _ _ _ _ (by omega))) rfl rfl rfl (Ya rfl (Yu (r:=.bool _) rfl rfl (Zo rfl (Yb (Yi rfl (fun h43=>?_) (fun h43=>?_))))))))))))))))))) <;> simp only [NM] at h43
          ·refine Zd (Yp rfl (Zf rfl (ZH ?_)))
           rw [Bool.eq_iff_iff]
           simp only [YX,Y3,YY,decide_eq_true_eq,decide_eq_false_iff_not,Bool.false_eq_true,false_iff,true_iff] at *
           omega
          ·refine Yg (Ye (Yq (r:=.int .i64 4) rfl rfl rfl (Zi rfl (Yb (⟨_,(.refl _),?_,rfl,rfl,rfl,rfl,rfl⟩)))))
           try simp only [YY,decide_eq_true_eq,decide_eq_false_iff_not] at *
           omega
       ·exfalso; omega
      ·obtain ⟨hf3,k1,k16,k17,rfl,rfl⟩:=hI
       refine pH 1 k1 (pH 16 k16 (pH 17 k17 (Uf (Zd (Zq rfl (Yb (Yd (Yi rfl (fun h44=>?_) (fun h44=>?_))))))))) <;> simp only [NM] at h44
       ·exfalso; omega
       ·refine YZ (Xc (Zd (Yp rfl (Zf rfl (ZH ?_)))))
        rw [Bool.eq_iff_iff]
        simp only [YX,Y3,YY,decide_eq_true_eq,decide_eq_false_iff_not,Bool.false_eq_true,false_iff,true_iff] at *
        omega
theorem ovK {F:Nat→Int} {x y:Int}:ov (ov F 0 x) 1 y 0 = x∧ov (ov F 0 x) 1 y 1 = y:=⟨rfl,rfl⟩
theorem jt (s:Nat) (h:s < 64):RF AM 41 [.s (.int .i64 (s:Int))] (.s (.int .i64 ((s:Int) / 8))):=by
 have:=QY (s:Int)
 rw [X6,if_pos (by omega)] at this
 exact this
theorem sB (P:Nat→Int):WR AM 35 [.agg 133 (ia P)] [] (fun v _ _=>v = .s (.bool (Wz P))):=by
 refine YI (a:=a35) rfl rfl (YH _) (ZP rfl) (m:=0) rfl (Zd (YB rfl (Yp rfl (Ze (Yx (Yb (Yd (Zd (Zx rfl (Zx rfl (Yn rfl rfl ZM (Yp rfl (Yb (Yj (Xe (L':=[_,_]) (.refl _) (Xg (fun m f _ L=>∃ (i:Nat) (C:Nat→Int),(i≤64)∧(m = 64 - i)∧(∀ s:Nat,s < i→okM P s)∧(C 0 = kM P 0 i)∧(C 1 = kM P 1 i)∧(f 1 = .ptr 0 0 133)∧(f 3 = .ptr 1 0 2)∧(f 9 = .agg 128 (ia P))∧(f 10 = .s (.int .i64 i))∧(L = [(1,.sc .var 2 (ia C)),(0,.sc .var 133 (ia P))])) (fun m f nb L hI=>?_) (64) ⟨0,fun _=>0,by omega,rfl,fun s h=>by omega,rfl,rfl,rfl,rfl,rfl,rfl,rfl⟩))))))))))))))))
 obtain ⟨i,C,hi,hm,hok,hc0,hc1,k1,k3,k9,k10,rfl⟩:=hI
 refine pH 1 k1 (pH 3 k3 (pH 9 k9 (pH 10 k10 (Zd (Zq rfl (Yb (Yd (Yi rfl (fun h1=>?_) (fun h1=>?_))))))))) <;> simp only [NM] at h1
 ·refine Yg (Yd (Yj (Zd (Zi rfl ?_))))
  refine zq rfl rfl rfl (by first | omega | (simp only [YU,decide_eq_true_eq] at *; omega)) ?_
  rw [dp_ix]
  refine Yx (Zi rfl (Yy rfl rfl rfl rfl .here (Yb (Yd (Zd (Yn rfl rfl ZL (YA rfl .nil (Yv rfl rfl (Yb (Yi rfl (fun h2=>?_) (fun h2=>?_))))))))))) <;> simp only [NM] at h2
  ·try simp only [X3,ovA2.1,ovA2.2,ovK.1,ovK.2,decide_eq_true_eq,decide_eq_false_iff_not,YU,dp,Nat.add_zero] at h2
   refine YZ (Xc (Ye (Zr rfl rfl (Zi rfl (Yb ?_)))))
   (have hk:=UO hc0 hc1 (by omega); refine ⟨64 - (i+1),_,by omega,(.cons _ (.refl _)),i+1,_,by omega,rfl,WI hok (by unfold okM; omega),hk.1,hk.2,rfl,rfl,rfl,rfl,rfl⟩)
  ·try simp only [X3,ovA2.1,ovA2.2,ovK.1,ovK.2,decide_eq_true_eq,decide_eq_false_iff_not,YU,dp,Nat.add_zero] at h2
   refine Yg (Zd (Zi rfl (Ys rfl (jt i (by omega)) rfl rfl rfl (Zq rfl (Zj rfl (Yr (t:=20) rfl (fun h3=>?_) (fun h3=>?_))))))) <;> simp only [NM] at h3
   ·refine ZC rfl (ZB rfl (Zo rfl (Zj rfl (Yb (Yd (Zd (Yn rfl rfl ZL (Ys rfl (show RF AM 42 _ (.s (.bool (YU (P (sqI i)) (P (sqI i+1))))) from YF (Zay (ovA (fun _=>0) 0 2 (dp P (sqI i))))) rfl rfl rfl (Yu (r:=.bool _) rfl rfl (Zj rfl (Yr (t:=28) rfl (fun h4=>?_) (fun h4=>?_)))))))))))) <;> simp only [NM] at h4
    ·try simp only [X3,ovA2.1,ovA2.2,ovK.1,ovK.2,decide_eq_true_eq,decide_eq_false_iff_not,YU,dp,Nat.add_zero] at h4
     refine ZC rfl (YG rfl (YG rfl (YG rfl (ZB rfl (Zo rfl (Yb (Zz rfl (Zd (Yp rfl (Zf rfl ?_))))))))))
     exact congrArg (fun b=>V.s (S.bool b)) (XX (fun q=>absurd (q.1 i (by omega)) (by unfold okM; omega))).symm
    ·try simp only [X3,ovA2.1,ovA2.2,ovK.1,ovK.2,decide_eq_true_eq,decide_eq_false_iff_not,YU,dp,Nat.add_zero] at h4
     refine Ya rfl (Zj rfl (Ya rfl (Zj rfl (Ya rfl (Zx rfl (Ya rfl (Yl (x:=P (sqI i)) rfl rfl ZL (rfl) (Ya rfl (Zq rfl (Ya rfl (Zo rfl (Zo rfl (Yb (Yi rfl (fun h5=>?_) (fun h5=>?_))))))))))))))) <;> simp only [NM] at h5
     ·refine Zd (Yp rfl (Zf rfl ?_))
      exact congrArg (fun b=>V.s (S.bool b)) (XX (fun q=>absurd (q.1 i (by omega)) (by unfold okM; omega))).symm
     ·refine Yg (Zd (Zx rfl (Yl (x:=P (sqI i)) rfl rfl ZL (rfl) (Zq rfl (Yb (Yi rfl (fun h6=>?_) (fun h6=>?_))))))) <;> simp only [NM] at h6
      ·refine Ye (Zy rfl (Yl (x:=P (sqI i+1)) rfl rfl ZL (rfl) ?_))
       refine XL rfl rfl rfl (by first | omega | (simp only [YU,decide_eq_true_eq] at *; omega)) ?_
       refine Yl rfl rfl ZM rfl (WZ rfl rfl (Kc hc0 hc1 hi (by omega)) ?_)
       refine XL rfl rfl rfl (by first | omega | (simp only [YU,decide_eq_true_eq] at *; omega)) ?_
       refine Yz rfl rfl rfl rfl (.there .here) (Yb (Ye (Zr rfl rfl (Zi rfl (Yb ?_)))))
       (have hk:=UM hc0 hc1 (by omega) (by omega); refine ⟨64 - (i+1),_,by omega,(.cons _ (.refl _)),i+1,_,by omega,rfl,WI hok (by unfold okM; omega),hk.1,hk.2,rfl,rfl,rfl,rfl,rfl⟩)
      ·refine Yg (Ye (Zr rfl rfl (Zi rfl (Yb ?_))))
       (have hk:=UO hc0 hc1 (by omega); refine ⟨64 - (i+1),_,by omega,(.cons _ (.refl _)),i+1,_,by omega,rfl,WI hok (by unfold okM; omega),hk.1,hk.2,rfl,rfl,rfl,rfl,rfl⟩)
   ·refine Ya rfl (Zi rfl (Ya rfl (Ys rfl (jt i (by omega)) rfl rfl rfl (Ya rfl (Zq rfl (Zo rfl (Zj rfl (Yb (Yd (Zd (Yn rfl rfl ZL (Ys rfl (show RF AM 42 _ (.s (.bool (YU (P (sqI i)) (P (sqI i+1))))) from YF (Zay (ovA (fun _=>0) 0 2 (dp P (sqI i))))) rfl rfl rfl (Yu (r:=.bool _) rfl rfl (Zj rfl (Yr (t:=28) rfl (fun h7=>?_) (fun h7=>?_)))))))))))))))) <;> simp only [NM] at h7
    ·try simp only [X3,ovA2.1,ovA2.2,ovK.1,ovK.2,decide_eq_true_eq,decide_eq_false_iff_not,YU,dp,Nat.add_zero] at h7
     refine ZC rfl (YG rfl (YG rfl (YG rfl (ZB rfl (Zo rfl (Yb (Zz rfl (Zd (Yp rfl (Zf rfl ?_))))))))))
     exact congrArg (fun b=>V.s (S.bool b)) (XX (fun q=>absurd (q.1 i (by omega)) (by unfold okM; omega))).symm
    ·try simp only [X3,ovA2.1,ovA2.2,ovK.1,ovK.2,decide_eq_true_eq,decide_eq_false_iff_not,YU,dp,Nat.add_zero] at h7
     refine Ya rfl (Zj rfl (Ya rfl (Zj rfl (Yr (t:=30) rfl (fun h8=>?_) (fun h8=>?_))))) <;> simp only [NM] at h8
     ·refine Ya rfl (Zx rfl (Ya rfl (Yl (x:=P (sqI i)) rfl rfl ZL (rfl) (Ya rfl (Zq rfl (Ya rfl (Zo rfl (Zo rfl (Yb (Yi rfl (fun h9=>?_) (fun h9=>?_))))))))))) <;> simp only [NM] at h9
      ·refine Zd (Yp rfl (Zf rfl ?_))
       exact congrArg (fun b=>V.s (S.bool b)) (XX (fun q=>absurd (q.1 i (by omega)) (by unfold okM; omega))).symm
      ·refine Yg (Zd (Zx rfl (Yl (x:=P (sqI i)) rfl rfl ZL (rfl) (Zq rfl (Yb (Yi rfl (fun h10=>?_) (fun h10=>?_))))))) <;> simp only [NM] at h10
       ·refine Ye (Zy rfl (Yl (x:=P (sqI i+1)) rfl rfl ZL (rfl) ?_))
        refine XL rfl rfl rfl (by first | omega | (simp only [YU,decide_eq_true_eq] at *; omega)) ?_
        refine Yl rfl rfl ZM rfl (WZ rfl rfl (Kc hc0 hc1 hi (by omega)) ?_)
        refine XL rfl rfl rfl (by first | omega | (simp only [YU,decide_eq_true_eq] at *; omega)) ?_
        refine Yz rfl rfl rfl rfl (.there .here) (Yb (Ye (Zr rfl rfl (Zi rfl (Yb ?_)))))
        (have hk:=UM hc0 hc1 (by omega) (by omega); refine ⟨64 - (i+1),_,by omega,(.cons _ (.refl _)),i+1,_,by omega,rfl,WI hok (by unfold okM; omega),hk.1,hk.2,rfl,rfl,rfl,rfl,rfl⟩)
       ·refine Yg (Ye (Zr rfl rfl (Zi rfl (Yb ?_))))
        (have hk:=UO hc0 hc1 (by omega); refine ⟨64 - (i+1),_,by omega,(.cons _ (.refl _)),i+1,_,by omega,rfl,WI hok (by unfold okM; omega),hk.1,hk.2,rfl,rfl,rfl,rfl,rfl⟩)
     ·refine ZC rfl (ZB rfl (Ya rfl (Zo rfl (Zo rfl (Yb (ZA rfl (Yg (Zd (Zx rfl (Yl (x:=P (sqI i)) rfl rfl ZL (rfl) (Zq rfl (Yb (Yi rfl (fun h11=>?_) (fun h11=>?_)))))))))))))) <;> simp only [NM] at h11
      ·refine Ye (Zy rfl (Yl (x:=P (sqI i+1)) rfl rfl ZL (rfl) ?_))
       refine XL rfl rfl rfl (by first | omega | (simp only [YU,decide_eq_true_eq] at *; omega)) ?_
       refine Yl rfl rfl ZM rfl (WZ rfl rfl (Kc hc0 hc1 hi (by omega)) ?_)
       refine XL rfl rfl rfl (by first | omega | (simp only [YU,decide_eq_true_eq] at *; omega)) ?_
       refine Yz rfl rfl rfl rfl (.there .here) (Yb (Ye (Zr rfl rfl (Zi rfl (Yb ?_)))))
       (have hk:=UM hc0 hc1 (by omega) (by omega); refine ⟨64 - (i+1),_,by omega,(.cons _ (.refl _)),i+1,_,by omega,rfl,WI hok (by unfold okM; omega),hk.1,hk.2,rfl,rfl,rfl,rfl,rfl⟩)
      ·refine Yg (Ye (Zr rfl rfl (Zi rfl (Yb ?_))))
       (have hk:=UO hc0 hc1 (by omega); refine ⟨64 - (i+1),_,by omega,(.cons _ (.refl _)),i+1,_,by omega,rfl,WI hok (by unfold okM; omega),hk.1,hk.2,rfl,rfl,rfl,rfl,rfl⟩)
 ·refine YZ (Xc (Zd (Yn rfl rfl ZL (YA rfl (.one rfl (.one rfl .nil)) (Yv rfl rfl (Zj rfl (Yr (t:=49) rfl (fun h12=>?_) (fun h12=>?_)))))))) <;> simp only [NM] at h12
  ·try simp only [X3,ovA2.1,ovA2.2,ovK.1,ovK.2,decide_eq_true_eq,decide_eq_false_iff_not,YU,dp,Nat.add_zero] at h12
   refine Ya rfl (Zx rfl (Ya rfl (Yc (o':=128) rfl rfl rfl (Ya rfl (Yl rfl rfl ZM rfl (Ya rfl (Zq rfl (Ya rfl (Zj rfl (Yr (t:=54) rfl (fun h13=>?_) (fun h13=>?_))))))))))) <;> simp only [NM] at h13
   ·refine ZD rfl (Ya rfl (Zo rfl (Zo rfl (Zj rfl (Zf rfl ?_)))))
    obtain rfl:i = 64:=by omega
    refine ZH ?_
    by_cases hq:(∀ s:Nat,s < 64→okM P s)∧kM P 0 64 = 1∧kM P 1 64 = 1∧(P 128 = 0∨P 128 = 1)
    · refine Eq.trans (b:=true) ?_ (Uh hq).symm; have hq2:=hq.2; first | rfl | (exfalso; omega) | exact beq_iff_eq.2 (by omega)
    · refine Eq.trans (b:=false) ?_ (XX hq).symm; have hn:¬ (kM P 0 64 = 1∧kM P 1 64 = 1∧(P 128 = 0∨P 128 = 1)):=fun e=>hq ⟨hok,e⟩; first | rfl | (exfalso; omega) | exact beq_eq_false_iff_ne.2 (by omega)
   ·refine Ya rfl (Zx rfl (Ya rfl (Yc (o':=128) rfl rfl rfl (Ya rfl (Yl rfl rfl ZM rfl (Ya rfl (Zq rfl (Ya rfl (Zo rfl (Zo rfl (Zj rfl (Zf rfl ?_))))))))))))
    obtain rfl:i = 64:=by omega
    refine ZH ?_
    by_cases hq:(∀ s:Nat,s < 64→okM P s)∧kM P 0 64 = 1∧kM P 1 64 = 1∧(P 128 = 0∨P 128 = 1)
    · refine Eq.trans (b:=true) ?_ (Uh hq).symm; have hq2:=hq.2; first | rfl | (exfalso; omega) | exact beq_iff_eq.2 (by omega)
    · refine Eq.trans (b:=false) ?_ (XX hq).symm; have hn:¬ (kM P 0 64 = 1∧kM P 1 64 = 1∧(P 128 = 0∨P 128 = 1)):=fun e=>hq ⟨hok,e⟩; first | rfl | (exfalso; omega) | exact beq_eq_false_iff_ne.2 (by omega)
  ·try simp only [X3,ovA2.1,ovA2.2,ovK.1,ovK.2,decide_eq_true_eq,decide_eq_false_iff_not,YU,dp,Nat.add_zero] at h12
   refine ZD rfl (ZB rfl (YG rfl (YG rfl (YG rfl (YG rfl (ZB rfl (Zo rfl (Zj rfl (Zf rfl ?_)))))))))
   obtain rfl:i = 64:=by omega
   refine ZH ?_
   by_cases hq:(∀ s:Nat,s < 64→okM P s)∧kM P 0 64 = 1∧kM P 1 64 = 1∧(P 128 = 0∨P 128 = 1)
   · refine Eq.trans (b:=true) ?_ (Uh hq).symm; have hq2:=hq.2; first | rfl | (exfalso; omega) | exact beq_iff_eq.2 (by omega)
   · refine Eq.trans (b:=false) ?_ (XX hq).symm; have hn:¬ (kM P 0 64 = 1∧kM P 1 64 = 1∧(P 128 = 0∨P 128 = 1)):=fun e=>hq ⟨hok,e⟩; first | rfl | (exfalso; omega) | exact beq_eq_false_iff_ne.2 (by omega)
theorem ku {x:Int} (hx:0≤x∧x < 64) (h:x / 8 < 7):RF AM 56 [.s (.int .i64 x),.s (.int .i64 0),.s (.int .i64 1)] (.s (.int .i64 (x+8))):=by
 have:=Uo x 0 1
 rw [kh hx (by omega)] at this
 exact this
theorem ko {x:Int} (hx:0≤x∧x < 64) (h:1≤x / 8):RF AM 56 [.s (.int .i64 x),.s (.int .i64 0),.s (.int .i64 (-1))] (.s (.int .i64 (x - 8))):=by
 have:=Uo x 0 (-1)
 rw [kh hx (by omega)] at this
 exact this
theorem V5 {x:Int} (h:x = 0∨x = 1):Y0 x = 1 - x:=by
 unfold Y0; split <;> omega
theorem Vr (x:Int):(0≤x∧x < 64∧X6 x = x / 8)∨(¬ (0≤x∧x < 64)∧X6 x = -1):=by
 unfold X6; split
 ·exact .inl ⟨by omega,by omega,rfl⟩
 ·exact .inr ⟨by assumption,rfl⟩
theorem over_ok (P:Nat→Int) (hs:P 128 = 0∨P 128 = 1):WR AM 37 [.agg 133 (ia P)] [] (fun v _ _=>v = .s (.bool (Xh P))):=by
 refine YI (a:=a37) rfl rfl (YH _) (ZP rfl) (m:=0) rfl (Zd (YB rfl (Yp rfl (Yb (Yd (Zd (Zx rfl (Yc (o':=130) rfl rfl rfl (Yl rfl rfl ZL rfl (Zq rfl (Yb (Yi rfl (fun h30=>?_) (fun h30=>?_))))))))))))) <;> simp only [NM] at h30
 ·refine Zd (Yp rfl (Zf rfl (ZH ?_)))
  have ho:=V5 hs
  have hra:=Vr (P 130)
  rw [Bool.eq_iff_iff]
  simp only [Xh,YY,decide_eq_true_eq,Bool.false_eq_true,false_iff,true_iff,ho] at *
  omega
 ·refine Yg (Zd (Yp rfl (Yp rfl (Yb (Yd (Zd (Zx rfl (Yc (o':=128) rfl rfl rfl (Yl rfl rfl ZL rfl (Zq rfl (Yb (Yi rfl (fun h31=>?_) (fun h31=>?_))))))))))))) <;> simp only [NM] at h31
  ·refine Ye (Yp rfl (Yp rfl (Yb (Yd (Zd (Zx rfl (Yc (o':=130) rfl rfl rfl (Yl rfl rfl ZL rfl (Ys rfl (QY _) rfl rfl rfl (Zi rfl (Zq rfl (Zj rfl (Yr (t:=20) rfl (fun h32=>?_) (fun h32=>?_)))))))))))))) <;> simp only [NM] at h32
   ·refine ZD rfl (Zo rfl (Yb (Zz rfl (Zd (Yp rfl (Zf rfl (ZH ?_)))))))
    have ho:=V5 hs
    have hra:=Vr (P 130)
    rw [Bool.eq_iff_iff]
    simp only [Xh,YY,decide_eq_true_eq,Bool.false_eq_true,false_iff,true_iff,ho] at *
    omega
   ·refine Ya rfl (Zx rfl (Ya rfl (Yc (o':=131) rfl rfl rfl (Ya rfl (Yl rfl rfl ZL rfl (Ya rfl (Zq rfl (Zo rfl (Yb (Yi rfl (fun h33=>?_) (fun h33=>?_))))))))))) <;> simp only [NM] at h33
    ·refine Zd (Yp rfl (Zf rfl (ZH ?_)))
     have ho:=V5 hs
     have hra:=Vr (P 130)
     rw [Bool.eq_iff_iff]
     simp only [Xh,YY,decide_eq_true_eq,Bool.false_eq_true,false_iff,true_iff,ho] at *
     omega
    ·refine Yg (Zd (Qz rfl (Yp (v:=.fn _ _) rfl (Yb (Yd (Yf (Yp (v:=.fn _ _) rfl (Zx rfl (Yc (o':=130) rfl rfl rfl (Yl rfl rfl ZL rfl ?_))))))))))
     have hin31:=QC (x:=P 130) (by assumption) (by omega)
     refine Vd (rs:=[0]) (Bs:=[_]) rfl (Ua (Ti (md:=.var) P _ (by omega))) rfl rfl (YE rfl) (fun _ h=>h) rfl ⟨ZL,⟨_,_,_,rfl⟩,trivial⟩ rfl rfl rfl (.cons .here .nil) (Zj rfl (Yr (t:=32) rfl (fun h34=>?_) (fun h34=>?_)))
     ·try simp only [YY,decide_eq_true_eq,decide_eq_false_iff_not] at h34
      refine Ya rfl (Yp (v:=.fn _ _) rfl (Ya rfl (Zx rfl (Ya rfl (Yc (o':=130) rfl rfl rfl (Ya rfl (Yl rfl rfl ZL rfl (Ya rfl (Zi rfl (Ya rfl ?_))))))))))
      have hin38:=QC (x:=P 130) (by assumption) (by omega)
      refine Ys rfl (ko hin38.1 (by omega)) rfl rfl rfl (Ya rfl ?_)
      have hin39:=QC (x:=P 130) (by assumption) (by omega)
      refine Vd (rs:=[0]) (Bs:=[_]) rfl (Ua (Ti (md:=.var) P _ (by omega))) rfl rfl (YE rfl) (fun _ h=>h) rfl ⟨ZL,⟨_,_,_,rfl⟩,trivial⟩ rfl rfl rfl (.cons .here .nil) (Zo rfl (Zj rfl (Yr (t:=41) rfl (fun h35=>?_) (fun h35=>?_))))
      ·try simp only [YY,decide_eq_true_eq,decide_eq_false_iff_not] at h35
       refine Ya rfl (Yn rfl rfl ZL (Ya rfl (Zx rfl (Ya rfl (Yc (o':=128) rfl rfl rfl (Ya rfl (Yl rfl rfl ZL rfl (Ya rfl (Yt rfl (YF (VH _)) rfl rfl rfl (Ya rfl (Zx rfl (Ya rfl (Yc (o':=130) rfl rfl rfl (Ya rfl (Yl rfl rfl ZL rfl (Ya rfl (Zi rfl (Ya rfl (qo rfl (by omega) (Ya rfl ?_))))))))))))))))))))
       have hin52:=QC (x:=P 130) (by assumption) (by omega)
       refine Yt rfl (ku hin52.1 (by omega)) rfl rfl rfl (Ya rfl (Ys rfl (YF (WM _ _ _ _ (by omega))) rfl rfl rfl (Zo rfl (Zj rfl (Zf rfl (ZH ?_))))))
       have ho:=V5 hs
       have hra:=Vr (P 130)
       rw [Bool.eq_iff_iff]
       simp only [Xh,YY,decide_eq_true_eq,Bool.false_eq_true,false_iff,true_iff,ho] at *
       omega
      ·try simp only [YY,decide_eq_true_eq,decide_eq_false_iff_not] at h35
       refine ZE rfl (ZD rfl (Zo rfl (Zj rfl (Zf rfl (ZH ?_)))))
       have ho:=V5 hs
       have hra:=Vr (P 130)
       rw [Bool.eq_iff_iff]
       simp only [Xh,YY,decide_eq_true_eq,Bool.false_eq_true,false_iff,true_iff,ho] at *
       omega
     ·try simp only [YY,decide_eq_true_eq,decide_eq_false_iff_not] at h34
      refine ZD rfl (ZC rfl (ZB rfl (Zo rfl (Zj rfl (ZE rfl (ZD rfl (Zo rfl (Zj rfl (Zf rfl (ZH ?_))))))))))
      have ho:=V5 hs
      have hra:=Vr (P 130)
      rw [Bool.eq_iff_iff]
      simp only [Xh,YY,decide_eq_true_eq,Bool.false_eq_true,false_iff,true_iff,ho] at *
      omega
  ·refine Yg (Yd (Zd (Zx rfl (Yc (o':=130) rfl rfl rfl (Yl rfl rfl ZL rfl (Ys rfl (QY _) rfl rfl rfl (Zi rfl (Zq rfl (Zj rfl (Yr (t:=20) rfl (fun h36=>?_) (fun h36=>?_))))))))))) <;> simp only [NM] at h36
   ·refine ZD rfl (Zo rfl (Yb (Zz rfl (Zd (Yp rfl (Zf rfl (ZH ?_)))))))
    have ho:=V5 hs
    have hra:=Vr (P 130)
    rw [Bool.eq_iff_iff]
    simp only [Xh,YY,decide_eq_true_eq,Bool.false_eq_true,false_iff,true_iff,ho] at *
    omega
   ·refine Ya rfl (Zx rfl (Ya rfl (Yc (o':=131) rfl rfl rfl (Ya rfl (Yl rfl rfl ZL rfl (Ya rfl (Zq rfl (Zo rfl (Yb (Yi rfl (fun h37=>?_) (fun h37=>?_))))))))))) <;> simp only [NM] at h37
    ·refine Zd (Yp rfl (Zf rfl (ZH ?_)))
     have ho:=V5 hs
     have hra:=Vr (P 130)
     rw [Bool.eq_iff_iff]
     simp only [Xh,YY,decide_eq_true_eq,Bool.false_eq_true,false_iff,true_iff,ho] at *
     omega
    ·refine Yg (Zd (Qz rfl (Yp (v:=.fn _ _) rfl (Yb (Yd (Yf (Yp (v:=.fn _ _) rfl (Zx rfl (Yc (o':=130) rfl rfl rfl (Yl rfl rfl ZL rfl ?_))))))))))
     have hin31:=QC (x:=P 130) (by assumption) (by omega)
     refine Vd (rs:=[0]) (Bs:=[_]) rfl (Ua (Ti (md:=.var) P _ (by omega))) rfl rfl (YE rfl) (fun _ h=>h) rfl ⟨ZL,⟨_,_,_,rfl⟩,trivial⟩ rfl rfl rfl (.cons .here .nil) (Zj rfl (Yr (t:=32) rfl (fun h38=>?_) (fun h38=>?_)))
     ·try simp only [YY,decide_eq_true_eq,decide_eq_false_iff_not] at h38
      refine Ya rfl (Yp (v:=.fn _ _) rfl (Ya rfl (Zx rfl (Ya rfl (Yc (o':=130) rfl rfl rfl (Ya rfl (Yl rfl rfl ZL rfl (Ya rfl (Zi rfl (Ya rfl ?_))))))))))
      have hin38:=QC (x:=P 130) (by assumption) (by omega)
      refine Ys rfl (ku hin38.1 (by omega)) rfl rfl rfl (Ya rfl ?_)
      have hin39:=QC (x:=P 130) (by assumption) (by omega)
      refine Vd (rs:=[0]) (Bs:=[_]) rfl (Ua (Ti (md:=.var) P _ (by omega))) rfl rfl (YE rfl) (fun _ h=>h) rfl ⟨ZL,⟨_,_,_,rfl⟩,trivial⟩ rfl rfl rfl (.cons .here .nil) (Zo rfl (Zj rfl (Yr (t:=41) rfl (fun h39=>?_) (fun h39=>?_))))
      ·try simp only [YY,decide_eq_true_eq,decide_eq_false_iff_not] at h39
       refine Ya rfl (Yn rfl rfl ZL (Ya rfl (Zx rfl (Ya rfl (Yc (o':=128) rfl rfl rfl (Ya rfl (Yl rfl rfl ZL rfl (Ya rfl (Yt rfl (YF (VH _)) rfl rfl rfl (Ya rfl (Zx rfl (Ya rfl (Yc (o':=130) rfl rfl rfl (Ya rfl (Yl rfl rfl ZL rfl (Ya rfl (Zi rfl (Ya rfl (qo rfl (by omega) (Ya rfl ?_))))))))))))))))))))
       have hin52:=QC (x:=P 130) (by assumption) (by omega)
       refine Yt rfl (ko hin52.1 (by omega)) rfl rfl rfl (Ya rfl (Ys rfl (YF (WM _ _ _ _ (by omega))) rfl rfl rfl (Zo rfl (Zj rfl (Zf rfl (ZH ?_))))))
       have ho:=V5 hs
       have hra:=Vr (P 130)
       rw [Bool.eq_iff_iff]
       simp only [Xh,YY,decide_eq_true_eq,Bool.false_eq_true,false_iff,true_iff,ho] at *
       omega
      ·try simp only [YY,decide_eq_true_eq,decide_eq_false_iff_not] at h39
       refine ZE rfl (ZD rfl (Zo rfl (Zj rfl (Zf rfl (ZH ?_)))))
       have ho:=V5 hs
       have hra:=Vr (P 130)
       rw [Bool.eq_iff_iff]
       simp only [Xh,YY,decide_eq_true_eq,Bool.false_eq_true,false_iff,true_iff,ho] at *
       omega
     ·try simp only [YY,decide_eq_true_eq,decide_eq_false_iff_not] at h38
      refine ZD rfl (ZC rfl (ZB rfl (Zo rfl (Zj rfl (ZE rfl (ZD rfl (Zo rfl (Zj rfl (Zf rfl (ZH ?_))))))))))
      have ho:=V5 hs
      have hra:=Vr (P 130)
      rw [Bool.eq_iff_iff]
      simp only [Xh,YY,decide_eq_true_eq,Bool.false_eq_true,false_iff,true_iff,ho] at *
      omega
theorem y4 {P Q:Nat→Int} (h:∀ i,i < 128→P i = Q i) (c:Int):∀ n:Nat,n≤64→kM P c n = kM Q c n
 | 0,_=>rfl
 | n+1,hn=>by
  have hq:sqI n = 0+(n:Int).toNat*2:=rfl
  unfold kM
  rw [y4 h c n (by omega),h (sqI n) (by omega),h (sqI n+1) (by omega)]
theorem qX {P Q:Nat→Int} (h:∀ i,i < 128→P i = Q i) {s:Nat} (hs:s < 64):okM P s = okM Q s:=by
 have hq:sqI s = 0+(s:Int).toNat*2:=rfl
 unfold okM
 rw [h (sqI s) (by omega),h (sqI s+1) (by omega)]
theorem jr {P Q:Nat→Int} (h:∀ i,i < 133→P i = Q i):Wz P = Wz Q:=by
 have hl:∀ i,i < 128→P i = Q i:=fun i hi=>h i (by omega)
 have ho:(∀ s:Nat,s < 64→okM P s)↔(∀ s:Nat,s < 64→okM Q s):=⟨fun a s hs=>(qX hl hs) ▸ a s hs,fun a s hs=>(qX hl hs).symm ▸ a s hs⟩
 unfold Wz
 rw [Bool.eq_iff_iff,decide_eq_true_eq,decide_eq_true_eq,ho,y4 hl 0 64 (by omega),y4 hl 1 64 (by omega),h 128 (by omega)]
theorem Qe {P Q:Nat→Int} (h:∀ i,i < 133→P i = Q i) {x k c:Int} (hx:0≤x∧x < 64):YY P x k c = YY Q x k c:=by
 have hq:sqI x = 0+x.toNat*2:=rfl
 unfold YY
 rw [h (sqI x) (by omega),h (sqI x+1) (by omega)]
theorem KP {P Q:Nat→Int} (h:∀ i,i < 133→P i = Q i) {s a b:Int} (ha:0≤a∧a < 64) (hb:0≤b∧b < 64):Y3 P s a b = Y3 Q s a b:=by
 have hq:sqI a = 0+a.toNat*2:=rfl
 have hq2:sqI b = 0+b.toNat*2:=rfl
 unfold Y3
 rw [h (sqI a) (by omega),h (sqI a+1) (by omega),h (sqI b) (by omega),h (sqI b+1) (by omega)]
theorem wu {P Q:Nat→Int} (h:∀ i,i < 133→P i = Q i):YX P = YX Q:=by
 unfold YX
 rw [h 129 (by omega),KP h (by omega) (by omega),KP h (by omega) (by omega),KP h (by omega) (by omega),KP h (by omega) (by omega)]
theorem jQ {P Q:Nat→Int} (h:∀ i,i < 133→P i = Q i):Xh P = Xh Q:=by
 unfold Xh
 rw [h 130 (by omega),h 131 (by omega),h 128 (by omega)]
 by_cases hx:(0≤Q 130∧Q 130 < 64)∧(Q 130 / 8 = 2∨Q 130 / 8 = 5)
 ·rw [Qe h (x:=Q 130) (by omega),Qe h (x:=Q 130 - 8) (by omega),Qe h (x:=Q 130+8) (by omega),Qe h (x:=Q 130+8) (by omega),Qe h (x:=Q 130 - 8) (by omega)]
 ·rw [Bool.eq_iff_iff,decide_eq_true_eq,decide_eq_true_eq]
  constructor
  ·rintro (e | ⟨e,_,⟨_,f,_⟩ | ⟨_,f,_⟩⟩)
   ·exact .inl e
   ·exact absurd ⟨e,.inl f⟩ hx
   ·exact absurd ⟨e,.inr f⟩ hx
  ·rintro (e | ⟨e,_,⟨_,f,_⟩ | ⟨_,f,_⟩⟩)
   ·exact .inl e
   ·exact absurd ⟨e,.inl f⟩ hx
   ·exact absurd ⟨e,.inr f⟩ hx
theorem TG (P:Nat→Int):∀ i,i < 133→ovA (fun _=>0) 0 133 (ovA (fun _=>0) 0 133 P) i = P i:=fun i hi=>by
 rw [XR (by omega),Nat.sub_zero,XR (by omega),Nat.sub_zero]
theorem Wy {P:Nat→Int} {a b c r:Bool} (ha:a = Wz P) (hb:a = true→b = YX P) (hc:a = true→b = true→c = Xh P) (hr:r = (a && b && c && decide (0≤P 131∧P 131≤1024∧1≤P 132∧P 132≤16384))):r = Vq P:=by
 subst hr ha
 unfold Vq
 cases hp:Wz P with
 | false=>simp
 | true =>
  have hb:=hb hp
  subst hb
  cases hq:YX P with
  | false=>simp
  | true =>
   have hc:=hc hp hq
   subst hc
   simp
theorem sK (P:Nat→Int):WR AM 23 [.agg 133 (ia P)] [] (fun v _ _=>v = .s (.bool (Vq P))):=by
 refine YI (a:=a23) rfl rfl (YH _) (ZP rfl) (m:=0) rfl (Zd (YB rfl (Yp rfl (Ze (Yn rfl rfl ZL (YA rfl (.agg rfl .nil) (Yx (Yy rfl rfl rfl rfl .here (Ze (Yn rfl rfl ZL ?_))))))))))
 obtain ⟨bp,hbp⟩:∃ b,b = Wz P:=⟨_,rfl⟩
 have hP:=YF (sB (ovA (fun _=>0) 0 133 (ovA (fun _=>0) 0 133 P)))
 rw [jr (TG P),← hbp] at hP
 refine Ys rfl (hP) rfl rfl rfl (Zj rfl (Yr (t:=8) rfl (fun h51=>?_) (fun h51=>?_)))
 ·refine Ya rfl (Yn rfl rfl ZL (Ya rfl ?_))
  obtain ⟨bc,hbc⟩:∃ b,b = YX P:=⟨_,rfl⟩
  have hC:=YF (ub (ovA (fun _=>0) 0 133 (ovA (fun _=>0) 0 133 P)))
  rw [wu (TG P),← hbc] at hC
  refine Ys rfl (hC) rfl rfl rfl (Zo rfl (Zj rfl (Yr (t:=12) rfl (fun h52=>?_) (fun h52=>?_))))
  ·refine Ya rfl (Yn rfl rfl ZL (Ya rfl ?_))
   have hbt:bp = true:=by assumption
   have hs:=(JW (P:=P) (by rw [← hbp]; exact hbt)).2.2.2
   obtain ⟨bo,hbo⟩:∃ b,b = Xh P:=⟨_,rfl⟩
   have hO:=YF (over_ok (ovA (fun _=>0) 0 133 (ovA (fun _=>0) 0 133 P)) hs)
   rw [jQ (TG P),← hbo] at hO
   refine Ys rfl (hO) rfl rfl rfl (Zo rfl (Zj rfl (Yr (t:=16) rfl (fun h53=>?_) (fun h53=>?_))))
   ·refine Ya rfl (Yc (o':=131) rfl rfl rfl (Ya rfl (Yl (x:=P 131) rfl rfl ZM (rfl) (Ya rfl (Zq rfl (Zo rfl (Zj rfl (Yr (t:=21) rfl (fun h54=>?_) (fun h54=>?_))))))))) <;> simp only [NM] at h54
    ·refine Ya rfl (Yc (o':=131) rfl rfl rfl (Ya rfl (Yl (x:=P 131) rfl rfl ZM (rfl) (Ya rfl (Zq rfl (Zo rfl (Zj rfl (Yr (t:=26) rfl (fun h55=>?_) (fun h55=>?_))))))))) <;> simp only [NM] at h55
     ·refine Ya rfl (Yc (o':=132) rfl rfl rfl (Ya rfl (Yl (x:=P 132) rfl rfl ZM (rfl) (Ya rfl (Zq rfl (Zo rfl (Zj rfl (Yr (t:=31) rfl (fun h56=>?_) (fun h56=>?_))))))))) <;> simp only [NM] at h56
      ·refine Ya rfl (Yc (o':=132) rfl rfl rfl (Ya rfl (Yl (x:=P 132) rfl rfl ZM (rfl) (Ya rfl (Zq rfl (Zo rfl (Zj rfl (Zf rfl (congrArg (fun b=>V.s (S.bool b)) (Wy (b:=bc) (c:=bo) hbp (fun _=>hbc) (fun _ _=>hbo) ?_))))))))))
       clear hbp hbc hbo hP hC hO
       (simp [*]; done)
      ·refine ZC rfl (ZB rfl (Zo rfl (Zj rfl (Zf rfl (congrArg (fun b=>V.s (S.bool b)) (Wy (b:=bc) (c:=bo) hbp (fun _=>hbc) (fun _ _=>hbo) ?_))))))
       clear hbp hbc hbo hP hC hO
       (subst_vars; simp only [Bool.true_and]; rw [Bool.eq_iff_iff]; simp only [decide_eq_true_eq,Bool.false_eq_true,false_iff,true_iff]; omega)
     ·refine ZC rfl (ZB rfl (Zo rfl (Zj rfl (ZC rfl (ZB rfl (Zo rfl (Zj rfl (Zf rfl (congrArg (fun b=>V.s (S.bool b)) (Wy (b:=bc) (c:=bo) hbp (fun _=>hbc) (fun _ _=>hbo) ?_))))))))))
      clear hbp hbc hbo hP hC hO
      (subst_vars; simp only [Bool.true_and]; rw [Bool.eq_iff_iff]; simp only [decide_eq_true_eq,Bool.false_eq_true,false_iff,true_iff]; omega)
    ·refine ZC rfl (ZB rfl (Zo rfl (Zj rfl (ZC rfl (ZB rfl (Zo rfl (Zj rfl (ZC rfl (ZB rfl (Zo rfl (Zj rfl (Zf rfl (congrArg (fun b=>V.s (S.bool b)) (Wy (b:=bc) (c:=bo) hbp (fun _=>hbc) (fun _ _=>hbo) ?_))))))))))))))
     clear hbp hbc hbo hP hC hO
     (subst_vars; simp only [Bool.true_and]; rw [Bool.eq_iff_iff]; simp only [decide_eq_true_eq,Bool.false_eq_true,false_iff,true_iff]; omega)
   ·refine Z9 rfl rfl (ZC rfl (Zo rfl (Zj rfl (ZC rfl (ZB rfl (Zo rfl (Zj rfl (ZC rfl (ZB rfl (Zo rfl (Zj rfl (ZC rfl (ZB rfl (Zo rfl (Zj rfl (Zf rfl (congrArg (fun b=>V.s (S.bool b)) (Wy (b:=bc) (c:=bo) hbp (fun _=>hbc) (fun _ _=>hbo) ?_))))))))))))))))))
    clear hbp hbc hbo hP hC hO
    (simp [*]; done)
  ·refine Z9 rfl rfl (ZB rfl (Zo rfl (Zj rfl (ZC rfl (ZB rfl (Zo rfl (Zj rfl (ZC rfl (ZB rfl (Zo rfl (Zj rfl (ZC rfl (ZB rfl (Zo rfl (Zj rfl (ZC rfl (ZB rfl (Zo rfl (Zj rfl (Zf rfl ?_))))))))))))))))))))
   exact congrArg (fun b=>V.s (S.bool b)) (Wy (b:=bc) (c:=Xh P) hbp (fun _=>hbc) (fun _ _=>rfl) (by clear hbp hbc hP hC; simp [*]))
 ·refine Z9 rfl rfl (ZB rfl (Zo rfl (Zj rfl (ZC rfl (Zo rfl (Zj rfl (ZC rfl (ZB rfl (Zo rfl (Zj rfl (ZC rfl (ZB rfl (Zo rfl (Zj rfl (ZC rfl (ZB rfl (Zo rfl (Zj rfl (ZC rfl (ZB rfl (Zo rfl (Zj rfl (Zf rfl ?_)))))))))))))))))))))))
  exact congrArg (fun b=>V.s (S.bool b)) (Wy (b:=YX P) (c:=Xh P) hbp (fun _=>rfl) (fun _ _=>rfl) (by clear hbp hP; simp [*]))
end Go.Proofs.YtlkighkfkdpncaaGreat
namespace Go.Am
open Go
section
variable {A:AP} {N:Nat} {f:FE} {n:Nat} {L:HA} {K:KN} {Zp:V→KN} {l:List I} {d:Nat}
theorem Q6 {len z:Nat} {x:O} {b o z':Nat} (hx:x.fv N f = .ptr b o z') (hz:Nat.ble (len*z) z' = true) (h0:0 < len) (k:WO A N l (upd f d (.sl b o len z (.ex len))) n L K Zp):WO A N (⟨some d,none,.p (.slA len z x none none)⟩::l) f n L K Zp :=
 Vu (v:=.sl b o len z (.ex len)) (by
  simp only [YT,Y7,hx,bound_E,fvb,if_pos (YE hz)]
  rw [if_pos (by omega),if_pos (by omega)]
  simp) k
end
end Go.Am
namespace Go.Proofs.YtlkighkfkdpncaaGreat
open Go Go.Am
def IsFst (S1:Nat→Bool) (n:Nat) (x:Int):Prop:=(x = -1∧∀ j:Nat,j < n→S1 j = false)∨(∃ i:Nat,i < n∧x = i∧S1 i = true∧∀ j:Nat,j < i→S1 j = false)
def lstM (S1:Nat→Bool):Nat→Nat × (Nat→Int)
 | 0=>(0,fun _=>0)
 | i+1=>if S1 i = true then ((lstM S1 i).1+1,fun j=>if j < (lstM S1 i).1 then (lstM S1 i).2 j else i) else lstM S1 i
def stB (P X:Nat→Int) (s:Nat):Bool:=YY P s (X 0) (X 1)
abbrev kgX (s:Int):Nat→Int:=ov (ov (fun _=>0) 0 6) 1 s
def Qp (x:Int):List Int→Int
 | []=>-1
 | y::l=>if x = y then 0 else if Qp x l = -1 then -1 else Qp x l+1
theorem kG (x:Int):∀ l:List Int,-1≤Qp x l∧Qp x l < l.length
 | []=>⟨Int.le_refl _,by simp [Qp]⟩
 | y::l=>by
  have:=kG x l
  unfold Qp
  rw [List.length_cons]
  split
  ·omega
  ·split <;> omega
theorem kg {x:Int}:∀ {l:List Int},(∀ i:Nat,i < l.length→l.getD i 0 ≠ x)→Qp x l = -1
 | [],_=>rfl
 | y::l,h=>by
  unfold Qp
  have h0:=h 0 (by simp)
  have ih:=kg (x:=x) (l:=l) fun i hi=>by have:=h (i+1) (by simpa using hi); simpa using this
  rw [if_neg (fun e=>h0 (by simp [e])),if_pos ih]
theorem kz {x:Int}:∀ {l:List Int} {i:Nat},i < l.length→l.getD i 0 = x→(∀ j:Nat,j < i→l.getD j 0 ≠ x)→Qp x l = i
 | [],i,h,_,_=>by simp at h
 | y::l,0,_,h,_=>by
  unfold Qp
  rw [if_pos (by simpa using h.symm)]; rfl
 | y::l,i+1,hi,h,hn=>by
  unfold Qp
  have h0:=hn 0 (by omega)
  have ih:=kz (x:=x) (l:=l) (i:=i) (by simpa using hi) (by simpa using h) fun j hj=>by have:=hn (j+1) (by omega); simpa using this
  rw [if_neg (fun e=>h0 (by simp [e])),if_neg (by omega),ih]; omega
theorem qq {x:Int}:∀ {l:List Int},0≤Qp x l↔x∈l
 | []=>by simp [Qp]
 | y::l=>by
  have ih:=qq (x:=x) (l:=l)
  have:=kG x l
  unfold Qp
  rw [List.mem_cons]
  by_cases e:x = y
  ·rw [if_pos e]; simp [e]
  ·rw [if_neg e]
   simp only [e,false_or]
   rw [← ih]
   split <;> omega
theorem ld1 {F:Nat→Int} {l:List Int} (hF:∀ i,i < l.length→F i = l.getD i 0) {i:Nat} (hi:i < l.length):F (0+(i:Int).toNat*1) = l.getD i 0:=by
 rw [show 0+(i:Int).toNat*1 = i by omega]; exact hF i hi
theorem Ka {l:List Int}:l.length = l.length*1:=(Nat.mul_one _).symm
theorem u5 (x:Int) (l:List Int) (hlen:l.length≤1000000):RdR AM 97 1 [] [.s (.int .i64 x)] l (.s (.int .i64 (Qp x l))):=by
 refine ER fun v Bs hc=>?_
 refine YI (a:=a97) rfl rfl (YH _) (ZP rfl) rfl ?_ (by first | rfl | (cases hc <;> rfl))
 have hr0:=hc.rx
 rw [show Xj 0 Bs = Xj 0 Bs++[] from (List.append_nil _).symm]
 generalize hown:Xj 0 Bs = own0 at hr0 ⊢
 refine Zd (Yp rfl (Yb (Yd (Zd (Yp (v:=v) rfl (Vn rfl hr0 (by decide) Ka (Yp rfl (Yb (Yj (Xe (List.Sublist.append (.refl _) .slnil) (Xg (fun m f _ L=>∃ (i:Nat),(i≤l.length)∧(m = l.length - i)∧(∀ j:Nat,j < i→l.getD j 0 ≠ x)∧(f 0 = v)∧(f 1 = .s (.int .i64 x))∧(f 7 = .s (.int .i64 l.length))∧(f 8 = .s (.int .i64 i))∧(L = (own0++[]))) (fun m f nb L hI=>?_) (l.length) (⟨0,by omega,by omega,fun j hj=>by omega,rfl,rfl,rfl,rfl,rfl⟩))))))))))))
 obtain ⟨i,hi,hm,hn,k0,k1,k7,k8,rfl⟩:=hI
 refine pH 0 k0 (pH 1 k1 (pH 7 k7 (pH 8 k8 (Zd (Zq rfl (Yb (Yd (Yi rfl (fun h1=>?_) (fun h1=>?_))))))))) <;> simp only [NM] at h1
 ·refine Yg (Yd (Yj (Zd (Zi rfl (Zi rfl (Ze (Zi rfl (Yp (v:=v) rfl (Zi rfl ?_)))))))))
  obtain ⟨b0,q0,md0,c0,F0,rfl,rfl,hF0⟩:=hr0.at (by decide) Ka (by omega)
  refine Zw rfl rfl (Yl (x:=l.getD i 0) rfl rfl ZL (ld1 hF0 (by omega)) (Zq rfl (Yb (Yi rfl (fun h2=>?_) (fun h2=>?_))))) <;> simp only [NM] at h2
  ·refine Zd (Zi rfl (Zi rfl (Yb (Yh (⟨_,ZK rfl,?_⟩)))))
   refine ⟨ZI ?_,(fun _ h=>h)⟩
   exact (kz (by omega) (by omega) hn).symm
  ·refine Yg (Ye (Zr rfl rfl (Zi rfl (Yb (⟨l.length - (i+1),_,by omega,(.refl _),i+1,by omega,rfl,?_,rfl,rfl,rfl,rfl,rfl⟩)))))
   intro j hj
   by_cases e:j = i
   ·subst e; exact fun e=>by omega
   ·exact hn j (by omega)
 ·refine YZ (Xc (Zd (Yp rfl (Yb (Yh (⟨_,ZK rfl,?_⟩))))))
  refine ⟨ZI ?_,(fun _ h=>h)⟩
  exact (kg fun j hj=>hn j (by omega)).symm
theorem qO (x:Int) (l:List Int) (hlen:l.length≤1000000):RdR AM 73 1 [] [.s (.int .i64 x)] l (.s (.bool (decide (x∈l)))):=by
 refine ER fun v Bs hc=>?_
 refine YI (a:=a73) rfl rfl (YH _) (ZP rfl) rfl ?_ (by first | rfl | (cases hc <;> rfl))
 have hr0:=hc.rx
 rw [show Xj 0 Bs = Xj 0 Bs++[] from (List.append_nil _).symm]
 generalize hown:Xj 0 Bs = own0 at hr0 ⊢
 refine Zd (Yp rfl (Ze (Yp (v:=v) rfl (Zi rfl (VF (caps:=[]) rfl (u5 x l hlen) rfl (hr0) (fun _ h=>(List.mem_append_left _ h)) rfl rfl rfl (Zq rfl (Zj rfl (Zf rfl (⟨ZH ?_,(fun _ h=>h)⟩)))))))))
 exact decide_eq_decide.2 qq
theorem muM_pos {s f r:Int} (h:0≤s∧s < 64):1≤muM s f r:=by
 unfold muM
 rw [if_neg (by omega)]
 split
 ·omega
 ·split
  ·omega
  ·split <;> omega
theorem qc {p r t:Int} {k:Nat} (hz:¬ (p = 0∧r = 0)) (ht:t ≠ -1) (hb:-1≤t∧t < 64) (hk:muM t p r≤k+1):∃ k',WV p r k t = (if YN t p r = -1 then [] else YN t p r::WV p r k' (YN t p r))∧muM (YN t p r) p r≤k'+1:=by
 have hs:=DV hz ht hb
 match k with
 | 0 =>
  have hb':=VT t p r
  have:YN t p r = -1:=by
   by_cases e:YN t p r = -1
   ·exact e
   ·have:=muM_pos (f:=p) (r:=r) (s:=YN t p r) (by omega); omega
  exact ⟨0,by rw [if_pos this]; rfl,by omega⟩
 | k+1=>exact ⟨k,rfl,by omega⟩
theorem Jq (f r:Int):∀ (k:Nat) (s:Int),(WV f r k s).length≤k
 | 0,_=>Nat.le_refl _
 | k+1,s=>by
  unfold WV
  split
  ·simp
  ·have:=Jq f r k (YN s f r); rw [List.length_cons]; omega
theorem uu {a b:List Int} {n:Nat} (h:(a++b).length≤n):a.length≤n:=by rw [List.length_append] at h; omega
theorem ray_rt (s p r:Int) (hz:¬ (p = 0∧r = 0)):RtR AM 127 1 [.s (.int .i64 s),.s (.int .i64 p),.s (.int .i64 r)] [] (WV p r 8 s) []:=by
 refine W7 (YI (a:=a127) rfl rfl (YH _) (ZP rfl) (m:=0) rfl (Zd (Yp rfl (Yb (Yd (Zd (Zi rfl (Zq rfl (Zj rfl (Yr (t:=9) rfl (fun h1=>?_) (fun h1=>?_))))))))))) <;> simp only [NM] at h1
 ·refine Ya rfl (Zi rfl (Ya rfl (Zq rfl (Zo rfl (Yb (Yi rfl (fun h2=>?_) (fun h2=>?_))))))) <;> simp only [NM] at h2
  ·refine Zd (Yp rfl (Yb (Yh (⟨_,YK (v:=.snil) rfl (YS),?_⟩))))
   exfalso; omega
  ·refine Yg (Yd (Zd (Zi rfl (Zi rfl (Zi rfl (Ys rfl (Uo _ _ _) rfl rfl rfl (Zi rfl (Yb (Yj (Xe .slnil (Xg (fun m f _ L=>∃ (t:Int) (acc:List Int) (k:Nat) (vO:V) (ownO:HA),(WV p r 8 s = acc++(if t = -1 then [] else t::WV p r k t))∧(muM t p r≤k+1)∧(m = muM t p r)∧(-1≤t∧t < 64)∧(Rw 1 (acc) vO ownO)∧(f 0 = .s (.int .i64 t))∧(f 1 = .s (.int .i64 p))∧(f 2 = .s (.int .i64 r))∧(f 6 = vO)∧(L = (ownO++[]))) (fun m f nb L hI=>?_) (muM (YN s p r) p r) (⟨YN s p r,[],7,.snil,[],rfl,uA (VT s p r).2,rfl,VT s p r,.nil rfl,rfl,rfl,rfl,rfl,rfl⟩))))))))))))
   obtain ⟨t,acc,k,vO,ownO,hacc,hk,hm,hb,hrO,k0,k1,k2,k6,rfl⟩:=hI
   refine pH 0 k0 (pH 1 k1 (pH 2 k2 (pH 6 k6 (Yd (Zd (Zi rfl (Zq rfl (Yb (Yi rfl (fun h3=>?_) (fun h3=>?_)))))))))) <;> simp only [NM] at h3
   ·refine Yg (Yd (Yj (Ye (Yp (v:=vO) rfl (Zi rfl (Xd rfl (.one rfl .nil) (Xx (c:=[t]) rfl hrO rfl ZL (.there .here) (by decide) (by decide) rfl (QT) (by have:=uu (b:=if t = -1 then [] else t::WV p r k t) (by rw [← hacc]; exact Jq p r 8 s); omega) (fun v1 own1 n1 hr1=>Yp (v:=v1) rfl (Yb (Ye (Zi rfl (Zi rfl (Zi rfl (Ys rfl (Uo _ _ _) rfl rfl rfl (Zi rfl (Yb ?_))))))))))))))))
    have ht:t ≠ -1:=by omega
    obtain ⟨k2,hk1,hk2⟩:=qc hz ht hb hk
    refine ⟨muM (YN t p r) p r,_,by rw [hm]; exact DV hz ht hb,(List.Sublist.append (.refl _) (.cons _ .slnil)),YN t p r,acc++[t],k2,_,_,?_,hk2,rfl,VT t p r,hr1,rfl,rfl,rfl,rfl,rfl⟩
    rw [hacc,if_neg ht,hk1,List.append_assoc]; rfl
   ·refine YZ (Xc (Zd (Yp (v:=vO) rfl (Yp (v:=vO) rfl (Yb (Yh (⟨_,YK (v:=vO) rfl (YS),?_⟩)))))))
    have ht:t = -1:=by omega
    rw [if_pos ht,List.append_nil] at hacc
    exact ⟨_,hacc ▸ hrO,(fun _ h=>(List.mem_append_left _ h))⟩
 ·refine ZC rfl (Zo rfl (Yb (ZA rfl (Yg (Yd (Zd (Zi rfl (Zi rfl (Zi rfl (Ys rfl (Uo _ _ _) rfl rfl rfl (Zi rfl (Yb (Yj (Xe .slnil (Xg (fun m f _ L=>∃ (t:Int) (acc:List Int) (k:Nat) (vO:V) (ownO:HA),(WV p r 8 s = acc++(if t = -1 then [] else t::WV p r k t))∧(muM t p r≤k+1)∧(m = muM t p r)∧(-1≤t∧t < 64)∧(Rw 1 (acc) vO ownO)∧(f 0 = .s (.int .i64 t))∧(f 1 = .s (.int .i64 p))∧(f 2 = .s (.int .i64 r))∧(f 6 = vO)∧(L = (ownO++[]))) (fun m f nb L hI=>?_) (muM (YN s p r) p r) (⟨YN s p r,[],7,.snil,[],rfl,uA (VT s p r).2,rfl,VT s p r,.nil rfl,rfl,rfl,rfl,rfl,rfl⟩))))))))))))))))
  obtain ⟨t,acc,k,vO,ownO,hacc,hk,hm,hb,hrO,k0,k1,k2,k6,rfl⟩:=hI
  refine pH 0 k0 (pH 1 k1 (pH 2 k2 (pH 6 k6 (Yd (Zd (Zi rfl (Zq rfl (Yb (Yi rfl (fun h4=>?_) (fun h4=>?_)))))))))) <;> simp only [NM] at h4
  ·refine Yg (Yd (Yj (Ye (Yp (v:=vO) rfl (Zi rfl (Xd rfl (.one rfl .nil) (Xx (c:=[t]) rfl hrO rfl ZL (.there .here) (by decide) (by decide) rfl (QT) (by have:=uu (b:=if t = -1 then [] else t::WV p r k t) (by rw [← hacc]; exact Jq p r 8 s); omega) (fun v2 own2 n2 hr2=>Yp (v:=v2) rfl (Yb (Ye (Zi rfl (Zi rfl (Zi rfl (Ys rfl (Uo _ _ _) rfl rfl rfl (Zi rfl (Yb ?_))))))))))))))))
   have ht:t ≠ -1:=by omega
   obtain ⟨k2,hk1,hk2⟩:=qc hz ht hb hk
   refine ⟨muM (YN t p r) p r,_,by rw [hm]; exact DV hz ht hb,(List.Sublist.append (.refl _) (.cons _ .slnil)),YN t p r,acc++[t],k2,_,_,?_,hk2,rfl,VT t p r,hr2,rfl,rfl,rfl,rfl,rfl⟩
   rw [hacc,if_neg ht,hk1,List.append_assoc]; rfl
  ·refine YZ (Xc (Zd (Yp (v:=vO) rfl (Yp (v:=vO) rfl (Yb (Yh (⟨_,YK (v:=vO) rfl (YS),?_⟩)))))))
   have ht:t = -1:=by omega
   rw [if_pos ht,List.append_nil] at hacc
   exact ⟨_,hacc ▸ hrO,(fun _ h=>(List.mem_append_left _ h))⟩
theorem xy (i:Nat):X4 (i+1) = X4 i++[(i:Int)]:=by
 unfold X4
 rw [List.range_succ,List.map_append]; rfl
theorem TS (p:Int→Bool) (i:Nat):((X4 i).filter p).length≤i:=by
 refine Nat.le_trans (List.length_filter_le _ _) ?_
 unfold X4
 rw [List.length_map,List.length_range]; exact Nat.le_refl _
theorem D7 {p:Int→Bool} {i:Nat} (h:p i = true):(X4 (i+1)).filter p = (X4 i).filter p++[(i:Int)]:=by
 rw [xy,List.filter_append]; simp [h]
theorem filt_no {p:Int→Bool} {i:Nat} (h:p i = false):(X4 (i+1)).filter p = (X4 i).filter p:=by
 rw [xy,List.filter_append]; simp [h]
def isX (P X:Nat→Int) (s:Int):Bool:=decide (P (sqI s) = X 0∧P (sqI s+1) = X 1)
def R8 (P X:Nat→Int):List Int:=(X4 64).filter (isX P X)
theorem tF {P X Q:Nat→Int} {s:Nat} (hQ:∀ j,j < 2→Q j = P (sqI s+j)):eqI 2 X Q = isX P X s:=by
 unfold isX
 rw [Bool.eq_iff_iff,Qx,decide_eq_true_eq]
 constructor
 ·intro h
  have h0:=h 0 (by omega); have h1:=h 1 (by omega)
  rw [hQ 0 (by omega)] at h0; rw [hQ 1 (by omega)] at h1
  exact ⟨h0.symm,h1.symm⟩
 ·rintro ⟨h0,h1⟩ i hi
  rw [hQ i hi]
  match i,hi with
  | 0,_=>exact h0.symm
  | 1,_=>exact h1.symm
theorem kj (P X:Nat→Int):RtR AM 34 1 [.agg 133 (ia P),.agg 2 (ia X)] [] (R8 P X) []:=by
 refine W7 (YI (a:=a34) rfl rfl (YH _) (ZP rfl) (m:=0) rfl (Zd (YB rfl (YB rfl (Yp rfl (Yb (Yd (Zd (Zx rfl (Yn rfl rfl ZM (Yp rfl (Yb (Yj (Xe (.cons_cons _ (.cons _ .slnil)) (Xg (fun m f _ L=>∃ (i:Nat) (vO:V) (ownO:HA),(i≤64)∧(m = 64 - i)∧(Rw 1 ((X4 i).filter (isX P X)) vO ownO)∧(f 3 = .ptr 1 0 2)∧(f 4 = vO)∧(f 8 = .agg 128 (ia P))∧(f 9 = .s (.int .i64 i))∧(L = (ownO++[(1,.sc .var 2 (ia X))]))) (fun m f nb L hI=>?_) (64) (⟨0,.snil,[],by omega,rfl,.nil rfl,rfl,rfl,rfl,rfl,rfl⟩))))))))))))))))
 obtain ⟨i,vO,ownO,hi,hm,hrO,k3,k4,k8,k9,rfl⟩:=hI
 refine pH 3 k3 (pH 4 k4 (pH 8 k8 (pH 9 k9 (Zd (Zq rfl (Yb (Yd (Yi rfl (fun h5=>?_) (fun h5=>?_))))))))) <;> simp only [NM] at h5
 ·refine Yg (Yd (Yj (Zd (Zi rfl (zq rfl rfl rfl (by omega) (Yx (Zi rfl (Yy rfl rfl rfl rfl .here (Ze (Yn rfl rfl (.tail _ (List.mem_append_right _ ZL)) (Yn rfl rfl ZL (Yv rfl rfl (Yb (Yi rfl (fun h6=>?_) (fun h6=>?_))))))))))))))) <;> simp only [NM] at h6
  ·refine Ye (Yp (v:=vO) rfl (Zi rfl (Xd rfl (.one rfl .nil) (Xx (c:=[(i:Int)]) rfl hrO rfl ZL (.there (.there .here)) (by decide) (by decide) rfl (QT) (by have:=TS (isX P X) i; omega) (fun v1 own1 n1 hr1=>Yp (v:=v1) rfl (Yb (Ye (Zr rfl rfl (Zi rfl (Yb ?_))))))))))
   have e0:∀ j,j < 2→ovA (fun _=>0) 0 2 (dp P ((i:Int).toNat*2)) j = P (sqI i+j):=fun j hj=>by rw [XR (by omega)]; have hq:sqI (i:Int) = 0+(i:Int).toNat*2:=rfl; exact congrArg P (by omega)
   refine ⟨64 - (i+1),_,by omega,(List.Sublist.append (.refl _) (.cons _ (.cons _ (.refl _)))),i+1,_,_,by omega,rfl,?_,rfl,rfl,rfl,rfl,rfl⟩
   exact (D7 (p:=isX P X) (i:=i) (by rw [← tF e0]; assumption)).symm ▸ hr1
  ·refine Yg (Ye (Zr rfl rfl (Zi rfl (Yb ?_))))
   have e0:∀ j,j < 2→ovA (fun _=>0) 0 2 (dp P ((i:Int).toNat*2)) j = P (sqI i+j):=fun j hj=>by rw [XR (by omega)]; have hq:sqI (i:Int) = 0+(i:Int).toNat*2:=rfl; exact congrArg P (by omega)
   refine ⟨64 - (i+1),_,by omega,(.cons _ (List.Sublist.append (.refl _) (.refl _))),i+1,_,_,by omega,rfl,?_,rfl,rfl,rfl,rfl,rfl⟩
   exact (filt_no (p:=isX P X) (i:=i) (by rw [← tF e0]; assumption)).symm ▸ hrO
 ·refine YZ (Xc (Zd (Yp (v:=vO) rfl (Yp (v:=vO) rfl (Yb (Yh (⟨_,YK (v:=vO) rfl (YS),?_⟩)))))))
  obtain rfl:i = 64:=by omega
  exact ⟨_,hrO,(fun _ h=>(List.mem_append_left _ h))⟩
def X7 (l:List (Int × Int)):List Int:=l.flatMap fun w=>[w.1,w.2]
theorem UT:∀ l:List (Int × Int),(X7 l).length = l.length*2
 | []=>rfl
 | w::l=>by
  have:=UT l
  unfold X7 at *
  rw [List.flatMap_cons,List.length_append,this]
  simp only [List.length_cons,List.length_nil]
  omega
theorem DR:∀ {l:List (Int × Int)} {i:Nat},i < l.length→(X7 l).getD (i*2) 0 = (l.getD i (0,0)).1∧(X7 l).getD (i*2+1) 0 = (l.getD i (0,0)).2
 | [],i,h=>absurd (show i < 0 from h) (by omega)
 | w::l,0,_=>⟨rfl,rfl⟩
 | w::l,i+1,h=>by
  have:=DR (l:=l) (i:=i) (by simpa using h)
  have e:X7 (w::l) = w.1::w.2::X7 l:=rfl
  rw [e,show (i+1)*2 = i*2+1+1 by omega,show i*2+1+1+1 = i*2+1+1+1 from rfl]
  simpa using this
theorem way0 {F:Nat→Int} {l:List (Int × Int)} (hF:∀ i,i < (X7 l).length→F i = (X7 l).getD i 0) {i:Nat} (hi:i < l.length):F (0+(i:Int).toNat*2+0) = (l.getD i (0,0)).1:=by
 rw [show 0+(i:Int).toNat*2+0 = i*2 by omega,hF _ (by rw [UT]; omega),(DR hi).1]
theorem way1 {F:Nat→Int} {l:List (Int × Int)} (hF:∀ i,i < (X7 l).length→F i = (X7 l).getD i 0) {i:Nat} (hi:i < l.length):F (0+(i:Int).toNat*2+1) = (l.getD i (0,0)).2:=by
 rw [show 0+(i:Int).toNat*2+1 = i*2+1 by omega,hF _ (by rw [UT]; omega),(DR hi).2]
theorem W5 {α:Type} {l:List α} {i:Nat} (d:α) (hi:i < l.length):l.take (i+1) = l.take i++[l.getD i d]:=by
 rw [List.take_succ_eq_append_getElem hi,List.getD_eq_getElem?_getD,List.getElem?_eq_getElem hi]; rfl
theorem sE {s:Int} {l:List (Int × Int)} {i:Nat} (hi:i < l.length) (h:YN s (l.getD i (0,0)).1 (l.getD i (0,0)).2 ≠ -1):XP s (l.take (i+1)) = XP s (l.take i)++[YN s (l.getD i (0,0)).1 (l.getD i (0,0)).2]:=by
 unfold XP
 rw [W5 (0,0) hi,List.map_append,List.filter_append]
 generalize l.getD i (0,0) = w at h ⊢
 simp [h]
theorem pi {s:Int} {l:List (Int × Int)} {i:Nat} (hi:i < l.length) (h:YN s (l.getD i (0,0)).1 (l.getD i (0,0)).2 = -1):XP s (l.take (i+1)) = XP s (l.take i):=by
 unfold XP
 rw [W5 (0,0) hi,List.map_append,List.filter_append]
 generalize l.getD i (0,0) = w at h ⊢
 simp [h]
theorem JY (s:Int) (l:List (Int × Int)):(XP s l).length≤l.length:=by
 unfold XP
 exact Nat.le_trans (List.length_filter_le _ _) (by simp)
theorem rI (s:Int) (l:List (Int × Int)) (i:Nat):(XP s (l.take i)).length≤l.length:=Nat.le_trans (JY _ _) (by rw [List.length_take]; exact Nat.min_le_right _ _)
theorem yN (s:Int) (l:List (Int × Int)) (hlen:l.length≤1000000):yQ AM 100 2 1 [.s (.int .i64 s)] [] (X7 l) (XP s l):=by
 refine DW fun v Bs hc=>?_
 refine YI (a:=a100) rfl rfl (YH _) (ZP rfl) rfl ?_ (by first | rfl | (cases hc <;> rfl))
 have hr0:=hc.rx
 rw [show Xj 0 Bs = Xj 0 Bs++[] from (List.append_nil _).symm]
 generalize hown:Xj 0 Bs = own0 at hr0 ⊢
 refine Zd (Yp rfl (Yb (Yd (Zd (Yp (v:=v) rfl (Vn rfl hr0 (by decide) (UT l) (Yp rfl (Yb (Yj (Xe (List.Sublist.append (.refl _) .slnil) (Xg (fun m f _ L=>∃ (i:Nat) (vO:V) (ownO:HA),(i≤l.length)∧(m = l.length - i)∧(Rw 1 (XP s (l.take i)) vO ownO)∧(f 0 = .s (.int .i64 s))∧(f 4 = vO)∧(f 8 = v)∧(f 9 = .s (.int .i64 l.length))∧(f 10 = .s (.int .i64 i))∧(L = (ownO++(own0++[])))) (fun m f nb L hI=>?_) (l.length) (⟨0,.snil,[],by omega,rfl,.nil rfl,rfl,rfl,rfl,rfl,rfl,rfl⟩))))))))))))
 obtain ⟨i,vO,ownO,hi,hm,hrO,k0,k4,k8,k9,k10,rfl⟩:=hI
 refine pH 0 k0 (pH 4 k4 (pH 8 k8 (pH 9 k9 (pH 10 k10 (Zd (Zq rfl (Yb (Yd (Yi rfl (fun h7=>?_) (fun h7=>?_)))))))))) <;> simp only [NM] at h7
 ·refine Yg (Yd (Yj (Zd ?_)))
  obtain ⟨b0,q0,md0,c0,F0,rfl,rfl,hF0⟩:=hr0.at (by decide) (UT l) (by omega)
  refine Zw rfl rfl (Yo rfl rfl (List.mem_append_right _ ZL) (Yx (Yy rfl rfl rfl rfl .here (Ze (Zi rfl (Zv rfl rfl rfl (Yl (x:=(l.getD i (0,0)).1) rfl rfl ZL (way0 hF0 (by omega)) (Zv rfl rfl rfl (Yl (x:=(l.getD i (0,0)).2) rfl rfl ZL (way1 hF0 (by omega)) (Ys rfl (Uo _ _ _) rfl rfl rfl (Zi rfl (Ze (Zi rfl (Zq rfl (Yb (Yi rfl (fun h8=>?_) (fun h8=>?_))))))))))))))))) <;> simp only [NM] at h8
  ·refine Ye (Yp (v:=vO) rfl (Zi rfl (Xd rfl (.one rfl .nil) (Xx (c:=[YN s (l.getD i (0,0)).1 (l.getD i (0,0)).2]) rfl hrO rfl ZL (.there (.there .here)) (by decide) (by decide) rfl (QT) (by have:=rI s l i; omega) (fun v1 own1 n1 hr1=>Yp (v:=v1) rfl (Yb (Ye (Zr rfl rfl (Zi rfl (Yb (⟨l.length - (i+1),_,by omega,(List.Sublist.append (.refl _) (.cons _ (.cons _ (.refl _)))),i+1,_,_,by omega,rfl,?_,rfl,rfl,rfl,rfl,rfl,rfl⟩)))))))))))
   exact (sE (l:=l) (i:=i) (by omega) (by omega)).symm ▸ hr1
  ·refine Yg (Ye (Zr rfl rfl (Zi rfl (Yb (⟨l.length - (i+1),_,by omega,(.cons _ (List.Sublist.append (.refl _) (.refl _))),i+1,_,_,by omega,rfl,?_,rfl,rfl,rfl,rfl,rfl,rfl⟩)))))
   exact (pi (l:=l) (i:=i) (by omega) (by omega)).symm ▸ hrO
 ·refine YZ (Xc (Zd (Yp (v:=vO) rfl (Yp (v:=vO) rfl (Yb (Yh (⟨_,YK (v:=vO) rfl (YS),?_⟩)))))))
  obtain rfl:i = l.length:=by omega
  rw [List.take_length] at hrO
  exact ⟨_,_,hrO,.here,(fun _ h=>h)⟩
theorem q8 :WR AM 98 [] [] (fun v' _ _=>∃ P:Nat→Int,v' = .agg 8 (ia P)∧∀ i,i < 8→P i = (X7 straightL).getD i 0):=by
 refine YI (a:=a98) rfl rfl (YH _) (ZP rfl) (m:=0) rfl (Zd (Yx (Ze (YA rfl (.one rfl (.one rfl .nil)) (YA rfl (.one rfl (.one rfl .nil)) (YA rfl (.one rfl (.one rfl .nil)) (YA rfl (.one rfl (.one rfl .nil)) (YA rfl (.agg rfl (.agg rfl (.agg rfl (.agg rfl .nil)))) (Yy rfl rfl rfl rfl .here (Yb (Yh (⟨_,X5 rfl rfl ZL (YS),?_⟩))))))))))))
 refine ⟨_,rfl,?_⟩
 decide
theorem uO :WR AM 99 [] [] (fun v' _ _=>∃ P:Nat→Int,v' = .agg 8 (ia P)∧∀ i,i < 8→P i = (X7 slantL).getD i 0):=by
 refine YI (a:=a99) rfl rfl (YH _) (ZP rfl) (m:=0) rfl (Zd (Yx (Ze (YA rfl (.one rfl (.one rfl .nil)) (YA rfl (.one rfl (.one rfl .nil)) (YA rfl (.one rfl (.one rfl .nil)) (YA rfl (.one rfl (.one rfl .nil)) (YA rfl (.agg rfl (.agg rfl (.agg rfl (.agg rfl .nil)))) (Yy rfl rfl rfl rfl .here (Yb (Yh (⟨_,X5 rfl rfl ZL (YS),?_⟩))))))))))))
 refine ⟨_,rfl,?_⟩
 decide
theorem tn :WR AM 101 [] [] (fun v' _ _=>∃ P:Nat→Int,v' = .agg 16 (ia P)∧∀ i,i < 16→P i = (X7 jumpL).getD i 0):=by
 refine YI (a:=a101) rfl rfl (YH _) (ZP rfl) (m:=0) rfl (Zd (Yx (Ze (YA rfl (.one rfl (.one rfl .nil)) (YA rfl (.one rfl (.one rfl .nil)) (YA rfl (.one rfl (.one rfl .nil)) (YA rfl (.one rfl (.one rfl .nil)) (YA rfl (.one rfl (.one rfl .nil)) (YA rfl (.one rfl (.one rfl .nil)) (YA rfl (.one rfl (.one rfl .nil)) (YA rfl (.one rfl (.one rfl .nil)) (YA rfl (.agg rfl (.agg rfl (.agg rfl (.agg rfl (.agg rfl (.agg rfl (.agg rfl (.agg rfl .nil)))))))) (Yy rfl rfl rfl rfl .here (Yb (Yh (⟨_,X5 rfl rfl ZL (YS),?_⟩))))))))))))))))
 refine ⟨_,rfl,?_⟩
 decide
theorem wb {P:Nat→Int}:∀ {r:List Int} {j:Nat},(∀ u,u < j→YP P (r.getD u 0) = true)→j < r.length→YP P (r.getD j 0) = false→VL P r = r.take (j+1)
 | [],j,_,h,_=>absurd (show j < 0 from h) (by omega)
 | t::r,0,_,_,h=>by
  have h:YP P t = false:=h
  unfold VL
  rw [if_neg (by rw [h]; decide)]; simp
 | t::r,j+1,hu,hj,h=>by
  have h0:YP P t = true:=hu 0 (by omega)
  have ih:=wb (P:=P) (r:=r) (j:=j) (fun u h=>by have:=hu (u+1) (by omega); simpa using this) (by simpa using hj) (by simpa using h)
  unfold VL
  rw [if_pos h0,ih]; rfl
theorem qZ {P:Nat→Int}:∀ {r:List Int} {j:Nat},(∀ u,u < j→YP P (r.getD u 0) = true)→j = r.length→VL P r = r.take j
 | [],j,_,h=>by simp [VL]
 | t::r,0,_,h=>by simp at h
 | t::r,j+1,hu,h=>by
  have h0:YP P t = true:=hu 0 (by omega)
  have ih:=qZ (P:=P) (r:=r) (j:=j) (fun u h=>by have:=hu (u+1) (by omega); simpa using this) (by simpa using h)
  unfold VL
  rw [if_pos h0,ih]; rfl
theorem zf {P:Nat→Int} {s:Int} {l:List (Int × Int)} {i:Nat} (hi:i < l.length):XS P s (l.take (i+1)) = XS P s (l.take i)++VL P (WV (l.getD i (0,0)).1 (l.getD i (0,0)).2 8 s):=by
 unfold XS
 rw [W5 (0,0) hi,List.flatMap_append]
 simp
theorem Es (P:Nat→Int) (s:Int):∀ l:List (Int × Int),(XS P s l).length≤l.length*8
 | []=>Nat.zero_le _
 | w::l=>by
  have h1:=Es P s l
  have h2:=(R2 P (WV w.1 w.2 8 s)).length_le
  have h3:=Jq w.1 w.2 8 s
  unfold XS at *
  rw [List.flatMap_cons,List.length_append,List.length_cons]
  omega
theorem rb (P:Nat→Int) (s:Int) (l:List (Int × Int)) (i:Nat):(XS P s (l.take i)).length≤l.length*8:=Nat.le_trans (Es P s _) (Nat.mul_le_mul_right 8 (by rw [List.length_take]; exact Nat.min_le_right _ _))
theorem ray_in {p q s:Int} {r:List Int} {j:Nat} (h:r = WV p q 8 s) (hj:j < r.length):0≤r.getD j 0∧r.getD j 0 < 64:=by
 refine zX (f:=p) (r:=q) (k:=8) (s:=s) ?_
 rw [← h,List.getD_eq_getElem?_getD,List.getElem?_eq_getElem hj]
 exact List.getElem_mem hj
theorem hu_next {P:Nat→Int} {r:List Int} {j:Nat} (hu:∀ u,u < j→YP P (r.getD u 0) = true) (h:YP P (r.getD j 0) = true):∀ u,u < j+1→YP P (r.getD u 0) = true:=fun u hu'=>by
 by_cases e:u = j
 ·subst e; exact h
 ·exact hu u (by omega)
theorem wV {r:List Int} {j:Nat} (a:List Int) (hj:j < r.length):a++r.take j++[r.getD j 0] = a++r.take (j+1):=by
 rw [W5 0 hj,List.append_assoc]
theorem D0 (P:Nat→Int) (s:Int) (l:List (Int × Int)) (hlen:l.length≤1000) (hw:∀ i,i < l.length→¬ ((l.getD i (0,0)).1 = 0∧(l.getD i (0,0)).2 = 0)):yQ AM 103 2 1 [.agg 133 (ia P),.s (.int .i64 s)] [] (X7 l) (XS P s l):=by
 refine DW fun v Bs hc=>?_
 refine YI (a:=a103) rfl rfl (YH _) (ZP rfl) rfl ?_ (by first | rfl | (cases hc <;> rfl))
 have hr0:=hc.rx
 rw [show Xj 0 Bs = Xj 0 Bs++[] from (List.append_nil _).symm]
 generalize hown:Xj 0 Bs = own0 at hr0 ⊢
 refine Zd (YB rfl (Yp rfl (Yb (Yd (Zd (Yp (v:=v) rfl (Vn rfl hr0 (by decide) (UT l) (Yp rfl (Yb (Yj (Xe (.cons_cons _ (List.Sublist.append (.refl _) .slnil)) (Xg (fun m f _ L=>∃ (i:Nat) (vO:V) (ownO:HA),(i≤l.length)∧(m = l.length - i)∧(Rw 1 (XS P s (l.take i)) vO ownO)∧(f 1 = .s (.int .i64 s))∧(f 3 = .ptr Bs.length 0 133)∧(f 6 = vO)∧(f 11 = v)∧(f 12 = .s (.int .i64 l.length))∧(f 13 = .s (.int .i64 i))∧(L = (ownO++(Bs.length,.sc .var 133 (ia P))::(own0++[])))) (fun m f nb L hI=>?_) (l.length) (⟨0,.snil,[],by omega,rfl,.nil rfl,rfl,rfl,rfl,rfl,rfl,rfl,rfl⟩)))))))))))))
 obtain ⟨i,vO,ownO,hi,hm,hrO,k1,k3,k6,k11,k12,k13,rfl⟩:=hI
 refine pH 1 k1 (pH 3 k3 (pH 6 k6 (pH 11 k11 (pH 12 k12 (pH 13 k13 (Zd (Zq rfl (Yb (Yd (Yi rfl (fun h1=>?_) (fun h1=>?_))))))))))) <;> simp only [NM] at h1
 ·refine Yg (Yd (Yj (Zd ?_)))
  obtain ⟨b0,q0,md0,c0,F0,rfl,rfl,hF0⟩:=hr0.at (by decide) (UT l) (by omega)
  refine Zw rfl rfl (Yo rfl rfl (List.mem_append_right _ ZM) (Yx (Yy rfl rfl rfl rfl .here (Ze (Zi rfl (Zv rfl rfl rfl (Yl (x:=(l.getD i (0,0)).1) rfl rfl ZL (way0 hF0 (by omega)) (Zv rfl rfl rfl (Yl (x:=(l.getD i (0,0)).2) rfl rfl ZL (way1 hF0 (by omega)) ?_)))))))))
  obtain ⟨r,hreq⟩:∃ r,r = WV (l.getD i (0,0)).1 (l.getD i (0,0)).2 8 s:=⟨_,rfl⟩
  have hray:=ray_rt s _ _ (hw i (by omega))
  rw [← hreq] at hray
  have hrl:r.length≤8:=by rw [hreq]; exact Jq _ _ _ _
  refine YD rfl (hray) rfl rfl (fun v1 own1 n1 hr1=>Vn rfl hr1.rx (by decide) Ka (Yp rfl (Yb (Yj (yD (Dr.appR _ (.there .here)).all (Xe (List.Sublist.append (.refl _) (List.Sublist.append (.refl _) (.cons _ (.refl _)))) (Xg (fun m f _ L=>∃ (j:Nat) (vP:V) (ownP:HA),(j≤r.length)∧(m = r.length - j)∧(∀ u,u < j→YP P (r.getD u 0) = true)∧(Rw 1 (XS P s (l.take i)++r.take j) vP ownP)∧(f 1 = .s (.int .i64 s))∧(f 3 = .ptr Bs.length 0 133)∧(f 6 = vP)∧(f 11 = .sl b0 0 l.length 2 c0)∧(f 12 = .s (.int .i64 l.length))∧(f 13 = .s (.int .i64 i))∧(f 22 = v1)∧(f 23 = .s (.int .i64 r.length))∧(f 24 = .s (.int .i64 j))∧(L = (ownP++(own1++[(Bs.length,.sc .var 133 (ia P)),(b0,.sc md0 q0 (ia F0))])))) (fun m f nb L hI=>?_) (r.length) (⟨0,vO,ownO,by omega,by omega,fun u h=>by omega,by rw [List.take_zero,List.append_nil]; exact hrO,rfl,rfl,rfl,rfl,rfl,rfl,rfl,rfl,rfl,rfl⟩))))))))
  obtain ⟨j,vP,ownP,hj,hm2,hu,hrP,k1,k3,k6,k11,k12,k13,k22,k23,k24,rfl⟩:=hI
  refine pH 1 k1 (pH 3 k3 (pH 6 k6 (pH 11 k11 (pH 12 k12 (pH 13 k13 (pH 22 k22 (pH 23 k23 (pH 24 k24 (Zd (Zq rfl (Yb (Yd (Yi rfl (fun h2=>?_) (fun h2=>?_)))))))))))))) <;> simp only [NM] at h2
  ·refine Yg (Yd (Yj (Zd ?_)))
   have hjb:=ray_in hreq (j:=j) (by omega)
   obtain ⟨b1,q1,md1,c1,F1,rfl,rfl,hF1⟩:=hr1.rx.at (by decide) Ka (by omega)
   refine Zw rfl rfl (Yl (x:=r.getD j 0) rfl rfl (List.mem_append_right _ ZL) (ld1 hF1 (by omega)) (Zi rfl (Ze (Yp (v:=vP) rfl (Zi rfl (Xd rfl (.one rfl .nil) (Xx (c:=[r.getD j 0]) rfl hrP rfl ZL (.there .here) (by decide) (by decide) rfl (QT) (by have:=rb P s l i; rw [List.length_append,List.length_take]; omega) (fun v2 own2 n2 hr2=>Yp (v:=v2) rfl (Ze (Zi rfl (Zx rfl (Zx rfl (Zv rfl rfl rfl (Yo rfl rfl (List.mem_append_right _ ZN) (YA rfl .nil (Yv rfl rfl (Yb (Yi rfl (fun h3=>?_) (fun h3=>?_))))))))))))))))))) <;> simp only [NM] at h3
   ·refine YZ (ZaE rfl (Xc (Ye (Zr rfl rfl (Zi rfl (Yb (⟨l.length - (i+1),_,by omega,(List.Sublist.append (.refl _) (.cons _ (.cons _ (.refl _)))),i+1,_,_,by omega,rfl,?_,rfl,rfl,rfl,rfl,rfl,rfl,rfl⟩)))))))
    rw [zf (l:=l) (i:=i) (by omega),← hreq]
    (rw [wb hu (by omega) (by assumption),← wV _ (by omega)]; exact hr2)
   ·refine Yg (Ye (Zr rfl rfl (Zi rfl (Yb (⟨r.length - (j+1),_,by omega,(List.Sublist.append (.refl _) (.cons _ (.refl _))),j+1,_,_,by omega,rfl,hu_next hu (by assumption),?_,rfl,rfl,rfl,rfl,rfl,rfl,rfl,rfl,rfl,rfl⟩)))))
    rw [← wV _ (by omega)]; exact hr2
  ·refine YZ (Xc (Ye (Zr rfl rfl (Zi rfl (Yb (⟨l.length - (i+1),_,by omega,(List.Sublist.append (.refl _) (List.sublist_append_of_sublist_right (.refl _))),i+1,_,_,by omega,rfl,?_,rfl,rfl,rfl,rfl,rfl,rfl,rfl⟩))))))
   rw [zf (l:=l) (i:=i) (by omega),← hreq]
   (rw [qZ hu (by omega)]; exact hrP)
 ·refine YZ (Xc (Zd (Yp (v:=vO) rfl (Yp (v:=vO) rfl (Yb (Yh (⟨_,YK (v:=vO) rfl (YS),?_⟩)))))))
  obtain rfl:i = l.length:=by omega
  rw [List.take_length] at hrO
  exact ⟨_,_,hrO,.here,(fun _ h=>(.tail _ h))⟩
end Go.Proofs.YtlkighkfkdpncaaGreat
namespace Go.Am
open Go
def wF (A:AP) (fid:FuncId) (z m:Nat) (md m1 m2:Md) (c c1 c2:Cp) (P Q:Nat→Int) (l:List Int):Prop :=
 ∃ b k q F σ1,Run A fid [.sl 0 0 2 1 c] [.vs md [.sl 1 0 m z c1,.sl 2 0 m z c2],.sc m1 (m*z) (ia P),.sc m2 (m*z) (ia Q)] = some (.sl b 0 k z .whole,σ1)∧3≤b∧l.length = k*z∧(∀ i,i < l.length→F i = l.getD i 0)∧σ1[b]? = some (.sc .grow q (ia F)) ∧
  σ1[0]? = some (.vs md [.sl 1 0 m z c1,.sl 2 0 m z c2])∧σ1[1]? = some (.sc m1 (m*z) (ia P))∧σ1[2]? = some (.sc m2 (m*z) (ia Q))
theorem take3 {σ:Heap} {B C D:Blk} (h:σ[0]? = some B) (h2:σ[1]? = some C) (h3:σ[2]? = some D):σ.take 3 = [B,C,D]:=by
 cases σ with
 | nil=>cases h
 | cons x l =>
  simp only [List.getElem?_cons_zero,Option.some.injEq] at h; subst h
  simp only [List.getElem?_cons_succ] at h2 h3
  rw [List.take_succ_cons,take2 h2 h3]
section
variable {A:AP} {N:Nat} {f:FE} {n:Nat} {L:HA} {K:KN} {Zp:V→KN} {rest:List I} {d:Nat}
theorem qN {fid:FuncId} {q0:Bool} {z m b0 b1 b2:Nat} {md m1 m2:Md} {c c1 c2:Cp} {P Q:Nat→Int} {l:List Int} (hs:wF A fid z m (XW q0 md) (XW q0 m1) (XW q0 m2) c c1 c2 P Q l)
  (h0:(b0,Blk.vs md [.sl b1 0 m z c1,.sl b2 0 m z c2])∈L) (h1:(b1,Blk.sc m1 (m*z) (ia P))∈L) (h2:(b2,Blk.sc m2 (m*z) (ia Q))∈L) (hne:b1 ≠ b2) {σ:Heap} (h:Hp σ n L) :
  ∃ v B σ',Y4 (Run A) q0 (.fn fid []) [.sl b0 0 2 1 c] σ = some (v,σ')∧Rw z l v [(n,B)]∧Hp σ' (n+1) ((n,B)::L):=by
 obtain ⟨b,k,q,F,σ1,hrun,hb,hl,hF,e3,e0,e1,e2⟩:=hs
 have k0:=(h.2.mem h0).2
 have k1:=(h.2.mem h1).2
 have k2:=(h.2.mem h2).2
 have n01:b1 ≠ b0:=fun e=>by subst e; rw [k0] at k1; cases k1
 have n02:b2 ≠ b0:=fun e=>by subst e; rw [k0] at k2; cases k2
 have hre:Y6 σ 64 [b0] [] = [b0,b1,b2]:=by
  have c1':([b0]:List Nat).contains b1 = false:=by simp [n01]
  have c2':([b0,b1]:List Nat).contains b2 = false:=by simp [n02,Ne.symm hne]
  show (bif ([]:List Nat).contains b0 then Y6 σ 63 [] [] else Y6 σ 63 ((σ.getD b0 .dead).refs++[]) ([]++[b0])) = _
  rw [K9 k0]
  show (bif ([b0]:List Nat).contains b1 then Y6 σ 62 [b2] [b0] else Y6 σ 62 ((σ.getD b1 .dead).refs++[b2]) ([b0]++[b1])) = _
  rw [c1',K9 k1]
  show (bif ([b0,b1]:List Nat).contains b2 then Y6 σ 61 [] [b0,b1] else Y6 σ 61 ((σ.getD b2 .dead).refs++[]) ([b0,b1]++[b2])) = _
  rw [c2',K9 k2]; rfl
 have p0:pos b0 [b0,b1,b2] = some 0:=by simp [pos]
 have p1:pos b1 [b0,b1,b2] = some 1:=by
  have:(b0 == b1) = false:=by simpa using Ne.symm n01
  simp [pos,this]
 have p2:pos b2 [b0,b1,b2] = some 2:=by
  have a1:(b0 == b2) = false:=by simpa using Ne.symm n02
  have a2:(b1 == b2) = false:=by simpa using hne
  simp [pos,a1,a2]
 have hen:XJ q0 [.sl b0 0 2 1 c] σ = some ([b0,b1,b2],[.sl 0 0 2 1 c],[.vs (XW q0 md) [.sl 1 0 m z c1,.sl 2 0 m z c2],.sc (XW q0 m1) (m*z) (ia P),.sc (XW q0 m2) (m*z) (ia Q)]):=by
  have hrefs:V.refsL [.sl b0 0 2 1 c] = [b0]:=by simp [V.refsL,V.refs]
  unfold XJ
  rw [hrefs,hre]
  simp only [V.renL,V.ren,p0,p1,p2,Option.map_some,Y9,k0,k1,k2,Option.bind_some,Blk.ren]
 have hns:X2 q0 3 (.sl b 0 k z .whole) σ1 = [b]:=by
  unfold X2
  have hd:σ1.getD b .dead = .sc .grow q (ia F):=K9 e3
  have hbr:Y6 σ1 64 ((V.sl b 0 k z .whole).refs++bif q0 then [] else (σ1.take 3).flatMap Blk.refs) [] = bif q0 then [b] else [b,1,2]:=by
   cases q0 with
   | true =>
    show (bif ([]:List Nat).contains b then Y6 σ1 63 [] [] else Y6 σ1 63 ((σ1.getD b .dead).refs++[]) ([]++[b])) = _
    rw [hd]; rfl
   | false =>
    rw [cond_false,take3 e0 e1 e2]
    have x1:([b]:List Nat).contains 1 = false:=by simp; omega
    have x2:([b,1]:List Nat).contains 2 = false:=by simp; omega
    show (bif ([]:List Nat).contains b then Y6 σ1 63 [1,2] [] else Y6 σ1 63 ((σ1.getD b .dead).refs++[1,2]) ([]++[b])) = _
    rw [hd]
    show (bif ([b]:List Nat).contains 1 then Y6 σ1 62 [2] [b] else Y6 σ1 62 ((σ1.getD 1 .dead).refs++[2]) ([b]++[1])) = _
    rw [x1,K9 e1]
    show (bif ([b,1]:List Nat).contains 2 then Y6 σ1 61 [] [b,1] else Y6 σ1 61 ((σ1.getD 2 .dead).refs++[]) ([b,1]++[2])) = _
    rw [x2,K9 e2]; rfl
  rw [hbr]
  have hbb:Nat.ble 3 b = true:=Nat.ble_eq_true_of_le hb
  cases q0 with
  | true=>simp [hbb]
  | false=>simp [hbb]
 have hlt:=zC e2
 have hble:Nat.ble 3 σ1.length = true:=Nat.ble_eq_true_of_le (by omega)
 have hnd:nodup [b0,b1,b2] = true:=by simp [nodup,n01,n02,hne,Ne.symm n01,Ne.symm n02]
 have bb:Xs [b0,b1,b2] [b] σ.length 3 b = some n:=by
  have:Nat.blt b 3 = false:=by
   cases hx:Nat.blt b 3 with
   | false=>rfl
   | true=>have:=YE hx; omega
  unfold Xs
  rw [this,h.1]
  simp [pos]
 have f0:Xs [b0,b1,b2] [b] σ.length 3 0 = some b0:=rfl
 have f1:Xs [b0,b1,b2] [b] σ.length 3 1 = some b1:=rfl
 have f2:Xs [b0,b1,b2] [b] σ.length 3 2 = some b2:=rfl
 have hn1:nodup [b] = true:=rfl
 have hpk:Y9 false (Xs [b0,b1,b2] [b] σ.length 3) σ1 [b] = some [.sc .grow q (ia F)]:=by
  simp only [Y9,e3,Option.bind_some,Blk.ren,XW,cond_false]
 have hrn:(V.sl b 0 k z .whole).ren (Xs [b0,b1,b2] [b] σ.length 3) = some (.sl n 0 k z .whole):=by
  simp only [V.ren,bb,Option.map_some]
 have hlv:XE q0 σ [b0,b1,b2] (.sl b 0 k z .whole) σ1 = some (.sl n 0 k z .whole,σ++[.sc .grow q (ia F)]):=by
  unfold XE
  simp only [List.length_cons,List.length_nil,Nat.zero_add,Nat.reduceAdd,hns,hnd,hble,hn1,Bool.and_self,cond_true,hrn,hpk]
  cases q0 with
  | true=>rfl
  | false =>
   have hset:((σ.set b0 (.vs md [.sl b1 0 m z c1,.sl b2 0 m z c2])).set b1 (.sc m1 (m*z) (ia P))).set b2 (.sc m2 (m*z) (ia Q)) = σ:=by
    have s0:σ.set b0 (.vs md [.sl b1 0 m z c1,.sl b2 0 m z c2]) = σ:=set_same k0
    have s1:σ.set b1 (.sc m1 (m*z) (ia P)) = σ:=set_same k1
    have s2:σ.set b2 (.sc m2 (m*z) (ia Q)) = σ:=set_same k2
    rw [s0,s1,s2]
   have hrg:List.range 3 = [0,1,2]:=rfl
   simp only [XW,cond_false] at e0 e1 e2
   simp only [hrg,Y9,e0,e1,e2,Option.bind_some,Blk.ren,V.renL,V.ren,f0,f1,f2,Option.map_some,XW,cond_false,XM,hset]
 refine ⟨.sl n 0 k z .whole,.sc .grow q (ia F),σ++[.sc .grow q (ia F)],?_,.row hl hF,h.new _⟩
 simp only [Y4,target,List.append_nil,Option.bind_some,hen,hrun,hlv]
 where
 set_same {σ:Heap} {b:Nat} {B:Blk} (h:σ[b]? = some B):σ.set b B = σ:=by
  refine List.ext_getElem? fun i=>?_
  by_cases e:b = i
  ·subst e; rw [List.getElem?_set_self (zC h),h]
  ·rw [List.getElem?_set_ne e]
theorem WO_cat {x y:O} {fid:FuncId} {z m b0 b1 b2:Nat} {md m1 m2:Md} {c c1 c2:Cp} {P Q:Nat→Int} {l:List Int} (hf:x.fv N f = .fn fid []) (hy:y.fv N f = .sl b0 0 2 1 c) (hs:wF A fid z m md m1 m2 c c1 c2 P Q l)
  (h0:(b0,Blk.vs md [.sl b1 0 m z c1,.sl b2 0 m z c2])∈L) (h1:(b1,Blk.sc m1 (m*z) (ia P))∈L) (h2:(b2,Blk.sc m2 (m*z) (ia Q))∈L) (hne:b1 ≠ b2) (k:∀ v own n',Rw z l v own→WO A N rest (upd f d v) n' (own++L) K Zp):WO A N (⟨some d,none,.h (.call x [y])⟩::rest) f n L K Zp:=fun σ h=>by
 obtain ⟨v,B,σ',e1,e2,e3⟩:=qN (q0:=false) hs h0 h1 h2 hne h
 obtain ⟨ex,f',σ2,n2,L2,e4,e5,e6⟩:=k v [(n,B)] (n+1) e2 σ' e3
 refine ⟨ex,f',σ2,n2,L2,?_,e5,e6⟩
 rw [← e4]
 simp only [Ww,XA,Xk,YJ,Y7,hf,List.map_cons,List.map_nil,hy,e1,Option.map_some,JE]
 rfl
theorem WO_catq {x y:O} {fid:FuncId} {z m b0 b1 b2:Nat} {md m1 m2:Md} {c c1 c2:Cp} {P Q:Nat→Int} {l:List Int} (hf:x.fv N f = .fn fid []) (hy:y.fv N f = .sl b0 0 2 1 c) (hs:wF A fid z m .ro .ro .ro c c1 c2 P Q l)
  (h0:(b0,Blk.vs md [.sl b1 0 m z c1,.sl b2 0 m z c2])∈L) (h1:(b1,Blk.sc m1 (m*z) (ia P))∈L) (h2:(b2,Blk.sc m2 (m*z) (ia Q))∈L) (hne:b1 ≠ b2) (k:∀ v own n',Rw z l v own→WO A N rest (upd f d v) n' (own++L) K Zp):WO A N (⟨some d,none,.h (.callq x [y])⟩::rest) f n L K Zp:=fun σ h=>by
 obtain ⟨v,B,σ',e1,e2,e3⟩:=qN (q0:=true) hs h0 h1 h2 hne h
 obtain ⟨ex,f',σ2,n2,L2,e4,e5,e6⟩:=k v [(n,B)] (n+1) e2 σ' e3
 refine ⟨ex,f',σ2,n2,L2,?_,e5,e6⟩
 rw [← e4]
 simp only [Ww,XA,Xk,YJ,Y7,hf,List.map_cons,List.map_nil,hy,e1,Option.map_some,JE]
 rfl
end
end Go.Am
namespace Go.Proofs.YtlkighkfkdpncaaGreat
open Go Go.Am
theorem grow_rt (n:Int) (h:0 < n∧n≤1000000):RtR AM 126 2 [.snil,.s (.int .i64 n)] [] [] []:=by
 refine .inr ⟨0,0,fun _=>0,rfl,fun i h=>absurd (show i < 0 from h) (by omega),0,[.sc .grow 0 (ia fun _=>0)],?_,Nat.zero_le _,rfl,trivial⟩
 rw [Qm (pf:=Rk) rfl _ _ rfl]
 simp only [Rk,if_pos h]
 rfl
theorem rB {md m1 m2:Md} {c c1 c2:Cp} (P Q:Nat→Int) (la lb:List Int) (ha:la.length = 8) (hb:lb.length = 8) (hP:∀ i,i < la.length→P i = la.getD i 0) (hQ:∀ i,i < lb.length→Q i = lb.getD i 0):WR AM 102 [.sl 0 0 2 1 c] [.vs md [.sl 1 0 4 2 c1,.sl 2 0 4 2 c2],.sc m1 (4*2) (ia P),.sc m2 (4*2) (ia Q)] (fun v _ L'=>∃ own L0,Rw 2 (la++lb) v own∧Dr own L' L0∧(0,Blk.vs md [.sl 1 0 4 2 c1,.sl 2 0 4 2 c2])∈L0∧(1,Blk.sc m1 (4*2) (ia P))∈L0∧(2,Blk.sc m2 (4*2) (ia Q))∈L0):=by
 refine YI (a:=a102) rfl rfl (YH _) (ZP rfl) (m:=3) rfl (Zd (Yp rfl (Ze (Yp rfl (Yb (Yd (Zd (Zm rfl (QR rfl (Yp rfl (Yb (Yj (Uf (Zd (Yq (r:=.bool true) rfl rfl rfl (Yb (Yd (Zz rfl (Yg (Yd (Yj (Zd (T2 rfl rfl (by decide) (UX (v:=.sl 1 0 4 2 c1) rfl rfl ZL rfl (Zm rfl (Ze (Zi rfl (Zm rfl (QR rfl ?_)))))))))))))))))))))))))))))
 refine WZ rfl rfl (by decide) (Zi rfl (Ze (Zi rfl (Yq (r:=.bool false) rfl rfl rfl (Yb (ZA rfl (Yg (Ye (WZ rfl rfl (by decide) (Zi rfl (Yb (Uf (Zd (Yq (r:=.bool true) rfl rfl rfl (Yb (Yd (Zz rfl (Yg (Yd (Yj (Zd (T2 rfl rfl (by decide) (UX (v:=.sl 2 0 4 2 c2) rfl rfl ZL rfl (Zm rfl (Ze (Zi rfl (Zm rfl (QR rfl (WZ rfl rfl (by decide) ?_)))))))))))))))))))))))))))))
 refine Zi rfl (Ze (Zi rfl (Yq (r:=.bool false) rfl rfl rfl (Yb (ZA rfl (Yg (Ye (WZ rfl rfl (by decide) (Zi rfl (Yb (Uf (Zd (Yq (r:=.bool false) rfl rfl rfl (Yb (Yd (ZA rfl (YZ (Xc (Zd (Zi rfl (YD rfl (grow_rt _ (by decide)) rfl rfl (fun v1 own1 n1 hr1=>Yp (v:=v1) rfl (Yb (Yd (Zd (Zm rfl (QR rfl (Yp rfl (Yb ?_)))))))))))))))))))))))))))))
 refine Yj (Uf (Zd (Yq (r:=.bool true) rfl rfl rfl (Yb (Yd (Zz rfl (Yg (Yd (Yj (Zd (T2 rfl rfl (by decide) (UX (v:=.sl 1 0 4 2 c1) rfl rfl (List.mem_append_right _ ZL) rfl (Zm rfl (Yb (Ye (Yp (v:=v1) rfl (Zm rfl (TQ rfl hr1 rfl (Rx.row (l:=la) (by rw [ha]) hP) (KG (List.mem_append_right _ ZM)) .here (by decide) (by simp only [List.length_append,List.length_nil,ha,hb]; omega) (fun v2 own2 n2 hr2=>Yp (v:=v2) rfl (Yb (Ye (WZ rfl rfl (by decide) (Zi rfl (Yb (Uf (Zd (Yq (r:=.bool true) rfl rfl rfl (Yb (Yd ?_)))))))))))))))))))))))))))))
 refine Zz rfl (Yg (Yd (Yj (Zd (T2 rfl rfl (by decide) (UX (v:=.sl 2 0 4 2 c2) rfl rfl (List.mem_append_right _ ZL) rfl (Zm rfl (Yb (Ye (Yp (v:=v2) rfl (Zm rfl (TQ rfl hr2 rfl (Rx.row (l:=lb) (by rw [hb]) hQ) (KG (List.mem_append_right _ ZN)) .here (by decide) (by simp only [List.length_append,List.length_nil,ha,hb]; omega) (fun v3 own3 n3 hr3=>Yp (v:=v3) rfl (Yb (Ye (WZ rfl rfl (by decide) (Zi rfl (Yb (Uf (Zd (Yq (r:=.bool false) rfl rfl rfl (Yb (Yd (ZA rfl (YZ (Xc (Zd (Yp (v:=v3) rfl (Yp (v:=v3) rfl ?_)))))))))))))))))))))))))))))
 refine Yb (Yh (⟨_,YK (v:=v3) rfl (YS),?_⟩))
 refine ⟨_,_,hr3,.here,?_,?_,?_⟩
 ·exact ZL
 ·exact ZM
 ·exact ZN
theorem uJ {md m1 m2:Md} {c c1 c2:Cp} (P Q:Nat→Int) (la lb:List Int) (ha:la.length = 8) (hb:lb.length = 8) (hP:∀ i,i < la.length→P i = la.getD i 0) (hQ:∀ i,i < lb.length→Q i = lb.getD i 0):wF AM 102 2 4 md m1 m2 c c1 c2 P Q (la++lb):=by
 obtain ⟨v,σ',n',L',h1,h2,own,L0,hr,hd,e0,e1,e2⟩:=rB (md:=md) (m1:=m1) (m2:=m2) (c:=c) (c1:=c1) (c2:=c2) P Q la lb ha hb hP hQ
 have hge:=hd.ge (Bs:=[.vs md [.sl 1 0 4 2 c1,.sl 2 0 4 2 c2],.sc m1 (4*2) (ia P),.sc m2 (4*2) (ia Q)]) h2 (fun p hp=>by
  rcases List.mem_cons.1 hp with rfl | hp
  ·exact e0
  ·rcases List.mem_cons.1 hp with rfl | hp
   ·exact e1
   ·rcases List.mem_cons.1 hp with rfl | hp
    ·exact e2
    ·cases hp)
 have hm:=fun p hp=>h2.2.mem (hd.mem p hp)
 have m0:=fun {b B} h=>(h2.2.mem (b:=b) (B:=B) (hd.sub.subset h)).2
 cases hr with
 | nil h=>have:=congrArg List.length h; rw [List.length_append,ha,hb] at this; cases this
 | row hl hF=>exact ⟨_,_,_,_,σ',h1,hge _ ZL,hl,hF,(hm _ ZL).2,m0 e0,m0 e1,m0 e2⟩
theorem jS:∃ P:Nat→Int,RF AM 98 [] (.agg 8 (ia P))∧∀ i,i < 8→P i = (X7 straightL).getD i 0:=by
 obtain ⟨v,σ',n',L',h1,h2,P,rfl,hP⟩:=q8
 exact ⟨P,⟨σ',h1⟩,hP⟩
theorem sT:∃ P:Nat→Int,RF AM 99 [] (.agg 8 (ia P))∧∀ i,i < 8→P i = (X7 slantL).getD i 0:=by
 obtain ⟨v,σ',n',L',h1,h2,P,rfl,hP⟩:=uO
 exact ⟨P,⟨σ',h1⟩,hP⟩
theorem rN:∃ P:Nat→Int,RF AM 101 [] (.agg 16 (ia P))∧∀ i,i < 16→P i = (X7 jumpL).getD i 0:=by
 obtain ⟨v,σ',n',L',h1,h2,P,rfl,hP⟩:=tn
 exact ⟨P,⟨σ',h1⟩,hP⟩
theorem Jj {m:Nat} {S:Nat→Int} {l:List Int} (hl:l.length = m) (h:∀ i,i < m→S i = l.getD i 0):∀ i,i < l.length→ovA (fun _=>0) 0 m S i = l.getD i 0:=fun i hi=>by
 rw [XR (by omega),Nat.sub_zero]; exact h i (by omega)
theorem rU (on:Int):∀ i,i < (X7 [(-1,on),(1,on)]).length→ovA (ovA (fun _=>0) (0*2) 2 (ov (ov (fun _=>0) 0 (-1)) 1 on)) (1*2) 2 (ov (ov (fun _=>0) 0 1) 1 on) i = (X7 [(-1,on),(1,on)]).getD i 0
 | 0,_=>rfl
 | 1,_=>rfl
 | 2,_=>rfl
 | 3,_=>rfl
 | i+4,h=>absurd (show i+4 < 4 from h) (by omega)
section
variable {P:Nat→Int} {s:Int} (hc:P (sqI s+1) = 0∨P (sqI s+1) = 1)
include hc
theorem tM (hk:P (sqI s) = 1):XY P s = XP s [(-1,1 - 2*P (sqI s+1)),(1,1 - 2*P (sqI s+1))]:=by
 unfold XY VV
 rw [if_pos hc,hk]; rfl
theorem sF (hk:P (sqI s) = 2):XY P s = XP s jumpL:=by
 unfold XY VV
 rw [if_pos hc,hk]; rfl
theorem uZ (hk:P (sqI s) = 6):XY P s = XP s (straightL++slantL):=by
 unfold XY VV
 rw [if_pos hc,hk]; rfl
theorem te (hk:P (sqI s) = 4):XY P s = XS P s straightL:=by
 unfold XY VV
 rw [if_pos hc,hk]; rfl
theorem th (hk:P (sqI s) = 3):XY P s = XS P s slantL:=by
 unfold XY VV
 rw [if_pos hc,hk]; rfl
theorem tD (hk:P (sqI s) = 5):XY P s = XS P s (straightL++slantL):=by
 unfold XY VV
 rw [if_pos hc,hk]; rfl
theorem sn (h1:¬ P (sqI s) = 1) (h2:¬ P (sqI s) = 2) (h3:¬ P (sqI s) = 3) (h4:¬ P (sqI s) = 4) (h5:¬ P (sqI s) = 5) (h6:¬ P (sqI s) = 6):XY P s = []:=by
 unfold XY VV
 rw [if_pos hc,if_neg h1,if_neg h2,if_neg h6,if_neg h4,if_neg h3,if_neg h5]
end
theorem rQ {P:Nat→Int} {s:Int} (hc:¬ (P (sqI s+1) = 0∨P (sqI s+1) = 1)):XY P s = []:=if_neg hc
end Go.Proofs.YtlkighkfkdpncaaGreat
namespace Go.Am
open Go
theorem xB {A:AP} {N:Nat} {f:FE} {n:Nat} {L:HA} {K:KN} {Zp:V→KN} {l:List I} {d:Nat} {x y:O} {b o m z b' o' m' z':Nat} {c c':Cp} (hx:x.fv N f = .sl b o m z c) (hy:y.fv N f = .sl b' o' m' z' c') (k:WO A N l (upd f d (.sl n 0 2 1 (.ex 2))) (n+1) ((n,.vs .var [.sl b o m z c,.sl b' o' m' z' c'])::L) K Zp):WO A N (⟨some d,none,.h (.mksl 2 1 (.one .snil) [(0,x),(1,y)])⟩::l) f n L K Zp :=
 Wj (v:=.sl n 0 2 1 (.ex 2)) (fun σ hσ=>⟨σ++[.vs .var [.sl b o m z c,.sl b' o' m' z' c']],by
  simp only [YJ,Z.row,VB,List.map_cons,List.map_nil,U5,Y7,hx,hy,hσ.1]
  rfl,hσ.new _⟩) k
end Go.Am
namespace Go.Proofs.YtlkighkfkdpncaaGreat
open Go Go.Am
theorem xf (P:Nat→Int) (s:Int) (hs:0≤s∧s < 64):RtR AM 74 1 [.agg 133 (ia P),.s (.int .i64 s)] [] (XY P s) []:=by
 refine W7 (YI (a:=a74) rfl rfl (YH _) (ZP rfl) (m:=0) rfl (Zd (YB rfl (Yp rfl (Ze (Zi rfl (Zx rfl (Zx rfl (Zv rfl rfl rfl (Yo rfl rfl ZL (Yx (Yy rfl rfl rfl rfl .here (Ze (Yp rfl (Yb (WE (fun f n L=>(P (sqI s+1) = 0∨P (sqI s+1) = 1)∧(f 1 = .s (.int .i64 s))∧(f 2 = .ptr 0 0 133)∧(f 5 = .ptr 1 0 2)∧(f 6 = .s (.int .i64 (1 - 2*P (sqI s+1))))∧(L = [(1,.sc .var 2 (ia (ovA (fun _=>0) 0 2 (dp P (0+s.toNat*2))))),(0,.sc .var 133 (ia P))])) ?_ (fun f nb L hI=>?_)))))))))))))))))
 ·refine Zd (Zy rfl (Yl (x:=P (sqI s+1)) rfl rfl ZL (rfl) (Yb (Yj (Zd (Zq rfl (Zj rfl (Yb (Yi rfl (fun h1=>?_) (fun h1=>?_)))))))))) <;> simp only [NM] at h1
  ·refine Ye (Yp rfl (Yb ?_))
   exact ⟨_,(.refl _),by omega,rfl,rfl,rfl,congrArg (fun x=>V.s (S.int .i64 x)) (by omega),rfl⟩
  ·refine Zd (Zq rfl (Zj rfl (Yb (Yi rfl (fun h2=>?_) (fun h2=>?_))))) <;> simp only [NM] at h2
   ·refine Yg ?_
    exact ⟨_,(.refl _),by omega,rfl,rfl,rfl,congrArg (fun x=>V.s (S.int .i64 x)) (by omega),rfl⟩
   ·refine Zd (Yp rfl (Yb (Yh (⟨_,YK (v:=.snil) rfl (YS),?_⟩))))
    exact ⟨[],.nil (rQ (by omega)),fun _ h=>by cases h⟩
 ·obtain ⟨hc,k1,k2,k5,k6,rfl⟩:=hI
  refine pH 1 k1 (pH 2 k2 (pH 5 k5 (pH 6 k6 (Zd ?_))))
  obtain ⟨S1,hR1,hS1⟩:=jS
  obtain ⟨S2,hR2,hS2⟩:=sT
  refine Ys rfl (hR1) rfl rfl rfl (Ys rfl (hR2) rfl rfl rfl (Yx (Yx (Yy rfl rfl rfl rfl (.there .here) (Yy rfl rfl rfl rfl .here (Yb (Yd (Zd (Zx rfl (Yl (x:=P (sqI s)) rfl rfl ZN (rfl) (Yb (Yj (Zd (Zq rfl (Zj rfl (Yb (Yi rfl (fun h3=>?_) (fun h3=>?_)))))))))))))))))) <;> simp only [NM] at h3
  ·refine Zd (Zi rfl (Zi rfl (YA rfl (.one rfl (.one rfl .nil)) (Zi rfl (YA rfl (.one rfl (.one rfl .nil)) (Wm rfl (.agg rfl (.agg rfl .nil)) (Uy (caps:=[]) rfl (yN s [(-1,1 - 2*P (sqI s+1)),(1,1 - 2*P (sqI s+1))] (YE rfl)) rfl (Rx.row (l:=X7 [(-1,1 - 2*P (sqI s+1)),(1,1 - 2*P (sqI s+1))]) rfl (rU _)) (KG ZL) rfl rfl (fun v1 own1 n1 hr1=>Yp (v:=v1) rfl (Yb (Yh (⟨_,YK (v:=v1) rfl (YS),?_⟩)))))))))))
   exact ⟨_,(tM hc (by assumption)).symm ▸ hr1,(fun _ h=>(List.mem_append_left _ h))⟩
  ·refine Zd (Zq rfl (Zj rfl (Yb (Yi rfl (fun h4=>?_) (fun h4=>?_))))) <;> simp only [NM] at h4
   ·refine Zd ?_
    obtain ⟨S3,hR3,hS3⟩:=rN
    refine Ys rfl (hR3) rfl rfl rfl (Yx (Yy rfl rfl rfl rfl .here (Ze (Zi rfl (Q6 rfl rfl (by decide) (Uy (caps:=[]) rfl (yN s jumpL (YE rfl)) rfl (Rx.row (l:=X7 jumpL) rfl (Jj rfl hS3)) (KG ZL) rfl rfl (fun v2 own2 n2 hr2=>Yp (v:=v2) rfl (Yb (Yh (⟨_,YK (v:=v2) rfl (YS),?_⟩))))))))))
    exact ⟨_,(sF hc (by assumption)).symm ▸ hr2,(fun _ h=>(List.mem_append_left _ h))⟩
   ·refine Zd (Zq rfl (Zj rfl (Yb (Yi rfl (fun h5=>?_) (fun h5=>?_))))) <;> simp only [NM] at h5
    ·refine Yd (Yf (Zi rfl (Q6 rfl rfl (by decide) (Q6 rfl rfl (by decide) (xB rfl rfl (WO_cat (z:=2) (m:=4) rfl rfl (uJ _ _ (X7 straightL) (X7 slantL) rfl rfl (Jj rfl hS1) (Jj rfl hS2)) ZL ZN ZM (by omega) (fun v3 own3 n3 hr3=>Uy (caps:=[]) rfl (yN s (straightL++slantL) (YE rfl)) rfl (hr3.rx) (fun _ h=>(List.mem_append_left _ h)) rfl rfl (fun v4 own4 n4 hr4=>Yp (v:=v4) rfl (Yb (Yh (⟨_,YK (v:=v4) rfl (YS),?_⟩)))))))))))
     exact ⟨_,(uZ hc (by assumption)).symm ▸ hr4,(fun _ h=>(List.mem_append_left _ h))⟩
    ·refine Zd (Zq rfl (Zj rfl (Yb (Yi rfl (fun h6=>?_) (fun h6=>?_))))) <;> simp only [NM] at h6
     ·refine Yd (Yf (Yn rfl rfl ZO (Zi rfl (Q6 rfl rfl (by decide) (Uy (caps:=[]) rfl (D0 P s straightL (by decide) (by decide)) rfl (Rx.row (l:=X7 straightL) rfl (Jj rfl hS1)) (KG ZM) rfl rfl (fun v5 own5 n5 hr5=>Yp (v:=v5) rfl (Yb (Yh (⟨_,YK (v:=v5) rfl (YS),?_⟩)))))))))
      exact ⟨_,(te hc (by assumption)).symm ▸ hr5,(fun _ h=>(List.mem_append_left _ h))⟩
     ·refine Zd (Zq rfl (Zj rfl (Yb (Yi rfl (fun h7=>?_) (fun h7=>?_))))) <;> simp only [NM] at h7
      ·refine Yd (Yf (Yn rfl rfl ZO (Zi rfl (Q6 rfl rfl (by decide) (Uy (caps:=[]) rfl (D0 P s slantL (by decide) (by decide)) rfl (Rx.row (l:=X7 slantL) rfl (Jj rfl hS2)) (KG ZL) rfl rfl (fun v6 own6 n6 hr6=>Yp (v:=v6) rfl (Yb (Yh (⟨_,YK (v:=v6) rfl (YS),?_⟩)))))))))
       exact ⟨_,(th hc (by assumption)).symm ▸ hr6,(fun _ h=>(List.mem_append_left _ h))⟩
      ·refine Zd (Zq rfl (Zj rfl (Yb (Yi rfl (fun h8=>?_) (fun h8=>?_))))) <;> simp only [NM] at h8
       ·refine Yd (Yf (Yn rfl rfl ZO (Zi rfl (Q6 rfl rfl (by decide) (Q6 rfl rfl (by decide) (xB rfl rfl (WO_catq (z:=2) (m:=4) rfl rfl (uJ _ _ (X7 straightL) (X7 slantL) rfl rfl (Jj rfl hS1) (Jj rfl hS2)) ZL ZN ZM (by omega) (fun v7 own7 n7 hr7=>Uy (caps:=[]) rfl (D0 P s (straightL++slantL) (by decide) (by decide)) rfl (hr7.rx) (fun _ h=>(List.mem_append_left _ h)) rfl rfl (fun v8 own8 n8 hr8=>Yp (v:=v8) rfl (Yb (Yh (⟨_,YK (v:=v8) rfl (YS),?_⟩))))))))))))
        exact ⟨_,(tD hc (by assumption)).symm ▸ hr8,(fun _ h=>(List.mem_append_left _ h))⟩
       ·refine Yg (Zd (Yp rfl (Yb (Yh (⟨_,YK (v:=.snil) rfl (YS),?_⟩)))))
        exact ⟨[],.nil (sn hc (by assumption) (by assumption) (by assumption) (by assumption) (by assumption) (by assumption)),fun _ h=>by cases h⟩
theorem xR {F:Nat→Int} {l:List Int} {m:Nat} (hl:l.length = m) (hF:∀ i,i < l.length→F i = l.getD i 0):XK (ia F) m = l:=by
 unfold XK
 refine List.ext_getElem (by simp [hl]) fun i h1 h2=>?_
 rw [List.getElem_map,List.getElem_range]
 show F i = _
 rw [hF i h2,List.getD_eq_getElem?_getD,List.getElem?_eq_getElem h2]; rfl
theorem allI {F:Nat→Int} (m:Nat):Xi m (fun i=>Vy (ia F i)) = true:=allB_true (fun _=>rfl) m
theorem kH (l:List Int) (F:Nat→Int):TO l (ia F) = ia (fun i=>bif Nat.blt i l.length then l.getD i 0 else F i):=by
 funext i
 unfold TO
 show _ = S.int .i64 (bif Nat.blt i l.length then l.getD i 0 else F i)
 cases Nat.blt i l.length <;> rfl
theorem tK {l:List Int} {F:Nat→Int}:∀ i,i < l.length→(bif Nat.blt i l.length then l.getD i 0 else F i) = l.getD i 0:=fun i hi=>by
 rw [show Nat.blt i l.length = true from Nat.ble_eq_true_of_le hi]; rfl
theorem sort_st (l:List Int) (hlen:l.length≤1000000):StR AM 131 1 [] [] l (QW l):=by
 refine ⟨(Qs l).length_eq,fun _=>⟨[],?_,trivial⟩,fun m q F hl hF=>⟨_,tK (F:=F),[_],?_,rfl,⟨_,_,_,rfl⟩,trivial⟩⟩
 ·rw [Qm (pf:=Ro) rfl _ _ rfl]; rfl
 ·rw [Qm (pf:=Ro) rfl _ _ rfl]
  have hl':l.length = m:=by rw [hl,Nat.mul_one]
  have hlt:Nat.blt m 4611686018427387904 = true:=Nat.ble_eq_true_of_le (by omega)
  show (bif Xi m (fun i=>Vy (ia F i)) && Nat.blt m 4611686018427387904 then some (V.tup [],[Blk.sc .grow q (TO (QW (XK (ia F) m)) (ia F))]) else none) = _
  rw [allI,hlt,xR hl' hF,kH]; rfl
theorem rA (P:Nat→Int) (s:Int) (l:List (Int × Int)) (h:l.length≤8):(XS P s l).length≤64:=Nat.le_trans (Es P s l) (by omega)
theorem Ez (P:Nat→Int) (s:Int):(XY P s).length≤64:=by
 have h1:=fun l=>JY s l
 unfold XY VV
 repeat' split
 all_goals first
  | exact rA P s _ (by decide)
  | exact Nat.le_trans (JY s _) (by decide)
  | exact Nat.le_trans (JY s _) (YE rfl)
  | exact Nat.zero_le _
theorem KU {P Q:Nat→Int} (h:∀ i,i < 133→Q i = P i) {t:Int} (ht:0≤t∧t < 64):YP Q t = YP P t:=J0 ht fun i hi=>h i (by omega)
theorem Zah {P Q:Nat→Int} (h:∀ i,i < 133→Q i = P i):∀ {l:List Int},(∀ t∈l,0≤t∧t < 64)→VL Q l = VL P l
 | [],_=>rfl
 | t::l,hl=>by
  unfold VL
  rw [KU h (hl t ZL),Zah h fun u hu=>hl u (.tail _ hu)]
theorem vX {P Q:Nat→Int} (h:∀ i,i < 133→Q i = P i) (s:Int) (l:List (Int × Int)):XS Q s l = XS P s l:=by
 unfold XS
 exact congrArg (fun f=>l.flatMap f) (funext fun w=>Zah h fun t ht=>zX ht)
theorem Ec {P Q:Nat→Int} (h:∀ i,i < 133→Q i = P i) {s:Int} (hs:0≤s∧s < 64):XY Q s = XY P s:=by
 have hq:sqI s = 0+s.toNat*2:=rfl
 unfold XY VV
 rw [h (sqI s) (by omega),h (sqI s+1) (by omega)]
 simp only [vX h]
theorem ke (P:Nat→Int) (s:Int):RtR AM 114 1 [.agg 133 (ia P),.s (.int .i64 s)] [] (Wb P s) []:=by
 refine W7 (YI (a:=a114) rfl rfl (YH _) (ZP rfl) (m:=0) rfl (Zd (YB rfl (Yp rfl (Yb (Yd (Zd (Zi rfl (Ys rfl (Ju _) rfl rfl rfl (Yu (r:=.bool _) rfl rfl (Yb (Yi rfl (fun h1=>?_) (fun h1=>?_))))))))))))) <;> simp only [NM] at h1
 ·try simp only [isM,decide_eq_true_eq,decide_eq_false_iff_not] at h1
  refine Zd (Yp rfl (Yb (Yh (⟨_,YK (v:=.snil) rfl (YS),?_⟩))))
  have e:Wb P s = []:=if_neg (by assumption)
  exact ⟨[],.nil e,fun _ h=>by cases h⟩
 ·try simp only [isM,decide_eq_true_eq,decide_eq_false_iff_not] at h1
  refine Yg (Zd (Yn rfl rfl ZL (YA (Q:=ovA (fun _=>0) 0 133 P) rfl (.agg rfl .nil) (Zi rfl ?_))))
  have hcut:∀ i,i < 133→ovA (fun _=>0) 0 133 P i = P i:=fun i hi=>by rw [XR (by omega),Nat.sub_zero]
  have hfrom:=Ec hcut (by omega) ▸ xf (ovA (fun _=>0) 0 133 P) s (by omega)
  refine YD rfl (hfrom) rfl rfl (fun v1 own1 n1 hr1=>Yp (v:=v1) rfl (Ze (Yp (v:=v1) rfl (wg (caps:=[]) rfl (sort_st (XY P s) (Nat.le_trans (Ez P s) (by decide))) rfl hr1 .here rfl rfl (fun own2 hr2=>Ze (Yp (v:=v1) rfl (Yp (v:=v1) rfl (Yb (Yh (⟨_,YK (v:=v1) rfl (YS),?_⟩))))))))))
  have e:Wb P s = QW (XY P s):=if_pos (by assumption)
  exact ⟨_,e ▸ hr2,(fun _ h=>(List.mem_append_left _ h))⟩
end Go.Proofs.YtlkighkfkdpncaaGreat
