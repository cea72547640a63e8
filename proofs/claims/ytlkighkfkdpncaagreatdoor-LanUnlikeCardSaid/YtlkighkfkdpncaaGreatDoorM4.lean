/- Texts of this seat, joined. -/
import Derived.Test.YtlkighkfkdpncaaGreatDoorM3
set_option linter.unusedSimpArgs false
set_option linter.unusedVariables false
namespace Go.Proofs.YtlkighkfkdpncaaGreatDoor
open Go Go.Am
theorem Dq {P:Nat->Int} {a t b:Int} (h:Wf P a t b=0):((0<=a/\a < 64)/\(0<=t/\t < 64)/\a≠t)/\XH P a t b=true:=by
 unfold Wf at h
 split at h
 ·rename_i h1
  split at h
  ·rename_i h2; exact ⟨h1,h2⟩
  omega
 omega
theorem D3 {P:Nat->Int} {a t b:Int} (h:XH P a t b=true):P (sqI a+1)=0\/P (sqI a+1)=1:=(of_decide_eq_true h).2.2.2.1
theorem Rh:ovA (fun _=>0) 0 133 (fun _=>0)=(fun _=>0:Nat->Int):=by
 funext i
 by_cases h:i < 133
 ·rw [X1 (by omega)]
 rw [WV (by omega)]
theorem UX {Q:Nat->Int} (h:∀ i,133<=i->Q i=0):ovA (fun _=>0) 0 133 Q=Q:=by
 funext i
 by_cases hi:i < 133
 ·rw [X1 (by omega),Nat.sub_zero]
 rw [WV (by omega),h i (by omega)]
theorem yS {P:Nat->Int} {k c a t b C:Int} {i:Nat} (hi:133<=i):Uv P k c a t b C i=0:=by
 unfold Uv
 rw [Za7 (by omega),Za7 (by omega),Za7 (by omega),Za7 (by omega),Za7 (by omega),Za7 (by omega)]
theorem UF {P:Nat->Int} {a t b:Int} {i:Nat} (hi:133<=i):Xq P a t b i=0:=by
 unfold Xq
 split
 ·exact yS hi
 rfl
theorem gh {P Q:Nat->Int} {w a t k c b g:Int} (h:∀ i,i < 128->P i=Q i):∀ i,i < 128->V0 P w a t k c b g i=V0 Q w a t k c b g i:=by
 have h1:∀ i,i < 128->DW P w i=DW Q w i:=by
  unfold DW
  split
  ·exact UP h fun _ _=>rfl
  exact h
 have h3:∀ i,i < 128->Es P w a t k c b i=Es Q w a t k c b i:=UP (UP h1 fun _ _=>rfl) fun _ _=>rfl
 unfold V0
 split
 ·exact UP (UP h3 fun _ _=>rfl) fun _ _=>rfl
 split
 ·exact UP (UP h3 fun _ _=>rfl) fun _ _=>rfl
 exact h3
theorem vR {P Q:Nat->Int} {k c a t b C:Int} (ha:0<=a/\a < 64) (ht:0<=t/\t < 64) (h:∀ i,i < 133->i≠129->P i=Q i):Uv P k c a t b C=Uv Q k c a t b C:=by
 funext i
 have ht2:Y7 P k a t=Y7 Q k a t:=zN ha ht (fun i hi=>h i (by omega) (by omega)) (h 130 (by omega) (by omega))
 unfold Uv
 rw [ht2]
 by_cases h1:i < 128
 ·rw [Za8 h1,Za8 h1]
  exact gh (fun i hi=>h i (by omega) (by omega)) i h1
 rw [Za7 h1,Za7 h1,h 128 (by omega) (by omega)]
 have hh:Uo P k (Y7 Q k a t)=Uo Q k (Y7 Q k a t):=by unfold Uo; rw [h 131 (by omega) (by omega)]
 have hf:QY P=QY Q:=by unfold QY; rw [h 128 (by omega) (by omega),h 132 (by omega) (by omega)]
 rw [hh,hf]
theorem HandOf.all {P m H:Nat->Int} (h:HandOf P m H):∀ i,i < 133->i≠129->H i=P i:=fun i hi hn=>by
 by_cases hl:i < 129
 ·exact h.lo i hl
 exact h.hi i (by omega) hi
theorem ti {P m H:Nat->Int} (h:HandOf P m H) (he:Wf P (m 0) (m 1) (m 2)=0):ovA (fun _=>0) 0 133 (Uv H (H 136) (H 137) (H 133) (H 134) (H 135) (H 129))=Xq P (m 0) (m 1) (m 2):=by
 have ⟨hs,_⟩:=Dq he
 rw [UX (fun i hi=>yS hi),h.a,h.t,h.b,h.k,h.s,h.c,Xq,Za8 he]
 exact vR hs.1 hs.2.1 h.all
theorem kz (P m:Nat->Int):(Wf P (m 0) (m 1) (m 2)≠0/\RF AM 47 [.agg 133 (ia P),.agg 3 (ia m)] (.tup [.pnil,.s (.int .i64 (Wf P (m 0) (m 1) (m 2)))])) \/
  (Wf P (m 0) (m 1) (m 2)=0/\∃ H,HandOf P m H/\RN AM 47 [.agg 133 (ia P),.agg 3 (ia m)] [] (fun b=>.tup [.ptr b 0 138,.s (.int .i64 0)]) (.sc .var 138 (ia H)) []):=by
 obtain ⟨v,σ',n',L',h1,h2,h3⟩:=sA P m
 rcases h3 with ⟨rfl,he⟩ | ⟨he,b,H,rfl,hH,hm⟩
 ·exact .inl ⟨he,σ',h1⟩
 rw [he] at h1
 exact .inr ⟨he,H,hH,b,σ',h1,Zbt _,(h2.2.mem hm).2,trivial⟩
theorem made_ex {P m H:Nat->Int} (h:HandOf P m H) (he:Wf P (m 0) (m 1) (m 2)=0):∃ J,RB AM 50 [.ptr 0 0 138] [.sc .var 138 (ia H)] (.agg 133 (ia (Uv H (H 136) (H 137) (H 133) (H 134) (H 135) (H 129)))) [.sc .var 138 (ia J)]:=by
 have ⟨hs,hc⟩:=Dq he
 obtain ⟨v,σ',n',L',h1,h2,J,rfl,hm⟩:=gP H (by rw [h.a]; exact hs.1) (by rw [h.t]; exact hs.2.1) (by rw [h.s]; exact D3 hc) (by rw [h.c]; exact TK P)
 exact ⟨J,σ',h1,(h2.2.mem hm).2,⟨_,_,_,rfl⟩,trivial⟩
theorem tt {P m H:Nat->Int} (h:HandOf P m H) (he:Wf P (m 0) (m 1) (m 2)=0):RB AM 48 [.ptr 0 0 138] [.sc .var 138 (ia H)] (.s (.int .i64 (Y7 P (P (sqI (m 0))) (m 0) (m 1)))) [.sc .var 138 (ia H)]:=by
 have ⟨hs,hc⟩:=Dq he
 have hr:=UU (qp (md:=.var) H (by rw [h.a]; exact hs.1) (by rw [h.t]; exact hs.2.1))
 rw [h.a,h.t,h.k,zN hs.1 hs.2.1 (fun i hi=>h.lo i (by omega)) (h.hi 130 (by omega) (by omega))] at hr
 exact hr
theorem wS (P m:Nat->Int):WR AM 23 [.agg 133 (ia P),.agg 3 (ia m)] [] (fun v _ _=>v=.tup [.agg 133 (ia (Xq P (m 0) (m 1) (m 2))),.s (.int .i64 (Wf P (m 0) (m 1) (m 2)))]):=by
 refine YJ (a:=a23) rfl rfl (YI _) (ZQ rfl) (m:=0) rfl (Ze (YC rfl (YC rfl (Yy (Yq rfl (Zf (Yo rfl rfl ZO (Yo rfl rfl ZN ?_))))))))
 rcases kz P m with ⟨he,hT⟩ | ⟨he,H,hH,hT⟩
 ·refine Yt rfl (hT) rfl rfl rfl (Zo rfl (YD (v:=.pnil) rfl rfl (YD (v:=.s (.int _ _)) rfl rfl (Yq (v:=.pnil) rfl (Zj rfl (Yc (Ye (Ze (Zj rfl (Zr rfl (Yc (Yj rfl (fun h1=>?_) (fun h1=>?_))))))))))))) <;> simp only [NM] at h1
  ·refine Ze (YB rfl .nil (Zj rfl (Yz rfl rfl rfl rfl .here (Zj rfl (Yc (Yi (⟨_,X9 rfl rfl ZM (ZL rfl),?_⟩)))))))
   rw [Xq,Za7 he]
   exact congrArg (fun g=>V.tup [V.agg 133 (ia g),V.s (.int .i64 (Wf P (m 0) (m 1) (m 2)))]) Rh
  exfalso; first | omega | (simp at h1)
 refine Rz (mk:=fun b=>.tup [.ptr b 0 138,.s (.int .i64 0)]) (rs:=[]) (Bs:=[]) kK rfl hT rfl rfl (YF rfl) (fun _ h=>h) rfl trivial rfl rfl .nil (Zo rfl (YD (v:=.ptr _ _ _) rfl rfl (YD (v:=.s (.int _ _)) rfl rfl (Zl rfl (Zj rfl (Yc (Ye (Ze (Zj rfl (Zr rfl (Yc (Yj rfl (fun h2=>?_) (fun h2=>?_))))))))))))) <;> simp only [NM] at h2
 ·exfalso; first | omega | (simp at h2)
 refine Yh (Ze (Zl rfl ?_))
 obtain ⟨J,hJ⟩:=made_ex hH he
 refine Q9 rfl (hJ) rfl rfl rfl .here (Yz rfl rfl rfl rfl (.there .here) (Yq rfl (Yc (Yi (⟨_,X9 rfl rfl ZN (ZL rfl),?_⟩)))))
 rw [he,<- ti hH he]
 rfl
theorem tL (P m:Nat->Int):WR AM 21 [.agg 133 (ia P),.agg 3 (ia m)] [] (fun v _ _=>v=.s (.int .i64 (if Wf P (m 0) (m 1) (m 2)=0 then Y7 P (P (sqI (m 0))) (m 0) (m 1) else -1))):=by
 refine YJ (a:=a21) rfl rfl (YI _) (ZQ rfl) (m:=0) rfl (Ze (YC rfl (YC rfl (Yq rfl (Zf (Yo rfl rfl ZN (Yo rfl rfl ZM ?_)))))))
 rcases kz P m with ⟨he,hT⟩ | ⟨he,H,hH,hT⟩
 ·refine Yt rfl (hT) rfl rfl rfl (Zo rfl (YD (v:=.pnil) rfl rfl (YD (v:=.s (.int _ _)) rfl rfl (Yq (v:=.pnil) rfl (Zj rfl (Yc (Ye (Ze (Zj rfl (Zr rfl (Yc (Yj rfl (fun h3=>?_) (fun h3=>?_))))))))))))) <;> simp only [NM] at h3
  ·refine Ze (Yq rfl (Yc (Yi (⟨_,ZL rfl,?_⟩))))
   rw [Za7 he]
   rfl
  exfalso; first | omega | (simp at h3)
 refine Rz (mk:=fun b=>.tup [.ptr b 0 138,.s (.int .i64 0)]) (rs:=[]) (Bs:=[]) kK rfl hT rfl rfl (YF rfl) (fun _ h=>h) rfl trivial rfl rfl .nil (Zo rfl (YD (v:=.ptr _ _ _) rfl rfl (YD (v:=.s (.int _ _)) rfl rfl (Zl rfl (Zj rfl (Yc (Ye (Ze (Zj rfl (Zr rfl (Yc (Yj rfl (fun h4=>?_) (fun h4=>?_))))))))))))) <;> simp only [NM] at h4
 ·exfalso; first | omega | (simp at h4)
 refine Yh (Ze (Zl rfl (Q9 rfl (tt hH he) rfl rfl rfl .here (Zj rfl (Yc (Yi (⟨_,ZL rfl,?_⟩)))))))
 rw [Za8 he]
 rfl
theorem qE {P m:Nat->Int} (he:Wf P (m 0) (m 1) (m 2)=0):RF AM 28 [.agg 133 (ia P),.agg 3 (ia m)] (.s (.int .i64 (Y7 P (P (sqI (m 0))) (m 0) (m 1)))):=by
 have h:=YG (tC P m)
 rw [Za8 he] at h
 exact h
theorem vB {P m:Nat->Int}:RF AM 62 [.s (.int .i64 (Vz (Vb P) (Xz (m 0)))),.s (.int .i64 (Xz (m 1)))] (.s (.int .i64 (V2 (Vb P) (orM (orM 0 (Xz (m 0))) (Xz (m 1)))))):=by
 have h:=YG (zO (Vz (Vb P) (Xz (m 0))) (Xz (m 1)) (zQ _ _) (jP _))
 rw [tB (TK P)] at h
 exact h
structure SameP (P J B:Nat->Int):Prop where
 lo:∀ i,i < 128->J i=B i
 hi:∀ i,128<=i->i < 133->J i=P i
theorem SameP.put {P J B X Y:Nat->Int} {t:Int} (j:SameP P J B) (ht:0<=t/\t < 64) (hx:∀ i,i < 2->X i=Y i):SameP P (ovA J (0+t.toNat*2) 2 X) (ovA B (sqI t) 2 Y) :=
 ⟨UP j.lo hx,fun i h1 h2=>by rw [WV (by omega)]; exact j.hi i h1 h2⟩
theorem SameP.kind {P J B X Y:Nat->Int} {t b:Int} (j:SameP P (ovA J (0+t.toNat*2) 2 X) (ovA B (sqI t) 2 X)) (ht:0<=t/\t < 64) (h0:Y 0=b) (h1:Y 1=X 1):SameP P (ov (ovA J (0+t.toNat*2) 2 X) (0+t.toNat*2+0) b) (ovA B (sqI t) 2 Y):=by
 have hsq:sqI t=0+t.toNat*2:=rfl
 refine ⟨fun i hi=>?_,fun i h1 h2=>by rw [W7 (by omega)]; exact j.hi i h1 h2⟩
 have hj:=j.lo i hi
 by_cases q:i=0+t.toNat*2+0
 ·subst q
  rw [X1 (by omega),show 0+t.toNat*2+0 - sqI t=0 from by show 0+t.toNat*2+0 - (0+t.toNat*2)=0; omega,h0]
  show (bif Nat.beq _ _ then b else _)=b
  rw [show Nat.beq (0+t.toNat*2+0) (0+t.toNat*2+0)=true from by simp]
  rfl
 rw [W7 q,hj]
 by_cases r:sqI t<=i/\i < sqI t+2
 ·have e:i - sqI t=1:=by
   have:sqI t=0+t.toNat*2:=rfl
   omega
  rw [X1 r,X1 r,e,h1]
 rw [WV (by omega),WV (by omega)]
structure DoneP (P J B:Nat->Int) (s cs ovr hf fl:Int):Prop where
 lo:∀ i,i < 128->J i=B i
 s:J 128=s
 c:J 129=cs
 o:J 130=ovr
 h:J 131=hf
 f:J 132=fl
theorem Zak {P J:Nat->Int} {k c a t b C:Int} (h:DoneP P J (V0 P (Y7 P k a t) a t k c b (Y0 k a t c C)) (Y5 (P 128)) (V2 C (orM (orM 0 (Xz a)) (Xz t))) (UN k a t c) (Uo P k (Y7 P k a t)) (QY P)):ovA (fun _=>0) 0 133 J=Uv P k c a t b C:=by
 funext i
 unfold Uv
 by_cases hi:i < 133
 ·rw [X1 (by omega),Nat.sub_zero]
  by_cases h1:i < 128
  ·rw [Za8 h1]; exact h.lo i h1
  rw [Za7 h1]
  have hc:i=128\/i=129\/i=130\/i=131\/i=132:=by omega
  rcases hc with rfl | rfl | rfl | rfl | rfl
  ·exact h.s
  ·exact h.c
  ·exact h.o
  ·exact h.h
  exact h.f
 rw [WV (by omega),Za7 (by omega),Za7 (by omega),Za7 (by omega),Za7 (by omega),Za7 (by omega),Za7 (by omega)]
theorem Kr (P m:Nat->Int):WR AM 30 [.agg 133 (ia P),.agg 3 (ia m)] [] (fun v _ _=>v=.tup [.agg 133 (ia (Xq P (m 0) (m 1) (m 2))),.s (.int .i64 (Wf P (m 0) (m 1) (m 2)))]):=by
 refine YJ (a:=a30) rfl rfl (YI _) (ZQ rfl) (m:=0) rfl (Ze (YC rfl (YC rfl (Yy (Yq rfl (Yc (Ye (Ze (Zy rfl (Ym rfl rfl ZN rfl (Yt rfl (YG (zk _)) rfl rfl rfl (Yv (r:=.bool _) rfl rfl (Zk rfl (Ys (t:=13) rfl (fun h5=>?_) (fun h5=>?_))))))))))))))) <;> simp only [NM] at h5
 ·try simp only [isM,ZaL,Zax] at h5
  refine ZE rfl (Zq rfl (Zk rfl (ZE rfl (ZC rfl (Zq rfl (Yc (ZA rfl (Ze (YB rfl .nil (Yz rfl rfl rfl rfl .here (Yq rfl (Yc (Yi (⟨_,X9 rfl rfl ZM (ZL rfl),?_⟩))))))))))))))
  have h6:=UK (P:=P) (a:=m 0) (t:=m 1) (b:=m 2) (by omega)
  rw [Xq,h6,Za7 (by decide)]
  exact congrArg (fun g=>V.tup [V.agg 133 (ia g),V.s (.int .i64 6)]) Rh
 try simp only [isM,ZaL,Zax] at h5
 refine Yb rfl (Zz rfl (Yb rfl (Ym rfl rfl ZN rfl (Yb rfl (Yt rfl (YG (zk _)) rfl rfl rfl (Yb rfl (Yv (r:=.bool _) rfl rfl (Zq rfl (Zk rfl (Ys (t:=19) rfl (fun h6=>?_) (fun h6=>?_))))))))))) <;> simp only [NM] at h6
 ·try simp only [isM,ZaL,Zax] at h6
  refine ZE rfl (ZC rfl (Zq rfl (Yc (ZA rfl (Ze (YB rfl .nil (Yz rfl rfl rfl rfl .here (Yq rfl (Yc (Yi (⟨_,X9 rfl rfl ZM (ZL rfl),?_⟩)))))))))))
  have h6:=UK (P:=P) (a:=m 0) (t:=m 1) (b:=m 2) (by omega)
  rw [Xq,h6,Za7 (by decide)]
  exact congrArg (fun g=>V.tup [V.agg 133 (ia g),V.s (.int .i64 6)]) Rh
 try simp only [isM,ZaL,Zax] at h6
 refine Yb rfl (Zy rfl (Yb rfl (Ym rfl rfl ZN rfl (Yb rfl (Zz rfl (Yb rfl (Ym rfl rfl ZN rfl (Yb rfl (Zr rfl (Zq rfl (Yc (Yj rfl (fun h7=>?_) (fun h7=>?_))))))))))))) <;> simp only [NM] at h7
 ·refine Ze (YB rfl .nil (Yz rfl rfl rfl rfl .here (Yq rfl (Yc (Yi (⟨_,X9 rfl rfl ZM (ZL rfl),?_⟩))))))
  have h6:=UK (P:=P) (a:=m 0) (t:=m 1) (b:=m 2) (by omega)
  rw [Xq,h6,Za7 (by decide)]
  exact congrArg (fun g=>V.tup [V.agg 133 (ia g),V.s (.int .i64 6)]) Rh
 refine Yh (Ye (Ze (Yo rfl rfl ZO (Yo rfl rfl ZN (Yt rfl (YG (j6 _ _ (by assumption) (by assumption))) rfl rfl rfl (Yv (r:=.bool _) rfl rfl (Yc (Yj rfl (fun h8=>?_) (fun h8=>?_))))))))) <;> simp only [NM] at h8
 ·refine Ze (YB rfl .nil (Yz rfl rfl rfl rfl .here (Yq rfl (Yc (Yi (⟨_,X9 rfl rfl ZM (ZL rfl),?_⟩))))))
  have h8:=Wy (P:=P) (a:=m 0) (t:=m 1) (b:=m 2) ⟨by assumption,by assumption,by assumption⟩ (by assumption)
  rw [Xq,h8,Za7 (by decide)]
  exact congrArg (fun g=>V.tup [V.agg 133 (ia g),V.s (.int .i64 8)]) Rh
 refine Yh (Ze (Zy rfl (Ym rfl rfl ZN rfl (Zy rfl ?_))))
 refine XY rfl rfl rfl (by first | omega | (have:=hca (by omega); omega)) ?_
 refine Yp rfl rfl ZO (Yy (Yz rfl rfl rfl rfl .here (Zf (Yo rfl rfl ZP (Yy (Yz rfl rfl rfl rfl .here (Zf (Yo rfl rfl (.tail _ ZP) (Yo rfl rfl ZP ?_)))))))))
 have hs:(0<=m 0/\m 0 < 64)/\(0<=m 1/\m 1 < 64)/\m 0≠m 1:=⟨by assumption,by assumption,by assumption⟩
 have hcan:XH P (m 0) (m 1) (m 2)=true:=by assumption
 have he:=Vr hs hcan
 have hb:=VH (P:=P) (k:=(P (sqI (m 0)))) hs.1 hs.2.1
 refine Yt rfl (qE he) rfl rfl rfl (Zj rfl (Yc (WD (fun f n L=>∃ (X J:Nat->Int),(Wf P (m 0) (m 1) (m 2)=0)/\(0<=m 0/\m 0 < 64)/\(0<=m 1/\m 1 < 64)/\((P (sqI (m 0)+1))=0\/(P (sqI (m 0)+1))=1)/\(X 0=(P (sqI (m 0))))/\(X 1=(P (sqI (m 0)+1)))/\(SameP P J (DW P (Y7 P (P (sqI (m 0))) (m 0) (m 1))))/\(f 2=.ptr 0 0 133)/\(f 3=.ptr 1 0 3)/\(f 4=.ptr 2 0 133)/\(f 6=.ptr 3 0 2)/\(f 7=.ptr 4 0 133)/\(f 8=.s (.int .i64 (Y7 P (P (sqI (m 0))) (m 0) (m 1))))/\(L=[(4,.sc .var 133 (ia J)),(3,.sc .var 2 (ia X)),(2,.sc .var 133 (ia fun _=>0)),(1,.sc .var 3 (ia m)),(0,.sc .var 133 (ia P))])/\(n=5)) ?_ (fun f nb L hI=>?_))))
 ·refine Ze (Zj rfl (Zr rfl (Yc (Yj rfl (fun h9=>?_) (fun h9=>?_))))) <;> simp only [NM] at h9
  ·refine Yf (Zj rfl (YB rfl .nil (Zy rfl ?_)))
   refine XY rfl rfl rfl (by first | omega | (have:=hca (by omega); omega)) ?_
   refine Yz rfl rfl rfl rfl .here (Yc (⟨_,(.refl _),_,_,he,hs.1,hs.2.1,D3 hcan,?_,?_,?_,rfl,rfl,rfl,rfl,rfl,rfl,rfl,rfl⟩))
   · rfl
   · rfl
   have h0 : SameP P (ovA (fun _ => 0) 0 133 P) P := ⟨fun i hi => by rw [X1 (by omega), Nat.sub_zero], fun i _ hi => by rw [X1 (by omega), Nat.sub_zero]⟩
   have hb:=VH (P:=P) (k:=(P (sqI (m 0)))) hs.1 hs.2.1
   rw [DW]
   (rw [Za8 (by assumption)]; exact h0.put (by omega) (fun _ _=>rfl))
  refine Yh (⟨_,(.refl _),_,_,he,hs.1,hs.2.1,D3 hcan,?_,?_,?_,rfl,rfl,rfl,rfl,rfl,rfl,rfl,rfl⟩)
  · rfl
  · rfl
  have h0 : SameP P (ovA (fun _ => 0) 0 133 P) P := ⟨fun i hi => by rw [X1 (by omega), Nat.sub_zero], fun i _ hi => by rw [X1 (by omega), Nat.sub_zero]⟩
  have hb:=VH (P:=P) (k:=(P (sqI (m 0)))) hs.1 hs.2.1
  rw [DW]
  (rw [Za7 (by omega)]; exact h0)
 obtain ⟨X,J,he,ha,ht,hc,hx0,hx1,hJ,k2,k3,k4,k6,k7,k8,rfl,rfl⟩:=hI
 refine Za 2 k2 (Za 3 k3 (Za 4 k4 (Za 6 k6 (Za 7 k7 (Za 8 k8 ?_)))))
 have hb:=VH (P:=P) (k:=(P (sqI (m 0)))) ha ht
 refine Ze (Zy rfl (Ym rfl rfl ZP rfl (YB rfl .nil (Zy rfl ?_))))
 refine XY rfl rfl rfl (by first | omega | (have:=hca (by omega); omega)) ?_
 refine Yz rfl rfl rfl rfl .here (Zf (Zz rfl (Ym rfl rfl ZP rfl (Yo rfl rfl ZN (Zy rfl ?_)))))
 refine XY rfl rfl rfl (by first | omega | (have:=hca (by omega); omega)) ?_
 refine Yz rfl rfl rfl rfl .here (Yc (WD (fun f n L=>∃ (J:Nat->Int),(SameP P J (Es P (Y7 P (P (sqI (m 0))) (m 0) (m 1)) (m 0) (m 1) (P (sqI (m 0))) (P (sqI (m 0)+1)) (m 2)))/\(f 2=.ptr 0 0 133)/\(f 3=.ptr 1 0 3)/\(f 4=.ptr 2 0 133)/\(f 6=.ptr 3 0 2)/\(f 7=.ptr 4 0 133)/\(f 8=.s (.int .i64 (Y7 P (P (sqI (m 0))) (m 0) (m 1))))/\(L=[(4,.sc .var 133 (ia J)),(3,.sc .var 2 (ia X)),(2,.sc .var 133 (ia fun _=>0)),(1,.sc .var 3 (ia m)),(0,.sc .var 133 (ia P))])/\(n=5)) ?_ (fun f nb L hI=>?_)))
 ·refine Ze (Yd (o':=2) rfl rfl rfl (Ym rfl rfl ZP rfl (Zr rfl (Yc (Yj rfl (fun h10=>?_) (fun h10=>?_)))))) <;> simp only [NM] at h10
  ·refine Yf (Zz rfl (Ym rfl rfl ZP rfl (Yd (o':=2) rfl rfl rfl (Ym rfl rfl ZP rfl (Zy rfl ?_)))))
   refine XY rfl rfl rfl (by first | omega | (have:=hca (by omega); omega)) ?_
   refine Yd rfl rfl rfl (YA rfl rfl rfl rfl .here (Yc (⟨_,(.refl _),_,?_,rfl,rfl,rfl,rfl,rfl,rfl,rfl,rfl⟩)))
   have h2:=(hJ.put (X:=fun _=>0) (Y:=yb) ha (fun _ _=>rfl)).put (X:=X) (Y:=X) ht (fun _ _=>rfl)
   exact h2.kind (Y:=pc (if m 2=0 then (P (sqI (m 0))) else m 2) (P (sqI (m 0)+1))) ht (show (if m 2=0 then (P (sqI (m 0))) else m 2)=m 2 from Za7 (by assumption)) hx1.symm
  refine Yh (⟨_,(.refl _),_,?_,rfl,rfl,rfl,rfl,rfl,rfl,rfl,rfl⟩)
  have h2:=(hJ.put (X:=fun _=>0) (Y:=yb) ha (fun _ _=>rfl)).put (X:=X) (Y:=X) ht (fun _ _=>rfl)
  exact (hJ.put (X:=fun _=>0) (Y:=yb) ha (fun _ _=>rfl)).put (X:=X) ht (two (Y:=pc (if m 2=0 then (P (sqI (m 0))) else m 2) (P (sqI (m 0)+1))) (hx0.trans (Za8 (by assumption)).symm) hx1)
 obtain ⟨J,hJ,k2,k3,k4,k6,k7,k8,rfl,rfl⟩:=hI
 refine Za 2 k2 (Za 3 k3 (Za 4 k4 (Za 6 k6 (Za 7 k7 (Za 8 k8 ?_)))))
 have hb:=VH (P:=P) (k:=(P (sqI (m 0)))) ha ht
 refine WD (fun f n L=>∃ (J:Nat->Int),(SameP P J (V0 P (Y7 P (P (sqI (m 0))) (m 0) (m 1)) (m 0) (m 1) (P (sqI (m 0))) (P (sqI (m 0)+1)) (m 2) (Y0 (P (sqI (m 0))) (m 0) (m 1) (P (sqI (m 0)+1)) (Vb P))))/\(f 2=.ptr 0 0 133)/\(f 3=.ptr 1 0 3)/\(f 4=.ptr 2 0 133)/\(f 6=.ptr 3 0 2)/\(f 7=.ptr 4 0 133)/\(f 8=.s (.int .i64 (Y7 P (P (sqI (m 0))) (m 0) (m 1))))/\(L=[(4,.sc .var 133 (ia J)),(3,.sc .var 2 (ia X)),(2,.sc .var 133 (ia fun _=>0)),(1,.sc .var 3 (ia m)),(0,.sc .var 133 (ia P))])/\(n=5)) ?_ (fun f nb L hI=>?_)
 ·refine Ze (Yo rfl rfl (.tail _ ZP) (Yo rfl rfl ZP ?_))
  have hca:=EO (k:=(P (sqI (m 0)))) (a:=m 0) (t:=m 1) (c:=(P (sqI (m 0)+1))) (C:=Vb P)
  refine Yt rfl (YG (qX P m hc ha ht)) rfl rfl rfl ?_
  obtain ⟨g,hg⟩:∃ g,g=(Y0 (P (sqI (m 0))) (m 0) (m 1) (P (sqI (m 0)+1)) (Vb P)):=⟨_,rfl⟩
  rw [<- hg] at hca ⊢
  refine Yc (Yk (Ze (Zr rfl (Zk rfl (Yc (Yj rfl (fun h11=>?_) (fun h11=>?_))))))) <;> simp only [NM] at h11
  ·refine Ze (Zy rfl (Ym rfl rfl ZP rfl ?_))
   refine Vg rfl rfl (by first | omega | (have:=hca (by omega); omega)) ?_
   refine YB rfl .nil (Zy rfl ?_)
   refine XY rfl rfl rfl (by first | omega | (have:=hca (by omega); omega)) ?_
   refine Yz rfl rfl rfl rfl .here (Yc (Yf (Zy rfl (Ym rfl rfl ZP rfl ?_))))
   refine Vg rfl rfl (by first | omega | (have:=hca (by omega); omega)) ?_
   refine Zz rfl (Ym (x:=X 1) rfl rfl ZN (rfl) (YB rfl (.one rfl (.one rfl .nil)) (Zy rfl ?_)))
   refine XY rfl rfl rfl (by first | omega | (have:=hca (by omega); omega)) ?_
   refine Yz rfl rfl rfl rfl .here (Yc (⟨_,(.refl _),_,?_,rfl,rfl,rfl,rfl,rfl,rfl,rfl,rfl⟩))
   rw [V0]
   (rw [Za8 (by assumption)]; exact (hJ.put (by omega) (fun _ _=>rfl)).put (by omega) (two rfl hx1))
  refine Ze (Zr rfl (Zk rfl (Yc (Yj rfl (fun h12=>?_) (fun h12=>?_))))) <;> simp only [NM] at h12
  ·refine Ze (Zy rfl (Ym rfl rfl ZP rfl ?_))
   refine kW rfl rfl (by first | omega | (have:=hca (by omega); omega)) ?_
   refine YB rfl .nil (Zy rfl ?_)
   refine XY rfl rfl rfl (by first | omega | (have:=hca (by omega); omega)) ?_
   refine Yz rfl rfl rfl rfl .here (Yc (Yf (Zy rfl (Ym rfl rfl ZP rfl ?_))))
   refine kW rfl rfl (by first | omega | (have:=hca (by omega); omega)) ?_
   refine Zz rfl (Ym (x:=X 1) rfl rfl ZN (rfl) (YB rfl (.one rfl (.one rfl .nil)) (Zy rfl ?_)))
   refine XY rfl rfl rfl (by first | omega | (have:=hca (by omega); omega)) ?_
   refine Yz rfl rfl rfl rfl .here (Yc (⟨_,(.refl _),_,?_,rfl,rfl,rfl,rfl,rfl,rfl,rfl,rfl⟩))
   rw [V0]
   (rw [Za7 (by assumption),Za8 (by assumption)]; exact (hJ.put (by omega) (fun _ _=>rfl)).put (by omega) (two rfl hx1))
  refine Yh (⟨_,(.refl _),_,?_,rfl,rfl,rfl,rfl,rfl,rfl,rfl,rfl⟩)
  rw [V0]
  (rw [Za7 (by assumption),Za7 (by assumption)]; exact hJ)
 obtain ⟨J,hJ,k2,k3,k4,k6,k7,k8,rfl,rfl⟩:=hI
 refine Za 2 k2 (Za 3 k3 (Za 4 k4 (Za 6 k6 (Za 7 k7 (Za 8 k8 (Ze (Yd (o':=128) rfl rfl rfl (Ym (x:=P 128) rfl rfl (.tail _ ZP) (rfl) (Yt rfl (YG (WT _)) rfl rfl rfl (Yd (o':=128) rfl rfl rfl (YA rfl rfl rfl rfl .here (Yc (Ye (Yg (Yo rfl rfl (.tail _ ZP) (Yu rfl (YG (VQ _)) rfl rfl rfl (Zy rfl (Ym rfl rfl ZP rfl (Yu rfl (YG (wT _)) rfl rfl rfl (Yu rfl (YG (zO _ _ (TK P) (jP _))) rfl rfl rfl (Zz rfl (Ym rfl rfl ZP rfl (Yt rfl (YG (wT _)) rfl rfl rfl (Yt rfl (vB) rfl rfl rfl (Yd (o':=129) rfl rfl rfl (YA rfl rfl rfl rfl .here (Zf (Yd (o':=130) rfl rfl rfl (YA rfl rfl rfl rfl .here ?_)))))))))))))))))))))))))))))
 refine Yc (WD (fun f n L=>∃ (J:Nat->Int),(DoneP P J (V0 P (Y7 P (P (sqI (m 0))) (m 0) (m 1)) (m 0) (m 1) (P (sqI (m 0))) (P (sqI (m 0)+1)) (m 2) (Y0 (P (sqI (m 0))) (m 0) (m 1) (P (sqI (m 0)+1)) (Vb P))) (Y5 (P 128)) (V2 (Vb P) (orM (orM 0 (Xz (m 0))) (Xz (m 1)))) (UN (P (sqI (m 0))) (m 0) (m 1) (P (sqI (m 0)+1))) (P 131) (P 132))/\(f 2=.ptr 0 0 133)/\(f 3=.ptr 1 0 3)/\(f 4=.ptr 2 0 133)/\(f 6=.ptr 3 0 2)/\(f 7=.ptr 4 0 133)/\(f 8=.s (.int .i64 (Y7 P (P (sqI (m 0))) (m 0) (m 1))))/\(L=[(4,.sc .var 133 (ia J)),(3,.sc .var 2 (ia X)),(2,.sc .var 133 (ia fun _=>0)),(1,.sc .var 3 (ia m)),(0,.sc .var 133 (ia P))])/\(n=5)) ?_ (fun f nb L hI=>?_))
 ·refine Ze (Yo rfl rfl ZN (Yo rfl rfl ZP (Yt rfl (YG (rq X m (by rw [hx1]; exact hc) ha ht)) rfl rfl rfl (Yc (Yj rfl (fun h13=>?_) (fun h13=>?_))))))
  ·refine Yf (Zy rfl (Ym rfl rfl ZP rfl (Zz rfl (Ym rfl rfl ZP rfl ?_))))
   refine Vg rfl rfl (by first | omega | (have:=hca (by omega); omega)) ?_
   refine sS rfl rfl (by first | omega | (have:=hca (by omega); omega)) ?_
   refine Yd (o':=130) rfl rfl rfl (YA rfl rfl rfl rfl .here (Yc (⟨_,(.refl _),_,?_,rfl,rfl,rfl,rfl,rfl,rfl,rfl,rfl⟩)))
   refine ⟨(by intro i hi; (repeat rw [W7 (by omega)]); exact hJ.lo i hi),rfl,rfl,?_,hJ.hi 131 (by omega) (by omega),hJ.hi 132 (by omega) (by omega)⟩
   rw [UN,<- hx0,<- hx1]
   (rw [Za8 (by assumption)]; rfl)
  refine Yh (⟨_,(.refl _),_,?_,rfl,rfl,rfl,rfl,rfl,rfl,rfl,rfl⟩)
  refine ⟨(by intro i hi; (repeat rw [W7 (by omega)]); exact hJ.lo i hi),rfl,rfl,?_,hJ.hi 131 (by omega) (by omega),hJ.hi 132 (by omega) (by omega)⟩
  rw [UN,<- hx0,<- hx1]
  (rw [Za7 (Bool.eq_false_iff.1 (by assumption))]; rfl)
 obtain ⟨J,hD,k2,k3,k4,k6,k7,k8,rfl,rfl⟩:=hI
 refine Za 2 k2 (Za 3 k3 (Za 4 k4 (Za 6 k6 (Za 7 k7 (Za 8 k8 (Ze (Yd (o':=131) rfl rfl rfl (Ym (x:=P 131) rfl rfl (.tail _ ZP) (rfl) (DZ rfl rfl (Yr rfl rfl rfl (Yd (o':=131) rfl rfl rfl (YA rfl rfl rfl rfl .here (Yc (WD (fun f n L=>∃ (J:Nat->Int),(DoneP P J (V0 P (Y7 P (P (sqI (m 0))) (m 0) (m 1)) (m 0) (m 1) (P (sqI (m 0))) (P (sqI (m 0)+1)) (m 2) (Y0 (P (sqI (m 0))) (m 0) (m 1) (P (sqI (m 0)+1)) (Vb P))) (Y5 (P 128)) (V2 (Vb P) (orM (orM 0 (Xz (m 0))) (Xz (m 1)))) (UN (P (sqI (m 0))) (m 0) (m 1) (P (sqI (m 0)+1))) (Uo P (P (sqI (m 0))) (Y7 P (P (sqI (m 0))) (m 0) (m 1))) (P 132))/\(f 2=.ptr 0 0 133)/\(f 3=.ptr 1 0 3)/\(f 4=.ptr 2 0 133)/\(f 6=.ptr 3 0 2)/\(f 7=.ptr 4 0 133)/\(f 8=.s (.int .i64 (Y7 P (P (sqI (m 0))) (m 0) (m 1))))/\(L=[(4,.sc .var 133 (ia J)),(3,.sc .var 2 (ia X)),(2,.sc .var 133 (ia fun _=>0)),(1,.sc .var 3 (ia m)),(0,.sc .var 133 (ia P))])/\(n=5)) ?_ (fun f nb L hI=>?_)))))))))))))))
 ·refine Ze (Zy rfl (Ym (x:=(P (sqI (m 0)))) rfl rfl ZN (hx0) (Zr rfl (Zk rfl (Ys (t:=136) rfl (fun h14=>?_) (fun h14=>?_)))))) <;> simp only [NM] at h14
  ·refine ZD rfl (Zq rfl (Yc (ZA rfl (Yf (Yd (o':=131) rfl rfl rfl (YA rfl rfl rfl rfl .here (Yc (⟨_,(.refl _),_,?_,rfl,rfl,rfl,rfl,rfl,rfl,rfl,rfl⟩))))))))
   refine ⟨(by intro i hi; (repeat rw [W7 (by omega)]); exact hD.lo i hi),hD.s,hD.c,hD.o,?_,hD.f⟩
   rw [Uo]
   (rw [Za8 (.inl (by assumption))]; rfl)
  refine Yb rfl (Zj rfl (Yb rfl (Zr rfl (Zq rfl (Yc (Yj rfl (fun h15=>?_) (fun h15=>?_))))))) <;> simp only [NM] at h15
  ·refine Yf (Yd (o':=131) rfl rfl rfl (YA rfl rfl rfl rfl .here (Yc (⟨_,(.refl _),_,?_,rfl,rfl,rfl,rfl,rfl,rfl,rfl,rfl⟩))))
   refine ⟨(by intro i hi; (repeat rw [W7 (by omega)]); exact hD.lo i hi),hD.s,hD.c,hD.o,?_,hD.f⟩
   rw [Uo]
   (rw [Za8 (.inr (by assumption))]; rfl)
  refine Yh (⟨_,(.refl _),_,?_,rfl,rfl,rfl,rfl,rfl,rfl,rfl,rfl⟩)
  refine ⟨(by intro i hi; (repeat rw [W7 (by omega)]); exact hD.lo i hi),hD.s,hD.c,hD.o,?_,hD.f⟩
  rw [Uo]
  (rw [Za7 (by omega)]; rfl)
 obtain ⟨J,hD,k2,k3,k4,k6,k7,k8,rfl,rfl⟩:=hI
 refine Za 2 k2 (Za 3 k3 (Za 4 k4 (Za 6 k6 (Za 7 k7 (Za 8 k8 (WD (fun f n L=>∃ (J:Nat->Int),(DoneP P J (V0 P (Y7 P (P (sqI (m 0))) (m 0) (m 1)) (m 0) (m 1) (P (sqI (m 0))) (P (sqI (m 0)+1)) (m 2) (Y0 (P (sqI (m 0))) (m 0) (m 1) (P (sqI (m 0)+1)) (Vb P))) (Y5 (P 128)) (V2 (Vb P) (orM (orM 0 (Xz (m 0))) (Xz (m 1)))) (UN (P (sqI (m 0))) (m 0) (m 1) (P (sqI (m 0)+1))) (Uo P (P (sqI (m 0))) (Y7 P (P (sqI (m 0))) (m 0) (m 1))) (QY P))/\(f 2=.ptr 0 0 133)/\(f 3=.ptr 1 0 3)/\(f 4=.ptr 2 0 133)/\(f 6=.ptr 3 0 2)/\(f 7=.ptr 4 0 133)/\(f 8=.s (.int .i64 (Y7 P (P (sqI (m 0))) (m 0) (m 1))))/\(L=[(4,.sc .var 133 (ia J)),(3,.sc .var 2 (ia X)),(2,.sc .var 133 (ia fun _=>0)),(1,.sc .var 3 (ia m)),(0,.sc .var 133 (ia P))])/\(n=5)) ?_ (fun f nb L hI=>?_)))))))
 ·refine Ze (Yd (o':=128) rfl rfl rfl (Ym (x:=P 128) rfl rfl (.tail _ ZP) (rfl) (Zr rfl (Yc (Yj rfl (fun h16=>?_) (fun h16=>?_)))))) <;> simp only [NM] at h16
  ·refine Yf (Yd (o':=132) rfl rfl rfl (Ym (x:=P 132) rfl rfl (.tail _ ZP) (rfl) (DZ rfl rfl (Yr rfl rfl rfl (Yd (o':=132) rfl rfl rfl (YA rfl rfl rfl rfl .here (Yc (⟨_,(.refl _),_,?_,rfl,rfl,rfl,rfl,rfl,rfl,rfl,rfl⟩))))))))
   refine ⟨(by intro i hi; (repeat rw [W7 (by omega)]); exact hD.lo i hi),hD.s,hD.c,hD.o,hD.h,?_⟩
   rw [QY]
   (rw [Za8 (by assumption)]; rfl)
  refine Yh (⟨_,(.refl _),_,?_,rfl,rfl,rfl,rfl,rfl,rfl,rfl,rfl⟩)
  refine ⟨(by intro i hi; (repeat rw [W7 (by omega)]); exact hD.lo i hi),hD.s,hD.c,hD.o,hD.h,?_⟩
  rw [QY]
  (rw [Za7 (by assumption)]; exact hD.f)
 obtain ⟨J,hD,k2,k3,k4,k6,k7,k8,rfl,rfl⟩:=hI
 refine Za 2 k2 (Za 3 k3 (Za 4 k4 (Za 6 k6 (Za 7 k7 (Za 8 k8 (Ze (Yo rfl rfl ZM (Yz rfl rfl rfl rfl (.there (.there .here)) (Yq rfl (Yc (Yi (⟨_,X9 rfl rfl ZO (ZL rfl),?_⟩))))))))))))
 rw [Xq,he,Za8 rfl,<- Zak hD]
 rfl
def Wm (P:Nat->Int) (a t:Int):Bool:=decide (P (sqI a)=6/\(t - a=2\/t - a=-2))
def ZbV (P:Nat->Int) (l:List Int):Bool:=!(l.any (VX P (Y5 (P 128))))
def WC (P:Nat->Int):Bool:=VO P&&!Xt P (Y5 (P 128))
theorem ku (P m:Nat->Int) (ha:0<=m 0/\m 0 < 64) (ht:0<=m 1/\m 1 < 64):WR AM 101 [.agg 133 (ia P),.agg 3 (ia m)] [] (fun v _ _=>v=.s (.bool (Wm P (m 0) (m 1)))):=by
 refine YJ (a:=a101) rfl rfl (YI _) (ZQ rfl) (m:=0) rfl (Ze (YC rfl (YC rfl (Yq rfl (Zf (Zz rfl (Ym rfl rfl ZM rfl (Zy rfl (Ym rfl rfl ZM rfl (Zt rfl rfl (Zj rfl (Zf (Zy rfl (Ym rfl rfl ZM rfl (Zy rfl (Zy rfl (Zw rfl rfl rfl (Yd rfl rfl rfl (Ym (x:=P (sqI (m 0))) rfl rfl ZN (congrArg P (by have hq:sqI (m 0)=0+(m 0).toNat*2:=rfl; omega)) (Zr rfl (Zk rfl (Ys (t:=19) rfl (fun h1=>?_) (fun h1=>?_))))))))))))))))))))))) <;> simp only [NM] at h1
 ·refine Yb rfl (Zj rfl (Yb rfl (Zr rfl (Yb rfl (Zk rfl (Ys (t:=22) rfl (fun h2=>?_) (fun h2=>?_))))))) <;> simp only [NM] at h2
  ·refine ZD rfl (Yb rfl (Zq rfl (Zq rfl (Zk rfl (Zg rfl ?_)))))
   unfold Wm
   (rw [ZaV (by omega)]; rfl)
  refine Yb rfl (Zj rfl (Yb rfl (Zr rfl (Yb rfl (Zq rfl (Zq rfl (Zk rfl (Zg rfl ?_))))))))
  unfold Wm
  (refine congrArg (fun b=>V.s (.bool b)) ?_; rw [ZaP]; simp only [Za2,ZaL]; omega)
 refine ZD rfl (ZC rfl (YH rfl (YH rfl (ZC rfl (Zq rfl (Zk rfl (Zg rfl ?_)))))))
 unfold Wm
 (rw [ZaT (by omega)]; rfl)
theorem safe_rd (P:Nat->Int) (l:List Int) (hlen:l.length<=1000000):RdR AM 102 1 [.agg 133 (ia P)] [] l (.s (.bool (ZbV P l))):=by
 refine Ql fun v Bs hc=>?_
 refine YJ (a:=a102) rfl rfl (YI _) (ZQ rfl) rfl ?_ (by first | rfl | (cases hc <;> rfl))
 have hr0:=hc.rx
 rw [show Xb 0 Bs=Xb 0 Bs++[] from (ZaQ _).symm]
 generalize hown:Xb 0 Bs=own0 at hr0 ⊢
 refine Ze (YC rfl (Yq rfl (Yc (Ye (Yg (Zy rfl (Yo rfl rfl ZM (Zy rfl (Yd (o':=128) rfl rfl rfl (Ym rfl rfl ZM rfl (Yu rfl (YG (Uc _)) rfl rfl rfl (Yq (v:=v) rfl (Wp (caps:=[]) rfl (sh P (Y5 (P 128)) l hlen) rfl (hr0) (fun _ h=>(.tail _ (ZaC _ h))) rfl rfl rfl (Yv (r:=.bool _) rfl rfl (Zk rfl (Zg rfl ?_))))))))))))))))
 exact ⟨rfl,(fun _ h=>(.tail _ h))⟩
theorem Jv (P:Nat->Int):WR AM 70 [.agg 133 (ia P)] [] (fun v _ _=>v=.s (.bool (WC P))):=by
 refine YJ (a:=a70) rfl rfl (YI _) (ZQ rfl) (m:=0) rfl (Ze (YC rfl (Yq rfl (Yc (Ye (Yg (Yo rfl rfl ZM (Yt rfl (YG (pU _)) rfl rfl rfl (Zk rfl (Ys (t:=5) rfl (fun h3=>?_) (fun h3=>?_)))))))))))
 ·refine Yb rfl (Yo rfl rfl ZM (Yb rfl (Yd (o':=128) rfl rfl rfl (Yb rfl (Ym rfl rfl ZM rfl (Yb rfl (Yu rfl (YG (Uc _)) rfl rfl rfl (Yb rfl (Yt rfl (RO _ _) rfl rfl rfl (Yb rfl (Yv (r:=.bool _) rfl rfl (Zq rfl (Zk rfl (Zg rfl ?_))))))))))))))
  unfold WC
  (rw [show VO P=true by assumption]; rfl)
 refine Ya rfl rfl (ZE rfl (ZC rfl (Zq rfl (Zk rfl (Zg rfl ?_)))))
 unfold WC
 (rw [show VO P=false by assumption]; rfl)
theorem pb {g:FuncId} {o z:Nat}:One fun b=>.fn g [.ptr b o z]:=⟨fun _=>by simp [V.refs,V.refsL],fun h b=>by cases e:h b <;> simp [V.ren,V.renL,e]⟩
theorem jall_rn (P:Nat->Int):RN AM 72 [.agg 133 (ia P)] [] (fun b=>.fn 99 [.ptr b 0 133]) (.sc .var 133 (ia P)) []:=r7 (by
 refine YJ (a:=a72) rfl rfl (YI _) (ZQ rfl) (m:=0) rfl (Ye (Yf (YC rfl (Yq rfl (Yc (Ye (Yf (KY rfl (Yq rfl (Yc ?_))))))))))
 exact Yi ⟨_,YK rfl YP,0,rfl,.head _⟩)
theorem of_rn (P:Nat->Int) (h:WC P=true):RN AM 36 [.agg 133 (ia P)] [] (fun b=>.fn 99 [.ptr b 0 133]) (.sc .var 133 (ia (ovA (fun _=>0) 0 133 P))) []:=r7 (by
 refine YJ (a:=a36) rfl rfl (YI _) (ZQ rfl) (m:=0) rfl (Ye (Yf (YC rfl (Yq rfl (Yc (Ye (Ye (Yf (Yo rfl rfl ZM (Yt rfl (YG (Jv P)) rfl rfl rfl ?_))))))))))
 rw [h]
 refine Yv (r:=.bool false) rfl rfl (Yc (Yj rfl (fun h=>nomatch h) (fun _=>Yh (Ye (Yf (Yo rfl rfl ZM (YB (Q:=ovA (fun _=>0) 0 133 P) rfl (.agg rfl .nil) (Rz (rs:=[]) (Bs:=[]) (caps:=[]) (av:=[.agg 133 (ia (ovA (fun _=>0) 0 133 P))]) pb rfl (jall_rn _) rfl rfl (YF rfl) (fun _ h=>h) rfl trivial rfl rfl .nil (Yq rfl (Yc ?_))))))))))
 exact Yi ⟨_,YK rfl YP,1,rfl,.head _⟩)
theorem of_none (P:Nat->Int) (h:WC P=false):RF AM 36 [.agg 133 (ia P)] (.fn 71 []):=YG (by
 refine YJ (a:=a36) rfl rfl (YI _) (ZQ rfl) (m:=0) rfl (Ye (Yf (YC rfl (Yq rfl (Yc (Ye (Ye (Yf (Yo rfl rfl ZM (Yt rfl (YG (Jv P)) rfl rfl rfl ?_))))))))))
 rw [h]
 refine Yv (r:=.bool true) rfl rfl (Yc (ZA rfl (Ye (Yf (Yq rfl (Yc ?_))))))
 exact Yi ⟨_,YK rfl YP,rfl⟩)
def Ux (g0 g4:Nat->S) (c:Nat):List V:=[.agg 133 g0,.ptr 1 0 133,.ptr 2 0 1,.undef,.agg 133 g4,.fn 99 [.ptr c 0 133],.undef,.undef,.undef,.undef,.undef,.undef,.undef]
section
variable (g0 g4 g1:Nat->S) (Q:Nat->Int)
noncomputable def Ee (c st:Nat):Blk:=.lp 607 Jc (Ux g0 g4 c) st
theorem pM {Q:Nat->Int} {x y z:Int} (h0:Q 0=x) (h1:Q 1=y) (h2:Q 2=z):∀ i,i < [x,y,z].length->ovA (fun _=>0) (0*3) 3 Q i=[x,y,z].getD i 0:=fun i hi=>by have:=QH h0 h1 h2 i hi; rwa [ZaY] at this
theorem zy (M Y:Nat->Int) :
  WR AM 607 [.pan .undef,.yv 0,.agg 3 (ia M),.agg 133 (ia Y)] [Ee g0 g4 3 0,.sc .var 133 g1,.vs .var [.snil],.sc .var 133 (ia Q)] (fun v n L=>v=.s (.bool true)/\EN L [Ee g0 g4 3 0,.sc .var 133 g1] [.sc .var 133 (ia Q)] [M 0,M 1,M 2]):=by
 refine Tq (N:=13) (B:=B11) (f:=YI (((Ux g0 g4 3).set 6 (.agg 3 (ia M))).set 7 (.agg 133 (ia Y)))) (caps:=Ux g0 g4 3) rfl rfl rfl (DK rfl) rfl (Yf (Yy (Yz rfl rfl rfl rfl .here (Yc (⟨607,Jc,Ux g0 g4 3,rfl,?_⟩)))))
 refine Yk (Yf (V6 (v:=.snil) rfl rfl ZP rfl (Yo rfl rfl ZM (Wo rfl (.agg rfl .nil) (EL (c:=[M 0,M 1,M 2]) rfl (Rw.nil rfl) rfl (.row rfl (pM (Q:=ovA (fun _=>0) 0 3 M) rfl rfl rfl)) (Qf ZM) (Dr.here (own:=[])) (by decide) (YF rfl) (fun v3 own3 n3 hr3 hn3=>Tn (b:=2) (u:=.snil) (v:=v3) rfl rfl hr3.isrow (.appR _ (.appR _ (.there (.there (.there (.there .here)))))) (Ur (L':=own3++[(0,.lp 607 Jc (Ux g0 g4 3) 1),(1,.sc .var 133 g1),(2,.vs .var [v3]),(3,.sc .var 133 (ia Q))]) (ZaE (.refl _) (Za9 (.cons _ (.cons _ (.refl _))))) (UD List.perm_append_comm (Yc ⟨607,Jc,Ux g0 g4 3,rfl,rfl,?_⟩)))))))))
 have h4:∀ p∈own3,4 < p.1:=fun p hp=>hn3 p hp (4,_) ZN
 rw [List.nil_append] at hr3
 refine JV hr3 ⟨.head _,.tail _ ZM,.tail _ ZN,.tail _ ZO,trivial⟩ (fun p hp=>⟨.tail _ (.tail _ (.tail _ (.tail _ ?_))),Nat.le_of_lt (h4 p hp)⟩)
 show p∈setL 0 _ own3
 rw [Jo (fun p hp=>by have:=h4 p hp; omega)]; exact hp
theorem zC (M Y:Nat->Int) (l:List Int) (m q:Nat) (F:Nat->Int) (hlm:l.length=m*3) (hF:∀ i,i < l.length->F i=l.getD i 0) (hll:l.length<=1000000) :
  WR AM 607 [.pan .undef,.yv 0,.agg 3 (ia M),.agg 133 (ia Y)] [Ee g0 g4 4 0,.sc .var 133 g1,Vw .var 3 m 3,.sc .grow q (ia F),.sc .var 133 (ia Q)] (fun v n L=>v=.s (.bool true)/\EN L [Ee g0 g4 4 0,.sc .var 133 g1] [.dead,.sc .var 133 (ia Q)] (l++[M 0,M 1,M 2])):=by
 refine Tq (N:=13) (B:=B11) (f:=YI (((Ux g0 g4 4).set 6 (.agg 3 (ia M))).set 7 (.agg 133 (ia Y)))) (caps:=Ux g0 g4 4) rfl rfl rfl (DK rfl) rfl (Yf (Yy (Yz rfl rfl rfl rfl .here (Yc (⟨607,Jc,Ux g0 g4 4,rfl,?_⟩)))))
 refine Yk (Yf (V6 (v:=.sl 3 0 m 3 .whole) rfl rfl ZP rfl (Yo rfl rfl ZM (Wo rfl (.agg rfl .nil) (EL (c:=[M 0,M 1,M 2]) rfl (Rw.row hlm hF) rfl (.row rfl (pM (Q:=ovA (fun _=>0) 0 3 M) rfl rfl rfl)) (Qf ZM) (.there (.there (.there (.there (.there .here))))) (by decide) (by simp only [Zbq,List.length_nil]; omega) (fun v3 own3 n3 hr3 hn3=>Tn (b:=2) (u:=.sl 3 0 m 3 .whole) (v:=v3) rfl rfl hr3.isrow (.appR _ (.there (.appR _ (.there (.there (.there (.there .here))))))) (Ur (L':=own3++[(3,.dead),(0,.lp 607 Jc (Ux g0 g4 4) 1),(1,.sc .var 133 g1),(2,.vs .var [v3]),(4,.sc .var 133 (ia Q))]) (ZaE (.refl _) (.cons_cons _ (.cons _ (.cons _ (.refl _))))) (UD List.perm_append_comm (Yc ⟨607,Jc,Ux g0 g4 4,rfl,rfl,?_⟩)))))))))
 have h4:∀ p∈own3,5 < p.1:=fun p hp=>hn3 p hp (5,_) ZN
 refine JV hr3 ⟨.tail _ ZM,.tail _ ZN,.tail _ ZO,.head _,.tail _ ZP,trivial⟩ (fun p hp=>⟨.tail _ (.tail _ (.tail _ (.tail _ (.tail _ ?_)))),Nat.le_of_lt (h4 p hp)⟩)
 show p∈setL 0 _ own3
 rw [Jo (fun p hp=>by have:=h4 p hp; omega)]; exact hp
end
def Wv (P:Nat->Int) (m:Mv):Bool:=!(Wm P m.1 m.2.1&&!ZbV P [m.1,(m.1+m.2.1) / 2])&&(decide (Wf P m.1 m.2.1 m.2.2=0)&&!Xt (Xq P m.1 m.2.1 m.2.2) (P 128))
def yE (P:Nat->Int):List Mv:=(TX P).filter (Wv P)
def mvX (F:Nat->Int) (o:Nat):Nat->Int:=ovA (fun _=>0) 0 3 (fun j=>F (o+j))
theorem xq {F:Nat->Int} {l:List Mv} {i:Nat} (hF:∀ j,j < (YY l).length->F j=(YY l).getD j 0) (hi:i < l.length):mvX F (0+(i:Int).toNat*3) 0=(l.getD i (0,0,0)).1/\mvX F (0+(i:Int).toNat*3) 1=(l.getD i (0,0,0)).2.1/\mvX F (0+(i:Int).toNat*3) 2=(l.getD i (0,0,0)).2.2:=by
 obtain ⟨e1,e2,e3⟩:=Rn hi
 have hb:3*i+2 < (YY l).length:=by rw [Xj]; omega
 rw [<- hF _ (by omega)] at e1 e2 e3
 refine ⟨?_,?_,?_⟩
 ·rw [<- e1]; show F _=F _; exact congrArg F (by omega)
 ·rw [<- e2]; show F _=F _; exact congrArg F (by omega)
 rw [<- e3]; show F _=F _; exact congrArg F (by omega)
theorem toM_bd {s k c t:Int} {m:Mv} (hs:0<=s/\s < 64) (ht:0<=t/\t < 64) (h:m∈toM s k c t):(0<=m.1/\m.1 < 64)/\(0<=m.2.1/\m.2.1 < 64):=by
 unfold toM at h
 split at h
 ·simp only [ZaX,List.not_mem_nil,or_false] at h
  rcases h with rfl | rfl | rfl | rfl <;> exact ⟨hs,ht⟩
 rw [List.mem_singleton.1 h]; exact ⟨hs,ht⟩
theorem allS_bd {P:Nat->Int} {m:Mv} (h:m∈TX P):(0<=m.1/\m.1 < 64)/\(0<=m.2.1/\m.2.1 < 64):=by
 have h:=(Qo _).mem_iff.1 h
 unfold Qk Wg at h
 rw [List.mem_flatMap] at h
 obtain ⟨s,hs,h⟩:=h
 rw [List.mem_map] at hs
 obtain ⟨k,hk,rfl⟩:=hs
 have hk:=ZaU.1 hk
 split at h
 ·unfold Ud at h
  rw [List.mem_flatMap] at h
  obtain ⟨t,ht,h⟩:=h
  exact toM_bd (by constructor <;> omega) (KF ht) h
 cases h
theorem zW (P:Nat->Int):(TX P).length<=16896:=by
 have:=TT P 64
 rw [show (TX P).length=_ from (Qo _).length_eq]; omega
theorem ZbG {l:List Mv} {i:Nat} (hi:i < l.length):l.getD i (0,0,0)∈l:=by
 rw [Zau,Zav hi]
 exact List.getElem_mem hi
theorem uZ {P X:Nat->Int} {l:List Mv} {i:Nat} (hi:i < l.length) (h0:X 0=(l.getD i (0,0,0)).1) (h1:X 1=(l.getD i (0,0,0)).2.1) (h2:X 2=(l.getD i (0,0,0)).2.2) (h:Wv P (l.getD i (0,0,0))=true):YY ((l.take i).filter (Wv P))++[X 0,X 1,X 2]=YY ((l.take (i+1)).filter (Wv P)):=by
 rw [Vh (0,0,0) hi,List.filter_append,List.filter_cons,h,Za8 rfl,Ki,h0,h1,h2]; rfl
theorem Do {P:Nat->Int} {l:List Mv} {i:Nat} (hi:i < l.length) (h:Wv P (l.getD i (0,0,0))=false):YY ((l.take (i+1)).filter (Wv P))=YY ((l.take i).filter (Wv P)):=by
 rw [Vh (0,0,0) hi,List.filter_append,List.filter_cons,h,Za7 (by decide)]; simp
theorem zK (P:Nat->Int) {l:List Mv} (i:Nat):(YY ((l.take i).filter (Wv P))).length<=l.length*3:=by
 have h1:=Zbk (Wv P) (l.take i)
 rw [ZaN] at h1
 rw [Xj]; omega
theorem xM {P:Nat->Int} {m:Mv} (h1:Wm P m.1 m.2.1=true) (h2:ZbV P [m.1,(m.1+m.2.1) / 2]=false):Wv P m=false:=by unfold Wv; rw [h1,h2]; rfl
theorem yJ {P:Nat->Int} {m:Mv} (h:Wf P m.1 m.2.1 m.2.2≠0):Wv P m=false:=by unfold Wv; rw [ZaT h]; simp
theorem xc {P:Nat->Int} {m:Mv} (h:Xt (Xq P m.1 m.2.1 m.2.2) (P 128)=true):Wv P m=false:=by unfold Wv; rw [h]; simp
theorem leg_t {P:Nat->Int} {m:Mv} (h1:Wm P m.1 m.2.1=false\/ZbV P [m.1,(m.1+m.2.1) / 2]=true) (h2:Wf P m.1 m.2.1 m.2.2=0) (h3:Xt (Xq P m.1 m.2.1 m.2.2) (P 128)=false):Wv P m=true:=by
 unfold Wv
 rw [ZaV h2,h3]
 rcases h1 with h | h <;> rw [h] <;> simp
theorem iter_mv (g0 g4 g1:Nat->S) (P:Nat->Int):WR AM 99 [.yv 0,.ptr 3 0 133] [(Ee g0 g4 3 0),.sc .var 133 g1,.vs .var [.snil],.sc .var 133 (ia P)] (fun v _ L=>v=.tup []/\EN L [(Ee g0 g4 3 0),.sc .var 133 g1] [.sc .var 133 (ia P)] (YY (yE P))):=by
 refine YJ (a:=a99) rfl rfl (YI _) (ZQ rfl) (m:=4) rfl (Ze (Zy rfl (Yo rfl rfl ZP ?_)))
 obtain ⟨l,hleq⟩:∃ l,l=TX P:=⟨_,rfl⟩
 have hall:=all_rt P
 rw [<- hleq] at hall
 have hlen:=zW P
 rw [<- hleq] at hlen
 refine YE rfl (hall) rfl rfl (fun v1 own1 n1 hr1=>Wq rfl hr1.rx (by decide) (Xj l) (Yq rfl (Yc (Yk (Xm (ZaE (.refl _) (.refl _)) (Xp (fun m f _ L=>∃ (i:Nat) (vO:V) (ownO:HA),(i≤l.length)∧(m=l.length - i)∧(∀ p∈ownO,4≤p.1)∧(Rw 3 (YY ((l.take i).filter (Wv P))) vO ownO)∧(f 0=.yv 0)∧(f 1=.ptr 3 0 133)∧(f 9=v1)∧(f 10=.s (.int .i64 l.length))∧(f 11=.s (.int .i64 i))∧(L=(ownO++(own1++[(0,(Ee g0 g4 3 0)),(1,.sc .var 133 g1),(2,.vs .var [vO]),(3,.sc .var 133 (ia P))])))) (fun m f nb L hI=>?_) (l.length) (⟨0,.snil,[],by omega,by omega,(fun p (hp:p∈([]:HA))=>(by cases hp)),Rw.nil rfl,rfl,rfl,rfl,rfl,rfl,rfl⟩)))))))
 obtain ⟨i,vO,ownO,hi,hm,hgO,hrO,k0,k1,k9,k10,k11,rfl⟩:=hI
 refine Za 0 k0 (Za 1 k1 (Za 9 k9 (Za 10 k10 (Za 11 k11 (Ze (Zr rfl (Yc (Ye (Yj rfl (fun h1=>?_) (fun h1=>?_)))))))))) <;> simp only [NM] at h1
 ·refine Yh (Ye (Yk (Ze ?_)))
  obtain ⟨b1,q1,md1,c1,F1,rfl,rfl,hF1⟩:=hr1.rx.at (by decide) (Xj l) (by omega)
  refine Zx rfl rfl (Yp rfl rfl (Zaz _ ZM) (Yy (Yz rfl rfl rfl rfl .here (Yc (Ye (Ze ?_))))))
  obtain ⟨hx0,hx1,hx2⟩:=xq hF1 (i:=i) (by omega)
  have hbd:(0<=(l.getD i (0,0,0)).1/\(l.getD i (0,0,0)).1 < 64)/\(0<=(l.getD i (0,0,0)).2.1/\(l.getD i (0,0,0)).2.1 < 64):=allS_bd (P:=P) (by rw [<- hleq]; exact ZbG (by omega))
  have hcas:=YG (ku P (mvX F1 (0+(i:Int).toNat*3)) (by omega) (by omega))
  rw [hx0,hx1] at hcas
  have hmove:=YG (wS P (mvX F1 (0+(i:Int).toNat*3)))
  rw [hx0,hx1,hx2] at hmove
  have hid:ovA (fun _=>0) 0 133 (Xq P (l.getD i (0,0,0)).1 (l.getD i (0,0,0)).2.1 (l.getD i (0,0,0)).2.2)=(Xq P (l.getD i (0,0,0)).1 (l.getD i (0,0,0)).2.1 (l.getD i (0,0,0)).2.2):=UX (fun i hi=>UF hi)
  have hchk:=RO (ovA (fun _=>0) 0 133 (Xq P (l.getD i (0,0,0)).1 (l.getD i (0,0,0)).2.1 (l.getD i (0,0,0)).2.2)) (P 128)
  rw [show Xt (ovA (fun _=>0) 0 133 (Xq P (l.getD i (0,0,0)).1 (l.getD i (0,0,0)).2.1 (l.getD i (0,0,0)).2.2)) (P 128)=Xt (Xq P (l.getD i (0,0,0)).1 (l.getD i (0,0,0)).2.1 (l.getD i (0,0,0)).2.2) (P 128) by rw [hid]] at hchk
  refine Yo rfl rfl (.tail _ (Zaz _ (.tail _ ZP))) (Yo rfl rfl ZM (Yt rfl (hcas) rfl rfl rfl (Zk rfl (Ys (t:=18) rfl (fun h2=>?_) (fun h2=>?_)))))
  ·refine Yb rfl (Yo rfl rfl (.tail _ (Zaz _ (.tail _ ZP))) (Yb rfl (Zy rfl (Yb rfl (Ym (x:=(l.getD i (0,0,0)).1) rfl rfl ZM (hx0) (Yb rfl (Zy rfl (Yb rfl (Ym (x:=(l.getD i (0,0,0)).1) rfl rfl ZM (hx0) (Yb rfl (Zz rfl (Yb rfl (Ym (x:=(l.getD i (0,0,0)).2.1) rfl rfl ZM (hx1) (Yb rfl (Zs rfl rfl (Yb rfl (Zu rfl rfl (Yb rfl (Xo rfl (.one rfl (.one rfl .nil)) (Yb rfl (Wp (caps:=[]) rfl (safe_rd P [(l.getD i (0,0,0)).1,((l.getD i (0,0,0)).1+(l.getD i (0,0,0)).2.1) / 2] (YF rfl)) rfl ((.row rfl tJ)) (Qf ZM) rfl rfl rfl (Yb rfl (Yv (r:=.bool _) rfl rfl (Zq rfl (Yc (Yj rfl (fun h3=>?_) (fun h3=>?_))))))))))))))))))))))))))) <;> simp only [NM] at h3
   ·refine YX (Xe (Yf (Zs rfl rfl (Zj rfl (Yc (⟨l.length - (i+1),_,by omega,(.cons _ (.cons _ (ZaE (.refl _) (.refl _)))),i+1,_,_,by omega,rfl,hgO,?_,rfl,rfl,rfl,rfl,rfl,rfl⟩))))))
    (rw [Do (by omega) (by first | exact xM (by assumption) (by assumption) | exact yJ (by assumption) | exact xc (by assumption))]; exact hrO)
   refine Yh (Ze (Zy rfl (Yo rfl rfl (.tail _ (.tail _ (Zaz _ (.tail _ ZP)))) (Yo rfl rfl ZN (Yt rfl (hmove) rfl rfl rfl (Zo rfl (YD (v:=.agg _ _) rfl rfl (YD (v:=.s (.int _ _)) rfl rfl (Yy (Yz rfl rfl rfl rfl .here (Zj rfl (Yc (Ye (JT (KS (l1:=[_,_,_,_,_,_,_,_,_,_,_,_,_,_]) (l2:=[_,_,_]) (Zj rfl (Zr rfl (Zk rfl (Ys (t:=41) rfl (fun h4=>?_) (fun h4=>?_)))))))))))))))))))) <;> simp only [NM] at h4
   ·refine Yb rfl (Yo rfl rfl ZM (Yb rfl (Zy rfl (Yb rfl (Yd (o':=128) rfl rfl rfl (Yb rfl (Ym rfl rfl (.tail _ (.tail _ (.tail _ (Zaz _ (.tail _ ZP))))) rfl (Yb rfl (Yt rfl (hchk) rfl rfl rfl (Yb rfl (Yv (r:=.bool _) rfl rfl (Zq rfl (Zk rfl (Ys (t:=49) rfl (fun h5=>?_) (fun h5=>?_))))))))))))))) <;> simp only [NM] at h5
    ·refine Yb rfl (Yq (v:=.yv _) rfl (Yb rfl (Yo rfl rfl ZO (Yb rfl (Yo rfl rfl ZM (Yc (Ka (.cons _ (.cons _ (.cons _ (ZaE (.refl _) (.refl _))))) (Df rfl ?_))))))))
     have hll:=zK P (l:=l) i
     refine TZ (caps:=Ux g0 g4) (xa:=[.agg 3 (ia (mvX F1 (0+(i:Int).toNat*3))),.agg 133 (ia (ovA (fun _=>0) 0 133 (Xq P (l.getD i (0,0,0)).1 (l.getD i (0,0,0)).2.1 (l.getD i (0,0,0)).2.2)))]) (L0:=[_]) rfl (fun _=>rfl) rfl rfl (fun _ _ _=>rfl) (YF rfl) (YF rfl) rfl rfl hrO (List.Perm.append_left _ (List.perm_append_comm (l₁:=[_]) (l₂:=[_,_,_,_]))) (fun e=>by have h:=zy g0 g4 g1 P (mvX F1 (0+(i:Int).toNat*3)) (ovA (fun _=>0) 0 133 (Xq P (l.getD i (0,0,0)).1 (l.getD i (0,0,0)).2.1 (l.getD i (0,0,0)).2.2)); rw [e]; exact h) (fun m q F h1 h2=>zC g0 g4 g1 P (mvX F1 (0+(i:Int).toNat*3)) _ _ m q F h1 h2 (by omega)) (fun v2 own2 n2 hr2 hge2=>Vk ?_)
     rw [uZ (by omega) hx0 hx1 hx2 (leg_t (by first | exact .inl (by assumption) | exact .inr (by assumption)) (by assumption) (by assumption))] at hr2
     refine UD (List.Perm.append_left _ (List.perm_append_comm (l₁:=[_,_,_,_]) (l₂:=[_]))) (Yb rfl (Yv (r:=.bool _) rfl rfl (Zq rfl (Yc (ZB rfl (Yh (Yf (Zs rfl rfl (Zj rfl (Yc (⟨l.length - (i+1),_,by omega,(ZaE (.refl _) (.refl _)),i+1,_,_,by omega,rfl,hge2,?_,rfl,rfl,rfl,rfl,rfl,rfl⟩)))))))))))
     exact hr2
    refine ZD rfl (ZC rfl (Yc (Vk (ZD rfl (Zq rfl (Yc (ZB rfl (Yh (Yf (Zs rfl rfl (Zj rfl (Yc (⟨l.length - (i+1),_,by omega,(.cons _ (.cons _ (.cons _ (ZaE (.refl _) (.refl _))))),i+1,_,_,by omega,rfl,hgO,?_,rfl,rfl,rfl,rfl,rfl,rfl⟩)))))))))))))
    (rw [Do (by omega) (by first | exact xM (by assumption) (by assumption) | exact yJ (by assumption) | exact xc (by assumption))]; exact hrO)
   refine ZE rfl (ZD rfl (Zq rfl (Zk rfl (ZD rfl (ZC rfl (Yc (Vk (ZD rfl (Zq rfl (Yc (ZB rfl (Yh (Yf (Zs rfl rfl (Zj rfl (Yc (⟨l.length - (i+1),_,by omega,(.cons _ (.cons _ (.cons _ (ZaE (.refl _) (.refl _))))),i+1,_,_,by omega,rfl,hgO,?_,rfl,rfl,rfl,rfl,rfl,rfl⟩)))))))))))))))))
   (rw [Do (by omega) (by first | exact xM (by assumption) (by assumption) | exact yJ (by assumption) | exact xc (by assumption))]; exact hrO)
  refine Ya rfl rfl (ZF rfl (ZD rfl (ZC rfl (Zq rfl (Yc (ZB rfl (Yh (Ze (Zy rfl (Yo rfl rfl (.tail _ (Zaz _ (.tail _ ZP))) (Yo rfl rfl ZM (Yt rfl (hmove) rfl rfl rfl (Zo rfl (YD (v:=.agg _ _) rfl rfl (YD (v:=.s (.int _ _)) rfl rfl (Yy (Yz rfl rfl rfl rfl .here (Zj rfl (Yc (Ye (JT (KS (l1:=[_,_,_,_,_,_,_,_,_,_,_,_,_,_]) (l2:=[_,_,_]) (Zj rfl (Zr rfl (Zk rfl (Ys (t:=41) rfl (fun h6=>?_) (fun h6=>?_))))))))))))))))))))))))))) <;> simp only [NM] at h6
  ·refine Yb rfl (Yo rfl rfl ZM (Yb rfl (Zy rfl (Yb rfl (Yd (o':=128) rfl rfl rfl (Yb rfl (Ym rfl rfl (.tail _ (.tail _ (Zaz _ (.tail _ ZP)))) rfl (Yb rfl (Yt rfl (hchk) rfl rfl rfl (Yb rfl (Yv (r:=.bool _) rfl rfl (Zq rfl (Zk rfl (Ys (t:=49) rfl (fun h7=>?_) (fun h7=>?_))))))))))))))) <;> simp only [NM] at h7
   ·refine Yb rfl (Yq (v:=.yv _) rfl (Yb rfl (Yo rfl rfl ZN (Yb rfl (Yo rfl rfl ZM (Yc (Ka (.cons _ (.cons _ (ZaE (.refl _) (.refl _)))) (Df rfl ?_))))))))
    have hll:=zK P (l:=l) i
    refine TZ (caps:=Ux g0 g4) (xa:=[.agg 3 (ia (mvX F1 (0+(i:Int).toNat*3))),.agg 133 (ia (ovA (fun _=>0) 0 133 (Xq P (l.getD i (0,0,0)).1 (l.getD i (0,0,0)).2.1 (l.getD i (0,0,0)).2.2)))]) (L0:=[_]) rfl (fun _=>rfl) rfl rfl (fun _ _ _=>rfl) (YF rfl) (YF rfl) rfl rfl hrO (List.Perm.append_left _ (List.perm_append_comm (l₁:=[_]) (l₂:=[_,_,_,_]))) (fun e=>by have h:=zy g0 g4 g1 P (mvX F1 (0+(i:Int).toNat*3)) (ovA (fun _=>0) 0 133 (Xq P (l.getD i (0,0,0)).1 (l.getD i (0,0,0)).2.1 (l.getD i (0,0,0)).2.2)); rw [e]; exact h) (fun m q F h1 h2=>zC g0 g4 g1 P (mvX F1 (0+(i:Int).toNat*3)) _ _ m q F h1 h2 (by omega)) (fun v3 own3 n3 hr3 hge3=>Vk ?_)
    rw [uZ (by omega) hx0 hx1 hx2 (leg_t (by first | exact .inl (by assumption) | exact .inr (by assumption)) (by assumption) (by assumption))] at hr3
    refine UD (List.Perm.append_left _ (List.perm_append_comm (l₁:=[_,_,_,_]) (l₂:=[_]))) (Yb rfl (Yv (r:=.bool _) rfl rfl (Zq rfl (Yc (ZB rfl (Yh (Yf (Zs rfl rfl (Zj rfl (Yc (⟨l.length - (i+1),_,by omega,(ZaE (.refl _) (.refl _)),i+1,_,_,by omega,rfl,hge3,?_,rfl,rfl,rfl,rfl,rfl,rfl⟩)))))))))))
    exact hr3
   refine ZD rfl (ZC rfl (Yc (Vk (ZD rfl (Zq rfl (Yc (ZB rfl (Yh (Yf (Zs rfl rfl (Zj rfl (Yc (⟨l.length - (i+1),_,by omega,(.cons _ (.cons _ (ZaE (.refl _) (.refl _)))),i+1,_,_,by omega,rfl,hgO,?_,rfl,rfl,rfl,rfl,rfl,rfl⟩)))))))))))))
   (rw [Do (by omega) (by first | exact xM (by assumption) (by assumption) | exact yJ (by assumption) | exact xc (by assumption))]; exact hrO)
  refine ZE rfl (ZD rfl (Zq rfl (Zk rfl (ZD rfl (ZC rfl (Yc (Vk (ZD rfl (Zq rfl (Yc (ZB rfl (Yh (Yf (Zs rfl rfl (Zj rfl (Yc (⟨l.length - (i+1),_,by omega,(.cons _ (.cons _ (ZaE (.refl _) (.refl _)))),i+1,_,_,by omega,rfl,hgO,?_,rfl,rfl,rfl,rfl,rfl,rfl⟩)))))))))))))))))
  (rw [Do (by omega) (by first | exact xM (by assumption) (by assumption) | exact yJ (by assumption) | exact xc (by assumption))]; exact hrO)
 refine YX (Xe (⟨_,YP,?_⟩))
 obtain rfl:i=l.length:=by omega
 rw [List.take_length,hleq] at hrO
 exact ⟨rfl,JV hrO ⟨(Zaz _ (Zaz _ ZM)),(Zaz _ (Zaz _ ZN)),(Zaz _ (Zaz _ ZO)),(Zaz _ (Zaz _ ZP)),trivial⟩ (fun p hp=>⟨ZaC _ hp,hgO p hp⟩)⟩
def XE (P:Nat->Int):List Mv:=if WC P=true then yE (ovA (fun _=>0) 0 133 P) else []
def capsNo (g0 g4:Nat->S):List V:=[.agg 133 g0,.ptr 1 0 133,.ptr 2 0 1,.undef,.agg 133 g4,.fn 71 [],.undef,.undef,.undef,.undef,.undef,.undef,.undef]
theorem vj (P:Nat->Int):RtR AM 11 3 [.agg 133 (ia P)] [] (YY (XE P)) []:=by
 refine Vs (sK (a:=a11) rfl rfl (YI _) (ZQ rfl) (m:=0) (c0:=2) rfl rfl (Ye (Yf (YC rfl (Jt (z:=.one .snil) rfl (Yc (Ye (Ye (Yf (Yo rfl rfl ZN ?_))))))))))
 have fin:∀ (f:FE) (n:Nat) (v:V) (own:HA),f 2=.ptr 1 0 1->Rw 3 (YY (XE P)) v own->WP AM a11.nt (.seq (.ops [ZZ 12 false 1 2,Z1 1 2 12]) .ret) f n (own++[(1,.vs .var [v])])
   (fun _ _ _=>False) (fun _ _ _ _=>False) (fun f n L=>∃ b md v,rd a11.nt f 2=.ptr b 0 1∧(b,Blk.vs md [v])∈L∧∃ own,Rw 3 (YY (XE P)) v own∧∀ p∈own,p∈L) (fun _ _ _ _=>False):=fun f n v own h2 hr=>by
  refine Za 2 h2 (Ye (Yf (V6 (v:=v) rfl rfl (Zaz _ ZM) rfl (Tn (b:=1) (u:=v) (v:=v) rfl rfl hr.isrow (.appR _ .here) ?_))))
  exact Yc (Yi ⟨1,.var,v,rfl,Zaz _ ZM,own,hr,fun p hp=>ZaC _ hp⟩)
 cases h:WC P with
 | false =>
  have hl:YY (XE P)=[]:=by unfold XE; rw [h]; rfl
  refine Yt rfl (of_none P h) rfl rfl rfl (Yc (Yk (xV (Lr:=[(0,_),(1,_)]) (L0:=[]) (vs:=[.yv 0]) (Bs:=[.lp 607 Jc (capsNo (ia P) (ia P)) 0,.sc .var 133 (ia P),.vs .var [.snil]]) (List.reverse_perm [_,_]) rfl rfl rfl rfl rfl (YJ (a:=a71) rfl rfl (YI _) (ZQ rfl) (m:=3) rfl (Yh ⟨_,YP,?_⟩)))))
  refine .inl ⟨[_,_,_],.tup [],_,⟨.head _,.tail _ ZM,.tail _ ZN,trivial⟩,rfl,rfl,rfl,rfl,607,Jc,_,0,_,.refl _,?_⟩
  refine Xm (.cons _ (.refl _)) ?_
  exact fin _ _ .snil [] rfl (.nil hl)
 | true =>
  have hl:YY (XE P)=YY (yE (ovA (fun _=>0) 0 133 P)):=by unfold XE; rw [h]; rfl
  refine Rz (rs:=[]) (Bs:=[]) (caps:=[]) (av:=[.agg 133 (ia P)]) pb rfl (of_rn P h) rfl rfl (YF rfl) (fun _ h=>h) rfl trivial rfl rfl .nil (Yc (Yk (xV (Lr:=[(0,_),(1,_),(2,_)]) (L0:=[]) (vs:=[.yv 0,.ptr 3 0 133]) (Bs:=[Ee (ia P) (ia P) 3 0,.sc .var 133 (ia P),.vs .var [.snil],.sc .var 133 (ia (ovA (fun _=>0) 0 133 P))]) (List.reverse_perm [_,_,_]) rfl rfl rfl rfl rfl (QL (iter_mv (ia P) (ia P) (ia P) (ovA (fun _=>0) 0 133 P)) ?_))))
  rintro r n1 L1 ⟨rfl,ho⟩
  rw [<- hl] at ho
  rcases ho with ⟨e1,e2⟩ | ⟨b,m,q,F,e1,e2,e3,e4,e5⟩
  ·refine .inl ⟨_,.tup [],_,e2,rfl,rfl,rfl,rfl,607,Jc,_,0,_,.refl _,?_⟩
   refine Xm (.cons _ (.cons_cons _ (.cons _ .slnil))) ?_
   exact fin _ _ .snil [] rfl (.nil e1)
  refine .inr ⟨[Ee (ia P) (ia P) 3 0,.sc .var 133 (ia P)],[.sc .var 133 (ia (ovA (fun _=>0) 0 133 P))],b,m,3,q,.var,.grow,ia F,.tup [],_,_,e3,rfl,e1,e2,rfl,rfl,rfl,rfl,rfl,(YF rfl),607,Jc,_,0,_,.swap _ _ _,?_⟩
  refine Xm (.cons_cons _ (.cons _ (.cons_cons _ (.cons _ .slnil)))) ?_
  exact fin _ _ _ [(_,_)] rfl (.row e4 e5)
theorem oy {P:Nat->Int} {s:Int} {m:Mv} (h:m∈V5 P s 64):(0<=m.2.1/\m.2.1 < 64)/\Vd P s m.2.1=true/\m∈toM s (P (sqI s)) (P (sqI s+1)) m.2.1:=by
 unfold V5 at h
 rw [List.mem_flatMap] at h
 obtain ⟨t,ht,h⟩:=h
 split at h
 ·rename_i hg
  have e:=(JS h).2
  rw [e]
  exact ⟨mem64.1 ht,hg,h⟩
 cases h
theorem Ry {P:Nat->Int} {m:Mv} (h:m∈UQ P 64):(0<=m.1/\m.1 < 64)/\(0<=m.2.1/\m.2.1 < 64)/\Vd P m.1 m.2.1=true/\m∈toM m.1 (P (sqI m.1)) (P (sqI m.1+1)) m.2.1:=by
 unfold UQ at h
 rw [List.mem_flatMap] at h
 obtain ⟨s,hs,h⟩:=h
 have e:=Jr h
 rw [e]
 exact ⟨mem64.1 hs,oy h⟩
def cntR (P:Nat->Int) (s:Nat):Nat:=(UQ P s).length
theorem Ja {P:Nat->Int} {s t:Int} (h:Vd P s t=true):(1<=P (sqI s)/\P (sqI s)<=6)/\(P (sqI s+1)=0\/P (sqI s+1)=1)/\P (sqI s+1)=P 128/\s≠t:=by
 unfold Vd Ww YZ at h
 simp only [ZaM,ZaL] at h
 omega
theorem uO {P:Nat->Int} {m:Mv} (h:m∈toM m.1 (P (sqI m.1)) (P (sqI m.1+1)) m.2.1):if P (sqI m.1)=1/\m.2.1 / 8=7*(1 - P (sqI m.1+1)) then 2<=m.2.2/\m.2.2<=5 else m.2.2=0:=by
 unfold toM endM at h
 split at h
 ·rename_i e
  rw [ZaL] at e
  rw [Za8 e]
  simp only [ZaX,List.not_mem_nil,or_false] at h
  rcases h with h | h | h | h <;> (have:=congrArg (fun m:Mv=>m.2.2) h; simp only at this; omega)
 rename_i e
 rw [ZaL] at e
 rw [Za7 e]
 have:=congrArg (fun m:Mv=>m.2.2) (List.mem_singleton.1 h)
 simpa using this
theorem mv_can {P:Nat->Int} {m:Mv} (h:m∈UQ P 64):Wf P m.1 m.2.1 m.2.2=0:=by
 obtain ⟨ha,ht,hg,hm⟩:=Ry h
 obtain ⟨h1,h2,h3,h4⟩:=Ja hg
 refine Vr ⟨ha,ht,h4⟩ ?_
 unfold XH
 exact ZaV ⟨h1.1,h1.2,h3,h2,uO hm⟩
def pathOK (a b:Int):Bool:=decide (a=b) || (!(WK a b || WH a b) || (decide (1<=U8 a b/\b=a+Uu a b*U8 a b)&&(List.range (U8 a b - 1)).all fun (j:Nat)=>decide ((0<=a+Uu a b*((j:Int)+1)/\a+Uu a b*((j:Int)+1) < 64)/\a+Uu a b*((j:Int)+1)≠b)))
section
variable {P:Nat->Int} {a b:Int}
end
def hitA (P:Nat->Int) (c s a:Int):Bool:=decide (P (sqI a+1)=c)&&Xk P a s
def toL (P:Nat->Int) (s c:Int) (n:Nat):List Int:=if 0<=s/\s < 64 then (Wg n).filter (hitA P c s) else []
def isR (P:Nat->Int) (c:Int) (s:Int):Bool:=decide (0 < (toL P s c 64).length)
def checkR (P:Nat->Int) (c:Int):Bool:=if c=0\/c=1 then (TU P (T4 c)).any (isR P (Y5 c)) else false
section
variable {P:Nat->Int} {s t c:Int}
end
def fromD (P:Nat->Int) (s:Int) (n:Nat):List Mv:=if 0<=s/\s < 64 then V5 P s n else []
def fineM (P:Nat->Int) (m:Mv):Bool:=decide (Wf P m.1 m.2.1 m.2.2=0)&&(!Xt (Xq P m.1 m.2.1 m.2.2) (P 128)&&(!Wm P m.1 m.2.1 || (!Xt P (P 128)&&!([(m.1+m.2.1) / 2].any (isR P (Y5 (P 128)))))))
section
variable {P:Nat->Int} {m:Mv}
end
def movesD (P:Nat->Int):List Mv:=if WC P=true then (UQ P 64).filter (fineM P) else []
def q6 (s:Int):Int:=if s=1 then 2 else 1
def ofN (P:Nat->Int) (n:Nat):Int × Int:=if WC P=false\/0 < n then (0,0) else if Xt P (P 128)=true then (q6 (Y5 (P 128)),1) else (3,2)
section
variable {P:Nat->Int} {n:Nat}
theorem of_open (h:WC P=false\/0 < n):ofN P n=(0,0):=Za8 h
theorem of_go (h1:WC P=true) (h2:¬ 0 < n):¬ (WC P=false\/0 < n):=fun h=>h.elim (fun h=>by rw [h1] at h; cases h) h2
theorem of_mate (h1:WC P=true) (h2:¬ 0 < n) (h3:Xt P (P 128)=true):ofN P n=(q6 (Y5 (P 128)),1):=by
 unfold ofN; rw [Za7 (of_go h1 h2),Za8 h3]
theorem ju (h1:WC P=true) (h2:¬ 0 < n) (h3:Xt P (P 128)=false):ofN P n=(3,2):=by
 unfold ofN; rw [Za7 (of_go h1 h2),Za7 (by rw [h3]; decide)]
end
def sumB (g:Nat->Int):Nat->Int
 | 0=>0
 | n+1=>sumB g n+g n
def Clean (P:Nat->Int):Prop:=∀ s:Nat,s < 64->(P (s*2)=0/\P (s*2+1)=0)\/(1<=P (s*2)/\P (s*2)<=6/\(P (s*2+1)=0\/P (s*2+1)=1))
def betOK (a b:Int):Bool:=!(WK a b || WH a b) || (jO (Di (JO a) (JO b)) ((Di a b).map JO)&&(Di a b).all fun t=>decide (0<=t/\t < 64))
def mvT (m:Mv):Mv:=(JO m.1,JO m.2.1,m.2.2)
theorem oo {P:Nat->Int} {c:Int} {a:Nat} (hk:P (sqI (a:Int))=6/\P (sqI (a:Int)+1)=c):∀ n:Nat,a < n->1<=kM P c n
 | 0,h=>by omega
 | n+1,h=>by
  have hb:=q4 P c n
  unfold kM
  by_cases e:a=n
  ·subst e; rw [Za8 hk]; omega
  have:=oo hk n (by omega)
  split <;> omega
theorem jr {P:Nat->Int} {c:Int} {a b:Nat} (ha:P (sqI (a:Int))=6/\P (sqI (a:Int)+1)=c) (hb:P (sqI (b:Int))=6/\P (sqI (b:Int)+1)=c) (hab:a < b):∀ n:Nat,b < n->2<=kM P c n
 | 0,h=>by omega
 | n+1,h=>by
  unfold kM
  by_cases e:b=n
  ·subst e
   have:=oo ha b hab
   rw [Za8 hb]; omega
  have:=jr ha hb hab n (by omega)
  split <;> omega
theorem te {P:Nat->Int} (h:VO P=true):kM P (P 128) 64=1:=by
 unfold VO at h
 simp only [ZaM] at h
 obtain ⟨_,h0,h1,h2⟩:=R0 h.1.1.1
 rcases h2 with h2 | h2 <;> rw [h2] <;> assumption
theorem Zas {P:Nat->Int} {c x y:Int} (h:kM P c 64=1) (hx:(0<=x/\x < 64)/\P (sqI x)=6/\P (sqI x+1)=c) (hy:(0<=y/\y < 64)/\P (sqI y)=6/\P (sqI y+1)=c):x=y:=by
 obtain ⟨a,rfl⟩:∃ a:Nat,x=a:=⟨x.toNat,by omega⟩
 obtain ⟨b,rfl⟩:∃ b:Nat,y=b:=⟨y.toNat,by omega⟩
 rcases Nat.lt_trichotomy a b with e | e | e
 ·have:=jr hx.2 hy.2 e 64 (by omega); omega
 ·rw [e]
 have:=jr hy.2 hx.2 e 64 (by omega); omega
theorem s8 {P:Nat->Int} (h:WC P=true):VO P=true:=by
 unfold WC at h
 rw [ZaM] at h
 exact h.1
theorem Dh {P:Nat->Int} (hz:∀ i,133<=i->P i=0):XE P=if WC P=true then (UQ P 64).filter (Wv P) else []:=by
 unfold XE yE
 rw [UX hz,allS_is]
theorem DV {P:Nat->Int} (hz:∀ i,133<=i->P i=0) {m:Mv}:m∈XE P↔WC P=true/\m∈UQ P 64/\Wv P m=true:=by
 rw [Dh hz]
 by_cases hp:WC P=true
 ·rw [Za8 hp,ZaS]; simp [hp]
 rw [Za7 hp]; simp [hp]
def Ej:List (S × V):=[(.int .i64 2,.s (.str ⟨#[78]⟩)),(.int .i64 3,.s (.str ⟨#[66]⟩)),(.int .i64 4,.s (.str ⟨#[82]⟩)),(.int .i64 5,.s (.str ⟨#[81]⟩)),(.int .i64 6,.s (.str ⟨#[75]⟩))]
theorem kL :WR AM 19 [] [] (fun v _ L=>v=.map 0/\(0,Blk.mp .var Ej)∈L):=by
 refine YJ (a:=a19) rfl rfl (YI _) (ZQ rfl) (m:=0) rfl (Ze (Yq rfl (Zf (jt (UB rfl rfl rfl rfl rfl rfl .here (UB rfl rfl rfl rfl rfl rfl .here (UB rfl rfl rfl rfl rfl rfl .here (UB rfl rfl rfl rfl rfl rfl .here (UB rfl rfl rfl rfl rfl rfl .here (Yq (v:=.map _) rfl (Yq (v:=.map _) rfl (Yc (Yi (⟨_,YK (v:=.map _) rfl (YP),?_⟩))))))))))))))
 exact ⟨rfl,.head _⟩
theorem xz:RN AM 19 [] [] (fun b=>.map b) (.mp .var Ej) []:=by
 obtain ⟨v,σ',n',L',h1,h2,rfl,h3⟩:=kL
 exact ⟨0,σ',h1,Zbt _,(h2.2.mem h3).2,trivial⟩
def Q6 (x:Mv):List Mv->Int
 | []=>-1
 | y::l=>if x=y then 0 else if Q6 x l=-1 then -1 else Q6 x l+1
theorem uX (x:Mv):∀ l:List Mv,-1<=Q6 x l/\Q6 x l < l.length
 | []=>⟨Int.le_refl _,by simp [Q6]⟩
 | y::l=>by
  have:=uX x l
  unfold Q6
  rw [Zbq]
  split
  ·omega
  split <;> omega
theorem wI {x:Mv}:∀ {l:List Mv},(∀ i:Nat,i < l.length->x≠l.getD i (0,0,0))->Q6 x l=-1
 | [],_=>rfl
 | y::l,h=>by
  unfold Q6
  have h0:=h 0 (by simp)
  have ih:=wI (x:=x) (l:=l) fun i hi=>by have:=h (i+1) (by simpa using hi); simpa using this
  rw [Za7 (fun e=>h0 (by simp [e])),Za8 ih]
theorem wq {x:Mv}:∀ {l:List Mv} {i:Nat},i < l.length->x=l.getD i (0,0,0)->(∀ j:Nat,j < i->x≠l.getD j (0,0,0))->Q6 x l=i
 | [],i,h,_,_=>by simp at h
 | y::l,0,_,h,_=>by
  unfold Q6
  rw [Za8 (by simpa using h)]; rfl
 | y::l,i+1,hi,h,hn=>by
  unfold Q6
  have h0:=hn 0 (by omega)
  have ih:=wq (x:=x) (l:=l) (i:=i) (by simpa using hi) (by simpa using h) fun j hj=>by have:=hn (j+1) (by omega); simpa using this
  rw [Za7 (fun e=>h0 (by simp [e])),Za7 (by omega),ih]; omega
theorem Zb0 {x:Mv}:∀ {l:List Mv},0<=Q6 x l↔x∈l
 | []=>by simp [Q6]
 | y::l=>by
  have ih:=Zb0 (x:=x) (l:=l)
  have:=uX x l
  unfold Q6
  rw [ZaX]
  by_cases e:x=y
  ·rw [Za8 e]; simp [e]
  rw [Za7 e]
  simp only [e,false_or]
  rw [<- ih]
  split <;> omega
theorem eq3 {P Q:Nat->Int} {m:Mv} (h0:Q 0=m.1) (h1:Q 1=m.2.1) (h2:Q 2=m.2.2):eqI 3 P Q=decide ((P 0,P 1,P 2)=m):=by
 rw [ZaP,Uw,ZaL]
 constructor
 ·intro h
  exact Prod.ext ((h 0 (by omega)).trans h0) (Prod.ext ((h 1 (by omega)).trans h1) ((h 2 (by omega)).trans h2))
 rintro h
 have e0:=congrArg (fun m:Mv=>m.1) h
 have e1:=congrArg (fun m:Mv=>m.2.1) h
 have e2:=congrArg (fun m:Mv=>m.2.2) h
 exact three (e0.trans h0.symm) (e1.trans h1.symm) (e2.trans h2.symm)
theorem pQ (M:Nat->Int) (l:List Mv) (hlen:l.length<=1000000):RdR AM 79 3 [] [.agg 3 (ia M)] (YY l) (.s (.int .i64 (Q6 (M 0,M 1,M 2) l))):=by
 refine Ql fun v Bs hc=>?_
 refine YJ (a:=a79) rfl rfl (YI _) (ZQ rfl) rfl ?_ (by first | rfl | (cases hc <;> rfl))
 have hr0:=hc.rx
 rw [show Xb 0 Bs=Xb 0 Bs++[] from (ZaQ _).symm]
 generalize hown:Xb 0 Bs=own0 at hr0 ⊢
 refine Ze (YC rfl (Yq rfl (Yc (Ye (Ze (Yq (v:=v) rfl (Wq rfl hr0 (by decide) (Xj l) (Yq rfl (Yc (Yk (Xm (.cons_cons _ (ZaE (.refl _) .slnil)) (Xp (fun m f _ L=>∃ (i:Nat),(i<=l.length)/\(m=l.length - i)/\(∀ j:Nat,j < i->(M 0,M 1,M 2)≠l.getD j (0,0,0))/\(f 0=v)/\(f 3=.ptr Bs.length 0 3)/\(f 7=.s (.int .i64 l.length))/\(f 8=.s (.int .i64 i))/\(L=(Bs.length,.sc .var 3 (ia M))::(own0++[]))) (fun m f nb L hI=>?_) (l.length) (⟨0,by omega,by omega,fun j hj=>by omega,rfl,rfl,rfl,rfl,rfl⟩)))))))))))))
 obtain ⟨i,hi,hm,hn,k0,k3,k7,k8,rfl⟩:=hI
 refine Za 0 k0 (Za 3 k3 (Za 7 k7 (Za 8 k8 (Ze (Zr rfl (Yc (Ye (Yj rfl (fun h1=>?_) (fun h1=>?_))))))))) <;> simp only [NM] at h1
 ·skip
  refine Yh (Ye (Yk (Ze (Zj rfl (Zj rfl (Yc (Ye (Yg (Yo rfl rfl ZM (Yq (v:=v) rfl (Zj rfl ?_)))))))))))
  obtain ⟨b0,q0,md0,c0,F0,rfl,rfl,hF0⟩:=hr0.at (by decide) (Xj l) (by omega)
  refine Zx rfl rfl (Yp rfl rfl ZN ?_)
  obtain ⟨hx0,hx1,hx2⟩:=xq hF0 (i:=i) (by omega)
  have heq:=eq3 (P:=M) hx0 hx1 hx2
  refine Yx (b:=decide ((M 0,M 1,M 2)=(l.getD i (0,0,0)))) rfl rfl heq (Yc (Yj rfl (fun hdec=>?_) (fun hdec=>?_)))
  ·simp only [NM] at hdec
   (have hyes:(M 0,M 1,M 2)=(l.getD i (0,0,0)):=by simpa using hdec)
   refine Ze (Zj rfl (Zj rfl (Yc (Yi (⟨_,ZL rfl,?_⟩)))))
   refine ⟨ZJ ?_,(fun _ h=>(.tail _ h))⟩
   exact (wq (by omega) hyes hn).symm
  simp only [NM] at hdec
  (have hne:(M 0,M 1,M 2)≠(l.getD i (0,0,0)):=by simpa using hdec)
  refine Yh (Yf (Zs rfl rfl (Zj rfl (Yc (⟨l.length - (i+1),_,by omega,(.refl _),i+1,by omega,rfl,?_,rfl,rfl,rfl,rfl,rfl⟩)))))
  intro j hj
  by_cases e:j=i
  ·subst e; exact hne
  exact hn j (by omega)
 skip
 refine YX (Xe (Ze (Yq rfl (Yc (Yi (⟨_,ZL rfl,?_⟩))))))
 refine ⟨ZJ ?_,(fun _ h=>(.tail _ h))⟩
 exact (wI fun j hj=>hn j (by omega)).symm
theorem vk (M:Nat->Int) (l:List Mv) (hlen:l.length<=1000000):RdR AM 41 3 [] [.agg 3 (ia M)] (YY l) (.s (.bool (decide ((M 0,M 1,M 2)∈l)))):=by
 refine Ql fun v Bs hc=>?_
 refine YJ (a:=a41) rfl rfl (YI _) (ZQ rfl) rfl ?_ (by first | rfl | (cases hc <;> rfl))
 have hr0:=hc.rx
 rw [show Xb 0 Bs=Xb 0 Bs++[] from (ZaQ _).symm]
 generalize hown:Xb 0 Bs=own0 at hr0 ⊢
 refine Ze (YC rfl (Yq rfl (Zf (Yq (v:=v) rfl (Yo rfl rfl ZM (Wp (caps:=[]) rfl (pQ M l hlen) rfl (hr0) (fun _ h=>(.tail _ (ZaC _ h))) rfl rfl rfl (Zr rfl (Zk rfl (Zg rfl (⟨ZI ?_,(fun _ h=>(.tail _ h))⟩))))))))))
 exact decide_eq_decide.2 Zb0
theorem vx (P:Nat->Int):(XE P).length<=16896:=by
 unfold XE
 split
 ·exact ZaZ (Zbk _ _) (zW _)
 exact Zbt _
theorem E2 (P M:Nat->Int):WR AM 13 [.agg 133 (ia P),.agg 3 (ia M)] [] (fun v _ _=>v=.s (.bool (decide ((M 0,M 1,M 2)∈XE P)))):=by
 refine YJ (a:=a13) rfl rfl (YI _) (ZQ rfl) (m:=0) rfl (Ze (YC rfl (YC rfl (Yq rfl (Yc (Ye (Yg (Yo rfl rfl ZN (Uh rfl (vj P) rfl rfl (fun v1 own1 n1 hr1=>Yo rfl rfl (Zaz _ ZM) (Wp (caps:=[]) rfl (vk M (XE P) (ZaZ (vx P) (YF rfl))) rfl (hr1.rx) (fun _ h=>(ZaC _ h)) rfl rfl rfl (Zk rfl (Zg rfl ?_)))))))))))))
 rfl
theorem pS (s:Int):WR AM 52 [.s (.int .i64 s)] [] (fun v _ _=>v=.s (.int .i64 (q6 s))):=by
 refine YJ (a:=a52) rfl rfl (YI _) (ZQ rfl) (m:=0) rfl (Ze (Yq rfl (Yc (Ye (Ze (Zj rfl (Zr rfl (Yc (Yj rfl (fun h1=>?_) (fun h1=>?_)))))))))) <;> simp only [NM] at h1
 ·refine Ze (Yq rfl (Yc (Yi (⟨_,ZL rfl,?_⟩))))
  refine ZJ ?_
  exact (Za8 (by omega)).symm
 refine Yh (Ze (Yq rfl (Yc (Yi (⟨_,ZL rfl,?_⟩)))))
 refine ZJ ?_
 exact (Za7 (by omega)).symm
def Rg (P:Nat->Int):Bool:=WC P&&decide ((XE P).length=0)
theorem stuck_f {P:Nat->Int} (h:Rg P=false):WC P=false\/0 < (XE P).length:=by
 unfold Rg at h
 cases hp:WC P with
 | false=>exact .inl rfl
 | true =>
  rw [hp,Bool.true_and] at h
  have:=of_decide_eq_false h
  exact .inr (by omega)
theorem D8 {P:Nat->Int} (h:Rg P=true):WC P=true/\¬ 0 < (XE P).length:=by
 unfold Rg at h
 rw [ZaM,ZaL] at h
 exact ⟨h.1,by omega⟩
theorem u9 (P:Nat->Int) (hz:∀ i,133<=i->P i=0):WR AM 51 [.agg 133 (ia P)] [] (fun v _ _=>v=.s (.bool (Rg P))):=by
 refine YJ (a:=a51) rfl rfl (YI _) (ZQ rfl) (m:=0) rfl (Ze (YC rfl (Yq rfl (Zf (Zy rfl (Yo rfl rfl ZM (Yt rfl (YG (Jv P)) rfl rfl rfl (Zk rfl (Ys (t:=6) rfl (fun h2=>?_) (fun h2=>?_))))))))))
 ·refine Yb rfl (Zy rfl (Yb rfl (Yo rfl rfl ZM (Yb rfl (YE rfl (vj P) rfl rfl (fun v1 own1 n1 hr1=>Yb rfl (Wq rfl hr1.rx (by decide) (Xj _) (Yb rfl (Zr rfl (Zq rfl (Zk rfl (Zg rfl (ZI ?_)))))))))))))
  unfold Rg
  (rw [show WC P=true by assumption,Bool.true_and,ZaP,Za2,ZaL]; omega)
 refine Ya rfl rfl (ZE rfl (Zq rfl (Zk rfl (Zg rfl (ZI ?_)))))
 unfold Rg
 (rw [show WC P=false by assumption]; rfl)
theorem of_walk (P:Nat->Int) (hz:∀ i,133<=i->P i=0):WR AM 24 [.agg 133 (ia P)] [] (fun v _ _=>v=.tup [.s (.int .i64 (ofN P (XE P).length).1),.s (.int .i64 (ofN P (XE P).length).2)]):=by
 have hid:ovA (fun _=>0) 0 133 P=P:=UX hz
 refine YJ (a:=a24) rfl rfl (YI _) (ZQ rfl) (m:=0) rfl (Ze (YC rfl (Yq rfl (Yq rfl (Yc (Ye (Ze (Yo rfl rfl ZM (YB rfl (.agg rfl .nil) ?_)))))))))
 rw [hid]
 refine Yy (Yz rfl rfl rfl rfl .here ?_)
 rw [hid]
 refine Yc (Yk (Ze (Yo rfl rfl ZM (Yt rfl (YG (u9 P hz)) rfl rfl rfl (Yv (r:=.bool _) rfl rfl (Zk rfl (Yc (Yj rfl (fun h3=>?_) (fun h3=>?_))))))))) <;> simp only [NM] at h3
 ·refine Ze (Yq rfl (Yq rfl (Yc (Yi (⟨_,YK (v:=.s (.int _ _)) rfl (ZL rfl),?_⟩)))))
  (rw [of_open (stuck_f (by assumption))]; rfl)
 refine Ze (Yo rfl rfl ZN (Zy rfl (Yd (o':=128) rfl rfl rfl (Ym (x:=P 128) rfl rfl ZM (rfl) (Yt rfl (RO P (P 128)) rfl rfl rfl (Zk rfl (Yc (Yj rfl (fun h4=>?_) (fun h4=>?_)))))))))
 ·refine Ze (Zy rfl (Yd (o':=128) rfl rfl rfl (Ym (x:=P 128) rfl rfl ZM (rfl) (Yt rfl (YG (Uc _)) rfl rfl rfl (Yt rfl (YG (pS _)) rfl rfl rfl (Zj rfl (Yq rfl (Yc (Yi (⟨_,YK (v:=.s (.int _ _)) rfl (ZL rfl),?_⟩))))))))))
  (rw [of_mate (D8 (by assumption)).1 (D8 (by assumption)).2 (by assumption)]; rfl)
 refine Yh (Ze (Yq rfl (Yq rfl (Yc (Yi (⟨_,YK (v:=.s (.int _ _)) rfl (ZL rfl),?_⟩))))))
 (rw [ju (D8 (by assumption)).1 (D8 (by assumption)).2 (by assumption)]; rfl)
def kI (P:Nat->Int) (c:Int) (s:Nat):Int:=if P (s*2)=6/\P (s*2+1)=c then 1 else 0
def okX (X:Nat->Int):Prop:=(X 0=0/\X 1=0)\/((1<=X 0/\X 0<=6/\(X 1=0\/X 1=1))/\X 0≠1)
def XA (k:Int):ByteArray:=if k=2 then ⟨#[78]⟩ else if k=3 then ⟨#[66]⟩ else if k=4 then ⟨#[82]⟩ else if k=5 then ⟨#[81]⟩ else if k=6 then ⟨#[75]⟩ else ⟨#[]⟩
theorem VL (k:Int):(QV (.int .i64 k) Ej).getD (.s (.str ⟨#[]⟩))=.s (.str (XA k)):=by
 by_cases h2:k=2
 ·subst h2; rfl
 by_cases h3:k=3
 ·subst h3; rfl
 by_cases h4:k=4
 ·subst h4; rfl
 by_cases h5:k=5
 ·subst h5; rfl
 by_cases h6:k=6
 ·subst h6; rfl
 simp [QV,Ej,S.eqB,XA,h2,h3,h4,h5,h6,Ne.symm h2,Ne.symm h3,Ne.symm h4,Ne.symm h5,Ne.symm h6]
theorem QA (k:Int):(XA k).size=if 2<=k/\k<=6 then 1 else 0:=by
 unfold XA
 by_cases h2:k=2
 ·subst h2; rfl
 by_cases h3:k=3
 ·subst h3; rfl
 by_cases h4:k=4
 ·subst h4; rfl
 by_cases h5:k=5
 ·subst h5; rfl
 by_cases h6:k=6
 ·subst h6; rfl
 rw [Za7 h2,Za7 h3,Za7 h4,Za7 h5,Za7 h6,Za7 (by omega)]; rfl
theorem j3:XA 1=⟨#[]⟩:=rfl
theorem Vv (k:Int):(XA k).size<=1:=by rw [QA]; split <;> omega
theorem Xh {x:Int} (h:0<=x/\x < 64):(Y2 x).size=2:=by rw [wl h]; rfl
def RI (c:Int):ByteArray:=if c=-1 then ⟨#[45]⟩ else ⟨#[120]⟩
theorem Wi {c:Int} (h:c=-1):RI c=⟨#[45]⟩:=Za8 h
theorem XZ {c:Int} (h:c≠-1):RI c=⟨#[120]⟩:=Za7 h
theorem rr (c:Int):(RI c).size=1:=by unfold RI; split <;> rfl
def Q1 (P:Nat->Int) (a t:Int):ByteArray:=XA (P (sqI a))++Y2 a++RI (Y7 P (P (sqI a)) a t)++Y2 t
def UM (P:Nat->Int) (a t b:Int):ByteArray :=
 if P (sqI a)=6/\t - a=2 then ⟨#[79,45,79]⟩ else if P (sqI a)=6/\t - a=-2 then ⟨#[79,45,79,45,79]⟩ else if b=0 then Q1 P a t else Q1 P a t++⟨#[61]⟩++XA b
def RU (Q:Nat->Int) (s:ByteArray):ByteArray:=if (ofN Q (XE Q).length).2=1 then s++⟨#[35]⟩ else if Xt Q (Q 128)=true then s++⟨#[43]⟩ else s
def Kn (P:Nat->Int) (a t b:Int):ByteArray:=RU (Xq P a t b) (UM P a t b)
theorem Ub {P:Nat->Int} {a t:Int} (ha:0<=a/\a < 64) (ht:0<=t/\t < 64):5<=(Q1 P a t).size/\(Q1 P a t).size<=6:=by
 unfold Q1
 simp only [Zbf,Xh ha,Xh ht,rr]
 have:=Vv (P (sqI a))
 omega
theorem qF {P:Nat->Int} {a t b:Int} (ha:0<=a/\a < 64) (ht:0<=t/\t < 64):(UM P a t b).size≠0/\(UM P a t b).size<=16:=by
 have h:=Ub (P:=P) ha ht
 have h2:=Vv b
 have h3:(⟨#[61]⟩:ByteArray).size=1:=rfl
 unfold UM
 split
 ·exact ⟨by decide,by decide⟩
 split
 ·exact ⟨by decide,by decide⟩
 split
 ·omega
 simp only [Zbf]; omega
theorem body_O {P:Nat->Int} {a t b:Int} (h:P (sqI a)=6) (h2:t - a=2):(⟨#[79,45,79]⟩:ByteArray)=UM P a t b:=by unfold UM; rw [Za8 ⟨h,h2⟩]
theorem body_OO {P:Nat->Int} {a t b:Int} (h:P (sqI a)=6) (h2:t - a=-2):(⟨#[79,45,79,45,79]⟩:ByteArray)=UM P a t b:=by unfold UM; rw [Za7 (by omega),Za8 ⟨h,h2⟩]
theorem VA {P:Nat->Int} {a t b:Int} (h1:¬ (P (sqI a)=6/\t - a=2)) (h2:¬ (P (sqI a)=6/\t - a=-2)) (hb:b=0) {s:ByteArray} (hs:s=Q1 P a t):s=UM P a t b:=by unfold UM; rw [Za7 h1,Za7 h2,Za8 hb,hs]
theorem VB {P:Nat->Int} {a t b:Int} (h1:¬ (P (sqI a)=6/\t - a=2)) (h2:¬ (P (sqI a)=6/\t - a=-2)) (hb:b≠0) {s:ByteArray} (hs:s=Q1 P a t):s++⟨#[61]⟩++XA b=UM P a t b:=by unfold UM; rw [Za7 h1,Za7 h2,Za7 hb,hs]
theorem WF {P:Nat->Int} {a t:Int} {g:ByteArray} (hg:g=RI (Y7 P (P (sqI a)) a t)):XA (P (sqI a))++Y2 a++g++Y2 t=Q1 P a t:=by rw [hg]; rfl
theorem UY {P:Nat->Int} {a t:Int} {g:ByteArray} (hk:P (sqI a)=1) (hg:g=RI (Y7 P (P (sqI a)) a t)):Y2 a++g++Y2 t=Q1 P a t:=by
 rw [hg]; unfold Q1
 rw [hk,j3,show (⟨#[]⟩:ByteArray)++Y2 a=Y2 a from ByteArray.empty_append]
theorem Long_no (P M:Nat->Int) (hm:(M 0,M 1,M 2) ∉ XE P):WR AM 8 [.agg 133 (ia P),.agg 3 (ia M)] [] (fun v _ _=>v=.tup [.s (.str ⟨#[]⟩),.s (.int .i64 8)]):=by
 have his:=YG (E2 P M)
 rw [ZaT hm] at his
 refine YJ (a:=a8) rfl rfl (YI _) (ZQ rfl) (m:=0) rfl (Ze (YC rfl (YC rfl (Yq rfl (Yq rfl (Yc (Ye (Ze (Yo rfl rfl ZN (Yo rfl rfl ZM (Yt rfl (his) rfl rfl rfl (Yv (r:=.bool _) rfl rfl (Yc (ZA rfl (Ze (Yq rfl (Yq rfl (Yc (Yi (⟨_,YK (v:=.s _) rfl (ZL rfl),?_⟩))))))))))))))))))))
 rfl
theorem kU (P M:Nat->Int) (hz:∀ i,133<=i->P i=0) (hm:(M 0,M 1,M 2)∈XE P):WR AM 8 [.agg 133 (ia P),.agg 3 (ia M)] [] (fun v _ _=>v=.tup [.s (.str (Kn P (M 0) (M 1) (M 2))),.s (.int .i64 0)]):=by
 have his:=YG (E2 P M)
 rw [ZaV hm] at his
 obtain ⟨h1p,h2p,h3p⟩:=(DV hz).1 hm
 obtain ⟨hsq,htq,hg,hmt⟩:=Ry h2p
 have he:=mv_can h2p
 obtain ⟨hk6,_,_,hne⟩:=Ja hg
 simp only at hsq htq hg hmt he hk6 hne
 have htk:=YG (tL P M)
 rw [Za8 he] at htk
 have hmv:=YG (wS P M)
 rw [he] at hmv
 have hsz:=qF (P:=P) (b:=M 2) hsq htq
 refine YJ (a:=a8) rfl rfl (YI _) (ZQ rfl) (m:=0) rfl (Ze (YC rfl (YC rfl (Yq rfl (Yq rfl (Yc (Ye (Ze (Yo rfl rfl ZN (Yo rfl rfl ZM (Yt rfl (his) rfl rfl rfl (Yv (r:=.bool _) rfl rfl (Yc (ZB rfl (Yh (Ye (Yg (EP (v:=.aggv [.pnil,.snil]) rfl (uN rfl rfl (tU uT rfl rfl xz (Zy rfl (Ym (x:=M 0) rfl rfl ZO (rfl) (Zy rfl (Zw rfl rfl rfl (Yp rfl rfl ZP (Yy (Zl rfl (Yq (v:=.map _) rfl (Yz rfl rfl rfl rfl .here ?_)))))))))))))))))))))))))))))
 refine Yc (WD (fun f n L=>∃ (kb:Nat) (s:ByteArray),(s=UM P (M 0) (M 1) (M 2))/\(f 2=.ptr 0 0 133)/\(f 3=.ptr 1 0 3)/\(f 6=.ptr 2 0 2)/\(L=[(kb,.sc (.gty 5) s.size (Wh s)),(2,QM 54 2 kb s.size),(1,.sc .var 3 (ia M)),(0,.sc .var 133 (ia P))])) ?_ (fun f nb L hI=>?_))
 ·refine Ze (Zz rfl (Ym (x:=M 1) rfl rfl ZP (rfl) (Zy rfl (Ym (x:=M 0) rfl rfl ZP (rfl) (Zt rfl rfl (Zj rfl (Yc (Yk (Ze (Zy rfl (Ym (x:=(P (sqI (M 0)))) rfl rfl ZM (rfl) (Zr rfl (Zk rfl (Ys (t:=64) rfl (fun h64=>?_) (fun h64=>?_))))))))))))))) <;> simp only [NM] at h64
  ·refine Yb rfl (Zj rfl (Yb rfl (Zr rfl (Zq rfl (Zk rfl (Yc (Yj rfl (fun h60=>?_) (fun h60=>?_)))))))) <;> simp only [NM] at h60
   ·refine Yf (Zl rfl (EK rfl (XS (Lr:=[(_,_)]) (L0:=[_,_,_,_]) (kQ (gS1 ⟨#[79,45,79]⟩) (.ex 1) ⟨#[79,45,79]⟩ rfl (by decide) (by decide)) rfl rfl (Zbr (.refl _) ((Zbs _ ((Zbs _ ((Zbs _ (.refl _)).trans (.swap _ _ _))).trans (.swap _ _ _))).trans (.swap _ _ _))) rfl rfl rfl rfl rfl rfl rfl (Yc ?_))))
    refine ⟨_,(.cons_cons _ (.cons_cons _ (.cons _ (.cons _ (.cons _ (.refl _)))))),6,_,body_O h64 h60,rfl,rfl,rfl,rfl⟩
   refine Ze (Zy rfl (Ym (x:=(P (sqI (M 0)))) rfl rfl ZM (rfl) (Zr rfl (Zk rfl (Ys (t:=75) rfl (fun h75=>?_) (fun h75=>?_)))))) <;> simp only [NM] at h75
   ·refine Yb rfl (Zj rfl (Yb rfl (Zr rfl (Zq rfl (Zk rfl (Yc (Yj rfl (fun h71=>?_) (fun h71=>?_)))))))) <;> simp only [NM] at h71
    ·refine Yf (Zl rfl (EK rfl (XS (Lr:=[(_,_)]) (L0:=[_,_,_,_]) (kQ (gS1 ⟨#[79,45,79,45,79]⟩) (.ex 1) ⟨#[79,45,79,45,79]⟩ rfl (by decide) (by decide)) rfl rfl (Zbr (.refl _) ((Zbs _ ((Zbs _ ((Zbs _ (.refl _)).trans (.swap _ _ _))).trans (.swap _ _ _))).trans (.swap _ _ _))) rfl rfl rfl rfl rfl rfl rfl (Yc ?_))))
     refine ⟨_,(.cons_cons _ (.cons_cons _ (.cons _ (.cons _ (.cons _ (.refl _)))))),6,_,body_OO h75 h71,rfl,rfl,rfl,rfl⟩
    refine Ze (Yq rfl (Yc (Ye (Ze (Yo rfl rfl (.tail _ ZP) (Yo rfl rfl ZP (Yt rfl (htk) rfl rfl rfl (Zr rfl (Yc (Yj rfl (fun h35=>?_) (fun h35=>?_))))))))))) <;> simp only [NM] at h35
    ·refine Yf (Yq rfl (Yc (Ye (Yg (Zl rfl (Yq (v:=.map _) rfl (Zy rfl (Ym (x:=(P (sqI (M 0)))) rfl rfl ZM (rfl) (Vo rfl rfl ZN rfl (VL _) (Zy rfl (Ym (x:=M 0) rfl rfl ZP (rfl) (Yu rfl (Ul _) rfl rfl rfl (Yq (v:=.s _) rfl (Zz rfl (Ym (x:=M 1) rfl rfl ZP (rfl) (Yu rfl (Ul _) rfl rfl rfl (TM rfl rfl rfl rfl ?_)))))))))))))))))
     by_cases hk1:P (sqI (M 0))=1
     ·refine XS (Lr:=[(_,_)]) (L0:=[_,_,_,_]) (RP (gS4 (XA (P (sqI (M 0)))) (Y2 (M 0)) ⟨#[120]⟩ (Y2 (M 1))) (.ex 4) (XA (P (sqI (M 0)))) (Y2 (M 0)) ⟨#[120]⟩ (Y2 (M 1)) rfl rfl rfl rfl (by rw [hk1]; rfl) (by rw [Xh hsq]; omega) (by rw [Xh hsq,Xh htq]; exact YF rfl)) rfl rfl (Zbr (.refl _) ((Zbs _ ((Zbs _ ((Zbs _ (.refl _)).trans (.swap _ _ _))).trans (.swap _ _ _))).trans (.swap _ _ _))) rfl rfl rfl rfl rfl rfl rfl (Zf (Yd (o':=2) rfl rfl rfl (Ym (x:=M 2) rfl rfl (.tail _ (.tail _ ZP)) (rfl) (Zr rfl (Yc (Yj rfl (fun h52=>?_) (fun h52=>?_))))))) <;> simp only [NM] at h52
      ·refine Yf (Zl rfl (Yq (v:=.map _) rfl (Yd (o':=2) rfl rfl rfl (Ym (x:=M 2) rfl rfl (.tail _ (.tail _ ZP)) (rfl) (Vo rfl rfl (.tail _ ZP) rfl (VL _) (Qh rfl rfl (XS (Lr:=[(_,_),(_,_)]) (L0:=[_,_,_,_,_]) (Qn (gS2 ⟨#[61]⟩ (XA (M 2))) (.ex 2) ⟨#[61]⟩ (XA (M 2)) (Y2 (M 0)++⟨#[120]⟩++Y2 (M 1)) rfl rfl (by rw [UY hk1 ((XZ h35).symm)]; have h8:=Vv (M 2); have h9:=Ub (P:=P) hsq htq; have h7:(⟨#[61]⟩:ByteArray).size=1:=rfl; omega)) rfl rfl (Zbr (Zbr (.refl _) ((Zbs _ (.refl _)).trans (.swap _ _ _))) ((Zbs _ ((Zbs _ (.refl _)).trans (.swap _ _ _))).trans (.swap _ _ _))) rfl rfl rfl rfl rfl rfl rfl (Yc ?_))))))))
       refine ⟨_,(.cons_cons _ (.cons_cons _ (.cons _ (.cons _ (.cons _ (.cons _ (.cons _ (.refl _)))))))),8,_,VB (fun q=>h60 q.2) (fun q=>h71 q.2) h52 (UY hk1 ((XZ h35).symm)),rfl,rfl,rfl,rfl⟩
      refine Yh ?_
      refine ⟨_,(.cons_cons _ (.cons_cons _ (.cons _ (.cons _ (.cons _ (.refl _)))))),6,_,VA (fun q=>h60 q.2) (fun q=>h71 q.2) h52 (UY hk1 ((XZ h35).symm)),rfl,rfl,rfl,rfl⟩
     refine XS (Lr:=[(_,_)]) (L0:=[_,_,_,_]) (TL (gS4 (XA (P (sqI (M 0)))) (Y2 (M 0)) ⟨#[120]⟩ (Y2 (M 1))) (.ex 4) (XA (P (sqI (M 0)))) (Y2 (M 0)) ⟨#[120]⟩ (Y2 (M 1)) rfl rfl rfl rfl (by rw [QA,Za8 (by omega)]; omega) (by rw [Xh hsq,Xh htq,QA,Za8 (by omega)]; exact YF rfl)) rfl rfl (Zbr (.refl _) ((Zbs _ ((Zbs _ ((Zbs _ (.refl _)).trans (.swap _ _ _))).trans (.swap _ _ _))).trans (.swap _ _ _))) rfl rfl rfl rfl rfl rfl rfl (Zf (Yd (o':=2) rfl rfl rfl (Ym (x:=M 2) rfl rfl (.tail _ (.tail _ ZP)) (rfl) (Zr rfl (Yc (Yj rfl (fun h52=>?_) (fun h52=>?_))))))) <;> simp only [NM] at h52
     ·refine Yf (Zl rfl (Yq (v:=.map _) rfl (Yd (o':=2) rfl rfl rfl (Ym (x:=M 2) rfl rfl (.tail _ (.tail _ ZP)) (rfl) (Vo rfl rfl (.tail _ ZP) rfl (VL _) (Qh rfl rfl (XS (Lr:=[(_,_),(_,_)]) (L0:=[_,_,_,_,_]) (Qn (gS2 ⟨#[61]⟩ (XA (M 2))) (.ex 2) ⟨#[61]⟩ (XA (M 2)) (XA (P (sqI (M 0)))++Y2 (M 0)++⟨#[120]⟩++Y2 (M 1)) rfl rfl (by rw [WF ((XZ h35).symm)]; have h8:=Vv (M 2); have h9:=Ub (P:=P) hsq htq; have h7:(⟨#[61]⟩:ByteArray).size=1:=rfl; omega)) rfl rfl (Zbr (Zbr (.refl _) ((Zbs _ (.refl _)).trans (.swap _ _ _))) ((Zbs _ ((Zbs _ (.refl _)).trans (.swap _ _ _))).trans (.swap _ _ _))) rfl rfl rfl rfl rfl rfl rfl (Yc ?_))))))))
      refine ⟨_,(.cons_cons _ (.cons_cons _ (.cons _ (.cons _ (.cons _ (.cons _ (.cons _ (.refl _)))))))),8,_,VB (fun q=>h60 q.2) (fun q=>h71 q.2) h52 (WF ((XZ h35).symm)),rfl,rfl,rfl,rfl⟩
     refine Yh ?_
     refine ⟨_,(.cons_cons _ (.cons_cons _ (.cons _ (.cons _ (.cons _ (.refl _)))))),6,_,VA (fun q=>h60 q.2) (fun q=>h71 q.2) h52 (WF ((XZ h35).symm)),rfl,rfl,rfl,rfl⟩
    refine Yh (Ye (Yg (Zl rfl (Yq (v:=.map _) rfl (Zy rfl (Ym (x:=(P (sqI (M 0)))) rfl rfl ZM (rfl) (Vo rfl rfl ZN rfl (VL _) (Zy rfl (Ym (x:=M 0) rfl rfl ZP (rfl) (Yu rfl (Ul _) rfl rfl rfl (Yq (v:=.s _) rfl (Zz rfl (Ym (x:=M 1) rfl rfl ZP (rfl) (Yu rfl (Ul _) rfl rfl rfl (TM rfl rfl rfl rfl ?_)))))))))))))))
    by_cases hk1:P (sqI (M 0))=1
    ·refine XS (Lr:=[(_,_)]) (L0:=[_,_,_,_]) (RP (gS4 (XA (P (sqI (M 0)))) (Y2 (M 0)) ⟨#[45]⟩ (Y2 (M 1))) (.ex 4) (XA (P (sqI (M 0)))) (Y2 (M 0)) ⟨#[45]⟩ (Y2 (M 1)) rfl rfl rfl rfl (by rw [hk1]; rfl) (by rw [Xh hsq]; omega) (by rw [Xh hsq,Xh htq]; exact YF rfl)) rfl rfl (Zbr (.refl _) ((Zbs _ ((Zbs _ ((Zbs _ (.refl _)).trans (.swap _ _ _))).trans (.swap _ _ _))).trans (.swap _ _ _))) rfl rfl rfl rfl rfl rfl rfl (Zf (Yd (o':=2) rfl rfl rfl (Ym (x:=M 2) rfl rfl (.tail _ (.tail _ ZP)) (rfl) (Zr rfl (Yc (Yj rfl (fun h52=>?_) (fun h52=>?_))))))) <;> simp only [NM] at h52
     ·refine Yf (Zl rfl (Yq (v:=.map _) rfl (Yd (o':=2) rfl rfl rfl (Ym (x:=M 2) rfl rfl (.tail _ (.tail _ ZP)) (rfl) (Vo rfl rfl (.tail _ ZP) rfl (VL _) (Qh rfl rfl (XS (Lr:=[(_,_),(_,_)]) (L0:=[_,_,_,_,_]) (Qn (gS2 ⟨#[61]⟩ (XA (M 2))) (.ex 2) ⟨#[61]⟩ (XA (M 2)) (Y2 (M 0)++⟨#[45]⟩++Y2 (M 1)) rfl rfl (by rw [UY hk1 ((Wi h35).symm)]; have h8:=Vv (M 2); have h9:=Ub (P:=P) hsq htq; have h7:(⟨#[61]⟩:ByteArray).size=1:=rfl; omega)) rfl rfl (Zbr (Zbr (.refl _) ((Zbs _ (.refl _)).trans (.swap _ _ _))) ((Zbs _ ((Zbs _ (.refl _)).trans (.swap _ _ _))).trans (.swap _ _ _))) rfl rfl rfl rfl rfl rfl rfl (Yc ?_))))))))
      refine ⟨_,(.cons_cons _ (.cons_cons _ (.cons _ (.cons _ (.cons _ (.cons _ (.cons _ (.refl _)))))))),8,_,VB (fun q=>h60 q.2) (fun q=>h71 q.2) h52 (UY hk1 ((Wi h35).symm)),rfl,rfl,rfl,rfl⟩
     refine Yh ?_
     refine ⟨_,(.cons_cons _ (.cons_cons _ (.cons _ (.cons _ (.cons _ (.refl _)))))),6,_,VA (fun q=>h60 q.2) (fun q=>h71 q.2) h52 (UY hk1 ((Wi h35).symm)),rfl,rfl,rfl,rfl⟩
    refine XS (Lr:=[(_,_)]) (L0:=[_,_,_,_]) (TL (gS4 (XA (P (sqI (M 0)))) (Y2 (M 0)) ⟨#[45]⟩ (Y2 (M 1))) (.ex 4) (XA (P (sqI (M 0)))) (Y2 (M 0)) ⟨#[45]⟩ (Y2 (M 1)) rfl rfl rfl rfl (by rw [QA,Za8 (by omega)]; omega) (by rw [Xh hsq,Xh htq,QA,Za8 (by omega)]; exact YF rfl)) rfl rfl (Zbr (.refl _) ((Zbs _ ((Zbs _ ((Zbs _ (.refl _)).trans (.swap _ _ _))).trans (.swap _ _ _))).trans (.swap _ _ _))) rfl rfl rfl rfl rfl rfl rfl (Zf (Yd (o':=2) rfl rfl rfl (Ym (x:=M 2) rfl rfl (.tail _ (.tail _ ZP)) (rfl) (Zr rfl (Yc (Yj rfl (fun h52=>?_) (fun h52=>?_))))))) <;> simp only [NM] at h52
    ·refine Yf (Zl rfl (Yq (v:=.map _) rfl (Yd (o':=2) rfl rfl rfl (Ym (x:=M 2) rfl rfl (.tail _ (.tail _ ZP)) (rfl) (Vo rfl rfl (.tail _ ZP) rfl (VL _) (Qh rfl rfl (XS (Lr:=[(_,_),(_,_)]) (L0:=[_,_,_,_,_]) (Qn (gS2 ⟨#[61]⟩ (XA (M 2))) (.ex 2) ⟨#[61]⟩ (XA (M 2)) (XA (P (sqI (M 0)))++Y2 (M 0)++⟨#[45]⟩++Y2 (M 1)) rfl rfl (by rw [WF ((Wi h35).symm)]; have h8:=Vv (M 2); have h9:=Ub (P:=P) hsq htq; have h7:(⟨#[61]⟩:ByteArray).size=1:=rfl; omega)) rfl rfl (Zbr (Zbr (.refl _) ((Zbs _ (.refl _)).trans (.swap _ _ _))) ((Zbs _ ((Zbs _ (.refl _)).trans (.swap _ _ _))).trans (.swap _ _ _))) rfl rfl rfl rfl rfl rfl rfl (Yc ?_))))))))
     refine ⟨_,(.cons_cons _ (.cons_cons _ (.cons _ (.cons _ (.cons _ (.cons _ (.cons _ (.refl _)))))))),8,_,VB (fun q=>h60 q.2) (fun q=>h71 q.2) h52 (WF ((Wi h35).symm)),rfl,rfl,rfl,rfl⟩
    refine Yh ?_
    refine ⟨_,(.cons_cons _ (.cons_cons _ (.cons _ (.cons _ (.cons _ (.refl _)))))),6,_,VA (fun q=>h60 q.2) (fun q=>h71 q.2) h52 (WF ((Wi h35).symm)),rfl,rfl,rfl,rfl⟩
   exfalso; omega
  refine ZD rfl (Zq rfl (Zk rfl (Yc (ZB rfl (Ze (Zy rfl (Ym (x:=(P (sqI (M 0)))) rfl rfl ZM (rfl) (Zr rfl (Zk rfl (Ys (t:=75) rfl (fun h75=>?_) (fun h75=>?_))))))))))) <;> simp only [NM] at h75
  ·exfalso; omega
  refine ZD rfl (Zq rfl (Zk rfl (Yc (ZB rfl (Ze (Yq rfl (Yc (Ye (Ze (Yo rfl rfl (.tail _ ZP) (Yo rfl rfl ZP (Yt rfl (htk) rfl rfl rfl (Zr rfl (Yc (Yj rfl (fun h35=>?_) (fun h35=>?_)))))))))))))))) <;> simp only [NM] at h35
  ·refine Yf (Yq rfl (Yc (Ye (Yg (Zl rfl (Yq (v:=.map _) rfl (Zy rfl (Ym (x:=(P (sqI (M 0)))) rfl rfl ZM (rfl) (Vo rfl rfl ZN rfl (VL _) (Zy rfl (Ym (x:=M 0) rfl rfl ZP (rfl) (Yu rfl (Ul _) rfl rfl rfl (Yq (v:=.s _) rfl (Zz rfl (Ym (x:=M 1) rfl rfl ZP (rfl) (Yu rfl (Ul _) rfl rfl rfl (TM rfl rfl rfl rfl ?_)))))))))))))))))
   by_cases hk1:P (sqI (M 0))=1
   ·refine XS (Lr:=[(_,_)]) (L0:=[_,_,_,_]) (RP (gS4 (XA (P (sqI (M 0)))) (Y2 (M 0)) ⟨#[120]⟩ (Y2 (M 1))) (.ex 4) (XA (P (sqI (M 0)))) (Y2 (M 0)) ⟨#[120]⟩ (Y2 (M 1)) rfl rfl rfl rfl (by rw [hk1]; rfl) (by rw [Xh hsq]; omega) (by rw [Xh hsq,Xh htq]; exact YF rfl)) rfl rfl (Zbr (.refl _) ((Zbs _ ((Zbs _ ((Zbs _ (.refl _)).trans (.swap _ _ _))).trans (.swap _ _ _))).trans (.swap _ _ _))) rfl rfl rfl rfl rfl rfl rfl (Zf (Yd (o':=2) rfl rfl rfl (Ym (x:=M 2) rfl rfl (.tail _ (.tail _ ZP)) (rfl) (Zr rfl (Yc (Yj rfl (fun h52=>?_) (fun h52=>?_))))))) <;> simp only [NM] at h52
    ·refine Yf (Zl rfl (Yq (v:=.map _) rfl (Yd (o':=2) rfl rfl rfl (Ym (x:=M 2) rfl rfl (.tail _ (.tail _ ZP)) (rfl) (Vo rfl rfl (.tail _ ZP) rfl (VL _) (Qh rfl rfl (XS (Lr:=[(_,_),(_,_)]) (L0:=[_,_,_,_,_]) (Qn (gS2 ⟨#[61]⟩ (XA (M 2))) (.ex 2) ⟨#[61]⟩ (XA (M 2)) (Y2 (M 0)++⟨#[120]⟩++Y2 (M 1)) rfl rfl (by rw [UY hk1 ((XZ h35).symm)]; have h8:=Vv (M 2); have h9:=Ub (P:=P) hsq htq; have h7:(⟨#[61]⟩:ByteArray).size=1:=rfl; omega)) rfl rfl (Zbr (Zbr (.refl _) ((Zbs _ (.refl _)).trans (.swap _ _ _))) ((Zbs _ ((Zbs _ (.refl _)).trans (.swap _ _ _))).trans (.swap _ _ _))) rfl rfl rfl rfl rfl rfl rfl (Yc ?_))))))))
     refine ⟨_,(.cons_cons _ (.cons_cons _ (.cons _ (.cons _ (.cons _ (.cons _ (.cons _ (.refl _)))))))),8,_,VB (fun q=>h64 q.1) (fun q=>h75 q.1) h52 (UY hk1 ((XZ h35).symm)),rfl,rfl,rfl,rfl⟩
    refine Yh ?_
    refine ⟨_,(.cons_cons _ (.cons_cons _ (.cons _ (.cons _ (.cons _ (.refl _)))))),6,_,VA (fun q=>h64 q.1) (fun q=>h75 q.1) h52 (UY hk1 ((XZ h35).symm)),rfl,rfl,rfl,rfl⟩
   refine XS (Lr:=[(_,_)]) (L0:=[_,_,_,_]) (TL (gS4 (XA (P (sqI (M 0)))) (Y2 (M 0)) ⟨#[120]⟩ (Y2 (M 1))) (.ex 4) (XA (P (sqI (M 0)))) (Y2 (M 0)) ⟨#[120]⟩ (Y2 (M 1)) rfl rfl rfl rfl (by rw [QA,Za8 (by omega)]; omega) (by rw [Xh hsq,Xh htq,QA,Za8 (by omega)]; exact YF rfl)) rfl rfl (Zbr (.refl _) ((Zbs _ ((Zbs _ ((Zbs _ (.refl _)).trans (.swap _ _ _))).trans (.swap _ _ _))).trans (.swap _ _ _))) rfl rfl rfl rfl rfl rfl rfl (Zf (Yd (o':=2) rfl rfl rfl (Ym (x:=M 2) rfl rfl (.tail _ (.tail _ ZP)) (rfl) (Zr rfl (Yc (Yj rfl (fun h52=>?_) (fun h52=>?_))))))) <;> simp only [NM] at h52
   ·refine Yf (Zl rfl (Yq (v:=.map _) rfl (Yd (o':=2) rfl rfl rfl (Ym (x:=M 2) rfl rfl (.tail _ (.tail _ ZP)) (rfl) (Vo rfl rfl (.tail _ ZP) rfl (VL _) (Qh rfl rfl (XS (Lr:=[(_,_),(_,_)]) (L0:=[_,_,_,_,_]) (Qn (gS2 ⟨#[61]⟩ (XA (M 2))) (.ex 2) ⟨#[61]⟩ (XA (M 2)) (XA (P (sqI (M 0)))++Y2 (M 0)++⟨#[120]⟩++Y2 (M 1)) rfl rfl (by rw [WF ((XZ h35).symm)]; have h8:=Vv (M 2); have h9:=Ub (P:=P) hsq htq; have h7:(⟨#[61]⟩:ByteArray).size=1:=rfl; omega)) rfl rfl (Zbr (Zbr (.refl _) ((Zbs _ (.refl _)).trans (.swap _ _ _))) ((Zbs _ ((Zbs _ (.refl _)).trans (.swap _ _ _))).trans (.swap _ _ _))) rfl rfl rfl rfl rfl rfl rfl (Yc ?_))))))))
    refine ⟨_,(.cons_cons _ (.cons_cons _ (.cons _ (.cons _ (.cons _ (.cons _ (.cons _ (.refl _)))))))),8,_,VB (fun q=>h64 q.1) (fun q=>h75 q.1) h52 (WF ((XZ h35).symm)),rfl,rfl,rfl,rfl⟩
   refine Yh ?_
   refine ⟨_,(.cons_cons _ (.cons_cons _ (.cons _ (.cons _ (.cons _ (.refl _)))))),6,_,VA (fun q=>h64 q.1) (fun q=>h75 q.1) h52 (WF ((XZ h35).symm)),rfl,rfl,rfl,rfl⟩
  refine Yh (Ye (Yg (Zl rfl (Yq (v:=.map _) rfl (Zy rfl (Ym (x:=(P (sqI (M 0)))) rfl rfl ZM (rfl) (Vo rfl rfl ZN rfl (VL _) (Zy rfl (Ym (x:=M 0) rfl rfl ZP (rfl) (Yu rfl (Ul _) rfl rfl rfl (Yq (v:=.s _) rfl (Zz rfl (Ym (x:=M 1) rfl rfl ZP (rfl) (Yu rfl (Ul _) rfl rfl rfl (TM rfl rfl rfl rfl ?_)))))))))))))))
  by_cases hk1:P (sqI (M 0))=1
  ·refine XS (Lr:=[(_,_)]) (L0:=[_,_,_,_]) (RP (gS4 (XA (P (sqI (M 0)))) (Y2 (M 0)) ⟨#[45]⟩ (Y2 (M 1))) (.ex 4) (XA (P (sqI (M 0)))) (Y2 (M 0)) ⟨#[45]⟩ (Y2 (M 1)) rfl rfl rfl rfl (by rw [hk1]; rfl) (by rw [Xh hsq]; omega) (by rw [Xh hsq,Xh htq]; exact YF rfl)) rfl rfl (Zbr (.refl _) ((Zbs _ ((Zbs _ ((Zbs _ (.refl _)).trans (.swap _ _ _))).trans (.swap _ _ _))).trans (.swap _ _ _))) rfl rfl rfl rfl rfl rfl rfl (Zf (Yd (o':=2) rfl rfl rfl (Ym (x:=M 2) rfl rfl (.tail _ (.tail _ ZP)) (rfl) (Zr rfl (Yc (Yj rfl (fun h52=>?_) (fun h52=>?_))))))) <;> simp only [NM] at h52
   ·refine Yf (Zl rfl (Yq (v:=.map _) rfl (Yd (o':=2) rfl rfl rfl (Ym (x:=M 2) rfl rfl (.tail _ (.tail _ ZP)) (rfl) (Vo rfl rfl (.tail _ ZP) rfl (VL _) (Qh rfl rfl (XS (Lr:=[(_,_),(_,_)]) (L0:=[_,_,_,_,_]) (Qn (gS2 ⟨#[61]⟩ (XA (M 2))) (.ex 2) ⟨#[61]⟩ (XA (M 2)) (Y2 (M 0)++⟨#[45]⟩++Y2 (M 1)) rfl rfl (by rw [UY hk1 ((Wi h35).symm)]; have h8:=Vv (M 2); have h9:=Ub (P:=P) hsq htq; have h7:(⟨#[61]⟩:ByteArray).size=1:=rfl; omega)) rfl rfl (Zbr (Zbr (.refl _) ((Zbs _ (.refl _)).trans (.swap _ _ _))) ((Zbs _ ((Zbs _ (.refl _)).trans (.swap _ _ _))).trans (.swap _ _ _))) rfl rfl rfl rfl rfl rfl rfl (Yc ?_))))))))
    refine ⟨_,(.cons_cons _ (.cons_cons _ (.cons _ (.cons _ (.cons _ (.cons _ (.cons _ (.refl _)))))))),8,_,VB (fun q=>h64 q.1) (fun q=>h75 q.1) h52 (UY hk1 ((Wi h35).symm)),rfl,rfl,rfl,rfl⟩
   refine Yh ?_
   refine ⟨_,(.cons_cons _ (.cons_cons _ (.cons _ (.cons _ (.cons _ (.refl _)))))),6,_,VA (fun q=>h64 q.1) (fun q=>h75 q.1) h52 (UY hk1 ((Wi h35).symm)),rfl,rfl,rfl,rfl⟩
  refine XS (Lr:=[(_,_)]) (L0:=[_,_,_,_]) (TL (gS4 (XA (P (sqI (M 0)))) (Y2 (M 0)) ⟨#[45]⟩ (Y2 (M 1))) (.ex 4) (XA (P (sqI (M 0)))) (Y2 (M 0)) ⟨#[45]⟩ (Y2 (M 1)) rfl rfl rfl rfl (by rw [QA,Za8 (by omega)]; omega) (by rw [Xh hsq,Xh htq,QA,Za8 (by omega)]; exact YF rfl)) rfl rfl (Zbr (.refl _) ((Zbs _ ((Zbs _ ((Zbs _ (.refl _)).trans (.swap _ _ _))).trans (.swap _ _ _))).trans (.swap _ _ _))) rfl rfl rfl rfl rfl rfl rfl (Zf (Yd (o':=2) rfl rfl rfl (Ym (x:=M 2) rfl rfl (.tail _ (.tail _ ZP)) (rfl) (Zr rfl (Yc (Yj rfl (fun h52=>?_) (fun h52=>?_))))))) <;> simp only [NM] at h52
  ·refine Yf (Zl rfl (Yq (v:=.map _) rfl (Yd (o':=2) rfl rfl rfl (Ym (x:=M 2) rfl rfl (.tail _ (.tail _ ZP)) (rfl) (Vo rfl rfl (.tail _ ZP) rfl (VL _) (Qh rfl rfl (XS (Lr:=[(_,_),(_,_)]) (L0:=[_,_,_,_,_]) (Qn (gS2 ⟨#[61]⟩ (XA (M 2))) (.ex 2) ⟨#[61]⟩ (XA (M 2)) (XA (P (sqI (M 0)))++Y2 (M 0)++⟨#[45]⟩++Y2 (M 1)) rfl rfl (by rw [WF ((Wi h35).symm)]; have h8:=Vv (M 2); have h9:=Ub (P:=P) hsq htq; have h7:(⟨#[61]⟩:ByteArray).size=1:=rfl; omega)) rfl rfl (Zbr (Zbr (.refl _) ((Zbs _ (.refl _)).trans (.swap _ _ _))) ((Zbs _ ((Zbs _ (.refl _)).trans (.swap _ _ _))).trans (.swap _ _ _))) rfl rfl rfl rfl rfl rfl rfl (Yc ?_))))))))
   refine ⟨_,(.cons_cons _ (.cons_cons _ (.cons _ (.cons _ (.cons _ (.cons _ (.cons _ (.refl _)))))))),8,_,VB (fun q=>h64 q.1) (fun q=>h75 q.1) h52 (WF ((Wi h35).symm)),rfl,rfl,rfl,rfl⟩
  refine Yh ?_
  refine ⟨_,(.cons_cons _ (.cons_cons _ (.cons _ (.cons _ (.cons _ (.refl _)))))),6,_,VA (fun q=>h64 q.1) (fun q=>h75 q.1) h52 (WF ((Wi h35).symm)),rfl,rfl,rfl,rfl⟩
 obtain ⟨kb,s,hs,k2,k3,k6,rfl⟩:=hI
 refine Za 2 k2 (Za 3 k3 (Za 6 k6 ?_))
 rw [<- hs] at hsz
 have hqz0:=fun (i9:Nat) (hi9:133<=i9)=>UF (P:=P) (a:=M 0) (t:=M 1) (b:=M 2) hi9
 obtain ⟨Q,hQ⟩:∃ Q,Q=Xq P (M 0) (M 1) (M 2):=⟨_,rfl⟩
 rw [<- hQ] at hmv hqz0
 have hqid:ovA (fun _=>0) 0 133 Q=Q:=UX hqz0
 have hof:RF AM 24 [.agg 133 (ia (ovA (fun _=>0) 0 133 Q))] (.tup [.s (.int .i64 (ofN Q (XE Q).length).1),.s (.int .i64 (ofN Q (XE Q).length).2)]):=by rw [hqid]; exact YG (of_walk Q hqz0)
 have hchk:RF AM 25 [.agg 133 (ia (ovA (fun _=>0) 0 133 Q)),.s (.int .i64 (Q 128))] (.s (.bool (Xt Q (Q 128)))):=by rw [hqid]; exact RO Q (Q 128)
 refine Ze (Yo rfl rfl ZP (Yo rfl rfl ZO (Yt rfl (hmv) rfl rfl rfl (Zo rfl (YD (v:=.agg _ _) rfl rfl (YD (v:=.s (.int _ _)) rfl rfl (Yy (Yz rfl rfl rfl rfl .here (Zj rfl (Yc (Ye (Ze (Yo rfl rfl ZM (Yt rfl (hof) rfl rfl rfl (Zo rfl (YD (v:=.s (.int _ _)) rfl rfl (YD (v:=.s (.int _ _)) rfl rfl (Zj rfl (Zj rfl (Yc (Yk (Ze (Zj rfl (Zr rfl (Zk rfl (Yc (Yj rfl (fun h93=>?_) (fun h93=>?_)))))))))))))))))))))))))))) <;> simp only [NM] at h93
 ·refine Yf (Zl rfl (EK rfl (XS (Lr:=[(_,_),(_,_)]) (L0:=[_,_,_]) (kj (gS1 ⟨#[35]⟩) (.ex 1) ⟨#[35]⟩ s rfl (by have h7:(⟨#[35]⟩:ByteArray).size=1:=rfl; omega)) rfl rfl (Zbr (Zbr (.refl _) ((Zbs _ ((Zbs _ (.refl _)).trans (.swap _ _ _))).trans (.swap _ _ _))) ((Zbs _ ((Zbs _ ((Zbs _ (.refl _)).trans (.swap _ _ _))).trans (.swap _ _ _))).trans (.swap _ _ _))) rfl rfl rfl rfl rfl rfl rfl (Zf (Zl rfl (YM rfl (Zy rfl (D9 (yG (s++⟨#[35]⟩) (by simp only [Zbf]; omega) (by have h7:(⟨#[35]⟩:ByteArray).size=1:=rfl; simp only [Zbf]; omega)) rfl rfl rfl rfl ZN .here (Yq (v:=.s _) rfl (Yq rfl (Yc (Yi (⟨_,YK (v:=.s _) rfl (ZL rfl),?_⟩)))))))))))))
  refine congrArg (fun x=>V.tup [.s (.str x),.s (.int .i64 0)]) ?_
  unfold Kn RU
  rw [<- hQ,<- hs]
  rw [Za8 h93]
 refine Ze (Yo rfl rfl ZM (Yd (o':=128) rfl rfl rfl (Ym (x:=Q 128) rfl rfl ZM (rfl) (Yt rfl (hchk) rfl rfl rfl (Zk rfl (Yc (Yj rfl (fun h99=>?_) (fun h99=>?_))))))))
 ·refine Yf (Zl rfl (EK rfl (XS (Lr:=[(_,_),(_,_)]) (L0:=[_,_,_]) (kj (gS1 ⟨#[43]⟩) (.ex 1) ⟨#[43]⟩ s rfl (by have h7:(⟨#[43]⟩:ByteArray).size=1:=rfl; omega)) rfl rfl (Zbr (Zbr (.refl _) ((Zbs _ ((Zbs _ (.refl _)).trans (.swap _ _ _))).trans (.swap _ _ _))) ((Zbs _ ((Zbs _ ((Zbs _ (.refl _)).trans (.swap _ _ _))).trans (.swap _ _ _))).trans (.swap _ _ _))) rfl rfl rfl rfl rfl rfl rfl (Zf (Zl rfl (YM rfl (Zy rfl (D9 (yG (s++⟨#[43]⟩) (by simp only [Zbf]; omega) (by have h7:(⟨#[43]⟩:ByteArray).size=1:=rfl; simp only [Zbf]; omega)) rfl rfl rfl rfl ZN .here (Yq (v:=.s _) rfl (Yq rfl (Yc (Yi (⟨_,YK (v:=.s _) rfl (ZL rfl),?_⟩)))))))))))))
  refine congrArg (fun x=>V.tup [.s (.str x),.s (.int .i64 0)]) ?_
  unfold Kn RU
  rw [<- hQ,<- hs]
  rw [Za7 h93,Za8 h99]
 refine Yh (Ze (Zl rfl (YM rfl (Zy rfl (D9 (yG s (by omega) (by omega)) rfl rfl rfl rfl ZO (.there .here) (Yq (v:=.s _) rfl (Yq rfl (Yc (Yi (⟨_,YK (v:=.s _) rfl (ZL rfl),?_⟩))))))))))
 refine congrArg (fun x=>V.tup [.s (.str x),.s (.int .i64 0)]) ?_
 unfold Kn RU
 rw [<- hQ,<- hs]
 rw [Za7 h93,h99,Za7 Bool.false_ne_true]
set_option maxRecDepth 100000
def jS (i:Nat):Int:=if i=130 then -1 else if i=132 then 1 else 0
def xt (i:Nat):Int :=
 if i < 16 then (if i % 2=0 then ([4,2,3,5,6,3,2,4]:List Int).getD (i / 2) 0 else 0)
 else if i < 32 then (if i % 2=0 then 1 else 0)
 else if i < 96 then 0
 else if i < 112 then 1
 else if i < 128 then (if i % 2=0 then ([4,2,3,5,6,3,2,4]:List Int).getD ((i - 112) / 2) 0 else 1)
 else if i=128 then 0 else if i=129 then 15 else if i=130 then -1 else if i=131 then 0 else if i=132 then 1 else 0
theorem rR (i:Nat) (h:133<=i):jS i=0:=by
 unfold jS
 rw [Za7 (by omega),Za7 (by omega)]
theorem qk (i:Nat) (h:133<=i):xt i=0:=by
 unfold xt
 rw [Za7 (by omega),Za7 (by omega),Za7 (by omega),Za7 (by omega),Za7 (by omega),Za7 (by omega),Za7 (by omega),Za7 (by omega),Za7 (by omega),Za7 (by omega)]
theorem pp {P Q R:Nat->Int} {m:Nat} (h:∀ i,i < m->Q i=R i) (h2:∀ i,m<=i->P i=R i):ovA P 0 m Q=R:=by
 funext i
 by_cases hi:i < m
 ·rw [X1 (by omega)]; exact h i hi
 rw [WV (by omega)]; exact h2 i (by omega)
theorem se :WR AM 45 [] [] (fun v _ _=>v=.agg 133 (ia jS)):=by
 refine YJ (a:=a45) rfl rfl (YI _) (ZQ rfl) (m:=0) rfl (Ze (Yy (Zf (YB rfl (.one rfl (.one rfl .nil)) (Yz rfl rfl rfl rfl .here (Yc (Yi (⟨_,X9 rfl rfl ZM (YP),?_⟩))))))))
 refine congrArg (fun P=>V.agg 133 (ia P)) ?_
 refine pp (by decide +kernel) fun i hi=>(rR i hi).symm
theorem tc :WR AM 35 [] [] (fun v _ _=>v=.agg 133 (ia xt)):=by
 refine YJ (a:=a35) rfl rfl (YI _) (ZQ rfl) (m:=0) rfl (Ze (Yy (Zf (Yt rfl (YG se) rfl rfl rfl (Yy (Yz rfl rfl rfl rfl .here (Zf (Xo rfl (.one rfl (.one rfl (.one rfl (.one rfl (.one rfl (.one rfl (.one rfl (.one rfl .nil)))))))) (Zn rfl (Yc (Ye (Ze (Yq rfl (Yc (Yk (YW (Ye (Ze (Zj rfl (Zr rfl (Yc (Yj rfl (fun h1=>?_) (fun h1=>?_))))))))))))))))))))))) <;> simp only [NM] at h1
 ·refine Yh (Ye (Yk (Ze (Zj rfl (Zn rfl (Zj rfl (Zx rfl rfl (Ym (x:=_) rfl rfl ZM (rfl) (YB rfl (.one rfl (.one rfl .nil)) (Zy rfl (Zw rfl rfl rfl (Yz rfl rfl rfl rfl (.there .here) (Zf (Zj rfl (Zs rfl rfl (YB rfl (.one rfl (.one rfl .nil)) (Zy rfl (Zw rfl rfl rfl (Yz rfl rfl rfl rfl (.there .here) (Zf (Zj rfl (Zs rfl rfl (YB rfl (.one rfl (.one rfl .nil)) (Zy rfl (Zw rfl rfl rfl (Yz rfl rfl rfl rfl (.there .here) (Yc (Yf (Zj rfl ?_)))))))))))))))))))))))))))))
  refine Zs rfl rfl (Zn rfl (Zj rfl (Zx rfl rfl (Ym (x:=_) rfl rfl ZM (rfl) (YB rfl (.one rfl (.one rfl .nil)) (Zy rfl (Zw rfl rfl rfl (Yz rfl rfl rfl rfl (.there .here) (Yc (Yf (Zj rfl (Zs rfl rfl (Zj rfl (Yc (YW (Ye (Ze (Zj rfl (Zr rfl (Yc (Yj rfl (fun h2=>?_) (fun h2=>?_)))))))))))))))))))))) <;> simp only [NM] at h2
  ·refine Yh (Ye (Yk (Ze (Zj rfl (Zn rfl (Zj rfl (Zx rfl rfl (Ym (x:=_) rfl rfl ZM (rfl) (YB rfl (.one rfl (.one rfl .nil)) (Zy rfl (Zw rfl rfl rfl (Yz rfl rfl rfl rfl (.there .here) (Zf (Zj rfl (Zs rfl rfl (YB rfl (.one rfl (.one rfl .nil)) (Zy rfl (Zw rfl rfl rfl (Yz rfl rfl rfl rfl (.there .here) (Zf (Zj rfl (Zs rfl rfl (YB rfl (.one rfl (.one rfl .nil)) (Zy rfl (Zw rfl rfl rfl (Yz rfl rfl rfl rfl (.there .here) (Yc (Yf (Zj rfl ?_)))))))))))))))))))))))))))))
   refine Zs rfl rfl (Zn rfl (Zj rfl (Zx rfl rfl (Ym (x:=_) rfl rfl ZM (rfl) (YB rfl (.one rfl (.one rfl .nil)) (Zy rfl (Zw rfl rfl rfl (Yz rfl rfl rfl rfl (.there .here) (Yc (Yf (Zj rfl (Zs rfl rfl (Zj rfl (Yc (YW (Ye (Ze (Zj rfl (Zr rfl (Yc (Yj rfl (fun h3=>?_) (fun h3=>?_)))))))))))))))))))))) <;> simp only [NM] at h3
   ·refine Yh (Ye (Yk (Ze (Zj rfl (Zn rfl (Zj rfl (Zx rfl rfl (Ym (x:=_) rfl rfl ZM (rfl) (YB rfl (.one rfl (.one rfl .nil)) (Zy rfl (Zw rfl rfl rfl (Yz rfl rfl rfl rfl (.there .here) (Zf (Zj rfl (Zs rfl rfl (YB rfl (.one rfl (.one rfl .nil)) (Zy rfl (Zw rfl rfl rfl (Yz rfl rfl rfl rfl (.there .here) (Zf (Zj rfl (Zs rfl rfl (YB rfl (.one rfl (.one rfl .nil)) (Zy rfl (Zw rfl rfl rfl (Yz rfl rfl rfl rfl (.there .here) (Yc (Yf (Zj rfl ?_)))))))))))))))))))))))))))))
    refine Zs rfl rfl (Zn rfl (Zj rfl (Zx rfl rfl (Ym (x:=_) rfl rfl ZM (rfl) (YB rfl (.one rfl (.one rfl .nil)) (Zy rfl (Zw rfl rfl rfl (Yz rfl rfl rfl rfl (.there .here) (Yc (Yf (Zj rfl (Zs rfl rfl (Zj rfl (Yc (YW (Ye (Ze (Zj rfl (Zr rfl (Yc (Yj rfl (fun h4=>?_) (fun h4=>?_)))))))))))))))))))))) <;> simp only [NM] at h4
    ·refine Yh (Ye (Yk (Ze (Zj rfl (Zn rfl (Zj rfl (Zx rfl rfl (Ym (x:=_) rfl rfl ZM (rfl) (YB rfl (.one rfl (.one rfl .nil)) (Zy rfl (Zw rfl rfl rfl (Yz rfl rfl rfl rfl (.there .here) (Zf (Zj rfl (Zs rfl rfl (YB rfl (.one rfl (.one rfl .nil)) (Zy rfl (Zw rfl rfl rfl (Yz rfl rfl rfl rfl (.there .here) (Zf (Zj rfl (Zs rfl rfl (YB rfl (.one rfl (.one rfl .nil)) (Zy rfl (Zw rfl rfl rfl (Yz rfl rfl rfl rfl (.there .here) (Yc (Yf (Zj rfl ?_)))))))))))))))))))))))))))))
     refine Zs rfl rfl (Zn rfl (Zj rfl (Zx rfl rfl (Ym (x:=_) rfl rfl ZM (rfl) (YB rfl (.one rfl (.one rfl .nil)) (Zy rfl (Zw rfl rfl rfl (Yz rfl rfl rfl rfl (.there .here) (Yc (Yf (Zj rfl (Zs rfl rfl (Zj rfl (Yc (YW (Ye (Ze (Zj rfl (Zr rfl (Yc (Yj rfl (fun h5=>?_) (fun h5=>?_)))))))))))))))))))))) <;> simp only [NM] at h5
     ·refine Yh (Ye (Yk (Ze (Zj rfl (Zn rfl (Zj rfl (Zx rfl rfl (Ym (x:=_) rfl rfl ZM (rfl) (YB rfl (.one rfl (.one rfl .nil)) (Zy rfl (Zw rfl rfl rfl (Yz rfl rfl rfl rfl (.there .here) (Zf (Zj rfl (Zs rfl rfl (YB rfl (.one rfl (.one rfl .nil)) (Zy rfl (Zw rfl rfl rfl (Yz rfl rfl rfl rfl (.there .here) (Zf (Zj rfl (Zs rfl rfl (YB rfl (.one rfl (.one rfl .nil)) (Zy rfl (Zw rfl rfl rfl (Yz rfl rfl rfl rfl (.there .here) (Yc (Yf (Zj rfl ?_)))))))))))))))))))))))))))))
      refine Zs rfl rfl (Zn rfl (Zj rfl (Zx rfl rfl (Ym (x:=_) rfl rfl ZM (rfl) (YB rfl (.one rfl (.one rfl .nil)) (Zy rfl (Zw rfl rfl rfl (Yz rfl rfl rfl rfl (.there .here) (Yc (Yf (Zj rfl (Zs rfl rfl (Zj rfl (Yc (YW (Ye (Ze (Zj rfl (Zr rfl (Yc (Yj rfl (fun h6=>?_) (fun h6=>?_)))))))))))))))))))))) <;> simp only [NM] at h6
      ·refine Yh (Ye (Yk (Ze (Zj rfl (Zn rfl (Zj rfl (Zx rfl rfl (Ym (x:=_) rfl rfl ZM (rfl) (YB rfl (.one rfl (.one rfl .nil)) (Zy rfl (Zw rfl rfl rfl (Yz rfl rfl rfl rfl (.there .here) (Zf (Zj rfl (Zs rfl rfl (YB rfl (.one rfl (.one rfl .nil)) (Zy rfl (Zw rfl rfl rfl (Yz rfl rfl rfl rfl (.there .here) (Zf (Zj rfl (Zs rfl rfl (YB rfl (.one rfl (.one rfl .nil)) (Zy rfl (Zw rfl rfl rfl (Yz rfl rfl rfl rfl (.there .here) (Yc (Yf (Zj rfl ?_)))))))))))))))))))))))))))))
       refine Zs rfl rfl (Zn rfl (Zj rfl (Zx rfl rfl (Ym (x:=_) rfl rfl ZM (rfl) (YB rfl (.one rfl (.one rfl .nil)) (Zy rfl (Zw rfl rfl rfl (Yz rfl rfl rfl rfl (.there .here) (Yc (Yf (Zj rfl (Zs rfl rfl (Zj rfl (Yc (YW (Ye (Ze (Zj rfl (Zr rfl (Yc (Yj rfl (fun h7=>?_) (fun h7=>?_)))))))))))))))))))))) <;> simp only [NM] at h7
       ·refine Yh (Ye (Yk (Ze (Zj rfl (Zn rfl (Zj rfl (Zx rfl rfl (Ym (x:=_) rfl rfl ZM (rfl) (YB rfl (.one rfl (.one rfl .nil)) (Zy rfl (Zw rfl rfl rfl (Yz rfl rfl rfl rfl (.there .here) (Zf (Zj rfl (Zs rfl rfl (YB rfl (.one rfl (.one rfl .nil)) (Zy rfl (Zw rfl rfl rfl (Yz rfl rfl rfl rfl (.there .here) (Zf (Zj rfl (Zs rfl rfl (YB rfl (.one rfl (.one rfl .nil)) (Zy rfl (Zw rfl rfl rfl (Yz rfl rfl rfl rfl (.there .here) (Yc (Yf (Zj rfl ?_)))))))))))))))))))))))))))))
        refine Zs rfl rfl (Zn rfl (Zj rfl (Zx rfl rfl (Ym (x:=_) rfl rfl ZM (rfl) (YB rfl (.one rfl (.one rfl .nil)) (Zy rfl (Zw rfl rfl rfl (Yz rfl rfl rfl rfl (.there .here) (Yc (Yf (Zj rfl (Zs rfl rfl (Zj rfl (Yc (YW (Ye (Ze (Zj rfl (Zr rfl (Yc (Yj rfl (fun h8=>?_) (fun h8=>?_)))))))))))))))))))))) <;> simp only [NM] at h8
        ·refine Yh (Ye (Yk (Ze (Zj rfl (Zn rfl (Zj rfl (Zx rfl rfl (Ym (x:=_) rfl rfl ZM (rfl) (YB rfl (.one rfl (.one rfl .nil)) (Zy rfl (Zw rfl rfl rfl (Yz rfl rfl rfl rfl (.there .here) (Zf (Zj rfl (Zs rfl rfl (YB rfl (.one rfl (.one rfl .nil)) (Zy rfl (Zw rfl rfl rfl (Yz rfl rfl rfl rfl (.there .here) (Zf (Zj rfl (Zs rfl rfl (YB rfl (.one rfl (.one rfl .nil)) (Zy rfl (Zw rfl rfl rfl (Yz rfl rfl rfl rfl (.there .here) (Yc (Yf (Zj rfl ?_)))))))))))))))))))))))))))))
         refine Zs rfl rfl (Zn rfl (Zj rfl (Zx rfl rfl (Ym (x:=_) rfl rfl ZM (rfl) (YB rfl (.one rfl (.one rfl .nil)) (Zy rfl (Zw rfl rfl rfl (Yz rfl rfl rfl rfl (.there .here) (Yc (Yf (Zj rfl (Zs rfl rfl (Zj rfl (Yc (YW (Ye (Ze (Zj rfl (Zr rfl (Yc (Yj rfl (fun h9=>?_) (fun h9=>?_)))))))))))))))))))))) <;> simp only [NM] at h9
         ·exfalso; first | omega | (simp at h9)
         refine YX (Xe (Ze (Yd (o':=129) rfl rfl rfl (YA rfl rfl rfl rfl (.there .here) (Zf (Yo rfl rfl ZN (Yz rfl rfl rfl rfl (.there (.there .here)) (Yc (Yi (⟨_,X9 rfl rfl ZO (YP),?_⟩))))))))))
         refine congrArg (fun P=>V.agg 133 (ia P)) ?_
         refine pp (by decide +kernel) fun i hi=>(qk i hi).symm
        exfalso; first | omega | (simp at h8)
       exfalso; first | omega | (simp at h7)
      exfalso; first | omega | (simp at h6)
     exfalso; first | omega | (simp at h5)
    exfalso; first | omega | (simp at h4)
   exfalso; first | omega | (simp at h3)
  exfalso; first | omega | (simp at h2)
 exfalso; first | omega | (simp at h1)
def ex0:Nat->Int:=xt
def ex1:Nat->Int:=Xq ex0 13 21 0
def ex2:Nat->Int:=Xq ex1 52 36 0
def ex3:Nat->Int:=Xq ex2 14 30 0
theorem ex0_z:∀ i,133<=i->ex0 i=0:=fun i hi=>qk i hi
theorem tp:∀ i,133<=i->ex1 i=0:=fun i hi=>UF hi
theorem tf:∀ i,133<=i->ex2 i=0:=fun i hi=>UF hi
theorem zn:∀ i,133<=i->ex3 i=0:=fun i hi=>UF hi
theorem ex0_ok:Wf ex0 13 21 0=0:=by decide +kernel
theorem ex1_ok:Wf ex1 52 36 0=0:=by decide +kernel
theorem ex2_ok:Wf ex2 14 30 0=0:=by decide +kernel
theorem we {P Q:Nat->Int} (hz:∀ i,133<=i->P i=0) (hq:∀ i,133<=i->Q i=0):ovA P 0 133 Q=Q:=by
 funext i
 by_cases h:i < 133
 ·rw [X1 (by omega)]; rfl
 rw [WV (by omega),hz i (by omega),hq i (by omega)]
def exL:List Int:=[13,21,0,52,36,0,14,30,0]
theorem ex_rd :RdR AM 34 3 [.agg 133 (ia ex0)] [] exL (.tup [.agg 133 (ia ex3),.s (.int .i64 0)]):=by
 refine Ql fun v Bs hc=>?_
 refine YJ (a:=a34) rfl rfl (YI _) (ZQ rfl) rfl ?_ (by first | rfl | (cases hc <;> rfl))
 have hr0:=hc.rx
 rw [show Xb 0 Bs=Xb 0 Bs++[] from (ZaQ _).symm]
 generalize hown:Xb 0 Bs=own0 at hr0 ⊢
 refine Ze (YC rfl (Yy (Yq rfl (Yc (Ye (Ze (Yq rfl (Yc (Yk (YW (Ye (Ze (Zj rfl (Yq (v:=v) rfl (Wq rfl hr0 (by decide) (show exL.length=3*3 from rfl) (Yr (r:=.bool true) rfl rfl rfl (Yc (ZA rfl (Yh (Ye (Yk (Ye (Yg (Yo rfl rfl ZN (Yq (v:=v) rfl (Zj rfl ?_))))))))))))))))))))))))))
 obtain ⟨b0,q0,md0,c0,F0,rfl,rfl,hF0⟩:=hr0.at (by decide) (show exL.length=3*3 from rfl) (by omega)
 refine Zx rfl rfl (Yo rfl rfl ZO ?_)
 have hmv0:=YG (Kr ex0 F0)
 rw [show F0 0=13 from hF0 0 (YF rfl),show F0 1=21 from hF0 1 (YF rfl),show F0 2=0 from hF0 2 (YF rfl),ex0_ok,show Xq ex0 13 21 0=ex1 from rfl] at hmv0
 refine Yu rfl (hmv0) rfl rfl rfl (Zo rfl (YD (v:=.agg _ _) rfl rfl (YD (v:=.s (.int _ _)) rfl rfl (Yy (Yz rfl rfl rfl rfl .here ?_)))))
 rw [show ovA (fun _=>0) 0 133 ex1=ex1 from UX tp]
 refine Zj rfl (Yc (Ye (Ze (Zj rfl (Yr rfl rfl (xZ rfl) (Yc (ZB rfl (Yh (Yf (Yo rfl rfl ZM (Yz rfl rfl rfl rfl (.there (.there .here)) ?_)))))))))))
 rw [show ovA ex0 0 133 ex1=ex1 from we ex0_z tp]
 refine Yc (Yf (Zj rfl (Zs rfl rfl (Zj rfl (Yc (YW (Ye (Ze (Zj rfl (Zn rfl (Vi rfl (Yr (r:=.bool true) rfl rfl rfl (Yc (ZA rfl (Yh (Ye (Yk (Ye (Yg (Yo rfl rfl ZO (Zn rfl (Zj rfl (Zx rfl rfl (Yp rfl rfl ZP ?_))))))))))))))))))))))))
 have hmv1:=YG (Kr ex1 (dp F0 (0+(0+1:Int).toNat*3)))
 rw [show (dp F0 (0+(0+1:Int).toNat*3)) 0=52 from hF0 3 (YF rfl),show (dp F0 (0+(0+1:Int).toNat*3)) 1=36 from hF0 4 (YF rfl),show (dp F0 (0+(0+1:Int).toNat*3)) 2=0 from hF0 5 (YF rfl),ex1_ok,show Xq ex1 52 36 0=ex2 from rfl] at hmv1
 refine Yu rfl (hmv1) rfl rfl rfl (Zo rfl (YD (v:=.agg _ _) rfl rfl (YD (v:=.s (.int _ _)) rfl rfl (Yy (Yz rfl rfl rfl rfl .here ?_)))))
 rw [show ovA (fun _=>0) 0 133 ex2=ex2 from UX tf]
 refine Zj rfl (Yc (Ye (Ze (Zj rfl (Yr rfl rfl (xZ rfl) (Yc (ZB rfl (Yh (Yf (Yo rfl rfl ZM (Yz rfl rfl rfl rfl (.there (.there (.there .here))) ?_)))))))))))
 rw [show ovA ex1 0 133 ex2=ex2 from we tp tf]
 refine Yc (Yf (Zj rfl (Zs rfl rfl (Zj rfl (Yc (YW (Ye (Ze (Zj rfl (Zn rfl (Vi rfl (Yr (r:=.bool true) rfl rfl rfl (Yc (ZA rfl (Yh (Ye (Yk (Ye (Yg (Yo rfl rfl ZP (Zn rfl (Zj rfl (Zx rfl rfl (Yp rfl rfl (.tail _ ZP) ?_))))))))))))))))))))))))
 have hmv2:=YG (Kr ex2 (dp F0 (0+(0+1+1:Int).toNat*3)))
 rw [show (dp F0 (0+(0+1+1:Int).toNat*3)) 0=14 from hF0 6 (YF rfl),show (dp F0 (0+(0+1+1:Int).toNat*3)) 1=30 from hF0 7 (YF rfl),show (dp F0 (0+(0+1+1:Int).toNat*3)) 2=0 from hF0 8 (YF rfl),ex2_ok,show Xq ex2 14 30 0=ex3 from rfl] at hmv2
 refine Yu rfl (hmv2) rfl rfl rfl (Zo rfl (YD (v:=.agg _ _) rfl rfl (YD (v:=.s (.int _ _)) rfl rfl (Yy (Yz rfl rfl rfl rfl .here ?_)))))
 rw [show ovA (fun _=>0) 0 133 ex3=ex3 from UX zn]
 refine Zj rfl (Yc (Ye (Ze (Zj rfl (Yr rfl rfl (xZ rfl) (Yc (ZB rfl (Yh (Yf (Yo rfl rfl ZM (Yz rfl rfl rfl rfl (.there (.there (.there (.there .here)))) ?_)))))))))))
 rw [show ovA ex2 0 133 ex3=ex3 from we tf zn]
 refine Yc (Yf (Zj rfl (Zs rfl rfl (Zj rfl (Yc (YW (Ye (Ze (Zj rfl (Zn rfl (Vi rfl (Yr (r:=.bool false) rfl rfl rfl (Yc (ZB rfl (YX (Xe (Ze (Yo rfl rfl (.tail _ ZP) (Yz rfl rfl rfl rfl (.there (.there (.there .here))) ?_)))))))))))))))))))
 rw [show ovA (fun _=>0) 0 133 ex3=ex3 from UX zn]
 refine Yq rfl (Yc (Yi (⟨_,X9 rfl rfl ZP (ZL rfl),?_⟩)))
 exact ⟨rfl,(Qf (.tail _ (.tail _ ZP)))⟩
theorem geq_yes {a b:Int} (h:b<=a):Wx .geq (.int .i64 a) (.int .i64 b)=some (.bool true):=by
 show (if IntKind.i64=IntKind.i64 then some (S.bool (decide (b<=a))) else none)=_
 rw [Za8 rfl,ZaV h]
theorem leq_yes {a b:Int} (h:a<=b):Wx .leq (.int .i64 a) (.int .i64 b)=some (.bool true):=by
 show (if IntKind.i64=IntKind.i64 then some (S.bool (decide (a<=b))) else none)=_
 rw [Za8 rfl,ZaV h]
theorem Ec (a:ByteArray):Wx .eql (.str a) (.str a)=some (.bool true):=by
 show some (S.bool (a.toList == a.toList))=_
 rw [beq_self_eq_true]
def Dd (k:Int):ByteArray:=if k=2 then ⟨#[110]⟩ else if k=3 then ⟨#[98]⟩ else if k=4 then ⟨#[114]⟩ else if k=5 then ⟨#[113]⟩ else if k=6 then ⟨#[107]⟩ else ⟨#[]⟩
theorem low_run (k:Int):RF AM 40 [.s (.str (XA k))] (.s (.str (Dd k))):=by
 refine ⟨[],?_⟩
 refine (VP (A:=AM) (pf:=zj) rfl _ _ rfl).trans ?_
 unfold XA Dd
 by_cases h2:k=2
 ·subst h2; rfl
 by_cases h3:k=3
 ·subst h3; rfl
 by_cases h4:k=4
 ·subst h4; rfl
 by_cases h5:k=5
 ·subst h5; rfl
 by_cases h6:k=6
 ·subst h6; rfl
 rw [Za7 h2,Za7 h3,Za7 h4,Za7 h5,Za7 h6,Za7 h2,Za7 h3,Za7 h4,Za7 h5,Za7 h6]; rfl
theorem vg (k:Int):(Dd k).size<=1:=by
 unfold Dd
 split
 ·decide
 split
 ·decide
 split
 ·decide
 split
 ·decide
 split <;> decide
def ZbC (a t b:Int):ByteArray:=Y2 a++Y2 t++Dd b
def Txt (a t b:Int):Prop:=(0<=a/\a < 64)/\(0<=t/\t < 64)/\a≠t/\b≠1/\0<=b/\b<=5
theorem sY {x:Int} (h:0<=x/\x < 64):RF AM 74 [.s (.int .i64 x)] (.s (.bool true)):=by
 have:=KQ x
 rw [show isM x=true from ZaV h] at this; exact this
theorem gr (M:Nat->Int) (h:Txt (M 0) (M 1) (M 2)):WR AM 39 [.agg 3 (ia M)] [] (fun v _ _=>v=.s (.bool true)):=by
 obtain ⟨h1,h2,h3,h4,h5,h6⟩:=h
 refine YJ (a:=a39) rfl rfl (YI _) (ZQ rfl) (m:=0) rfl (Ze (YC rfl (Yq rfl (Zf (Zy rfl (Ym (x:=M 0) rfl rfl ZM (rfl) (Yt rfl (sY h1) rfl rfl rfl (Zk rfl (Yb rfl (Zz rfl (Yb rfl (Ym (x:=M 1) rfl rfl ZM (rfl) (Yb rfl (Yt rfl (sY h2) rfl rfl rfl (Zq rfl (Zk rfl (Yb rfl (Zy rfl (Yb rfl (Ym (x:=M 0) rfl rfl ZM (rfl) (Yb rfl (Zz rfl (Yb rfl (Ym (x:=M 1) rfl rfl ZM (rfl) (Yb rfl (Yr rfl rfl (ut h3) (Zq rfl (Zk rfl (Yb rfl ?_)))))))))))))))))))))))))))))
 refine Yd (o':=2) rfl rfl rfl (Yb rfl (Ym (x:=M 2) rfl rfl ZM (rfl) (Yb rfl (Yr rfl rfl (ut h4) (Zq rfl (Zk rfl (Yb rfl (Yd (o':=2) rfl rfl rfl (Yb rfl (Ym (x:=M 2) rfl rfl ZM (rfl) (Yb rfl (Yr rfl rfl (geq_yes h5) (Zq rfl (Zk rfl (Yb rfl (Yd (o':=2) rfl rfl rfl (Yb rfl (Ym (x:=M 2) rfl rfl ZM (rfl) (Yb rfl (Yr rfl rfl (leq_yes h6) (Zq rfl (Zk rfl (Zg rfl ?_)))))))))))))))))))))))
 rfl
theorem oK (M:Nat->Int) (h:Txt (M 0) (M 1) (M 2)):WR AM 38 [.agg 3 (ia M)] [] (fun v _ _=>v=.s (.bool false)):=by
 refine YJ (a:=a38) rfl rfl (YI _) (ZQ rfl) (m:=0) rfl (Ze (YC rfl (Yq rfl (Zf (Yo rfl rfl ZM (Yt rfl (YG (gr M h)) rfl rfl rfl (Yv (r:=.bool _) rfl rfl (Zk rfl (Zg rfl ?_)))))))))
 rfl
theorem tF (a t b:Int) (h:Txt a t b):RdR AM 73 3 [] [.fn 38 []] [a,t,b] (.s (.int .i64 (-1))):=by
 refine Ql fun v Bs hc=>?_
 refine YJ (a:=a73) rfl rfl (YI _) (ZQ rfl) rfl ?_ (by first | rfl | (cases hc <;> rfl))
 have hr0:=hc.rx
 rw [show Xb 0 Bs=Xb 0 Bs++[] from (ZaQ _).symm]
 generalize hown:Xb 0 Bs=own0 at hr0 ⊢
 refine Ze (Yq rfl (Yc (Ye (Ze (Yq (v:=v) rfl (Wq rfl hr0 (by decide) (show [a,t,b].length=1*3 from rfl) (Yq rfl (Yc (Yk (YW (Ze (Yr (r:=.bool true) rfl rfl rfl (Yc (Ye (ZA rfl (Yh (Ye (Yk (Ze (Zj rfl (Zj rfl (Zf (Yq (v:=.fn _ _) rfl (Yq (v:=v) rfl (Zj rfl ?_)))))))))))))))))))))))))
 obtain ⟨b0,q0,md0,c0,F0,rfl,rfl,hF0⟩:=hr0.at (by decide) (show [a,t,b].length=1*3 from rfl) (by omega)
 refine Zx rfl rfl ?_
 have f0:F0 0=a:=hF0 0 (YF rfl)
 have f1:F0 1=t:=hF0 1 (YF rfl)
 have f2:F0 2=b:=hF0 2 (YF rfl)
 have h0:Txt (F0 0) (F0 1) (F0 2):=by rw [f0,f1,f2]; exact h
 refine Yo rfl rfl ZM (Yt rfl (YG (oK F0 h0)) rfl rfl rfl (Yc (ZB rfl (Yh (Yf (Zs rfl rfl (Zj rfl (Yc (YW (Ze (Yr (r:=.bool false) rfl rfl rfl (Yc (Ye (ZB rfl (YX (Xe (Ze (Yq rfl (Yc (Yi (⟨_,ZL rfl,?_⟩)))))))))))))))))))))
 exact ⟨rfl,(Qf ZM)⟩
theorem ZbU (a t b:Int) (h:Txt a t b):RdR AM 37 3 [] [.fn 38 []] [a,t,b] (.s (.bool false)):=by
 refine Ql fun v Bs hc=>?_
 refine YJ (a:=a37) rfl rfl (YI _) (ZQ rfl) rfl ?_ (by first | rfl | (cases hc <;> rfl))
 have hr0:=hc.rx
 rw [show Xb 0 Bs=Xb 0 Bs++[] from (ZaQ _).symm]
 generalize hown:Xb 0 Bs=own0 at hr0 ⊢
 refine Ze (Yq rfl (Zf (Yq (v:=v) rfl (Yq (v:=.fn _ _) rfl (Wp (caps:=[]) rfl (tF a t b h) rfl (hr0) (fun _ h=>(ZaC _ h)) rfl rfl rfl (Yr (r:=.bool false) rfl rfl rfl (Zk rfl (Zg rfl ?_))))))))
 exact ⟨rfl,(fun _ h=>h)⟩
theorem gD (a t b:Int) (h:Txt a t b):RdR AM 12 3 [] [] [a,t,b] (.tup [.s (.str (ZbC a t b)),.s (.int .i64 0)]):=by
 refine Ql fun v Bs hc=>?_
 obtain ⟨h1,h2,h3,h4,h5,h6⟩:=id h
 refine YJ (a:=a12) rfl rfl (YI _) (ZQ rfl) rfl ?_ (by first | rfl | (cases hc <;> rfl))
 have hr0:=hc.rx
 rw [show Xb 0 Bs=Xb 0 Bs++[] from (ZaQ _).symm]
 generalize hown:Xb 0 Bs=own0 at hr0 ⊢
 refine Ze (Yq rfl (Yq rfl (Yc (Ye (Ze (Yq (v:=v) rfl (Wp (caps:=[]) rfl (ZbU a t b h) rfl (hr0) (fun _ h=>(ZaC _ h)) rfl rfl rfl (Yc (ZB rfl (Yh (Ye (Ze (Yq (v:=v) rfl (Wq rfl hr0 (by decide) (show [a,t,b].length=1*3 from rfl) (Yr (r:=.bool false) rfl rfl rfl (Yc (ZB rfl (Yh (Ze (EP (v:=.aggv [.pnil,.snil]) rfl (uN rfl rfl (pk uT rfl rfl xz (Zl rfl (Yq (v:=.map _) rfl (Yc (Ye (Ze (Yq (v:=v) rfl (Wq rfl hr0 (by decide) (show [a,t,b].length=1*3 from rfl) ?_)))))))))))))))))))))))))))))
 refine Yq rfl (Yc (Yk (YW (Ze (Yr (r:=.bool true) rfl rfl rfl (Yc (Ye (ZA rfl (Yh (Ye (Yk (Ze (Zj rfl ?_)))))))))))))
 obtain ⟨b0,q0,md0,c0,F0,rfl,rfl,hF0⟩:=hr0.at (by decide) (show [a,t,b].length=1*3 from rfl) (by omega)
 refine Zx rfl rfl ?_
 have f0:F0 0=a:=hF0 0 (YF rfl)
 have f1:F0 1=t:=hF0 1 (YF rfl)
 have f2:F0 2=b:=hF0 2 (YF rfl)
 refine Yo rfl rfl ZO (Yy (Zj rfl (Yz rfl rfl rfl rfl .here (Yc (Ye (Ze (Zj rfl (Yr (r:=.bool false) rfl rfl rfl (Yc (ZB rfl (Yh (Yg (Zl rfl (Zy rfl (Ym (x:=a) rfl rfl ZM (f0) (Yu rfl (Ul _) rfl rfl rfl (Zz rfl (Ym (x:=t) rfl rfl ZM (f1) (Yu rfl (Ul _) rfl rfl rfl (Yq (v:=.map _) rfl (Yd (o':=2) rfl rfl rfl (Ym (x:=b) rfl rfl ZM (f2) (Vo rfl rfl ZN rfl (VL _) (Yt rfl (low_run _) rfl rfl rfl (gM rfl rfl rfl (XS (Lr:=[(_,_)]) (L0:=[_,_,_]) (gY (gS3 (Y2 a) (Y2 t) (Dd b)) (.ex 3) (Y2 a) (Y2 t) (Dd b) rfl rfl rfl (by rw [Xh h1]; omega) (by rw [Xh h1,Xh h2]; have:=vg b; omega)) rfl rfl (Zbr (.refl _) ((Zbs _ ((Zbs _ ((Zbs _ (.refl _)).trans (.swap _ _ _))).trans (.swap _ _ _))).trans (.swap _ _ _))) rfl rfl rfl rfl rfl rfl rfl (Yc (Yf (Zs rfl rfl ?_)))))))))))))))))))))))))))))
 refine Zj rfl (Yc (YW (Ze (Yr (r:=.bool false) rfl rfl rfl (Yc (Ye (ZB rfl (YX (Xe (Ze (Zl rfl (YM rfl (Zy rfl (D9 (yG (Y2 a++Y2 t++Dd b) (by simp only [Zbf,Xh h1]; omega) (by simp only [Zbf,Xh h1,Xh h2]; have:=vg b; omega)) rfl rfl rfl rfl ZN .here (Yq (v:=.s _) rfl (Yq rfl (Yc (Yi (⟨_,YK (v:=.s _) rfl (ZL rfl),?_⟩)))))))))))))))))))
 exact ⟨rfl,(Qf (.tail _ (.tail _ ZP)))⟩
set_option maxRecDepth 100000
def tab (l:List Int) (i:Nat):Int:=l.getD i 0
theorem sx {l:List Int} (h:l.length=133):∀ i,133<=i->tab l i=0:=fun i hi=>by
 unfold tab
 rw [Zau,Zbg (by omega)]; rfl
theorem rQ {P:Nat->Int} {l:List Int} (h:l.length=133) (hz:∀ i,133<=i->P i=0) (h2:∀ i:Fin 133,P i.val=tab l i.val):P=tab l:=by
 funext i
 by_cases hi:i < 133
 ·exact h2 ⟨i,hi⟩
 rw [hz i (by omega),sx h i (by omega)]
def t3:List Int:=[4,0,2,0,3,0,5,0,6,0,3,0,2,0,4,0,1,0,1,0,1,0,1,0,1,0,0,0,0,0,1,0,0,0,0,0,0,0,0,0,0,0,1,0,0,0,0,0,0,0,0,0,0,0,0,0,0,0,0,0,1,0,0,0,0,0,0,0,0,0,0,0,1,1,0,0,0,0,0,0,0,0,0,0,0,0,0,0,0,0,0,0,0,0,0,0,1,1,1,1,1,1,1,1,0,0,1,1,1,1,1,1,4,1,2,1,3,1,5,1,6,1,3,1,2,1,4,1,1,15,22,0,2]
def t4:List Int:=[4,0,2,0,3,0,5,0,6,0,3,0,2,0,4,0,1,0,1,0,1,0,1,0,1,0,0,0,0,0,1,0,0,0,0,0,0,0,0,0,0,0,1,0,0,0,0,0,0,0,0,0,0,0,0,0,0,0,0,0,1,0,5,1,0,0,0,0,0,0,0,0,1,1,0,0,0,0,0,0,0,0,0,0,0,0,0,0,0,0,0,0,0,0,0,0,1,1,1,1,1,1,1,1,0,0,1,1,1,1,1,1,4,1,2,1,3,1,0,0,6,1,3,1,2,1,4,1,0,15,-1,1,3]
theorem pm:ex3=tab t3:=rQ rfl zn (by decide +kernel)
theorem ex4_is:Xq (tab t3) 59 31 0=tab t4:=rQ rfl (fun i hi=>UF hi) (by decide +kernel)
theorem ex3_mem:((59,31,0):Mv)∈XE ex3:=by
 rw [pm]
 exact (DV (sx rfl)).2 ⟨by decide +kernel,by decide +kernel,by decide +kernel⟩
theorem ex4_end:(ofN (tab t4) (XE (tab t4)).length).2=1:=by
 rw [Dh (sx rfl)]
 decide +kernel
theorem Zag:UM (tab t3) 59 31 0=⟨#[81,100,56,45,104,52]⟩:=by decide +kernel
theorem ex_long:Kn ex3 59 31 0=⟨#[81,100,56,45,104,52,35]⟩:=by
 unfold Kn RU
 rw [pm,ex4_is,Za8 ex4_end,Zag]; rfl
theorem ex_show:ZbC 52 60 5=⟨#[101,55,101,56,113]⟩:=by decide +kernel
theorem D4 :WR AM 10 [] [] (fun v _ _=>v=.s (.bool true)):=by
 have hsh:=gD 52 60 5 ⟨by omega,by omega,by omega,by omega,by omega,by omega⟩
 rw [ex_show] at hsh
 have hid:ovA (fun _=>0) 0 133 ex3=ex3:=UX zn
 have hlong:=YG (kU (ovA (fun _=>0) 0 133 ex3) (ov (ov (fun _=>0) 0 59) 1 31) (by rw [hid]; exact zn) (by rw [hid]; exact ex3_mem))
 rw [show Kn (ovA (fun _=>0) 0 133 ex3) ((ov (ov (fun _=>0) 0 59) 1 31) 0) ((ov (ov (fun _=>0) 0 59) 1 31) 1) ((ov (ov (fun _=>0) 0 59) 1 31) 2)=⟨#[81,100,56,45,104,52,35]⟩ by rw [hid]; exact ex_long] at hlong
 refine YJ (a:=a10) rfl rfl (YI _) (ZQ rfl) (m:=0) rfl (Ze (Yq rfl (Zf (YB rfl (.one rfl (.one rfl (.one rfl .nil))) (Wo rfl (.agg rfl .nil) (Wp (caps:=[]) rfl (hsh) rfl ((.row rfl (by decide))) (Qf ZM) rfl rfl rfl (Zo rfl (YD (v:=.s _) rfl rfl (YD (v:=.s (.int _ _)) rfl rfl (Yq (v:=.s _) rfl (Zj rfl (Zf (Yt rfl (YG tc) rfl rfl rfl (YB rfl (.one rfl (.one rfl .nil)) (YB rfl (.one rfl (.one rfl .nil)) (YB rfl (.one rfl (.one rfl .nil)) (Wo rfl (.agg rfl (.agg rfl (.agg rfl .nil))) (Wp (caps:=[]) rfl (ex_rd) rfl ((.row rfl (by decide))) (Qf ZM) rfl rfl rfl (Zo rfl (YD (v:=.agg _ _) rfl rfl (YD (v:=.s (.int _ _)) rfl rfl (Yy (Yz rfl rfl rfl rfl .here (Zj rfl (Zf (Yo rfl rfl ZM (YB rfl (.one rfl (.one rfl .nil)) (Yt rfl (hlong) rfl rfl rfl (Zo rfl ?_)))))))))))))))))))))))))))))
 refine YD (v:=.s _) rfl rfl (YD (v:=.s (.int _ _)) rfl rfl (Yq (v:=.s _) rfl (Zj rfl (Zf (Zj rfl (Yr rfl rfl (K5 rfl) (Zk rfl (Yb rfl (Yq (v:=.s _) rfl (Yb rfl (Yr rfl rfl (Ec _) (Zq rfl (Zk rfl (Yb rfl (Zj rfl (Yb rfl (Yr rfl rfl (K5 rfl) (Zq rfl (Zk rfl (Yb rfl (Yq (v:=.s _) rfl (Yb rfl (Yr rfl rfl (Ec _) (Zq rfl (Zk rfl (Zg rfl ?_))))))))))))))))))))))))))
 rfl
def bl (s:ByteArray):List UInt8:=s.data.toList
theorem Zbx (s t:ByteArray):bl (s++t)=bl s++bl t:=by unfold bl; rw [ByteArray.data_append,Array.toList_append]
theorem ZbO {x:Int} (h:0<=x/\x < 64):bl (Y2 x)=[UInt8.ofNat (97+(x % 8).toNat),UInt8.ofNat (49+(x / 8).toNat)]:=by rw [wl h]; rfl
theorem u97:∀ i j:Fin 8,UInt8.ofNat (97+i.val)=UInt8.ofNat (97+j.val)->i=j:=by decide +kernel
theorem u49:∀ i j:Fin 8,UInt8.ofNat (49+i.val)=UInt8.ofNat (49+j.val)->i=j:=by decide +kernel
theorem ZbQ {x y:Int} (hx:0<=x/\x < 64) (hy:0<=y/\y < 64) (h1:UInt8.ofNat (97+(x % 8).toNat)=UInt8.ofNat (97+(y % 8).toNat)) (h2:UInt8.ofNat (49+(x / 8).toNat)=UInt8.ofNat (49+(y / 8).toNat)):x=y:=by
 have e1:=congrArg Fin.val (u97 ⟨(x % 8).toNat,by omega⟩ ⟨(y % 8).toNat,by omega⟩ h1)
 have e2:=congrArg Fin.val (u49 ⟨(x / 8).toNat,by omega⟩ ⟨(y / 8).toNat,by omega⟩ h2)
 simp only at e1 e2
 omega
def ZbH (k:Int):UInt8:=if k=2 then 78 else if k=3 then 66 else if k=4 then 82 else if k=5 then 81 else 75
theorem Zcb {k:Int} (h:2<=k/\k<=6):bl (XA k)=[ZbH k]:=by
 have:k=2\/k=3\/k=4\/k=5\/k=6:=by omega
 rcases this with rfl | rfl | rfl | rfl | rfl <;> rfl
theorem Zce {k l:Int} (h:2<=k/\k<=6) (h2:2<=l/\l<=6) (he:ZbH k=ZbH l):k=l:=by
 have e1:k=2\/k=3\/k=4\/k=5\/k=6:=by omega
 have e2:l=2\/l=3\/l=4\/l=5\/l=6:=by omega
 rcases e1 with rfl | rfl | rfl | rfl | rfl <;> rcases e2 with rfl | rfl | rfl | rfl | rfl <;> first | rfl | exact absurd he (by decide)
theorem letB_lt {k:Int}:(ZbH k).toNat < 83/\ZbH k≠79:=by
 unfold ZbH
 split
 ·decide
 split
 ·decide
 split
 ·decide
 split <;> decide
theorem file_ge (x:Int):97<=(UInt8.ofNat (97+(x % 8).toNat)).toNat:=by
 rw [UInt8.toNat_ofNat']
 omega
def prL (b:Int):List UInt8:=if b=0 then [] else [61,ZbH b]
inductive Tl:List UInt8->Prop
 | no:Tl []
 | mate:Tl [35]
 | check:Tl [43]
theorem ZbR (P:Nat->Int) (a t b:Int):∃ tl,Tl tl/\bl (Kn P a t b)=bl (UM P a t b)++tl:=by
 unfold Kn RU
 split
 ·exact ⟨[35],.mate,Zbx _ _⟩
 split
 ·exact ⟨[43],.check,Zbx _ _⟩
 exact ⟨[],.no,(ZaQ _).symm⟩
theorem sign_bl (c:Int):∃ g,bl (RI c)=[g]/\(g=45\/g=120):=by
 unfold RI
 split
 ·exact ⟨45,rfl,.inl rfl⟩
 exact ⟨120,rfl,.inr rfl⟩
theorem ZbD {P:Nat->Int} {a t b:Int} (ha:0<=a/\a < 64) (ht:0<=t/\t < 64) (hk:1<=P (sqI a)/\P (sqI a)<=6) (hb:b=0\/(P (sqI a)=1/\2<=b/\b<=5)) :
  (P (sqI a)=6/\t=a+2/\b=0/\bl (UM P a t b)=[79,45,79])\/(P (sqI a)=6/\t=a - 2/\b=0/\bl (UM P a t b)=[79,45,79,45,79]) \/
  (∃ g,(g=45\/g=120)/\P (sqI a)=1/\bl (UM P a t b)=UInt8.ofNat (97+(a % 8).toNat)::UInt8.ofNat (49+(a / 8).toNat)::g::UInt8.ofNat (97+(t % 8).toNat)::UInt8.ofNat (49+(t / 8).toNat)::prL b) \/
  (∃ g,(g=45\/g=120)/\2<=P (sqI a)/\b=0/\bl (UM P a t b)=ZbH (P (sqI a))::UInt8.ofNat (97+(a % 8).toNat)::UInt8.ofNat (49+(a / 8).toNat)::g::UInt8.ofNat (97+(t % 8).toNat)::UInt8.ofNat (49+(t / 8).toNat)::[]):=by
 by_cases c1:P (sqI a)=6/\t - a=2
 ·left
  refine ⟨c1.1,by omega,by omega,?_⟩
  unfold UM; rw [Za8 c1]; rfl
 by_cases c2:P (sqI a)=6/\t - a=-2
 ·right; left
  refine ⟨c2.1,by omega,by omega,?_⟩
  unfold UM; rw [Za7 c1,Za8 c2]; rfl
 right; right
 obtain ⟨g,hg,hgg⟩:=sign_bl (Y7 P (P (sqI a)) a t)
 have hcore:bl (Q1 P a t)=bl (XA (P (sqI a)))++(UInt8.ofNat (97+(a % 8).toNat)::UInt8.ofNat (49+(a / 8).toNat)::g::UInt8.ofNat (97+(t % 8).toNat)::UInt8.ofNat (49+(t / 8).toNat)::[]):=by
  unfold Q1
  rw [Zbx,Zbx,Zbx,ZbO ha,ZbO ht,hg]
  simp
 by_cases h1:P (sqI a)=1
 ·left
  refine ⟨g,hgg,h1,?_⟩
  rw [h1,show bl (XA 1)=[] from rfl,List.nil_append] at hcore
  unfold UM prL
  rw [Za7 c1,Za7 c2]
  by_cases hb0:b=0
  ·rw [Za8 hb0,Za8 hb0,hcore]
  rw [Za7 hb0,Za7 hb0,Zbx,Zbx,hcore,Zcb (by omega)]
  rfl
 right
 have hb0:b=0:=by omega
 refine ⟨g,hgg,by omega,hb0,?_⟩
 rw [Zcb (by omega)] at hcore
 unfold UM
 rw [Za7 c1,Za7 c2,Za8 hb0,hcore]; rfl
theorem ZbE {P:Nat->Int} (hz:∀ i,133<=i->P i=0) {m:Mv} (hm:m∈XE P):VO P=true/\(0<=m.1/\m.1 < 64)/\(0<=m.2.1/\m.2.1 < 64)/\(1<=P (sqI m.1)/\P (sqI m.1)<=6)/\P (sqI m.1+1)=P 128/\(m.2.2=0\/(P (sqI m.1)=1/\2<=m.2.2/\m.2.2<=5))/\m.1≠m.2.1:=by
 obtain ⟨h1,h2,_⟩:=(DV hz).1 hm
 obtain ⟨hs,ht,hg,hmt⟩:=Ry h2
 obtain ⟨hk,_,hd,hne⟩:=Ja hg
 have:=uO hmt
 refine ⟨s8 h1,hs,ht,hk,hd,?_,hne⟩
 split at this
 ·rename_i h
  exact .inr ⟨h.1,this⟩
 exact .inl this
theorem ZbN {tl:List UInt8} (h:Tl tl):∀ x l,tl=x::l->(x=35\/x=43)/\l=[]:=by
 cases h with
 | no=>intro x l e; cases e
 | mate=>intro x l e; injection e with e1 e2; exact ⟨.inl e1.symm,e2.symm⟩
 | check=>intro x l e; injection e with e1 e2; exact ⟨.inr e1.symm,e2.symm⟩
theorem pr_inj {b c:Int} (hb:b=0\/(2<=b/\b<=5)) (hc:c=0\/(2<=c/\c<=5)) {tl ul:List UInt8} (h1:Tl tl) (h2:Tl ul) (h:prL b++tl=prL c++ul):b=c:=by
 unfold prL at h
 by_cases b0:b=0
 ·by_cases c0:c=0
  ·omega
  exfalso
  rw [Za8 b0,Za7 c0] at h
  have:=(ZbN h1 _ _ h).1
  rcases this with e | e <;> exact absurd e (by decide)
 by_cases c0:c=0
 ·exfalso
  rw [Za7 b0,Za8 c0] at h
  have:=(ZbN h2 _ _ h.symm).1
  rcases this with e | e <;> exact absurd e (by decide)
 rw [Za7 b0,Za7 c0] at h
 injection h with _ h
 injection h with h _
 exact Zce (by omega) (by omega) h
theorem Zby (x:Int):UInt8.ofNat (97+(x % 8).toNat)≠79/\∀ k,UInt8.ofNat (97+(x % 8).toNat)≠ZbH k:=by
 have:=file_ge x
 refine ⟨fun e=>?_,fun k e=>?_⟩
 ·rw [e] at this; exact absurd this (by decide)
 have h2:=(letB_lt (k:=k)).1
 rw [<- e] at h2; omega
theorem Zcd {P:Nat->Int} (hz:∀ i,133<=i->P i=0) {a t b c u d:Int} (hm:(a,t,b)∈XE P) (hm':(c,u,d)∈XE P) (h:Kn P a t b=Kn P c u d):(a,t,b)=(c,u,d):=by
 obtain ⟨hR,ha,ht,hk,hd,hb,_⟩:=ZbE hz hm
 obtain ⟨_,hc,hu,hl,he,hdd,_⟩:=ZbE hz hm'
 simp only at ha ht hk hd hb hc hu hl he hdd
 obtain ⟨tl,htl,e1⟩:=ZbR P a t b
 obtain ⟨ul,hul,e2⟩:=ZbR P c u d
 rw [h,e2] at e1
 have king:P (sqI a)=6->P (sqI c)=6->a=c:=fun h1 h2=>Zas (te hR) ⟨ha,h1,hd⟩ ⟨hc,h2,he⟩
 rcases ZbD ha ht hk hb with ⟨k1,k2,k3,f⟩ | ⟨k1,k2,k3,f⟩ | ⟨g,hg,k1,f⟩ | ⟨g,hg,k1,k3,f⟩ <;>
  rcases ZbD hc hu hl hdd with ⟨l1,l2,l3,f'⟩ | ⟨l1,l2,l3,f'⟩ | ⟨g',hg',l1,f'⟩ | ⟨g',hg',l1,l3,f'⟩ <;>
  rw [f,f'] at e1
 ·have:=king k1 l1; subst this; rw [k2,l2,k3,l3]
 ·exfalso
  injection e1 with _ e1; injection e1 with _ e1; injection e1 with _ e1
  have:=(ZbN htl _ _ e1.symm).1
  rcases this with e | e <;> exact absurd e (by decide)
 ·exfalso; injection e1 with e1 _; exact (Zby c).1 e1
 ·exfalso; injection e1 with e1 _; exact letB_lt.2 e1
 ·exfalso
  injection e1 with _ e1; injection e1 with _ e1; injection e1 with _ e1
  have:=(ZbN hul _ _ e1).1
  rcases this with e | e <;> exact absurd e (by decide)
 ·have:=king k1 l1; subst this; rw [k2,l2,k3,l3]
 ·exfalso; injection e1 with e1 _; exact (Zby c).1 e1
 ·exfalso; injection e1 with e1 _; exact letB_lt.2 e1
 ·exfalso; injection e1 with e1 _; exact (Zby a).1 e1.symm
 ·exfalso; injection e1 with e1 _; exact (Zby a).1 e1.symm
 ·injection e1 with x1 e1; injection e1 with x2 e1; injection e1 with _ e1; injection e1 with x3 e1; injection e1 with x4 e1
  rw [ZbQ ha hc x1.symm x2.symm,ZbQ ht hu x3.symm x4.symm,pr_inj (by omega) (by omega) htl hul e1.symm]
 ·exfalso; injection e1 with e1 _; exact (Zby a).2 _ e1.symm
 ·exfalso; injection e1 with e1 _; exact letB_lt.2 e1.symm
 ·exfalso; injection e1 with e1 _; exact letB_lt.2 e1.symm
 ·exfalso; injection e1 with e1 _; exact (Zby c).2 _ e1
 injection e1 with _ e1; injection e1 with x1 e1; injection e1 with x2 e1; injection e1 with _ e1; injection e1 with x3 e1; injection e1 with x4 e1
 rw [ZbQ ha hc x1.symm x2.symm,ZbQ ht hu x3.symm x4.symm,k3,l3]
theorem ZbI {s t:ByteArray} (h:bl s=bl t):s=t:=by
 cases s; cases t
 unfold bl at h
 exact congrArg ByteArray.mk (Array.toList_inj.1 h)
theorem ZbK (s:ByteArray):s.size=(bl s).length:=by unfold bl; rw [Zbn]; rfl
theorem ZbJ (s:ByteArray) (i j:Nat):bl (s.extract i j)=((bl s).take j).drop i:=by
 unfold bl
 rw [ByteArray.data_extract,Array.toList_extract]
 rw [List.extract_eq_take_drop,List.drop_take]
theorem Zb1 {s:ByteArray} {x0 x1 g y0 y1:UInt8} {r:List UInt8} (h:bl s=x0::x1::g::y0::y1::r):5<=s.size/\s.extract 0 2=⟨#[x0,x1]⟩/\s.extract 3 5=⟨#[y0,y1]⟩/\s.data.getD 2 0=g:=by
 refine ⟨by rw [ZbK,h]; simp,ZbI (by rw [ZbJ,h]; rfl),ZbI (by rw [ZbJ,h]; rfl),?_⟩
 have:s.data.toList.getD 2 0=g:=by
  show (bl s).getD 2 0=g
  rw [h]; rfl
 rw [<- this]; simp [Zba,Zau]
theorem Zcc {s:ByteArray} {x0 x1 y0 y1:UInt8} {r:List UInt8} (h:bl s=x0::x1::y0::y1::r):4<=s.size/\s.extract 0 2=⟨#[x0,x1]⟩/\s.extract 2 4=⟨#[y0,y1]⟩:=by
 exact ⟨by rw [ZbK,h]; simp,ZbI (by rw [ZbJ,h]; rfl),ZbI (by rw [ZbJ,h]; rfl)⟩
theorem ZbM {s:ByteArray} {x:UInt8} {r:List UInt8} (h:bl s=x::r):s.data.getD 0 0=x:=by
 have:s.data.toList.getD 0 0=x:=by
  show (bl s).getD 0 0=x
  rw [h]; rfl
 rw [<- this]; simp [Zba,Zau]
theorem ZbP {P:Nat->Int} (hz:∀ i,133<=i->P i=0) {a t b:Int} (hm:(a,t,b)∈XE P):3<=(Kn P a t b).size/\4<=(ZbC a t b).size/\Txt a t b /\
  ((Kn P a t b).data.getD 0 0=79\/((Kn P a t b).data.getD 0 0≠79/\∀ own,own=(if P (sqI a)=1 then Kn P a t b else (Kn P a t b).extract 1 (Kn P a t b).size) ->
   5<=own.size/\own.extract 0 2=(ZbC a t b).extract 0 2/\own.extract 3 5=(ZbC a t b).extract 2 4/\(own.data.getD 2 0=45\/own.data.getD 2 0=120))):=by
 obtain ⟨_,ha,ht,hk,_,hb,hne⟩:=ZbE hz hm
 simp only at ha ht hk hb hne
 obtain ⟨tl,htl,e1⟩:=ZbR P a t b
 have hs:bl (ZbC a t b)=UInt8.ofNat (97+(a % 8).toNat)::UInt8.ofNat (49+(a / 8).toNat)::UInt8.ofNat (97+(t % 8).toNat)::UInt8.ofNat (49+(t / 8).toNat)::bl (Dd b):=by
  unfold ZbC
  rw [Zbx,Zbx,ZbO ha,ZbO ht]; rfl
 obtain ⟨s1,s2,s3⟩:=Zcc hs
 refine ⟨?_,s1,⟨ha,ht,hne,by omega,by omega,by omega⟩,?_⟩
 ·rw [ZbK,e1]
  rcases ZbD ha ht hk hb with ⟨_,_,_,f⟩ | ⟨_,_,_,f⟩ | ⟨g,_,_,f⟩ | ⟨g,_,_,_,f⟩ <;> rw [f] <;> simp <;> omega
 rcases ZbD ha ht hk hb with ⟨_,_,_,f⟩ | ⟨_,_,_,f⟩ | ⟨g,hg,k1,f⟩ | ⟨g,hg,k1,k3,f⟩ <;> rw [f] at e1
 ·exact .inl (ZbM e1)
 ·exact .inl (ZbM e1)
 ·refine .inr ⟨fun e=>(Zby a).1 ((ZbM e1).symm.trans e),fun own ho=>?_⟩
  rw [Za8 k1] at ho
  subst ho
  obtain ⟨o1,o2,o3,o4⟩:=Zb1 e1
  exact ⟨o1,o2.trans s2.symm,o3.trans s3.symm,by rw [o4]; exact hg⟩
 refine .inr ⟨fun e=>letB_lt.2 ((ZbM e1).symm.trans e),fun own ho=>?_⟩
 rw [Za7 (by omega)] at ho
 have e2:bl own=UInt8.ofNat (97+(a % 8).toNat)::UInt8.ofNat (49+(a / 8).toNat)::g::UInt8.ofNat (97+(t % 8).toNat)::UInt8.ofNat (49+(t / 8).toNat)::tl:=by
  rw [ho,ZbJ,ZbK,List.take_length,e1]; rfl
 obtain ⟨o1,o2,o3,o4⟩:=Zb1 e2
 exact ⟨o1,o2.trans s2.symm,o3.trans s3.symm,by rw [o4]; exact hg⟩
end Go.Proofs.YtlkighkfkdpncaaGreatDoor
