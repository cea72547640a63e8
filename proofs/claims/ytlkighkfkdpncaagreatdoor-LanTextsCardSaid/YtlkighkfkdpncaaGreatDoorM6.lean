/- Texts of this seat, joined. -/
import Derived.Test.YtlkighkfkdpncaaGreatDoorM5
set_option linter.unusedSimpArgs false
set_option linter.unusedVariables false
namespace Go.Proofs.YtlkighkfkdpncaaGreatDoor
open Go Go.Am
theorem VD {s:ByteArray} {p:Nat} (h:p+1 < s.size) (hf:0<=Xg (YM s p)) (hr:0<=Xj (YM s (p+1))):sqR s (-1) p=(sqN s p,true,p+2) :=
 Kg ⟨by omega,hf⟩ ⟨h,hr,by unfold sqN; omega⟩
theorem uQ {c:Int} (h:0<=RJ c):c≠32:=by
 rintro rfl
 exact absurd h (by decide)
theorem TV {s:ByteArray} {p:Nat} (h:1<=p):((s.data.getD ((p:Int) - 1).toNat 0).toNat:Int)=YM s (p - 1):=by
 unfold YM
 rw [show ((p:Int) - 1).toNat=p - 1 by omega]
def StP (s:ByteArray) (k p:Nat) (l:List Mv):Prop:=((US s k p l=Wi s/\5*l.length<=p)/\(p < s.size\/(0 < l.length/\1<=p/\YM s (p - 1)=32)))\/(p=s.size/\yS l=Wi s/\(l.length=0\/(1<=p/\YM s (p - 1)≠32)))
theorem ZaQ {s:ByteArray} (h:s.size<=65536):StP s (s.size+1) 0 []:=by
 by_cases h0:s.size=0
 ·exact .inr ⟨h0.symm,by rw [w7 h0]; rfl,.inl rfl⟩
 exact .inl ⟨⟨(qw h0 h).symm,Zct _⟩,.inl (by omega)⟩
theorem stP_one {s:ByteArray} {k p:Nat} {l:List Mv} (h:StP s k p l) (h2:¬ p < s.size) (hl:0 < l.length):1<=p:=by
 rcases h with ⟨_,h | h⟩ | ⟨_,_,h | h⟩ <;> omega
theorem xe {s:ByteArray} {k p:Nat} {l:List Mv} (h:StP s k p l) (h2:p < s.size\/(0 < l.length/\YM s (p - 1)=32)):US s k p l=Wi s/\5*l.length<=p:=by
 rcases h with ⟨h,_⟩ | ⟨h3,_,h4⟩
 ·exact h
 exfalso
 rcases h2 with h2 | ⟨h2,h5⟩
 ·omega
 rcases h4 with h4 | h4
 ·omega
 exact h4.2 h5
theorem uO {s:ByteArray} {k p:Nat} {l:List Mv} (h:StP s k p l) (h2:¬ p < s.size) (h3:l.length=0\/YM s (p - 1)≠32):yS l=Wi s:=by
 rcases h with ⟨_,h | h⟩ | ⟨_,h,_⟩
 ·exact absurd h h2
 ·rcases h3 with h3 | h3
  ·omega
  exact absurd h.2.2 h3
 exact h
set_option maxRecDepth 100000
theorem up (s:ByteArray) (h1:s.size<=65536):RtT AM 43 3 [.s (.str s)] (YV (Wi s).1) (.int .i64 (Wi s).2.1) (.int .i64 (Wi s).2.2):=by
 refine D3 (YL (a:=a43) rfl rfl (YI _) (ZQ rfl) (m:=0) rfl (Ze (Yq rfl (Yq rfl (Yq rfl (Yc (Ye (Ze (Yq (v:=.s _) rfl (Xe rfl (Yr rfl rfl (wo (by omega)) (Yc (ZB rfl (Yh (Ze (Yq rfl (Zf (Yq rfl (Yc (Ye (Yk (Xo .slnil (Xu (fun m f _ L=>∃ (k p:Nat) (l:List Mv) (vL:V) (ownL:HA),(m=k)/\(s.size < p+k)/\(p<=s.size)/\(StP s k p l)/\(Rw 3 (YV l) vL ownL)/\(f 0=.s (.str s))/\(f 5=vL)/\(f 6=.s (.int .i64 p))/\(L=(ownL++[]))) (fun m f nb L hI=>?_) (s.size+1) (⟨s.size+1,0,[],.snil,[],rfl,by omega,by omega,ZaQ h1,Rw.nil rfl,rfl,rfl,rfl,rfl⟩))))))))))))))))))))))))
 obtain ⟨k,p,l,vL,ownL,hk0,hk,hp,hst,hrL,k0,k5,k6,rfl⟩:=hI
 refine Za 0 k0 (Za 5 k5 (Za 6 k6 (Wz (fun f n L=>∃ (k p:Nat) (l:List Mv) (vL:V) (ownL:HA),(m=k)/\(s.size < p+k)/\(p<=s.size)/\(US s k p l=Wi s)/\(5*l.length<=p)/\(Rw 3 (YV l) vL ownL)/\(f 0=.s (.str s))/\(f 5=vL)/\(f 6=.s (.int .i64 p))/\(L=(ownL++[]))) ?_ (fun f nb L hI=>?_))))
 ·refine Ze (Zj rfl (Yq (v:=.s _) rfl (Xe rfl (Zr rfl (Zk rfl (Ys (t:=18) rfl (fun h18=>?_) (fun h18=>?_))))))) <;> simp only [NM] at h18
  ·refine ZE rfl (YJ rfl (YJ rfl (YJ rfl (YJ rfl (ZD rfl (YJ rfl (YJ rfl (YJ rfl (YJ rfl (YJ rfl (ZC rfl (Zq rfl (Yc (ZA rfl (Yh ?_)))))))))))))))
   refine ⟨_,(ZbY (.refl _) .slnil),k,p,l,_,_,hk0,hk,hp,(xe hst (.inl (by omega))).1,(xe hst (.inl (by omega))).2,hrL,rfl,rfl,rfl,rfl⟩
  refine Yb rfl (Yq (v:=vL) rfl (Yb rfl (Xk rfl hrL.rx (by decide) (YQ _) (Yb rfl (Zr rfl (Yb rfl (Zk rfl (Ys (t:=22) rfl (fun h22=>?_) (fun h22=>?_))))))))) <;> simp only [NM] at h22
  ·refine Yb rfl (Zj rfl (Yb rfl (Yq (v:=.s _) rfl (Yb rfl (Xe rfl (Yb rfl (Zr rfl (Yb rfl (Zq rfl (Yb rfl (Zk rfl (Ys (t:=28) rfl (fun h28=>?_) (fun h28=>?_))))))))))))) <;> simp only [NM] at h28
   ·refine Yb rfl (Yq (v:=.s _) rfl (Yb rfl (Zj rfl (Yb rfl ?_))))
    have h1p:=stP_one hst (by omega) (by omega)
    refine Zt rfl rfl (Yb rfl (XP rfl rfl (by omega) (Yb rfl (Zr rfl (Yb rfl (Zq rfl (Zq rfl (Yc (Yj rfl (fun h35=>?_) (fun h35=>?_)))))))))) <;> simp only [NM] at h35
    ·refine Yh ?_
     refine ⟨_,(ZbY (.refl _) .slnil),k,p,l,_,_,hk0,hk,hp,(xe hst (.inr ⟨by omega,by rw [<- TV h1p]; exact h35⟩)).1,(xe hst (.inr ⟨by omega,by rw [<- TV h1p]; exact h35⟩)).2,hrL,rfl,rfl,rfl,rfl⟩
    refine Y0 (Xb (Ye (Ze ?_)))
    have hfin:=uO hst (by omega) (.inr fun hb=>h35 (by rw [TV h1p]; exact hb))
    refine Yq (v:=vL) rfl (Xk rfl hrL.rx (by decide) (YQ _) (Zr rfl (Yc (Yj rfl (fun h135=>?_) (fun h135=>?_))))) <;> simp only [NM] at h135
    ·refine Ze (Yq rfl (Yq rfl (Yq rfl (Yc (Yi (⟨_,YH (v:=.snil) rfl (YH (v:=.s (.int _ _)) rfl (ZL rfl)),?_⟩))))))
     rw [<- hfin,ze (by omega)]
     exact ⟨.snil,[],rfl,.nil rfl,fun _ h=>by cases h⟩
    refine Yh (Ze (Yq (v:=vL) rfl (Yq (v:=vL) rfl (Yq rfl (Yq rfl (Yc (Yi (⟨_,YH (v:=vL) rfl (YH (v:=.s (.int _ _)) rfl (ZL rfl)),?_⟩))))))))
    rw [<- hfin,wU (by omega)]
    exact ⟨_,_,rfl,hrL,(fun _ h=>(ZbV _ h))⟩
   exfalso; omega
  refine ZE rfl (Yb rfl (Zq rfl (Yb rfl (Zk rfl (ZE rfl (ZC rfl (Yb rfl (Zq rfl (Zq rfl (Yc (ZB rfl (Y0 (Xb (Ye (Ze ?_)))))))))))))))
  have hfin:=uO hst (by omega) (.inl (by omega))
  refine Yq (v:=vL) rfl (Xk rfl hrL.rx (by decide) (YQ _) (Zr rfl (Yc (Yj rfl (fun h135=>?_) (fun h135=>?_))))) <;> simp only [NM] at h135
  ·refine Ze (Yq rfl (Yq rfl (Yq rfl (Yc (Yi (⟨_,YH (v:=.snil) rfl (YH (v:=.s (.int _ _)) rfl (ZL rfl)),?_⟩))))))
   rw [<- hfin,ze (by omega)]
   exact ⟨.snil,[],rfl,.nil rfl,fun _ h=>by cases h⟩
  refine Yh (Ze (Yq (v:=vL) rfl (Yq (v:=vL) rfl (Yq rfl (Yq rfl (Yc (Yi (⟨_,YH (v:=vL) rfl (YH (v:=.s (.int _ _)) rfl (ZL rfl)),?_⟩))))))))
  rw [<- hfin,wU (by omega)]
  exact ⟨_,_,rfl,hrL,(fun _ h=>(ZbV _ h))⟩
 obtain ⟨k,p,l,vL,ownL,hk0,hk,hp,heq,hl,hrL,k0,k5,k6,rfl⟩:=hI
 refine Za 0 k0 (Za 5 k5 (Za 6 k6 ?_))
 obtain ⟨k,rfl⟩:∃ j,k=j+1:=⟨k - 1,by omega⟩
 refine Yk (Ze (Yy (Yc (Ye (Ze (Yq rfl (Yc (Yk (YO (Ye (Ze (Zj rfl (Yr (r:=.bool true) rfl rfl rfl (Yc (ZA rfl (Yh (Ye (Yk (Ye (Ze (Zj rfl (Yq (v:=.s _) rfl (Xe rfl (Zr rfl (Yc (Yj rfl (fun h43=>?_) (fun h43=>?_))))))))))))))))))))))))))) <;> simp only [NM] at h43
 ·refine Ze (Zj rfl (Yq rfl (Zj rfl (Yq rfl (Yc (Yi (⟨_,YH (v:=.snil) rfl (YH (v:=.s (.int _ _)) rfl (ZL rfl)),?_⟩)))))))
  have e:=Ub (k:=k) (l:=l) (KL (JU (s:=s) (p:=p) (fun hh=>by omega)))
  rw [heq] at e
  rw [e]
  exact ⟨.snil,[],rfl,.nil rfl,fun _ h=>by cases h⟩
 refine Yh (Ze (Yq rfl (Yc (Ye (Ze (Zj rfl (Yr (r:=.int .i64 0) rfl rfl rfl (Yr (r:=.bool false) rfl rfl rfl (Yc (ZB rfl (Yh (Ze (Zj rfl (Yq (v:=.s _) rfl (Zj rfl (XP rfl rfl (by omega) (Yq (v:=.s _) rfl (Yt rfl (u7 (XU s p)) rfl rfl rfl (Zw rfl rfl rfl (YA rfl rfl rfl rfl .here (Yc (Ye (Ze (Zj rfl (Zw rfl rfl rfl (Ym (x:=Xg (YM s p)) rfl rfl ZM (rfl) (Zr rfl (Zk rfl (Ys (t:=59) rfl (fun h59=>?_) (fun h59=>?_)))))))))))))))))))))))))))))) <;> simp only [NM] at h59
 ·refine ZD rfl (ZC rfl (YJ rfl (YJ rfl (YJ rfl (YJ rfl (YJ rfl (ZD rfl (YJ rfl (YJ rfl (YJ rfl (YJ rfl (YJ rfl (ZC rfl (Zq rfl (Yc (ZA rfl (Ze (Zj rfl (Yq rfl (Zj rfl (Yq rfl (Yc (Yi (⟨_,YH (v:=.snil) rfl (YH (v:=.s (.int _ _)) rfl (ZL rfl)),?_⟩))))))))))))))))))))))))
  have e:=Ub (k:=k) (l:=l) (KL (JU (s:=s) (p:=p) (fun hh=>by omega)))
  rw [heq] at e
  rw [e]
  exact ⟨.snil,[],rfl,.nil rfl,fun _ h=>by cases h⟩
 refine Yb rfl (Zj rfl (Yb rfl (Yr (r:=.bool false) rfl rfl rfl (Yb rfl (Zk rfl (ZE rfl (ZC rfl (Yb rfl (Zq rfl (Yb rfl (Zk rfl (ZE rfl (ZC rfl (Yb rfl (Zq rfl (Zq rfl (Yc (ZB rfl (Yh (Yf (Zj rfl (Zs rfl rfl (Zj rfl (Yc (Yf (Zj rfl (Zs rfl rfl (Zj rfl (Yc ?_)))))))))))))))))))))))))))))
 refine YO (Ye (Ze (Zj rfl (Yr (r:=.bool true) rfl rfl rfl (Yc (ZA rfl (Yh (Ye (Yk (Ye (Ze (Zj rfl (Yq (v:=.s _) rfl (Xe rfl (Zr rfl (Yc (Yj rfl (fun h43=>?_) (fun h43=>?_)))))))))))))))))) <;> simp only [NM] at h43
 ·refine Ze (Zj rfl (Yq rfl (Zj rfl (Yq rfl (Yc (Yi (⟨_,YH (v:=.snil) rfl (YH (v:=.s (.int _ _)) rfl (ZL rfl)),?_⟩)))))))
  have e:=Ub (k:=k) (l:=l) (KL (Ka (s:=s) (p:=p) ⟨by omega,by omega⟩ (fun hh=>by omega)))
  rw [heq] at e
  rw [e]
  exact ⟨.snil,[],rfl,.nil rfl,fun _ h=>by cases h⟩
 refine Yh (Ze (Yq rfl (Yc (Ye (Ze (Zj rfl (Yr (r:=.int .i64 1) rfl rfl rfl (Yr (r:=.bool true) rfl rfl rfl (Yc (ZA rfl (Yf (Yq rfl (Zf (Zj rfl (Yq (v:=.s _) rfl (Zj rfl (XP rfl rfl (by omega) (Yq (v:=.s _) rfl (Yt rfl (tL (XU s (p+1))) rfl rfl rfl (Zw rfl rfl rfl (YA rfl rfl rfl rfl .here (Yc (Ye (Ze (Zj rfl (Zw rfl rfl rfl (Ym (x:=Xj (YM s (p+1))) rfl rfl ZM (rfl) (Zr rfl (Zk rfl ?_)))))))))))))))))))))))))))))
 refine Ys (t:=59) rfl (fun h59=>?_) (fun h59=>?_) <;> simp only [NM] at h59
 ·refine ZD rfl (ZC rfl (YJ rfl (YJ rfl (YJ rfl (YJ rfl (YJ rfl (ZD rfl (YJ rfl (YJ rfl (YJ rfl (YJ rfl (YJ rfl (ZC rfl (Zq rfl (Yc (ZA rfl (Ze (Zj rfl (Yq rfl (Zj rfl (Yq rfl (Yc (Yi (⟨_,YH (v:=.snil) rfl (YH (v:=.s (.int _ _)) rfl (ZL rfl)),?_⟩))))))))))))))))))))))))
  have e:=Ub (k:=k) (l:=l) (KL (Ka (s:=s) (p:=p) ⟨by omega,by omega⟩ (fun hh=>by omega)))
  rw [heq] at e
  rw [e]
  exact ⟨.snil,[],rfl,.nil rfl,fun _ h=>by cases h⟩
 refine Yb rfl (Zj rfl (Yb rfl (Yr (r:=.bool false) rfl rfl rfl (Yb rfl (Zk rfl (ZE rfl (ZC rfl (Yb rfl (Zq rfl (Yb rfl (Zk rfl (ZE rfl (ZC rfl (Yb rfl (Zq rfl (Zq rfl (Yc (ZB rfl (Yh (Yf (Zj rfl (Zs rfl rfl (Zj rfl (Yc (Yf (Zj rfl (Zs rfl rfl (Zj rfl (Yc ?_)))))))))))))))))))))))))))))
 refine YO (Ye (Ze (Zj rfl (Yr (r:=.bool true) rfl rfl rfl (Yc (ZA rfl (Yh (Ye (Yk (Ye (Ze (Zj rfl (Yq (v:=.s _) rfl (Xe rfl (Zr rfl (Yc (Yj rfl (fun h43=>?_) (fun h43=>?_)))))))))))))))))) <;> simp only [NM] at h43
 ·refine Ze (Zj rfl (Yq rfl (Zj rfl (Yq rfl (Yc (Yi (⟨_,YH (v:=.snil) rfl (YH (v:=.s (.int _ _)) rfl (ZL rfl)),?_⟩)))))))
  have e:=Ub (k:=k) (l:=l) (Kj (VD (s:=s) (p:=p) (by omega) (by omega) (by omega)) (JU (p:=p+2) (fun hh=>by omega)))
  rw [heq] at e
  rw [e]
  exact ⟨.snil,[],rfl,.nil rfl,fun _ h=>by cases h⟩
 refine Yh (Ze (Yq rfl (Yc (Ye (Ze (Zj rfl (Yr (r:=.int .i64 0) rfl rfl rfl (Yr (r:=.bool false) rfl rfl rfl (Yc (ZB rfl (Yh (Ze (Zj rfl (Yq (v:=.s _) rfl (Zj rfl (XP rfl rfl (by omega) (Yq (v:=.s _) rfl (Yt rfl (u7 (XU s (p+2))) rfl rfl rfl (Zw rfl rfl rfl (YA rfl rfl rfl rfl .here (Yc (Ye (Ze (Zj rfl (Zw rfl rfl rfl (Ym (x:=Xg (YM s (p+2))) rfl rfl ZM (rfl) (Zr rfl (Zk rfl (Ys (t:=59) rfl (fun h59=>?_) (fun h59=>?_)))))))))))))))))))))))))))))) <;> simp only [NM] at h59
 ·refine ZD rfl (ZC rfl (YJ rfl (YJ rfl (YJ rfl (YJ rfl (YJ rfl (ZD rfl (YJ rfl (YJ rfl (YJ rfl (YJ rfl (YJ rfl (ZC rfl (Zq rfl (Yc (ZA rfl (Ze (Zj rfl (Yq rfl (Zj rfl (Yq rfl (Yc (Yi (⟨_,YH (v:=.snil) rfl (YH (v:=.s (.int _ _)) rfl (ZL rfl)),?_⟩))))))))))))))))))))))))
  have e:=Ub (k:=k) (l:=l) (Kj (VD (s:=s) (p:=p) (by omega) (by omega) (by omega)) (JU (p:=p+2) (fun hh=>by omega)))
  rw [heq] at e
  rw [e]
  exact ⟨.snil,[],rfl,.nil rfl,fun _ h=>by cases h⟩
 refine Yb rfl (Zj rfl (Yb rfl (Yr (r:=.bool false) rfl rfl rfl (Yb rfl (Zk rfl (ZE rfl (ZC rfl (Yb rfl (Zq rfl (Yb rfl (Zk rfl (ZE rfl (ZC rfl (Yb rfl (Zq rfl (Zq rfl (Yc (ZB rfl (Yh (Yf (Zj rfl (Zs rfl rfl (Zj rfl (Yc (Yf (Zj rfl (Zs rfl rfl (Zj rfl (Yc ?_)))))))))))))))))))))))))))))
 refine YO (Ye (Ze (Zj rfl (Yr (r:=.bool true) rfl rfl rfl (Yc (ZA rfl (Yh (Ye (Yk (Ye (Ze (Zj rfl (Yq (v:=.s _) rfl (Xe rfl (Zr rfl (Yc (Yj rfl (fun h43=>?_) (fun h43=>?_)))))))))))))))))) <;> simp only [NM] at h43
 ·refine Ze (Zj rfl (Yq rfl (Zj rfl (Yq rfl (Yc (Yi (⟨_,YH (v:=.snil) rfl (YH (v:=.s (.int _ _)) rfl (ZL rfl)),?_⟩)))))))
  have e:=Ub (k:=k) (l:=l) (Kj (VD (s:=s) (p:=p) (by omega) (by omega) (by omega)) (Ka (p:=p+2) ⟨by omega,by omega⟩ (fun hh=>by obtain ⟨a1,a2,a3⟩:=hh; first | omega | exact a3 (by unfold sqN; omega))))
  rw [heq] at e
  rw [e]
  exact ⟨.snil,[],rfl,.nil rfl,fun _ h=>by cases h⟩
 refine Yh (Ze (Yq rfl (Yc (Ye (Ze (Zj rfl (Yr (r:=.int .i64 1) rfl rfl rfl (Yr (r:=.bool true) rfl rfl rfl (Yc (ZA rfl (Yf (Yq rfl (Zf (Zj rfl (Yq (v:=.s _) rfl (Zj rfl (XP rfl rfl (by omega) (Yq (v:=.s _) rfl (Yt rfl (tL (XU s (p+2+1))) rfl rfl rfl (Zw rfl rfl rfl (YA rfl rfl rfl rfl .here (Yc (Ye (Ze (Zj rfl (Zw rfl rfl rfl (Ym (x:=Xj (YM s (p+2+1))) rfl rfl ZM (rfl) (Zr rfl (Zk rfl ?_)))))))))))))))))))))))))))))
 refine Ys (t:=59) rfl (fun h59=>?_) (fun h59=>?_) <;> simp only [NM] at h59
 ·refine ZD rfl (ZC rfl (YJ rfl (YJ rfl (YJ rfl (YJ rfl (YJ rfl (ZD rfl (YJ rfl (YJ rfl (YJ rfl (YJ rfl (YJ rfl (ZC rfl (Zq rfl (Yc (ZA rfl (Ze (Zj rfl (Yq rfl (Zj rfl (Yq rfl (Yc (Yi (⟨_,YH (v:=.snil) rfl (YH (v:=.s (.int _ _)) rfl (ZL rfl)),?_⟩))))))))))))))))))))))))
  have e:=Ub (k:=k) (l:=l) (Kj (VD (s:=s) (p:=p) (by omega) (by omega) (by omega)) (Ka (p:=p+2) ⟨by omega,by omega⟩ (fun hh=>by obtain ⟨a1,a2,a3⟩:=hh; first | omega | exact a3 (by unfold sqN; omega))))
  rw [heq] at e
  rw [e]
  exact ⟨.snil,[],rfl,.nil rfl,fun _ h=>by cases h⟩
 refine Yb rfl (Zj rfl (Yb rfl (Yr (r:=.bool true) rfl rfl rfl (Yb rfl (Zk rfl (Yb rfl (Zw rfl rfl rfl (Yb rfl (Ym (x:=Xg (YM s p)) rfl rfl ZM (rfl) (Yb rfl (Zw rfl rfl rfl (Yb rfl (Ym (x:=Xg (YM s (p+2))) rfl rfl ZM (rfl) (Yb rfl (Zr rfl (Yb rfl (Zq rfl (Yb rfl (Zk rfl (Ys (t:=69) rfl (fun h69=>?_) (fun h69=>?_))))))))))))))))))))) <;> simp only [NM] at h69
 ·refine Yb rfl (Zw rfl rfl rfl (Yb rfl (Ym (x:=Xj (YM s (p+1))) rfl rfl ZM (rfl) (Yb rfl (Zw rfl rfl rfl (Yb rfl (Ym (x:=Xj (YM s (p+2+1))) rfl rfl ZM (rfl) (Yb rfl (Zr rfl (Yb rfl (Zq rfl (Zq rfl (Yc (Yj rfl (fun h76=>?_) (fun h76=>?_))))))))))))))) <;> simp only [NM] at h76
  ·refine Ze (Zj rfl (Yq rfl (Zj rfl (Yq rfl (Yc (Yi (⟨_,YH (v:=.snil) rfl (YH (v:=.s (.int _ _)) rfl (ZL rfl)),?_⟩)))))))
   have e:=Ub (k:=k) (l:=l) (Kj (VD (s:=s) (p:=p) (by omega) (by omega) (by omega)) (Ka (p:=p+2) ⟨by omega,by omega⟩ (fun hh=>by obtain ⟨a1,a2,a3⟩:=hh; first | omega | exact a3 (by unfold sqN; omega))))
   rw [heq] at e
   rw [e]
   exact ⟨.snil,[],rfl,.nil rfl,fun _ h=>by cases h⟩
  refine Yh (Yf (Zj rfl (Zs rfl rfl (Zj rfl (Yc (Yf (Zj rfl (Zs rfl rfl (Zj rfl (Yc (YO (Ye (Ze (Zj rfl (Yr (r:=.bool false) rfl rfl rfl (Yc (ZB rfl (Y0 (Xb (Ze ?_))))))))))))))))))))
  have f0:=JT (c:=YM s p) (by omega)
  have f1:=JK (c:=YM s (p+1)) (by omega)
  have f2:=JT (c:=YM s (p+2)) (by omega)
  have f3:=JK (c:=YM s (p+2+1)) (by omega)
  have hne:sqN s (p+2)≠sqN s p:=fun e=>by unfold sqN at e; omega
  have e0:8*Xj (YM s (p+1))+Xg (YM s p)=sqN s p:=by unfold sqN; omega
  have e1:8*Xj (YM s (p+2+1))+Xg (YM s (p+2))=sqN s (p+2):=by unfold sqN; omega
  refine Zw rfl rfl rfl (Ym (x:=Xj (YM s (p+1))) rfl rfl ZM (rfl) (Wn rfl rfl (by omega) (Zw rfl rfl rfl (Ym (x:=Xg (YM s p)) rfl rfl ZM (rfl) (Zs rfl rfl (Zw rfl rfl rfl (Ym (x:=Xj (YM s (p+2+1))) rfl rfl ZM (rfl) (Wn rfl rfl (by omega) (Zw rfl rfl rfl (Ym (x:=Xg (YM s (p+2))) rfl rfl ZM (rfl) (Zs rfl rfl (YB rfl (.one rfl (.one rfl .nil)) (Yy (Yz rfl rfl rfl rfl .here (Yc (Ye (Ze (Zj rfl (Yq (v:=.s _) rfl (Xe rfl (Zr rfl (Zk rfl (Ys (t:=97) rfl (fun h97=>?_) (fun h97=>?_)))))))))))))))))))))))) <;> simp only [NM] at h97
  ·refine Yb rfl (Yq (v:=.s _) rfl (Yb rfl (Zj rfl (Yb rfl (XP rfl rfl (by omega) (Yb rfl (Yt rfl (zJ (XU s (p+2+2))) rfl rfl rfl (Yb rfl (Zr rfl (Zq rfl (Yc (Yj rfl (fun h103=>?_) (fun h103=>?_))))))))))))) <;> simp only [NM] at h103
   ·refine Ze (Yq (v:=.s _) rfl (Zj rfl (XP rfl rfl (by omega) (Yt rfl (zJ (XU s (p+2+2))) rfl rfl rfl ?_))))
    obtain ⟨hk1,hk2,hk3⟩:=yM h103
    refine Zs rfl rfl (Yd (o':=2) rfl rfl rfl (YA rfl rfl rfl rfl .here (Yc (Yf (Zj rfl (Zs rfl rfl (Zj rfl (Zf ?_))))))))
    have hm:mvR s p=((sqN s p,sqN s (p+2),WS (YM s (p+2+2))),true,p+2+2+1):=Rm (VD (by omega) (by omega) (by omega)) (Kg ⟨by omega,by omega⟩ ⟨by omega,by omega,hne⟩) ⟨by omega,hk2⟩
    refine Yq (v:=vL) rfl (Yo rfl rfl ZM (Wp rfl (.agg rfl .nil) (XZ (c:=[sqN s p,sqN s (p+2),WS (YM s (p+2+2))]) rfl hrL rfl ZM (.there (.there (.there .here))) (by decide) (by decide) rfl ((fun i hi=>by match i,hi with | 0,_=>exact e0 | 1,_=>exact e1 | 2,_=>exact hk1.symm)) (by rw [YQ]; omega) (fun v1 own1 n1 hr1=>?_))))
    rw [UA l (sqN s p,sqN s (p+2),WS (YM s (p+2+2)))] at hr1
    refine Yq (v:=v1) rfl (Yc (Ye (Ze (Zj rfl (Yq (v:=.s _) rfl (Xe rfl (Zr rfl (Zk rfl (Ys (t:=120) rfl (fun h120=>?_) (fun h120=>?_)))))))))) <;> simp only [NM] at h120
    ·refine Yb rfl (Yq (v:=.s _) rfl (Yb rfl (Zj rfl (Yb rfl (XP rfl rfl (by omega) (Yb rfl (Zr rfl (Zq rfl (Yc (Yj rfl (fun h125=>?_) (fun h125=>?_))))))))))) <;> simp only [NM] at h125
     ·refine Ze (Zj rfl (Yq rfl (Zj rfl (Yq rfl (Yc (Yi (⟨_,YH (v:=.snil) rfl (YH (v:=.s (.int _ _)) rfl (ZL rfl)),?_⟩)))))))
      have e:=Ra (k:=k) (l:=l) hm (by omega) (fun hb=>h125 hb)
      rw [heq] at e
      rw [e]
      exact ⟨.snil,[],rfl,.nil rfl,fun _ h=>by cases h⟩
     refine Yh (Ze (Zj rfl (Yq (v:=.s _) rfl (Xe rfl (Zr rfl (Yc (Yj rfl (fun h130=>?_) (fun h130=>?_)))))))) <;> simp only [NM] at h130
     ·refine Yf (Zj rfl (Zs rfl rfl (Zj rfl (Yc ?_))))
      rw [Tv hm (by omega) h125] at heq
      refine ⟨k,_,by omega,(ZbY (.refl _) (.cons _ (.cons _ (.cons _ .slnil)))),k,p+2+2+1+1,l++[(sqN s p,sqN s (p+2),WS (YM s (p+2+2)))],_,_,rfl,by omega,by omega,.inl ⟨⟨heq,by rw [Zb2]; simp only [Zcd,List.length_nil]; omega⟩,.inr ⟨by rw [Zb2]; simp only [Zcd,List.length_nil]; omega,by omega,h125⟩⟩,hr1,rfl,rfl,rfl,rfl⟩
     exfalso; omega
    refine ZE rfl (Zq rfl (Yc (ZB rfl (Yh (Ze (Zj rfl (Yq (v:=.s _) rfl (Xe rfl (Zr rfl (Yc (Yj rfl (fun h130=>?_) (fun h130=>?_)))))))))))) <;> simp only [NM] at h130
    ·exfalso; omega
    refine Yh ?_
    have e:=U7 (k:=k) (l:=l) hm (by omega)
    rw [heq] at e
    refine ⟨k,_,by omega,(ZbY (.refl _) (.cons _ (.cons _ (.cons _ .slnil)))),k,p+2+2+1,l++[(sqN s p,sqN s (p+2),WS (YM s (p+2+2)))],_,_,rfl,by omega,by omega,.inr ⟨by omega,e.symm,.inr ⟨by omega,fun hb=>uQ h103 hb⟩⟩,hr1,rfl,rfl,rfl,rfl⟩
   refine Yh (Ze ?_)
   have hm:mvR s p=((sqN s p,sqN s (p+2),0),true,p+2+2):=Kk (VD (by omega) (by omega) (by omega)) (Kg ⟨by omega,by omega⟩ ⟨by omega,by omega,hne⟩) (fun hh=>hh.2 (wL (by omega)))
   refine Yq (v:=vL) rfl (Yo rfl rfl ZM (Wp rfl (.agg rfl .nil) (XZ (c:=[sqN s p,sqN s (p+2),0]) rfl hrL rfl ZM (.there (.there (.there .here))) (by decide) (by decide) rfl ((fun i hi=>by match i,hi with | 0,_=>exact e0 | 1,_=>exact e1 | 2,_=>exact rfl)) (by rw [YQ]; omega) (fun v2 own2 n2 hr2=>?_))))
   rw [UA l (sqN s p,sqN s (p+2),0)] at hr2
   refine Yq (v:=v2) rfl (Yc (Ye (Ze (Zj rfl (Yq (v:=.s _) rfl (Xe rfl (Zr rfl (Zk rfl (Ys (t:=120) rfl (fun h120=>?_) (fun h120=>?_)))))))))) <;> simp only [NM] at h120
   ·refine Yb rfl (Yq (v:=.s _) rfl (Yb rfl (Zj rfl (Yb rfl (XP rfl rfl (by omega) (Yb rfl (Zr rfl (Zq rfl (Yc (Yj rfl (fun h125=>?_) (fun h125=>?_))))))))))) <;> simp only [NM] at h125
    ·refine Ze (Zj rfl (Yq rfl (Zj rfl (Yq rfl (Yc (Yi (⟨_,YH (v:=.snil) rfl (YH (v:=.s (.int _ _)) rfl (ZL rfl)),?_⟩)))))))
     have e:=Ra (k:=k) (l:=l) hm (by omega) (fun hb=>h125 hb)
     rw [heq] at e
     rw [e]
     exact ⟨.snil,[],rfl,.nil rfl,fun _ h=>by cases h⟩
    refine Yh (Ze (Zj rfl (Yq (v:=.s _) rfl (Xe rfl (Zr rfl (Yc (Yj rfl (fun h130=>?_) (fun h130=>?_)))))))) <;> simp only [NM] at h130
    ·refine Yf (Zj rfl (Zs rfl rfl (Zj rfl (Yc ?_))))
     rw [Tv hm (by omega) h125] at heq
     refine ⟨k,_,by omega,(ZbY (.refl _) (.cons _ (.cons _ (.cons _ .slnil)))),k,p+2+2+1,l++[(sqN s p,sqN s (p+2),0)],_,_,rfl,by omega,by omega,.inl ⟨⟨heq,by rw [Zb2]; simp only [Zcd,List.length_nil]; omega⟩,.inr ⟨by rw [Zb2]; simp only [Zcd,List.length_nil]; omega,by omega,h125⟩⟩,hr2,rfl,rfl,rfl,rfl⟩
    exfalso; omega
   refine ZE rfl (Zq rfl (Yc (ZB rfl (Yh (Ze (Zj rfl (Yq (v:=.s _) rfl (Xe rfl (Zr rfl (Yc (Yj rfl (fun h130=>?_) (fun h130=>?_)))))))))))) <;> simp only [NM] at h130
   ·exfalso; omega
   refine Yh ?_
   have e:=U7 (k:=k) (l:=l) hm (by omega)
   rw [heq] at e
   refine ⟨k,_,by omega,(ZbY (.refl _) (.cons _ (.cons _ (.cons _ .slnil)))),k,p+2+2,l++[(sqN s p,sqN s (p+2),0)],_,_,rfl,by omega,by omega,.inr ⟨by omega,e.symm,.inr ⟨by omega,fun hb=>by rw [show p+2+2 - 1=p+2+1 by omega] at hb; omega⟩⟩,hr2,rfl,rfl,rfl,rfl⟩
  refine ZE rfl (ZC rfl (Zq rfl (Yc (ZB rfl (Yh (Ze ?_))))))
  have hm:mvR s p=((sqN s p,sqN s (p+2),0),true,p+2+2):=Kk (VD (by omega) (by omega) (by omega)) (Kg ⟨by omega,by omega⟩ ⟨by omega,by omega,hne⟩) (fun hh=>by omega)
  refine Yq (v:=vL) rfl (Yo rfl rfl ZM (Wp rfl (.agg rfl .nil) (XZ (c:=[sqN s p,sqN s (p+2),0]) rfl hrL rfl ZM (.there (.there (.there .here))) (by decide) (by decide) rfl ((fun i hi=>by match i,hi with | 0,_=>exact e0 | 1,_=>exact e1 | 2,_=>exact rfl)) (by rw [YQ]; omega) (fun v3 own3 n3 hr3=>?_))))
  rw [UA l (sqN s p,sqN s (p+2),0)] at hr3
  refine Yq (v:=v3) rfl (Yc (Ye (Ze (Zj rfl (Yq (v:=.s _) rfl (Xe rfl (Zr rfl (Zk rfl (Ys (t:=120) rfl (fun h120=>?_) (fun h120=>?_)))))))))) <;> simp only [NM] at h120
  ·exfalso; omega
  refine ZE rfl (Zq rfl (Yc (ZB rfl (Yh (Ze (Zj rfl (Yq (v:=.s _) rfl (Xe rfl (Zr rfl (Yc (Yj rfl (fun h130=>?_) (fun h130=>?_)))))))))))) <;> simp only [NM] at h130
  ·exfalso; omega
  refine Yh ?_
  have e:=U7 (k:=k) (l:=l) hm (by omega)
  rw [heq] at e
  refine ⟨k,_,by omega,(ZbY (.refl _) (.cons _ (.cons _ (.cons _ .slnil)))),k,p+2+2,l++[(sqN s p,sqN s (p+2),0)],_,_,rfl,by omega,by omega,.inr ⟨by omega,e.symm,.inr ⟨by omega,fun hb=>by rw [show p+2+2 - 1=p+2+1 by omega] at hb; omega⟩⟩,hr3,rfl,rfl,rfl,rfl⟩
 refine ZE rfl (ZC rfl (Yb rfl (Zq rfl (Zq rfl (Yc (ZB rfl (Yh (Yf (Zj rfl (Zs rfl rfl (Zj rfl (Yc (Yf (Zj rfl (Zs rfl rfl (Zj rfl (Yc (YO (Ye (Ze (Zj rfl (Yr (r:=.bool false) rfl rfl rfl (Yc (ZB rfl (Y0 (Xb (Ze ?_)))))))))))))))))))))))))))
 have f0:=JT (c:=YM s p) (by omega)
 have f1:=JK (c:=YM s (p+1)) (by omega)
 have f2:=JT (c:=YM s (p+2)) (by omega)
 have f3:=JK (c:=YM s (p+2+1)) (by omega)
 have hne:sqN s (p+2)≠sqN s p:=fun e=>by unfold sqN at e; omega
 have e0:8*Xj (YM s (p+1))+Xg (YM s p)=sqN s p:=by unfold sqN; omega
 have e1:8*Xj (YM s (p+2+1))+Xg (YM s (p+2))=sqN s (p+2):=by unfold sqN; omega
 refine Zw rfl rfl rfl (Ym (x:=Xj (YM s (p+1))) rfl rfl ZM (rfl) (Wn rfl rfl (by omega) (Zw rfl rfl rfl (Ym (x:=Xg (YM s p)) rfl rfl ZM (rfl) (Zs rfl rfl (Zw rfl rfl rfl (Ym (x:=Xj (YM s (p+2+1))) rfl rfl ZM (rfl) (Wn rfl rfl (by omega) (Zw rfl rfl rfl (Ym (x:=Xg (YM s (p+2))) rfl rfl ZM (rfl) (Zs rfl rfl (YB rfl (.one rfl (.one rfl .nil)) (Yy (Yz rfl rfl rfl rfl .here (Yc (Ye (Ze (Zj rfl (Yq (v:=.s _) rfl (Xe rfl (Zr rfl (Zk rfl (Ys (t:=97) rfl (fun h97=>?_) (fun h97=>?_)))))))))))))))))))))))) <;> simp only [NM] at h97
 ·refine Yb rfl (Yq (v:=.s _) rfl (Yb rfl (Zj rfl (Yb rfl (XP rfl rfl (by omega) (Yb rfl (Yt rfl (zJ (XU s (p+2+2))) rfl rfl rfl (Yb rfl (Zr rfl (Zq rfl (Yc (Yj rfl (fun h103=>?_) (fun h103=>?_))))))))))))) <;> simp only [NM] at h103
  ·refine Ze (Yq (v:=.s _) rfl (Zj rfl (XP rfl rfl (by omega) (Yt rfl (zJ (XU s (p+2+2))) rfl rfl rfl ?_))))
   obtain ⟨hk1,hk2,hk3⟩:=yM h103
   refine Zs rfl rfl (Yd (o':=2) rfl rfl rfl (YA rfl rfl rfl rfl .here (Yc (Yf (Zj rfl (Zs rfl rfl (Zj rfl (Zf ?_))))))))
   have hm:mvR s p=((sqN s p,sqN s (p+2),WS (YM s (p+2+2))),true,p+2+2+1):=Rm (VD (by omega) (by omega) (by omega)) (Kg ⟨by omega,by omega⟩ ⟨by omega,by omega,hne⟩) ⟨by omega,hk2⟩
   refine Yq (v:=vL) rfl (Yo rfl rfl ZM (Wp rfl (.agg rfl .nil) (XZ (c:=[sqN s p,sqN s (p+2),WS (YM s (p+2+2))]) rfl hrL rfl ZM (.there (.there (.there .here))) (by decide) (by decide) rfl ((fun i hi=>by match i,hi with | 0,_=>exact e0 | 1,_=>exact e1 | 2,_=>exact hk1.symm)) (by rw [YQ]; omega) (fun v4 own4 n4 hr4=>?_))))
   rw [UA l (sqN s p,sqN s (p+2),WS (YM s (p+2+2)))] at hr4
   refine Yq (v:=v4) rfl (Yc (Ye (Ze (Zj rfl (Yq (v:=.s _) rfl (Xe rfl (Zr rfl (Zk rfl (Ys (t:=120) rfl (fun h120=>?_) (fun h120=>?_)))))))))) <;> simp only [NM] at h120
   ·refine Yb rfl (Yq (v:=.s _) rfl (Yb rfl (Zj rfl (Yb rfl (XP rfl rfl (by omega) (Yb rfl (Zr rfl (Zq rfl (Yc (Yj rfl (fun h125=>?_) (fun h125=>?_))))))))))) <;> simp only [NM] at h125
    ·refine Ze (Zj rfl (Yq rfl (Zj rfl (Yq rfl (Yc (Yi (⟨_,YH (v:=.snil) rfl (YH (v:=.s (.int _ _)) rfl (ZL rfl)),?_⟩)))))))
     have e:=Ra (k:=k) (l:=l) hm (by omega) (fun hb=>h125 hb)
     rw [heq] at e
     rw [e]
     exact ⟨.snil,[],rfl,.nil rfl,fun _ h=>by cases h⟩
    refine Yh (Ze (Zj rfl (Yq (v:=.s _) rfl (Xe rfl (Zr rfl (Yc (Yj rfl (fun h130=>?_) (fun h130=>?_)))))))) <;> simp only [NM] at h130
    ·refine Yf (Zj rfl (Zs rfl rfl (Zj rfl (Yc ?_))))
     rw [Tv hm (by omega) h125] at heq
     refine ⟨k,_,by omega,(ZbY (.refl _) (.cons _ (.cons _ (.cons _ .slnil)))),k,p+2+2+1+1,l++[(sqN s p,sqN s (p+2),WS (YM s (p+2+2)))],_,_,rfl,by omega,by omega,.inl ⟨⟨heq,by rw [Zb2]; simp only [Zcd,List.length_nil]; omega⟩,.inr ⟨by rw [Zb2]; simp only [Zcd,List.length_nil]; omega,by omega,h125⟩⟩,hr4,rfl,rfl,rfl,rfl⟩
    exfalso; omega
   refine ZE rfl (Zq rfl (Yc (ZB rfl (Yh (Ze (Zj rfl (Yq (v:=.s _) rfl (Xe rfl (Zr rfl (Yc (Yj rfl (fun h130=>?_) (fun h130=>?_)))))))))))) <;> simp only [NM] at h130
   ·exfalso; omega
   refine Yh ?_
   have e:=U7 (k:=k) (l:=l) hm (by omega)
   rw [heq] at e
   refine ⟨k,_,by omega,(ZbY (.refl _) (.cons _ (.cons _ (.cons _ .slnil)))),k,p+2+2+1,l++[(sqN s p,sqN s (p+2),WS (YM s (p+2+2)))],_,_,rfl,by omega,by omega,.inr ⟨by omega,e.symm,.inr ⟨by omega,fun hb=>uQ h103 hb⟩⟩,hr4,rfl,rfl,rfl,rfl⟩
  refine Yh (Ze ?_)
  have hm:mvR s p=((sqN s p,sqN s (p+2),0),true,p+2+2):=Kk (VD (by omega) (by omega) (by omega)) (Kg ⟨by omega,by omega⟩ ⟨by omega,by omega,hne⟩) (fun hh=>hh.2 (wL (by omega)))
  refine Yq (v:=vL) rfl (Yo rfl rfl ZM (Wp rfl (.agg rfl .nil) (XZ (c:=[sqN s p,sqN s (p+2),0]) rfl hrL rfl ZM (.there (.there (.there .here))) (by decide) (by decide) rfl ((fun i hi=>by match i,hi with | 0,_=>exact e0 | 1,_=>exact e1 | 2,_=>exact rfl)) (by rw [YQ]; omega) (fun v5 own5 n5 hr5=>?_))))
  rw [UA l (sqN s p,sqN s (p+2),0)] at hr5
  refine Yq (v:=v5) rfl (Yc (Ye (Ze (Zj rfl (Yq (v:=.s _) rfl (Xe rfl (Zr rfl (Zk rfl (Ys (t:=120) rfl (fun h120=>?_) (fun h120=>?_)))))))))) <;> simp only [NM] at h120
  ·refine Yb rfl (Yq (v:=.s _) rfl (Yb rfl (Zj rfl (Yb rfl (XP rfl rfl (by omega) (Yb rfl (Zr rfl (Zq rfl (Yc (Yj rfl (fun h125=>?_) (fun h125=>?_))))))))))) <;> simp only [NM] at h125
   ·refine Ze (Zj rfl (Yq rfl (Zj rfl (Yq rfl (Yc (Yi (⟨_,YH (v:=.snil) rfl (YH (v:=.s (.int _ _)) rfl (ZL rfl)),?_⟩)))))))
    have e:=Ra (k:=k) (l:=l) hm (by omega) (fun hb=>h125 hb)
    rw [heq] at e
    rw [e]
    exact ⟨.snil,[],rfl,.nil rfl,fun _ h=>by cases h⟩
   refine Yh (Ze (Zj rfl (Yq (v:=.s _) rfl (Xe rfl (Zr rfl (Yc (Yj rfl (fun h130=>?_) (fun h130=>?_)))))))) <;> simp only [NM] at h130
   ·refine Yf (Zj rfl (Zs rfl rfl (Zj rfl (Yc ?_))))
    rw [Tv hm (by omega) h125] at heq
    refine ⟨k,_,by omega,(ZbY (.refl _) (.cons _ (.cons _ (.cons _ .slnil)))),k,p+2+2+1,l++[(sqN s p,sqN s (p+2),0)],_,_,rfl,by omega,by omega,.inl ⟨⟨heq,by rw [Zb2]; simp only [Zcd,List.length_nil]; omega⟩,.inr ⟨by rw [Zb2]; simp only [Zcd,List.length_nil]; omega,by omega,h125⟩⟩,hr5,rfl,rfl,rfl,rfl⟩
   exfalso; omega
  refine ZE rfl (Zq rfl (Yc (ZB rfl (Yh (Ze (Zj rfl (Yq (v:=.s _) rfl (Xe rfl (Zr rfl (Yc (Yj rfl (fun h130=>?_) (fun h130=>?_)))))))))))) <;> simp only [NM] at h130
  ·exfalso; omega
  refine Yh ?_
  have e:=U7 (k:=k) (l:=l) hm (by omega)
  rw [heq] at e
  refine ⟨k,_,by omega,(ZbY (.refl _) (.cons _ (.cons _ (.cons _ .slnil)))),k,p+2+2,l++[(sqN s p,sqN s (p+2),0)],_,_,rfl,by omega,by omega,.inr ⟨by omega,e.symm,.inr ⟨by omega,fun hb=>by rw [show p+2+2 - 1=p+2+1 by omega] at hb; omega⟩⟩,hr5,rfl,rfl,rfl,rfl⟩
 refine ZE rfl (ZC rfl (Zq rfl (Yc (ZB rfl (Yh (Ze ?_))))))
 have hm:mvR s p=((sqN s p,sqN s (p+2),0),true,p+2+2):=Kk (VD (by omega) (by omega) (by omega)) (Kg ⟨by omega,by omega⟩ ⟨by omega,by omega,hne⟩) (fun hh=>by omega)
 refine Yq (v:=vL) rfl (Yo rfl rfl ZM (Wp rfl (.agg rfl .nil) (XZ (c:=[sqN s p,sqN s (p+2),0]) rfl hrL rfl ZM (.there (.there (.there .here))) (by decide) (by decide) rfl ((fun i hi=>by match i,hi with | 0,_=>exact e0 | 1,_=>exact e1 | 2,_=>exact rfl)) (by rw [YQ]; omega) (fun v6 own6 n6 hr6=>?_))))
 rw [UA l (sqN s p,sqN s (p+2),0)] at hr6
 refine Yq (v:=v6) rfl (Yc (Ye (Ze (Zj rfl (Yq (v:=.s _) rfl (Xe rfl (Zr rfl (Zk rfl (Ys (t:=120) rfl (fun h120=>?_) (fun h120=>?_)))))))))) <;> simp only [NM] at h120
 ·exfalso; omega
 refine ZE rfl (Zq rfl (Yc (ZB rfl (Yh (Ze (Zj rfl (Yq (v:=.s _) rfl (Xe rfl (Zr rfl (Yc (Yj rfl (fun h130=>?_) (fun h130=>?_)))))))))))) <;> simp only [NM] at h130
 ·exfalso; omega
 refine Yh ?_
 have e:=U7 (k:=k) (l:=l) hm (by omega)
 rw [heq] at e
 refine ⟨k,_,by omega,(ZbY (.refl _) (.cons _ (.cons _ (.cons _ .slnil)))),k,p+2+2,l++[(sqN s p,sqN s (p+2),0)],_,_,rfl,by omega,by omega,.inr ⟨by omega,e.symm,.inr ⟨by omega,fun hb=>by rw [show p+2+2 - 1=p+2+1 by omega] at hb; omega⟩⟩,hr6,rfl,rfl,rfl,rfl⟩
theorem vZ (s:ByteArray) (h:65536 < s.size):RtT AM 43 3 [.s (.str s)] (YV (Wi s).1) (.int .i64 (Wi s).2.1) (.int .i64 (Wi s).2.2):=by
 rw [qe h]
 refine D3 (YL (a:=a43) rfl rfl (YI _) (ZQ rfl) (m:=0) rfl (Ze (Yq rfl (Yq rfl (Yq rfl (Yc (Ye (Ze (Yq (v:=.s _) rfl (Xe rfl (Yr rfl rfl (jK (by omega)) (Yc (ZA rfl (Ze (Yq rfl (Yq rfl (Yq rfl (Yc (Yi (⟨_,YH (v:=.snil) rfl (YH (v:=.s (.int _ _)) rfl (ZL rfl)),?_⟩))))))))))))))))))))
 exact ⟨.snil,[],rfl,.nil rfl,fun _ h=>by cases h⟩
theorem sB (s:ByteArray):RtT AM 43 3 [.s (.str s)] (YV (Wi s).1) (.int .i64 (Wi s).2.1) (.int .i64 (Wi s).2.2):=by
 by_cases h:65536 < s.size
 ·exact vZ s h
 exact up s (by omega)
theorem anyV_no {l:List Mv} (h:∀ j:Nat,j < l.length->Ul (l.getD j (0,0,0))=false):l.any Ul=false:=by
 rw [List.any_eq_false]
 intro m hm
 obtain ⟨i,hi,rfl⟩:=List.getElem_of_mem hm
 have:=h i hi
 rw [ZbD,ZbH hi,Option.getD_some] at this
 rw [this]; exact Bool.false_ne_true
theorem low_u {b:Int} (h:2<=b) (h5:b<=5):Qz b=⟨#[(⟨#[110,98,114,113]⟩:ByteArray).data.getD (b - 2).toNat 0]⟩:=by
 have:b=2\/b=3\/b=4\/b=5:=by omega
 rcases this with rfl | rfl | rfl | rfl <;> rfl
theorem sh_0n {l:List Mv} (h:(l.getD 0 (0,0,0)).2.2=0):Wv l 0++YS (l.getD 0 (0,0,0)).1++YS (l.getD 0 (0,0,0)).2.1=Wv l 1:=by
 rw [R3,h,show Wv l 0++YS (l.getD 0 (0,0,0)).1=YS (l.getD 0 (0,0,0)).1 from ByteArray.empty_append]
 exact (ByteArray.append_empty).symm
theorem sh_0y {l:List Mv} (h:2<=(l.getD 0 (0,0,0)).2.2) (h5:(l.getD 0 (0,0,0)).2.2<=5):Wv l 0++YS (l.getD 0 (0,0,0)).1++YS (l.getD 0 (0,0,0)).2.1++⟨#[(⟨#[110,98,114,113]⟩:ByteArray).data.getD ((l.getD 0 (0,0,0)).2.2 - 2).toNat 0]⟩=Wv l 1:=by
 rw [R3,low_u h h5,show Wv l 0++YS (l.getD 0 (0,0,0)).1=YS (l.getD 0 (0,0,0)).1 from ByteArray.empty_append]
theorem sh_1n {l:List Mv} {i:Nat} (h1:1<=i) (h:(l.getD i (0,0,0)).2.2=0):Wv l i++⟨#[32]⟩++YS (l.getD i (0,0,0)).1++YS (l.getD i (0,0,0)).2.1=Wv l (i+1):=by
 rw [Jx l h1,h]
 exact (ByteArray.append_empty).symm
theorem sh_1y {l:List Mv} {i:Nat} (h1:1<=i) (h:2<=(l.getD i (0,0,0)).2.2) (h5:(l.getD i (0,0,0)).2.2<=5):Wv l i++⟨#[32]⟩++YS (l.getD i (0,0,0)).1++YS (l.getD i (0,0,0)).2.1++⟨#[(⟨#[110,98,114,113]⟩:ByteArray).data.getD ((l.getD i (0,0,0)).2.2 - 2).toNat 0]⟩=Wv l (i+1):=by
 rw [Jx l h1,low_u h h5]
theorem rQ (l:List Mv) (hlen:l.length<=1000000) (hb:l.any Ul=true):RdR AM 14 3 [] [] (YV l) (.tup [.s (.str ⟨#[]⟩),.s (.int .i64 2)]):=by
 refine WV fun v Bs hc=>?_
 refine YL (a:=a14) rfl rfl (YI _) (ZQ rfl) rfl ?_ (by first | rfl | (cases hc <;> rfl))
 have hr0:=hc.rx
 rw [show YZ 0 Bs=YZ 0 Bs++[] from (Zcf _).symm]
 generalize hown:YZ 0 Bs=own0 at hr0 ⊢
 refine Ze (Yq rfl (Yq rfl (Yc (Ye (Ze (Yq rfl (Yc (Yk (Xo (ZbY (.refl _) .slnil) (Xu (fun m f _ L=>∃ (i:Nat),(i<=l.length)/\(m=l.length - i)/\(∀ j:Nat,j < i->Ul (l.getD j (0,0,0))=false)/\(f 0=v)/\(f 4=.s (.int .i64 i))/\(L=(own0++[]))) (fun m f nb L hI=>?_) (l.length) (⟨0,by omega,by omega,fun j hj=>by omega,rfl,rfl,rfl⟩)))))))))))
 obtain ⟨i,hi,hm,hn,k0,k4,rfl⟩:=hI
 refine Za 0 k0 (Za 4 k4 (Ye (Ze (Zj rfl (Yq (v:=v) rfl (Xk rfl hr0 (by decide) (YQ l) (Zr rfl (Yc (Yj rfl (fun h10=>?_) (fun h10=>?_)))))))))) <;> simp only [NM] at h10
 ·refine Yh (Ye (Yk (Ze (Yq (v:=v) rfl (Zj rfl ?_)))))
  obtain ⟨b0,q0,md0,c0,F0,rfl,rfl,hF0⟩:=hr0.at (by decide) (YQ l) (by omega)
  refine Zx rfl rfl ?_
  obtain ⟨hx0,hx1,hx2⟩:=UE hF0 (i:=i) (by omega)
  have hq:=YP (yU (dp F0 (0+(i:Int).toNat*3)))
  rw [show (dp F0 (0+(i:Int).toNat*3)) 0=(l.getD i (0,0,0)).1 from hx0,show (dp F0 (0+(i:Int).toNat*3)) 1=(l.getD i (0,0,0)).2.1 from hx1,show (dp F0 (0+(i:Int).toNat*3)) 2=(l.getD i (0,0,0)).2.2 from hx2] at hq
  refine Yp rfl rfl ZM (Yt rfl (hq) rfl rfl rfl (Yv (r:=.bool _) rfl rfl (Yc (Yj rfl (fun h18=>?_) (fun h18=>?_))))) <;> simp only [NM] at h18
  ·refine Ze (Yq rfl (Yq rfl (Yc (Yi (⟨_,YH (v:=.s _) rfl (ZL rfl),?_⟩)))))
   exact ⟨rfl,(UY ZM)⟩
  refine Yh (Yf (Zj rfl (Zs rfl rfl (Zj rfl (Yc (⟨l.length - (i+1),_,by omega,(.refl _),i+1,by omega,rfl,?_,rfl,rfl,rfl⟩))))))
  intro j hj
  by_cases e:j=i
  ·subst e; exact oz h18
  exact hn j (by omega)
 exfalso; exact absurd hb (by rw [anyV_no fun j hj=>hn j (by omega)]; decide)
theorem sJ (l:List Mv) (hlen:l.length<=1000000) (hb:l.any Ul=false) (hm8:8192 < l.length):RdR AM 14 3 [] [] (YV l) (.tup [.s (.str ⟨#[]⟩),.s (.int .i64 3)]):=by
 refine WV fun v Bs hc=>?_
 refine YL (a:=a14) rfl rfl (YI _) (ZQ rfl) rfl ?_ (by first | rfl | (cases hc <;> rfl))
 have hr0:=hc.rx
 rw [show YZ 0 Bs=YZ 0 Bs++[] from (Zcf _).symm]
 generalize hown:YZ 0 Bs=own0 at hr0 ⊢
 refine Ze (Yq rfl (Yq rfl (Yc (Ye (Ze (Yq rfl (Yc (Yk (Xo (ZbY (.refl _) .slnil) (Xu (fun m f _ L=>∃ (i:Nat),(i<=l.length)/\(m=l.length - i)/\(f 0=v)/\(f 4=.s (.int .i64 i))/\(L=(own0++[]))) (fun m f nb L hI=>?_) (l.length) (⟨0,by omega,by omega,rfl,rfl,rfl⟩)))))))))))
 obtain ⟨i,hi,hm,k0,k4,rfl⟩:=hI
 refine Za 0 k0 (Za 4 k4 (Ye (Ze (Zj rfl (Yq (v:=v) rfl (Xk rfl hr0 (by decide) (YQ l) (Zr rfl (Yc (Yj rfl (fun h1=>?_) (fun h1=>?_)))))))))) <;> simp only [NM] at h1
 ·refine Yh (Ye (Yk (Ze (Yq (v:=v) rfl (Zj rfl ?_)))))
  obtain ⟨b0,q0,md0,c0,F0,rfl,rfl,hF0⟩:=hr0.at (by decide) (YQ l) (by omega)
  refine Zx rfl rfl ?_
  obtain ⟨hx0,hx1,hx2⟩:=UE hF0 (i:=i) (by omega)
  have hq:=YP (yU (dp F0 (0+(i:Int).toNat*3)))
  rw [show (dp F0 (0+(i:Int).toNat*3)) 0=(l.getD i (0,0,0)).1 from hx0,show (dp F0 (0+(i:Int).toNat*3)) 1=(l.getD i (0,0,0)).2.1 from hx1,show (dp F0 (0+(i:Int).toNat*3)) 2=(l.getD i (0,0,0)).2.2 from hx2] at hq
  rw [txtB_iff.2 (TQ hb (i:=i) (by omega))] at hq
  refine Yp rfl rfl ZM (Yt rfl (hq) rfl rfl rfl (Yv (r:=.bool _) rfl rfl (Yc (ZB rfl (Yh (Yf (Zj rfl (Zs rfl rfl (Zj rfl (Yc ?_))))))))))
  refine ⟨l.length - (i+1),_,by omega,(.refl _),i+1,by omega,rfl,rfl,rfl,rfl⟩
 refine Y0 (Xb (Ye (Ze (Yq (v:=v) rfl (Xk rfl hr0 (by decide) (YQ l) (Yr rfl rfl (wE (by omega)) (Yc (ZA rfl (Ze (Yq rfl (Yq rfl (Yc (Yi (⟨_,YH (v:=.s _) rfl (ZL rfl),?_⟩))))))))))))))
 exact ⟨rfl,(fun _ h=>h)⟩
theorem Zbl (l:List Mv) (hb:l.any Ul=false) (hlen:l.length<=8192):RdR AM 14 3 [] [] (YV l) (.tup [.s (.str (Wv l l.length)),.s (.int .i64 0)]):=by
 refine WV fun v Bs hc=>?_
 refine YL (a:=a14) rfl rfl (YI _) (ZQ rfl) rfl ?_ (by first | rfl | (cases hc <;> rfl))
 have hr0:=hc.rx
 rw [show YZ 0 Bs=YZ 0 Bs++[] from (Zcf _).symm]
 generalize hown:YZ 0 Bs=own0 at hr0 ⊢
 refine Ze (Yq rfl (Yq rfl (Yc (Ye (Ze (Yq rfl (Yc (Yk (Xo (ZbY (.refl _) .slnil) (Xu (fun m f _ L=>∃ (i:Nat),(i<=l.length)/\(m=l.length - i)/\(f 0=v)/\(f 4=.s (.int .i64 i))/\(L=(own0++[]))) (fun m f nb L hI=>?_) (l.length) (⟨0,by omega,by omega,rfl,rfl,rfl⟩)))))))))))
 obtain ⟨i,hi,hm,k0,k4,rfl⟩:=hI
 refine Za 0 k0 (Za 4 k4 (Ye (Ze (Zj rfl (Yq (v:=v) rfl (Xk rfl hr0 (by decide) (YQ l) (Zr rfl (Yc (Yj rfl (fun h2=>?_) (fun h2=>?_)))))))))) <;> simp only [NM] at h2
 ·refine Yh (Ye (Yk (Ze (Yq (v:=v) rfl (Zj rfl ?_)))))
  obtain ⟨b0,q0,md0,c0,F0,rfl,rfl,hF0⟩:=hr0.at (by decide) (YQ l) (by omega)
  refine Zx rfl rfl ?_
  obtain ⟨hx0,hx1,hx2⟩:=UE hF0 (i:=i) (by omega)
  have hq:=YP (yU (dp F0 (0+(i:Int).toNat*3)))
  rw [show (dp F0 (0+(i:Int).toNat*3)) 0=(l.getD i (0,0,0)).1 from hx0,show (dp F0 (0+(i:Int).toNat*3)) 1=(l.getD i (0,0,0)).2.1 from hx1,show (dp F0 (0+(i:Int).toNat*3)) 2=(l.getD i (0,0,0)).2.2 from hx2] at hq
  rw [txtB_iff.2 (TQ hb (i:=i) (by omega))] at hq
  refine Yp rfl rfl ZM (Yt rfl (hq) rfl rfl rfl (Yv (r:=.bool _) rfl rfl (Yc (ZB rfl (Yh (Yf (Zj rfl (Zs rfl rfl (Zj rfl (Yc ?_))))))))))
  refine ⟨l.length - (i+1),_,by omega,(.refl _),i+1,by omega,rfl,rfl,rfl,rfl⟩
 refine Y0 (Xb (Ye (Ze (Yq (v:=v) rfl (Xk rfl hr0 (by decide) (YQ l) (Yr rfl rfl (vQ (by omega)) (Yc (ZB rfl (Yh (Ze (Yq rfl (Yc (Ye (Ze (Yq rfl (Yc (Yk (Xo (ZbY (.refl _) .slnil) (Xu (fun m f _ L=>∃ (i:Nat) (vB:V) (ownB:HA),(i<=l.length)/\(m=l.length - i)/\(Bw 5 (Wv l i) vB ownB)/\(f 0=v)/\(f 5=vB)/\(f 6=.s (.int .i64 i))/\(L=(ownB++(own0++[])))) (fun m f nb L hI=>?_) (l.length) (⟨0,.snil,[],by omega,by omega,Bw.nil rfl,rfl,rfl,rfl,rfl⟩))))))))))))))))))))
 obtain ⟨i,vB,ownB,hi,hm,hrB,k0,k5,k6,rfl⟩:=hI
 refine Za 0 k0 (Za 5 k5 (Za 6 k6 ?_))
 have hsz:=El hb hi
 refine Ye (Ze (Zj rfl (Yq (v:=v) rfl (Xk rfl hr0 (by decide) (YQ l) (Zr rfl (Yc (Yj rfl (fun h25=>?_) (fun h25=>?_)))))))) <;> simp only [NM] at h25
 ·refine Yh (Ye (Yk (Ye (Ze ?_))))
  obtain ⟨h1,h2,_,hb1,hb0,hb5⟩:=TQ hb (i:=i) (by omega)
  refine Zj rfl (Zr rfl (Yc (Yj rfl (fun h29=>?_) (fun h29=>?_)))) <;> simp only [NM] at h29
  ·refine Yf (Yq (v:=vB) rfl (yy rfl (.one rfl .nil) (yE (u:=32) rfl hrB rfl ZM rfl (.there .here) (by have:=hsz.2 (by omega); omega) (by (try simp only [ZbP]); have e1:=hsz.1; have e2:=YU h1; have e3:=YU h2; have e4:(⟨#[32]⟩:ByteArray).size=1:=rfl; omega) (fun v1 own1 n1 hr1=>Yq (v:=v1) rfl (Zf (Yq (v:=v1) rfl (Yq (v:=v) rfl (Zj rfl ?_))))))))
   obtain ⟨b0,q0,md0,c0,F0,rfl,rfl,hF0⟩:=hr0.at (by decide) (YQ l) (by omega)
   refine Zx rfl rfl (Yd rfl rfl rfl ?_)
   obtain ⟨hx0,hx1,hx2⟩:=UE hF0 (i:=i) (by omega)
   refine Ym (x:=(l.getD i (0,0,0)).1) rfl rfl (ZbM _ ZN) (hx0) (Yt rfl (YP (RY _)) rfl rfl rfl (T5 rfl hr1 rfl .here (by (try simp only [ZbP]); have e1:=hsz.1; have e2:=YU h1; have e3:=YU h2; have e4:(⟨#[32]⟩:ByteArray).size=1:=rfl; omega) (fun v2 own2 n2 hr2=>Yq (v:=v2) rfl (Zf (Yq (v:=v2) rfl (Zn rfl (Zj rfl (Zx rfl rfl (Yd rfl rfl rfl (Ym (x:=(l.getD i (0,0,0)).2.1) rfl rfl (ZbM _ ZN) (hx1) (Yt rfl (YP (RY _)) rfl rfl rfl (T5 rfl hr2 rfl .here (by (try simp only [ZbP]); have e1:=hsz.1; have e2:=YU h1; have e3:=YU h2; have e4:(⟨#[32]⟩:ByteArray).size=1:=rfl; omega) (fun v3 own3 n3 hr3=>Yq (v:=v3) rfl (Zf (Zn rfl (Zj rfl (Zx rfl rfl (Yd rfl rfl rfl (Ym (x:=(l.getD i (0,0,0)).2.2) rfl rfl (ZbM _ ZN) (hx2) (Zr rfl (Yc (Yj rfl (fun h54=>?_) (fun h54=>?_))))))))))))))))))))))) <;> simp only [NM] at h54
   ·refine Yf (Yq (v:=v3) rfl (Zn rfl (Zj rfl (Zx rfl rfl (Yd rfl rfl rfl (Ym (x:=(l.getD i (0,0,0)).2.2) rfl rfl (ZbM _ ZN) (hx2) (Zt rfl rfl (XP rfl rfl (show 0<=_/\_ < ((4:Nat):Int) by omega) (yy rfl (.one rfl .nil) (yE (u:=((⟨#[110,98,114,113]⟩:ByteArray).data.getD ((l.getD i (0,0,0)).2.2 - 2).toNat 0)) rfl hr3 rfl ZM rfl (.there .here) (by simp only [ZbP]; have e2:=YU h1; omega) (by (try simp only [ZbP]); have e1:=hsz.1; have e2:=YU h1; have e3:=YU h2; have e4:(⟨#[32]⟩:ByteArray).size=1:=rfl; omega) (fun v4 own4 n4 hr4=>Yq (v:=v4) rfl (Yc (Yf (Zj rfl (Zs rfl rfl (Zj rfl (Yc ?_)))))))))))))))))
    rw [sh_1y (by omega) (by omega) (by omega)] at hr4
    refine ⟨l.length - (i+1),_,by omega,(ZbY (.refl _) (.cons _ (.cons _ (.refl _)))),_,_,_,by omega,rfl,hr4,rfl,rfl,rfl,rfl⟩
   refine Yh (Yf (Zj rfl (Zs rfl rfl (Zj rfl (Yc ?_)))))
   rw [sh_1n (by omega) h54] at hr3
   refine ⟨l.length - (i+1),_,by omega,(ZbY (.refl _) (.cons _ (.refl _))),_,_,_,by omega,rfl,hr3,rfl,rfl,rfl,rfl⟩
  refine Yh (Ze (Yq (v:=vB) rfl (Yq (v:=v) rfl (Zj rfl ?_))))
  obtain ⟨b0,q0,md0,c0,F0,rfl,rfl,hF0⟩:=hr0.at (by decide) (YQ l) (by omega)
  refine Zx rfl rfl (Yd rfl rfl rfl ?_)
  obtain ⟨hx0,hx1,hx2⟩:=UE hF0 (i:=i) (by omega)
  refine Ym (x:=(l.getD i (0,0,0)).1) rfl rfl (ZbM _ ZM) (hx0) (Yt rfl (YP (RY _)) rfl rfl rfl (T5 rfl hrB rfl .here (by (try simp only [ZbP]); have e1:=hsz.1; have e2:=YU h1; have e3:=YU h2; have e4:(⟨#[32]⟩:ByteArray).size=1:=rfl; omega) (fun v5 own5 n5 hr5=>Yq (v:=v5) rfl (Zf (Yq (v:=v5) rfl (Zn rfl (Zj rfl (Zx rfl rfl (Yd rfl rfl rfl (Ym (x:=(l.getD i (0,0,0)).2.1) rfl rfl (ZbM _ ZM) (hx1) (Yt rfl (YP (RY _)) rfl rfl rfl (T5 rfl hr5 rfl .here (by (try simp only [ZbP]); have e1:=hsz.1; have e2:=YU h1; have e3:=YU h2; have e4:(⟨#[32]⟩:ByteArray).size=1:=rfl; omega) (fun v6 own6 n6 hr6=>Yq (v:=v6) rfl (Zf (Zn rfl (Zj rfl (Zx rfl rfl (Yd rfl rfl rfl (Ym (x:=(l.getD i (0,0,0)).2.2) rfl rfl (ZbM _ ZM) (hx2) (Zr rfl (Yc (Yj rfl (fun h54=>?_) (fun h54=>?_))))))))))))))))))))))) <;> simp only [NM] at h54
  ·refine Yf (Yq (v:=v6) rfl (Zn rfl (Zj rfl (Zx rfl rfl (Yd rfl rfl rfl (Ym (x:=(l.getD i (0,0,0)).2.2) rfl rfl (ZbM _ ZM) (hx2) (Zt rfl rfl (XP rfl rfl (show 0<=_/\_ < ((4:Nat):Int) by omega) (yy rfl (.one rfl .nil) (yE (u:=((⟨#[110,98,114,113]⟩:ByteArray).data.getD ((l.getD i (0,0,0)).2.2 - 2).toNat 0)) rfl hr6 rfl ZM rfl (.there .here) (by simp only [ZbP]; have e2:=YU h1; omega) (by (try simp only [ZbP]); have e1:=hsz.1; have e2:=YU h1; have e3:=YU h2; have e4:(⟨#[32]⟩:ByteArray).size=1:=rfl; omega) (fun v7 own7 n7 hr7=>Yq (v:=v7) rfl (Yc (Yf (Zj rfl (Zs rfl rfl (Zj rfl (Yc ?_)))))))))))))))))
   obtain rfl:i=0:=by omega
   rw [sh_0y (by omega) (by omega)] at hr7
   refine ⟨l.length - (0+1),_,by omega,(ZbY (.refl _) (.cons _ (.refl _))),_,_,_,by omega,rfl,hr7,rfl,rfl,rfl,rfl⟩
  refine Yh (Yf (Zj rfl (Zs rfl rfl (Zj rfl (Yc ?_)))))
  obtain rfl:i=0:=by omega
  rw [sh_0n h54] at hr6
  refine ⟨l.length - (0+1),_,by omega,(ZbY (.refl _) (.refl _)),_,_,_,by omega,rfl,hr6,rfl,rfl,rfl,rfl⟩
 refine Y0 (Xb (Ze (Yq (v:=vB) rfl (WO_b2sB rfl hrB (fun _ h=>(ZbV _ h)) (Yq (v:=.s _) rfl (Yq rfl (Yc (Yi (⟨_,YH (v:=.s _) rfl (ZL rfl),?_⟩)))))))))
 obtain rfl:i=l.length:=by omega
 exact ⟨rfl,(fun _ h=>(ZbM _ h))⟩
theorem eq33 {P Q:Nat->Int} {a b:Mv} (h0:P 0=a.1) (h1:P 1=a.2.1) (h2:P 2=a.2.2) (g0:Q 0=b.1) (g1:Q 1=b.2.1) (g2:Q 2=b.2.2):eqI 3 P Q=decide (a=b):=by
 rw [eq3 (P:=P) g0 g1 g2,h0,h1,h2]
theorem vM {a b:List Mv} {i:Nat} (hn:∀ j:Nat,j < i->a.getD j (0,0,0)=b.getD j (0,0,0)) (ha:i<=a.length) (hb:i<=b.length) (he:a.length<=i\/b.length<=i):((a.length:Int) == (b.length:Int))=decide (a=b):=by
 rw [Zce,Zcu,Zb7]
 constructor
 ·intro h
  refine List.ext_getElem (by omega) fun j h1 h2=>?_
  have:=hn j (by omega)
  rw [ZbD,ZbD,ZbH h1,ZbH h2] at this
  exact this
 rintro rfl; rfl
theorem same_rd (a b:List Mv) (ha:a.length<=1000000000000000) (hb:b.length<=1000000000000000):Rd2 AM 15 3 (YV a) (YV b) (.s (.bool (decide (a=b)))):=by
 refine Rd2_of fun v u Bs hc=>?_
 refine YL (a:=a15) rfl rfl (YI _) (ZQ rfl) rfl ?_ (by first | rfl | (cases hc <;> rfl))
 obtain ⟨own0,own1,hown,hr0,hr1⟩:=hc.rx
 rw [hown]
 refine Ze (Yq rfl (Yc (Ye (Ze (Yq rfl (Yc (Yk (Xo (ZbY (.refl _) (ZbY (.refl _) .slnil)) (Xu (fun m f _ L=>∃ (i:Nat),(i<=a.length)/\(i<=b.length)/\(m=a.length - i)/\(∀ j:Nat,j < i->a.getD j (0,0,0)=b.getD j (0,0,0))/\(f 0=v)/\(f 1=u)/\(f 5=.s (.int .i64 i))/\(L=(own0++(own1++[])))) (fun m f nb L hI=>?_) (a.length) (⟨0,by omega,by omega,by omega,fun j hj=>by omega,rfl,rfl,rfl,by rw [Zcf]⟩))))))))))
 obtain ⟨i,hi,hi2,hm,hn,k0,k1,k5,rfl⟩:=hI
 refine Za 0 k0 (Za 1 k1 (Za 5 k5 (Ye (Ze (Zj rfl (Yq (v:=v) rfl (Xk rfl hr0 (by decide) (YQ a) (Zr rfl (Zk rfl (Ys (t:=10) rfl (fun h10=>?_) (fun h10=>?_))))))))))) <;> simp only [NM] at h10
 ·refine Yb rfl (Zj rfl (Yb rfl (Yq (v:=u) rfl (Yb rfl (Xk rfl hr1 (by decide) (YQ b) (Yb rfl (Zr rfl (Zq rfl (Yc (Yj rfl (fun h15=>?_) (fun h15=>?_))))))))))) <;> simp only [NM] at h15
  ·refine Yh (Ye (Yk (Ye (Yg (Yq (v:=v) rfl (Zj rfl ?_))))))
   obtain ⟨b0,q0,md0,c0,F0,rfl,rfl,hF0⟩:=hr0.at (by decide) (YQ a) (by omega)
   refine Zx rfl rfl (Yp rfl rfl ZM (Yq (v:=u) rfl (Zj rfl ?_)))
   obtain ⟨b1,q1,md1,c1,F1,rfl,rfl,hF1⟩:=hr1.at (by decide) (YQ b) (by omega)
   refine Zx rfl rfl (Yp rfl rfl ZN ?_)
   obtain ⟨hx0,hx1,hx2⟩:=UE hF0 (i:=i) (by omega)
   obtain ⟨hy0,hy1,hy2⟩:=UE hF1 (i:=i) (by omega)
   have heq:=congrArg (fun q=>!q) (eq33 (P:=dp F0 (0+(i:Int).toNat*3)) (Q:=dp F1 (0+(i:Int).toNat*3)) hx0 hx1 hx2 hy0 hy1 hy2)
   refine Yx (b:=!decide ((a.getD i (0,0,0))=(b.getD i (0,0,0)))) rfl rfl heq (Yc (Yj rfl (fun h26=>?_) (fun h26=>?_))) <;> simp only [NM] at h26
   ·refine Ze (Yq rfl (Zg rfl ?_))
    exact ⟨congrArg (fun q=>V.s (S.bool q)) (Zci fun e=>(show ¬ (a.getD i (0,0,0))=(b.getD i (0,0,0)) by simpa using h26) (by rw [e])).symm,fun p hp=>hp⟩
   refine Yh (Yf (Zj rfl (Zs rfl rfl (Zj rfl (Yc (⟨a.length - (i+1),_,by omega,(.refl _),i+1,by omega,by omega,rfl,?_,rfl,rfl,rfl,rfl⟩))))))
   intro j hj
   by_cases e:j=i
   ·subst e; simpa using h26
   exact hn j (by omega)
  refine Y0 (Xb (Ze (Yq (v:=v) rfl (Xk rfl hr0 (by decide) (YQ a) (Yq (v:=u) rfl (Xk rfl hr1 (by decide) (YQ b) (Zr rfl (Zk rfl (Zg rfl ?_)))))))))
  exact ⟨congrArg (fun q=>V.s (S.bool q)) (vM hn hi hi2 (by omega)),fun p hp=>hp⟩
 refine ZE rfl (Zq rfl (Yc (ZB rfl (Y0 (Xb (Ze (Yq (v:=v) rfl (Xk rfl hr0 (by decide) (YQ a) (Yq (v:=u) rfl (Xk rfl hr1 (by decide) (YQ b) (Zr rfl (Zk rfl (Zg rfl ?_)))))))))))))
 exact ⟨congrArg (fun q=>V.s (S.bool q)) (vM hn hi hi2 (by omega)),fun p hp=>hp⟩
theorem qO (a:List Mv) (ha:a.length<=1000000000000000):Rd2 AM 15 3 (YV a) (YV a) (.s (.bool true)):=by
 have:=same_rd a a ha ha
 rw [Zcl rfl] at this
 exact this
theorem jO {s:ByteArray}:∀ {k p:Nat} {l:List Mv},(US s k p l).1.length<=8192
 | 0,_,_=>Zct _
 | k+1,p,l=>by
  unfold US
  split
  ·split
   ·unfold yS
    split
    ·exact Zct _
    show (l++[_]).length<=_; omega
   split
   ·exact jO
   exact Zct _
  exact Zct _
theorem Za3 (s:ByteArray):(Wi s).1.length<=8192:=by
 unfold Wi
 split
 ·exact Zct _
 split
 ·exact Zct _
 exact jO
theorem oW (s:ByteArray):WR AM 16 [.s (.str s)] [] (fun v _ _=>v=.s (.bool true)):=by
 refine YL (a:=a16) rfl rfl (YI _) (ZQ rfl) (m:=0) rfl (Ze (Yq rfl (Zf (Yq (v:=.s _) rfl (xh rfl (ox s) rfl rfl (fun v1 own1 n1 hr1=>Zo rfl (YD (v:=v1) rfl rfl (YD (v:=.s (.int _ _)) rfl rfl (YD (v:=.s (.int _ _)) rfl rfl (Yq (v:=v1) rfl (Zj rfl (Zj rfl (Zf (Yq (v:=.s _) rfl (xh rfl (sB s) rfl rfl (fun v2 own2 n2 hr2=>Zo rfl (YD (v:=v2) rfl rfl (YD (v:=.s (.int _ _)) rfl rfl (YD (v:=.s (.int _ _)) rfl rfl (Yq (v:=v2) rfl (Zj rfl (Zj rfl (Zf (Yq (v:=v1) rfl (Yq (v:=v2) rfl (xW rfl (qO _ (by have:=Za3 s; omega)) rfl (hr1.rx) (hr2.rx) ((Dr.all (Dr.appR _ .here)).trans (List.Perm.append_left _ (Dr.all .here))) rfl (Zk rfl (Yb rfl (Zj rfl ?_)))))))))))))))))))))))))))))
 refine Yb rfl (Zj rfl (Yb rfl (Yr rfl rfl (RC rfl) (Zq rfl (Zk rfl (Yb rfl (Zj rfl (Yb rfl (Zj rfl (Yb rfl (Yr rfl rfl (RC rfl) (Zq rfl (Zk rfl (Zg rfl ?_))))))))))))))
 rfl
theorem gC (l:List Mv) (hlen:l.length<=1000000):∃ X e,RdR AM 12 3 [] [] (YV l) (.tup [.s (.str X),.s (.int .i64 e)])/\RdR AM 14 3 [] [] (YV l) (.tup [.s (.str X),.s (.int .i64 e)]):=by
 cases hb:l.any Ul with
 | true=>exact ⟨_,_,Za2 l hlen hb,rQ l hlen hb⟩
 | false =>
  by_cases h:8192 < l.length
  ·exact ⟨_,_,gp l hlen hb h,sJ l hlen hb h⟩
  exact ⟨_,_,Show_ok l hb (by omega),Zbl l hb (by omega)⟩
theorem Dh (l:List Mv) (s:ByteArray) (hl:l.length<=1000000000000000) (hs:s.size<=1000000000000000):∀ v Bs,Rc 3 (YV l) v Bs->WR AM 5 [v,.s (.str s)] Bs (fun v' _ _=>v'=.s (.bool true)):=by
 intro v Bs hc
 refine YL (a:=a5) rfl rfl (YI _) (ZQ rfl) rfl ?_ (by first | rfl | (cases hc <;> rfl))
 have hr0:=hc.rx
 rw [show YZ 0 Bs=YZ 0 Bs++[] from (Zcf _).symm]
 generalize hown:YZ 0 Bs=own0 at hr0 ⊢
 refine Ze (Yq rfl (Yc (Ye (Ze (Yq (v:=v) rfl (Xk rfl hr0 (by decide) (YQ l) (Yq (v:=.s _) rfl (Xe rfl (Zs rfl rfl (Zr rfl (Yc (Yj rfl (fun h15=>?_) (fun h15=>?_))))))))))))) <;> simp only [NM] at h15
 ·refine Ze (Yt rfl (YP DG) rfl rfl rfl (Zk rfl (Zg rfl ?_)))
  rfl
 refine Yh (Ze ?_)
 obtain ⟨X,e,hs1,hs2⟩:=gC l (by omega)
 refine Wp rfl .nil (Yq (v:=v) rfl (WO_appL rfl rfl (hr0) (fun _ h=>(ZbV _ h)) (by decide) rfl (by rw [YQ]; omega) (fun v1 own1 n1 hr1=>Yq (v:=v1) rfl (Zf (Yq (v:=v1) rfl (XX (caps:=[]) rfl (hs1) rfl (hr1) (fun _ h=>(ZbV _ h)) rfl rfl rfl (Zo rfl (YD (v:=.s _) rfl rfl (YD (v:=.s (.int _ _)) rfl rfl (Yq (v:=.s _) rfl (Zj rfl (Zf (Yq (v:=v) rfl (XX (caps:=[]) rfl (hs2) rfl (hr0) (fun _ h=>(ZbM _ (ZbV _ h))) rfl rfl rfl (Zo rfl (YD (v:=.s _) rfl rfl (YD (v:=.s (.int _ _)) rfl rfl (Yq (v:=.s _) rfl (Zj rfl (Zf (Yq (v:=.s _) rfl (Yq (v:=.s _) rfl (Yr rfl rfl (yt _) (Zk rfl (Yb rfl (Zj rfl (Yb rfl (Zj rfl (Yb rfl ?_)))))))))))))))))))))))))))))
 refine Yr rfl rfl (RC rfl) (Zq rfl (Zk rfl (Yb rfl (Yq (v:=v1) rfl (Yb rfl (Yq (v:=v) rfl (Yb rfl (xW rfl (qO l hl) rfl (hr1) (hr0) ((Dr.all .here).trans (List.Perm.append_left _ (Dr.all .here))) rfl (Zq rfl (Zk rfl (Yb rfl (Yq (v:=.s _) rfl (Yb rfl (Yt rfl (YP (oW s)) rfl rfl rfl (Zq rfl (Zk rfl (Yb rfl (Yt rfl (YP DG) rfl rfl rfl (Zq rfl (Zk rfl (Zg rfl ?_)))))))))))))))))))))
 rfl
end Go.Proofs.YtlkighkfkdpncaaGreatDoor
