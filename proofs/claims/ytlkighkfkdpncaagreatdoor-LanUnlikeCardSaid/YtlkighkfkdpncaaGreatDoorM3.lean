/- Texts of this seat, joined. -/
import Derived.Shelf.Strings.Builder1
import Derived.Shelf.Strings.Builder2
import Derived.Shelf.Strings.OnBuilder
import Derived.Shelf.Small.Strs
import Derived.Shelf.Strings.Search1
import Derived.Test.YtlkighkfkdpncaaGreatDoorProg
import Derived.LoopN
import Derived.Test.YtlkighkfkdpncaaGreatDoorTie
import Derived.Lay
import Derived.LaidMore
import Derived.OpenShut
import Derived.Stop.Joined
import Derived.ProofKit
import Derived.Test.YtlkighkfkdpncaaGreatDoorM2
set_option linter.unusedSimpArgs false
set_option linter.unusedVariables false
namespace Go.Proofs.YtlkighkfkdpncaaGreatDoor
open Go Go.Am
theorem EX (M:Nat->Int) (s k c:Int):(XR M s k c).length<=2:=by
 unfold XR
 split
 ·exact Zbt _
 rw [ZaG]
 have h1:=UV (p:=M 129 / YS c % 2=1/\VE M c (s+3)=true/\YN M (s+1)=true/\YN M (s+2)=true) (s+2)
 have h2:=UV (p:=M 129 / (2*YS c) % 2=1/\VE M c (s - 4)=true/\YN M (s - 1)=true/\YN M (s - 2)=true/\YN M (s - 3)=true) (s - 2)
 omega
theorem own_is {M:Nat->Int} {t:Int} (ht:0<=t/\t < 64):U7 (ia M) t=VS M (M 135) t:=by
 have hq:sqI t=0+t.toNat*2:=rfl
 have e:YT M t=(decide (M (t.toNat*2)=0)&&decide (M (t.toNat*2+1)=0)):=by
  rw [ZaP,ZaM,ZaL,ZaL]
  unfold YT
  rw [Uw,hq,ZaY]
  exact ⟨fun h=>⟨h 0 (by omega),h 1 (by omega)⟩,fun h i hi=>by
   obtain rfl | rfl:i=0\/i=1:=by omega
   ·exact h.1
   exact h.2⟩
 unfold U7 VS We
 rw [e,hq,ZaY]; rfl
theorem allB_true' {p:Nat->Bool}:∀ {n:Nat},(∀ i,i < n->p i=true)->Xs n p=true
 | 0,_=>rfl
 | n+1,h=>by
  show (Xs n p&&p n)=true
  rw [h n (Nat.lt_succ_self n),allB_true' fun i hi=>h i (Nat.lt_succ_of_lt hi)]; rfl
theorem Je {p q:Int→Bool}:∀ {l:List Int},(∀ t∈l,p t=q t)→l.filter p=l.filter q
 | [],_=>rfl
 | t::l,h=>by rw [List.filter_cons,List.filter_cons,h t ZM,Je fun u hu=>h u (.tail _ hu)]
theorem u3 {l:List Int} {i:Nat} (hi:i < l.length):l.getD i 0∈l:=by
 rw [Zau,Zav hi]
 exact List.getElem_mem hi
theorem uS {md:Md} (M:Nat->Int):RB AM 156 [.snil,.fn 155 [.ptr 0 0 136]] [.sc md 136 (ia M)] .snil [.sc md 136 (ia M)]:=by
 refine ⟨[_],?_,rfl,⟨_,_,_,rfl⟩,trivial⟩
 rw [VP (pf:=Ty 155) rfl _ _ rfl]; rfl
theorem uR {md:Md} (M F:Nat→Int) (l:List Int) (m q:Nat) (hl:l.length=m) (hF:∀ i,i < l.length→F i=l.getD i 0) (hb:∀ t∈l,0≤t∧t < 64) (hm:m≤1000000) :
  ∃ q' F',(∀ i,i < (l.filter fun t=>!VS M (M 135) t).length->F' i=(l.filter fun t=>!VS M (M 135) t).getD i 0)/\RNd AM 156 [.sl 0 0 m 1 .whole,.fn 155 [.ptr 1 0 136]] [.sc .grow q (ia F),.sc md 136 (ia M)] (fun b=>.sl b 0 (l.filter fun t=>!VS M (M 135) t).length 1 .whole) (.sc .grow q' (ia F')) [.dead,.sc md 136 (ia M)]:=by
 have hn:=qj hl hF
 have he:(XW (ia F) m).filter (fun t=>!U7 (ia M) t)=l.filter fun t=>!VS M (M 135) t:=by
  rw [hn]; exact Je fun t ht=>by rw [own_is (hb t ht)]
 have h1:Xs m (fun i=>VY (ia F i)&&(decide (0<=Ws (ia F i))&&decide (Ws (ia F i) < 64)))=true:=allB_true' fun i hi=>by
  have hx:=hb _ (u3 (l:=l) (i:=i) (by omega))
  rw [<- hF i (by omega)] at hx
  show (true&&(decide (0<=F i)&&decide (F i < 64)))=true
  rw [ZaV hx.1,ZaV hx.2]; rfl
 have h2:Xs 136 (fun i=>VY (ia M i))=true:=allI 136
 have h3:Nat.ble m 4611686018427387904=true:=ZaA (by omega)
 refine ⟨_,fun i=>(l.filter fun t=>!VS M (M 135) t).getD i 0,fun i _=>rfl,2,[.dead,.sc md 136 (ia M),.sc .grow (l.filter fun t=>!VS M (M 135) t).length (ia fun i=>(l.filter fun t=>!VS M (M 135) t).getD i 0)],?_,Za1 _,rfl,rfl,rfl,rfl,rfl,trivial⟩
 rw [VP (pf:=Ty 155) rfl _ _ rfl]
 show (bif (decide (0≠1)&&(Xs m (fun i=>VY (ia F i)&&(decide (0<=Ws (ia F i))&&decide (Ws (ia F i) < 64)))&&(Xs 136 (fun i=>VY (ia M i))&&Nat.ble m 4611686018427387904))) then
  some (V.sl 2 0 ((XW (ia F) m).filter fun t=>!U7 (ia M) t).length 1 .whole,[Blk.dead,.sc md 136 (ia M)]++[.sc .grow ((XW (ia F) m).filter fun t=>!U7 (ia M) t).length fun i=>.int .i64 (((XW (ia F) m).filter fun t=>!U7 (ia M) t).getD i 0)]) else none)=_
 rw [h1,h2,h3,he]; rfl
theorem yK (M:Nat->Int) (ha:0<=M 133/\M 133 < 64) (hc:M 135=0\/M 135=1):RtR AM 127 1 [.agg 136 (ia M)] [] (XM M (M 133) (M 134) (M 135)) []:=by
 refine Vs (YJ (a:=a127) rfl rfl (YI _) (ZQ rfl) (m:=0) rfl (Ze (YC rfl (Yq rfl (Yc (Ye (Ze (Yd (o':=134) rfl rfl rfl (Yd (o':=134) rfl rfl rfl (Ym rfl rfl ZM rfl (Zr rfl (Yc (Yj rfl (fun h1=>?_) (fun h1=>?_)))))))))))))) <;> simp only [NM] at h1
 ·refine Ze (Yo rfl rfl ZM (YE rfl (gN M ha hc) rfl rfl (fun v1 own1 n1 hr1=>Yq (v:=v1) rfl (Yc (Yi (⟨_,YK (v:=v1) rfl (YP),?_⟩))))))
  have e:XM M (M 133) (M 134) (M 135)=Qx M (M 133) (M 135):=Za8 (by assumption)
  exact ⟨_,e ▸ hr1,(fun _ h=>(ZaC _ h))⟩
 refine Yh (Ze (KY rfl (Yq (v:=.fn _ _) rfl (Yc (Ye (oN [0,1,2,3] [4,5,6,7,8,9,10] [[4,5,6,7,8,9,10],[4,5,7,6,8,9,10],[5,4,6,7,8,9,10],[5,4,7,6,8,9,10],[7,4,5,6,8,9,10],[5,7,4,6,8,9,10]] rfl (by decide +kernel) ?_))))))
 simp only [XD,List.getElem?_cons_zero,List.getElem?_cons_succ]
 have hfrom:=ux M (M 133)
 have hcast:=jN M ha hc
 have hl1:=Jl M (M 133)
 have hl2:=Zbk (fun t=>!VS M (M 135) t) (Wt M (M 133))
 have hl3:=EX M (M 133) (M 134) (M 135)
 refine Zy rfl (Yo rfl rfl ZM (Yd (o':=133) rfl rfl rfl (Ym rfl rfl ZM rfl (Yc (⟨?_,Vk ?_⟩)))))
 ·refine g7 (fun l=>EF (b:=0) (B:=.sc .var 136 (ia M)) (v:=.fn 155 [.ptr 0 0 136]) rfl rfl ZM (fun σ _=>rfl) (YE rfl hfrom rfl rfl (fun v own n2 hr=>Yc (Zaz _ ZM))) l) (fun l=>EF (b:=0) (B:=.sc .var 136 (ia M)) (v:=.agg 136 fun i=>ia M (0+i)) rfl rfl ZM (fun σ h=>Dl (z:=136) (o:=0) rfl rfl (by simp only [rdV,h,cond_true]))  (YE rfl hfrom rfl rfl (fun v own n2 hr=>Yc (Zaz _ ZM))) l) rfl
   (YE rfl hfrom rfl rfl (fun v own n2 hr=>Yc trivial)) (Yq (v:=.fn 155 [.ptr 0 0 136]) rfl (Yc fun l=>EF (b:=0) (B:=.sc .var 136 (ia M)) (v:=.agg 136 fun i=>ia M (0+i)) rfl rfl ZM (fun σ h=>Dl (z:=136) (o:=0) rfl rfl (by simp only [rdV,h,cond_true]))  (YE rfl hfrom rfl rfl (fun v own n2 hr=>Yc (Zaz _ ZM))) l))
   (YE rfl hfrom rfl rfl (fun v own n2 hr=>Yq (v:=.fn 155 [.ptr 0 0 136]) rfl (Yc fun l=>EF (b:=0) (B:=.sc .var 136 (ia M)) (v:=.agg 136 fun i=>ia M (0+i)) rfl rfl (Zaz _ ZM) (fun σ h=>Dl (z:=136) (o:=0) rfl rfl (by simp only [rdV,h,cond_true]))  (xd (l':=(Wt M (M 133)).filter fun t=>!VS M (M 135) t) rfl rfl hr .here ZM ⟨_,_,_,rfl⟩ (fun h=>⟨by rw [h]; rfl,uS M⟩) (fun m q F h1 h2=>uR M F (Wt M (M 133)) m q h1 h2 (fun t ht=>Q7 ht) (by have:=Jl M (M 133); omega)) (fun v2 own2 n3 hr2=>Yc (Zaz _ ZM))) l)))
 refine YE rfl (hfrom) rfl rfl (fun v2 own2 n2 hr2=>Yq (v:=.fn _ _) rfl (xd (l':=(Wt M (M 133)).filter fun t=>!VS M (M 135) t) rfl rfl hr2 .here ZM ⟨_,_,_,rfl⟩ (fun h=>⟨by rw [h]; rfl,uS M⟩) (fun m q F h1 h2=>uR M F (Wt M (M 133)) m q h1 h2 (fun t ht=>Q7 ht) (by have:=Jl M (M 133); omega)) (fun v3 own3 n3 hr3=>Yo rfl rfl (Zaz _ ZM) (YE rfl (hcast) rfl rfl (fun v4 own4 n4 hr4=>Ed rfl hr3 rfl (hr4.rx) (fun _ h=>(ZaC _ h)) (Dr.appR _ .here) (by decide) (by omega) (fun v5 own5 n5 hr5=>Yq (v:=v5) rfl (Yc (Yi (⟨_,YK (v:=v5) rfl (YP),?_⟩)))))))))
 have e:XM M (M 133) (M 134) (M 135)=((Wt M (M 133)).filter fun t=>!VS M (M 135) t)++XR M (M 133) (M 134) (M 135):=Za7 (by assumption)
 exact ⟨_,e ▸ hr5,(fun _ h=>(ZaC _ h))⟩
open Go Go.Am
theorem QH {Q:Nat->Int} {x y z:Int} (h0:Q 0=x) (h1:Q 1=y) (h2:Q 2=z):∀ i,i < [x,y,z].length->ovA (fun _=>0) (0*3) 3 Q (0+i)=[x,y,z].getD i 0
 | 0,_=>h0
 | 1,_=>h1
 | 2,_=>h2
 | i+3,h=>absurd (show i+3 < 3 from h) (by omega)
theorem Ki (a b:List Mv):YY (a++b)=YY a++YY b:=by unfold YY; exact List.flatMap_append
theorem toM_len (s k c t:Int):(toM s k c t).length<=4:=by
 unfold toM
 split
 ·exact Za1 4
 exact YF rfl
theorem kq (s k c:Int):∀ l:List Int,(l.flatMap (toM s k c)).length<=l.length*4
 | []=>Zbt _
 | t::l=>by
  have h1:=toM_len s k c t
  have h2:=kq s k c l
  rw [Zbo,ZaG,Zbq]
  omega
theorem KC (s k c:Int) (l:List Int):(YY (l.flatMap (toM s k c))).length<=l.length*12:=by
 have:=kq s k c l
 rw [Xj]; omega
theorem wu {s k c:Int} {l:List Int} {i:Nat} (hi:i < l.length):YY ((l.take (i+1)).flatMap (toM s k c))=YY ((l.take i).flatMap (toM s k c))++YY (toM s k c (l.getD i 0)):=by
 rw [Vh 0 hi,List.flatMap_append,Ki]; simp
def Qb (s t:Int) (j:Nat):List Int:=YY ((([2,3,4,5]:List Int).take j).map fun p=>(s,t,p))
theorem RT (s t:Int):∀ j,j < 4->Qb s t (j+1)=Qb s t j++[s,t,2+(j:Int)]
 | 0,_=>rfl
 | 1,_=>rfl
 | 2,_=>rfl
 | 3,_=>rfl
 | j+4,h=>absurd h (by omega)
theorem TV (s t:Int) (j:Nat):(Qb s t j).length<=12:=by
 unfold Qb
 rw [Xj,List.length_map,ZaN]
 show min j 4*3<=12
 omega
theorem to_end {s k c t:Int} (hb:0<=t/\t < 64) (hk:k=1) (ht:Wj t=7*(1 - c)):YY (toM s k c t)=Qb s t 4:=by
 unfold Wj at ht
 rw [Za8 hb] at ht
 unfold toM endM
 rw [Za8 (ZaV ⟨hk,ht⟩)]; rfl
theorem pa {s k c t:Int} (hb:0<=t/\t < 64) (h:k≠1\/Wj t≠7*(1 - c)):YY (toM s k c t)=[s,t,0]:=by
 unfold Wj at h
 rw [Za8 hb] at h
 unfold toM endM
 rw [Za7 (by rw [ZaL]; omega)]; rfl
theorem to_rt (M:Nat→Int) (hM:M 135=0∨M 135=1) (l:List Int) (hlen:l.length≤1000) (hb:∀ t∈l,0≤t∧t < 64):wk AM 126 1 3 [.agg 136 (ia M)] [] l (YY (l.flatMap (toM (M 133) (M 134) (M 135)))):=by
 refine yk fun v Bs hc=>?_
 refine YJ (a:=a126) rfl rfl (YI _) (ZQ rfl) rfl ?_ (by first | rfl | (cases hc <;> rfl))
 have hr0:=hc.rx
 rw [show Xb 0 Bs=Xb 0 Bs++[] from (ZaQ _).symm]
 generalize hown:Xb 0 Bs=own0 at hr0 ⊢
 refine Ze (YC rfl (Yq rfl (Yc (Ye (Ze (Yq (v:=v) rfl (Wq rfl hr0 (by decide) KO (Yq rfl (Yc (Yk (Xm (.cons_cons _ (ZaE (.refl _) .slnil)) (Xp (fun m f _ L=>∃ (i:Nat) (vO:V) (ownO:HA),(i<=l.length)/\(m=l.length - i)/\(Rw 3 (YY ((l.take i).flatMap (toM (M 133) (M 134) (M 135)))) vO ownO)/\(f 2=.ptr Bs.length 0 136)/\(f 4=vO)/\(f 8=v)/\(f 9=.s (.int .i64 l.length))/\(f 10=.s (.int .i64 i))/\(L=(ownO++(Bs.length,.sc .var 136 (ia M))::(own0++[])))) (fun m f nb L hI=>?_) (l.length) (⟨0,.snil,[],by omega,rfl,.nil rfl,rfl,rfl,rfl,rfl,rfl,rfl⟩)))))))))))))
 obtain ⟨i,vO,ownO,hi,hm,hrO,k2,k4,k8,k9,k10,rfl⟩:=hI
 refine Za 2 k2 (Za 4 k4 (Za 8 k8 (Za 9 k9 (Za 10 k10 (Ze (Zr rfl (Yc (Ye (Yj rfl (fun h1=>?_) (fun h1=>?_)))))))))) <;> simp only [NM] at h1
 ·refine Yh (Ye (Yk (Ze ?_)))
  have htb:0<=l.getD i 0/\l.getD i 0 < 64:=hb _ (u3 (by omega))
  obtain ⟨b0,q0,md0,c0,F0,rfl,rfl,hF0⟩:=hr0.at (by decide) KO (by omega)
  refine Zx rfl rfl (Ym (x:=(l.getD i 0)) rfl rfl (Zaz _ ZN) (ld1 hF0 (by omega)) (Zj rfl (Yc (Ye (Ye (Yg (Yd (o':=134) rfl rfl rfl (Yd (o':=134) rfl rfl rfl (Ym rfl rfl (Zaz _ ZM) rfl (Zr rfl (Zk rfl (Ys (t:=18) rfl (fun h2=>?_) (fun h2=>?_))))))))))))) <;> simp only [NM] at h2
  ·refine ZF rfl (Zq rfl (Yc (ZA rfl (Ze (Yq (v:=vO) rfl (Yd (o':=133) rfl rfl rfl (Ym rfl rfl (Zaz _ ZM) rfl (Zj rfl (YB rfl (.one rfl (.one rfl .nil)) (Wo rfl (.agg rfl .nil) (XK (c:=[(M 133),(l.getD i 0),0]) rfl hrO rfl ZM (.there .here) (by decide) (by decide) rfl ((QH rfl rfl rfl)) (by have e1:=KC (M 133) (M 134) (M 135) (l.take i); rw [ZaN] at e1; omega) (fun v1 own1 n1 hr1=>Yq (v:=v1) rfl (Yc (YX (Xe (Yf (Zs rfl rfl (Zj rfl (Yc (⟨l.length - (i+1),_,by omega,(ZaE (.refl _) (.cons _ (.refl _))),i+1,_,_,by omega,rfl,?_,rfl,rfl,rfl,rfl,rfl,rfl⟩))))))))))))))))))))
   rw [wu (l:=l) (i:=i) (by omega)]
   (rw [pa htb (by first | exact .inl (by assumption) | exact .inr (by assumption))]; exact hr1)
  refine Yb rfl (Zj rfl (Yb rfl (Yu rfl (K7 _) rfl rfl rfl (Yb rfl (Yd (o':=134) rfl rfl rfl (Yb rfl (Yd (o':=135) rfl rfl rfl (Yb rfl (Ym rfl rfl (Zaz _ ZM) rfl (Yb rfl (Zt rfl rfl (Yb rfl (Wn rfl rfl (by omega) (Yb rfl (Zr rfl (Zq rfl (Yc (Yj rfl (fun h3=>?_) (fun h3=>?_))))))))))))))))))) <;> simp only [NM] at h3
  ·refine Ze (Yq (v:=vO) rfl (Yd (o':=133) rfl rfl rfl (Ym rfl rfl (Zaz _ ZM) rfl (Zj rfl (YB rfl (.one rfl (.one rfl .nil)) (Wo rfl (.agg rfl .nil) (XK (c:=[(M 133),(l.getD i 0),0]) rfl hrO rfl ZM (.there .here) (by decide) (by decide) rfl ((QH rfl rfl rfl)) (by have e1:=KC (M 133) (M 134) (M 135) (l.take i); rw [ZaN] at e1; omega) (fun v2 own2 n2 hr2=>Yq (v:=v2) rfl (Yc (YX (Xe (Yf (Zs rfl rfl (Zj rfl (Yc (⟨l.length - (i+1),_,by omega,(ZaE (.refl _) (.cons _ (.refl _))),i+1,_,_,by omega,rfl,?_,rfl,rfl,rfl,rfl,rfl,rfl⟩))))))))))))))))
   rw [wu (l:=l) (i:=i) (by omega)]
   (rw [pa htb (by first | exact .inl (by assumption) | exact .inr (by assumption))]; exact hr2)
  refine Yh (Ze (Yq rfl (Yc (Yk (Xm (ZaE (.refl _) (.refl _)) (Xp (fun m f _ L=>∃ (j:Nat) (vP:V) (ownP:HA),(j<=4)/\(m=4 - j)/\(Rw 3 (YY ((l.take i).flatMap (toM (M 133) (M 134) (M 135)))++Qb (M 133) (l.getD i 0) j) vP ownP)/\(f 2=.ptr Bs.length 0 136)/\(f 4=vP)/\(f 6=.s (.int .i64 (l.getD i 0)))/\(f 7=.s (.int .i64 (2+(j:Int))))/\(f 8=.sl b0 0 l.length 1 c0)/\(f 9=.s (.int .i64 l.length))/\(f 10=.s (.int .i64 i))/\(L=(ownP++[(Bs.length,.sc .var 136 (ia M)),(b0,.sc md0 q0 (ia F0))]))) (fun m f nb L hI=>?_) (4) (⟨0,vO,ownO,by omega,by omega,by rw [show Qb (M 133) (l.getD i 0) 0=[] from rfl,ZaQ]; exact hrO,rfl,rfl,rfl,rfl,rfl,rfl,rfl,rfl⟩)))))))
  obtain ⟨j,vP,ownP,hj,hm2,hrP,k2,k4,k6,k7,k8,k9,k10,rfl⟩:=hI
  refine Za 2 k2 (Za 4 k4 (Za 6 k6 (Za 7 k7 (Za 8 k8 (Za 9 k9 (Za 10 k10 (Ye (Ze (Zj rfl (Zr rfl (Yc (Yj rfl (fun h4=>?_) (fun h4=>?_))))))))))))) <;> simp only [NM] at h4
  ·refine Yh (Ye (Yk (Yf (Yq (v:=vP) rfl (Yd (o':=133) rfl rfl rfl (Ym rfl rfl (Zaz _ ZM) rfl (Zj rfl (Zj rfl (YB rfl (.one rfl (.one rfl (.one rfl .nil))) (Wo rfl (.agg rfl .nil) (XK (c:=[(M 133),(l.getD i 0),2+(j:Int)]) rfl hrP rfl ZM (.there .here) (by decide) (by decide) rfl ((QH rfl rfl rfl)) (by have e1:=KC (M 133) (M 134) (M 135) (l.take i); rw [ZaN] at e1; have e2:=TV (M 133) (l.getD i 0) j; rw [ZaG]; omega) (fun v3 own3 n3 hr3=>Yq (v:=v3) rfl (Yc (Yf (Zj rfl (Zs rfl rfl (Zj rfl (Yc (⟨4 - (j+1),_,by omega,(ZaE (.refl _) (.cons _ (.refl _))),j+1,_,_,by omega,rfl,?_,rfl,rfl,rfl,by rw [show (2:Int)+((j+1:Nat):Int)=2+(j:Int)+1 by omega]; rfl,rfl,rfl,rfl,rfl⟩)))))))))))))))))))
   rw [RT _ _ _ (by omega),<- ZaJ]; exact hr3
  refine YX (Xe (Yf (Zs rfl rfl (Zj rfl (Yc (⟨l.length - (i+1),_,by omega,(ZaE (.refl _) (.refl _)),i+1,_,_,by omega,rfl,?_,rfl,rfl,rfl,rfl,rfl,rfl⟩))))))
  rw [wu (l:=l) (i:=i) (by omega)]
  (rw [to_end htb (by assumption) (by assumption)]; obtain rfl:j=4:=(by omega); exact hrP)
 refine YX (Xe (Ze (Yq (v:=vO) rfl (Yq (v:=vO) rfl (Yc (Yi (⟨_,YK (v:=vO) rfl (YP),?_⟩)))))))
 obtain rfl:i=l.length:=by omega
 rw [List.take_length] at hrO
 exact ⟨_,_,hrO,.here,(fun _ h=>(.tail _ h))⟩
open Go Go.Am
theorem Rn:∀ {l:List Mv} {i:Nat},i < l.length->(YY l).getD (3*i) 0=(l.getD i (0,0,0)).1/\(YY l).getD (3*i+1) 0=(l.getD i (0,0,0)).2.1/\(YY l).getD (3*i+2) 0=(l.getD i (0,0,0)).2.2
 | x::l,0,_=>⟨rfl,rfl,rfl⟩
 | x::l,i+1,h=>by
  have ih:=Rn (l:=l) (i:=i) (by simpa using h)
  have e:YY (x::l)=x.1::x.2.1::x.2.2::YY l:=rfl
  rw [e,show 3*(i+1)=3*i+1+1+1 by omega]
  exact ih
theorem mvOf_is {F:Nat->Int} {l:List Mv} {m:Nat} (hl:(YY l).length=m*3) (hF:∀ i,i < (YY l).length->F i=(YY l).getD i 0):VV (ia F) m=l:=by
 have hm:l.length=m:=by rw [Xj] at hl; omega
 unfold VV
 refine List.ext_getElem (by simp [hm]) fun i h1 h2=>?_
 rw [List.getElem_map,List.getElem_range]
 obtain ⟨e1,e2,e3⟩:=Rn h2
 have hb:3*i+2 < (YY l).length:=by rw [Xj]; omega
 rw [<- hF _ (by omega)] at e1 e2 e3
 have hg:l.getD i (0,0,0)=l[i]:=by rw [Zau,Zav h2]; rfl
 rw [hg] at e1 e2 e3
 show (F (3*i),F (3*i+1),F (3*i+2))=_
 rw [e1,e2,e3]
theorem oP (l:List Mv) (hlen:l.length<=1000000):StR AM 128 3 [] [.fn 129 []] (YY l) (YY (KI l)):=by
 have hp:=(Qo l).length_eq
 refine ⟨by rw [Xj,Xj,hp],fun _=>⟨[],?_,trivial⟩,fun m q F hl hF=>⟨_,sE (F:=F),[_],?_,rfl,⟨_,_,_,rfl⟩,trivial⟩⟩
 ·rw [VP (pf:=J7 129) rfl _ _ rfl]; rfl
 rw [VP (pf:=J7 129) rfl _ _ rfl]
 have hm:l.length=m:=by rw [Xj] at hl; omega
 have hlt:Nat.blt m 4611686018427387904=true:=ZaA (by omega)
 show (bif Xs (m*3) (fun i=>VY (ia F i))&&Nat.blt m 4611686018427387904 then some (V.tup [],[Blk.sc .grow q (ED (YY (KI (VV (ia F) m))) (ia F))]) else none)=_
 rw [allI,hlt,mvOf_is hl hF,uB]; rfl
theorem tN (P:Nat->Int):WR AM 125 [.agg 133 (ia P)] [] (fun v n L=>v=.fn 153 [.ptr 0 0 133]/\n=1/\L=[(0,.sc .var 133 (ia P))]):=by
 refine YJ (a:=a125) rfl rfl (YI _) (ZQ rfl) (m:=0) rfl (Ye (Yf (YC rfl (Yq rfl (Yc (Ye (Yf (KY rfl (Yq rfl (Yc ?_))))))))))
 exact Yi ⟨_,YK rfl YP,rfl,rfl,rfl⟩
def ww (M:Nat->Int):List Mv:=(XM M (M 133) (M 134) (M 135)).flatMap (toM (M 133) (M 134) (M 135))
def VJ (g0 g4:Nat->S) (c:Nat):List V:=[.agg 133 g0,.ptr 1 0 133,.ptr 2 0 1,.undef,.agg 133 g4,.fn 153 [.ptr c 0 133],.undef,.undef,.undef,.undef,.undef,.undef,.undef,.undef,.undef,.undef]
section
variable (g0 g4 g1:Nat->S) (Q:Nat->Int)
noncomputable def Jy (c st:Nat):Blk:=.lp 6 KB (VJ g0 g4 c) st
theorem Dz (M:Nat→Int) (ha:0≤(ovA (fun _=>0) 0 136 M) 133∧(ovA (fun _=>0) 0 136 M) 133 < 64) (hc:(ovA (fun _=>0) 0 136 M) 135=0∨(ovA (fun _=>0) 0 136 M) 135=1) (hb:∀ t∈XM (ovA (fun _=>0) 0 136 M) ((ovA (fun _=>0) 0 136 M) 133) ((ovA (fun _=>0) 0 136 M) 134) ((ovA (fun _=>0) 0 136 M) 135),0≤t∧t < 64) (hl:(XM (ovA (fun _=>0) 0 136 M) ((ovA (fun _=>0) 0 136 M) 133) ((ovA (fun _=>0) 0 136 M) 134) ((ovA (fun _=>0) 0 136 M) 135)).length≤1000) :
  WR AM 6 [.pan .undef,.yv 0,.agg 136 (ia M)] [Jy g0 g4 3 0,.sc .var 133 g1,.vs .var [.snil],.sc .var 133 (ia Q)] (fun v n L=>v=.s (.bool true)/\EN L [Jy g0 g4 3 0,.sc .var 133 g1] [.sc .var 133 (ia Q)] (YY (ww (ovA (fun _=>0) 0 136 M)))):=by
 refine Tq (N:=16) (B:=B100) (f:=YI ((VJ g0 g4 3).set 6 (.agg 136 (ia M)))) (caps:=VJ g0 g4 3) rfl rfl rfl (DK rfl) rfl (Yf (Yy (Yz rfl rfl rfl rfl .here (Yc (⟨6,KB,VJ g0 g4 3,rfl,?_⟩)))))
 refine Yk (Yg (V6 (v:=.snil) rfl rfl ZP rfl (Yo rfl rfl ZM (Yo rfl rfl ZM (Uh rfl (yK (ovA (fun _=>0) 0 136 M) ha hc) rfl rfl (fun v1 own1 n1 hr1=>E8 (caps:=[]) rfl (to_rt (ovA (fun _=>0) 0 136 M) hc _ hl hb) rfl hr1.rx (fun p hp=>ZaC _ hp) rfl rfl (fun v2 own2 n2 hr2=>?_)))))))
 have hroom:=KC ((ovA (fun _=>0) 0 136 M) 133) ((ovA (fun _=>0) 0 136 M) 134) ((ovA (fun _=>0) 0 136 M) 135) (XM (ovA (fun _=>0) 0 136 M) ((ovA (fun _=>0) 0 136 M) 133) ((ovA (fun _=>0) 0 136 M) 134) ((ovA (fun _=>0) 0 136 M) 135))
 refine EL rfl (Rw.nil rfl) rfl hr2.rx (fun p hp=>ZaC _ hp) (Dr.here (own:=[])) (by decide) (by rw [List.length_nil]; omega) (fun v3 own3 n3 hr3 hn3=>Tn (b:=2) (u:=.snil) (v:=v3) rfl rfl hr3.isrow (.appR _ (.appR _ (.appR _ (.appR _ (.there (.there (.there .here))))))) (Ur (L':=own3++[(0,.lp 6 KB (VJ g0 g4 3) 1),(1,.sc .var 133 g1),(2,.vs .var [v3]),(3,.sc .var 133 (ia Q))]) (ZaE (.refl _) (Za9 (Za9 (Za9 (.cons _ (.refl _)))))) (UD List.perm_append_comm (Yc ⟨6,KB,VJ g0 g4 3,rfl,rfl,?_⟩))))
 have h4:∀ p∈own3,4 < p.1:=fun p hp=>hn3 p hp (4,_) (Zaz _ (Zaz _ ZM))
 rw [List.nil_append] at hr3
 refine JV hr3 ⟨.head _,.tail _ ZM,.tail _ ZN,.tail _ ZO,trivial⟩ (fun p hp=>⟨.tail _ (.tail _ (.tail _ (.tail _ ?_))),Nat.le_of_lt (h4 p hp)⟩)
 show p∈setL 0 _ own3
 rw [Jo (fun p hp=>by have:=h4 p hp; omega)]; exact hp
theorem E5 (M:Nat→Int) (ha:0≤(ovA (fun _=>0) 0 136 M) 133∧(ovA (fun _=>0) 0 136 M) 133 < 64) (hc:(ovA (fun _=>0) 0 136 M) 135=0∨(ovA (fun _=>0) 0 136 M) 135=1) (hb:∀ t∈XM (ovA (fun _=>0) 0 136 M) ((ovA (fun _=>0) 0 136 M) 133) ((ovA (fun _=>0) 0 136 M) 134) ((ovA (fun _=>0) 0 136 M) 135),0≤t∧t < 64) (hl:(XM (ovA (fun _=>0) 0 136 M) ((ovA (fun _=>0) 0 136 M) 133) ((ovA (fun _=>0) 0 136 M) 134) ((ovA (fun _=>0) 0 136 M) 135)).length≤1000) (l:List Int) (m q:Nat) (F:Nat→Int) (hlm:l.length=m*3) (hF:∀ i,i < l.length→F i=l.getD i 0) (hll:l.length≤1000000) :
  WR AM 6 [.pan .undef,.yv 0,.agg 136 (ia M)] [Jy g0 g4 4 0,.sc .var 133 g1,Vw .var 3 m 3,.sc .grow q (ia F),.sc .var 133 (ia Q)] (fun v n L=>v=.s (.bool true)/\EN L [Jy g0 g4 4 0,.sc .var 133 g1] [.dead,.sc .var 133 (ia Q)] (l++YY (ww (ovA (fun _=>0) 0 136 M)))):=by
 refine Tq (N:=16) (B:=B100) (f:=YI ((VJ g0 g4 4).set 6 (.agg 136 (ia M)))) (caps:=VJ g0 g4 4) rfl rfl rfl (DK rfl) rfl (Yf (Yy (Yz rfl rfl rfl rfl .here (Yc (⟨6,KB,VJ g0 g4 4,rfl,?_⟩)))))
 refine Yk (Yg (V6 (v:=.sl 3 0 m 3 .whole) rfl rfl ZP rfl (Yo rfl rfl ZM (Yo rfl rfl ZM (Uh rfl (yK (ovA (fun _=>0) 0 136 M) ha hc) rfl rfl (fun v1 own1 n1 hr1=>E8 (caps:=[]) rfl (to_rt (ovA (fun _=>0) 0 136 M) hc _ hl hb) rfl hr1.rx (fun p hp=>ZaC _ hp) rfl rfl (fun v2 own2 n2 hr2=>?_)))))))
 have hroom:=KC ((ovA (fun _=>0) 0 136 M) 133) ((ovA (fun _=>0) 0 136 M) 134) ((ovA (fun _=>0) 0 136 M) 135) (XM (ovA (fun _=>0) 0 136 M) ((ovA (fun _=>0) 0 136 M) 133) ((ovA (fun _=>0) 0 136 M) 134) ((ovA (fun _=>0) 0 136 M) 135))
 refine EL rfl (Rw.row hlm hF) rfl hr2.rx (fun p hp=>ZaC _ hp) (.appR _ (.appR _ (.there (.there (.there (.there .here)))))) (by decide) (by omega) (fun v3 own3 n3 hr3 hn3=>Tn (b:=2) (u:=.sl 3 0 m 3 .whole) (v:=v3) rfl rfl hr3.isrow (.appR _ (.there (.appR _ (.appR _ (.appR _ (.there (.there (.there .here)))))))) (Ur (L':=own3++[(3,.dead),(0,.lp 6 KB (VJ g0 g4 4) 1),(1,.sc .var 133 g1),(2,.vs .var [v3]),(4,.sc .var 133 (ia Q))]) (ZaE (.refl _) (.cons_cons _ (Za9 (Za9 (.cons _ (.refl _)))))) (UD List.perm_append_comm (Yc ⟨6,KB,VJ g0 g4 4,rfl,rfl,?_⟩))))
 have h4:∀ p∈own3,5 < p.1:=fun p hp=>hn3 p hp (5,_) (Zaz _ (Zaz _ ZM))
 refine JV hr3 ⟨.tail _ ZM,.tail _ ZN,.tail _ ZO,.head _,.tail _ ZP,trivial⟩ (fun p hp=>⟨.tail _ (.tail _ (.tail _ (.tail _ (.tail _ ?_)))),Nat.le_of_lt (h4 p hp)⟩)
 show p∈setL 0 _ own3
 rw [Jo (fun p hp=>by have:=h4 p hp; omega)]; exact hp
end
end Go.Proofs.YtlkighkfkdpncaaGreatDoor
namespace Go.Proofs.YtlkighkfkdpncaaGreatDoor
open Go Go.Am Go.RowKit Go.Sort Go.Lib
theorem zm (x y:Mv):ltOf wA x y=decide (lt3 x y):=by
 obtain ⟨a,b,c⟩:=x
 obtain ⟨a',b',c'⟩:=y
 unfold ltOf wA or3M Lib.compareInt lt3
 refine decide_eq_decide.2 ?_
 dsimp only
 repeat' split
 all_goals omega
theorem swo3:SWO (ltOf wA) where
 irrefl x:=by rw [zm]; exact ZaT fun h=>xW x x h h
 trans x y z h1 h2:=by
  rw [zm,ZaL] at *
  unfold lt3 at *; omega
 ntrans x y z h1 h2:=by
  rw [zm,Zax] at *
  unfold lt3 at *; omega
theorem wP (l:List Mv) {i:Nat} (hi:i < l.length*3):(flatK Ea 3 l.toArray)[i]! = .int .i64 ((YY l).getD i 0):=by
 rw [get_flatK _ _ _ _ (by simpa using hi)]
 have h:=Rn (l:=l) (i:=i / 3) (by omega)
 have hg:l.toArray[i / 3]! = l.getD (i / 3) (0,0,0):=by
  rw [Zau,Zav (by omega),getElem!_pos l.toArray (i / 3) (by simp; omega)]; simp
 rw [hg]
 have h3:i % 3=0\/i % 3=1\/i % 3=2:=by omega
 rcases h3 with e | e | e
 ·rw [e,show i=3*(i / 3) by omega,show 3*(i / 3) / 3=i / 3 by omega,h.1]; rfl
 ·rw [e,show i=3*(i / 3)+1 by omega,show (3*(i / 3)+1) / 3=i / 3 by omega,h.2.1]; rfl
 rw [e,show i=3*(i / 3)+2 by omega,show (3*(i / 3)+2) / 3=i / 3 by omega,h.2.2]; rfl
section
variable {σ σ':Heap} {args:List V} {v:V} {ι:Inj} {W:World} {av:List Value}
theorem srt3_ok [Bas] (h:J7 129 args σ=some (v,σ')) (hR:RelW ι σ W) (hD:Dom ι σ) (hv:VRL ι args av) :
  Calls Tryz.prog 128 av.toArray W fun e W'=>∃ ι' v',e=.returned v'/\VR ι' v v'/\Post ι σ W ι' σ' W':=by
 have eg:∀ args w,(callFunc 129 args).run Tryz.prog w=.ok (.enter 129 args) w:=enters_of Tryz.func129 (by kernel_rfl) rfl
 unfold J7 at h
 split at h
 ·split at h
  ·injection h with h
   injection h with h1 h2
   subst h1; subst h2
   simp only [VRL,VR] at hv
   obtain ⟨_,_,rfl,rfl,_,_,rfl,⟨cs,rfl,rfl⟩,rfl⟩:=hv
   refine Calls.mono (Zap _ W) ?_
   rintro e W' ⟨rfl,rfl⟩
   exact ⟨ι,_,rfl,⟨[],rfl,rfl⟩,(QPost.refl hR).post⟩
  cases h
 ·rename_i b m f
  split at h
  ·rename_i q g hb
   cases hcond:(decide (f=129)&&(Xs (m*3) (fun i=>VY (g i))&&Nat.blt m 4611686018427387904)) with
   | false=>rw [hcond] at h; cases h
   | true =>
    rw [hcond,cond_true] at h
    injection h with h
    injection h with h1 h2
    subst h1; subst h2
    simp only [ZaM,ZaL] at hcond
    obtain ⟨rfl,hg,hm⟩:=hcond
    have hm:m < 4611686018427387904:=YF hm
    simp only [VRL,VR] at hv
    obtain ⟨_,_,rfl,⟨p,cap,hp,hle,rfl,hcap⟩,_,_,rfl,⟨cs,rfl,rfl⟩,rfl⟩:=hv
    have hB:=hR.blk b p _ hp hb
    have hlt:=hR.lt b p hp
    have hq:m*3<=q:=by have:=hB.1; omega
    have hml:(VV g m).length=m:=by simp [VV]
    have hnum:∀ i,i < m*3->(YY (VV g m)).getD i 0=Ws (g i):=fun i hi=>by
     have h:=Rn (l:=VV g m) (i:=i / 3) (by omega)
     have hg:(VV g m).getD (i / 3) (0,0,0)=(Ws (g (3*(i / 3))),Ws (g (3*(i / 3)+1)),Ws (g (3*(i / 3)+2))):=by
      unfold VV
      rw [Zau,Zbp,Zbm (by omega)]; rfl
     rw [hg] at h
     have h3:i % 3=0\/i % 3=1\/i % 3=2:=by omega
     rcases h3 with e | e | e
     ·have e':i=3*(i / 3):=by omega
      rw [e']; exact h.1
     ·have e':i=3*(i / 3)+1:=by omega
      rw [e']; exact h.2.1
     have e':i=3*(i / 3)+2:=by omega
     rw [e']; exact h.2.2
    have hH:HoldsK Ea 3 W p.c (p.base+0) (VV g m).toArray:=fun j hj=>by
     have hj:j < m*3:=by simpa [hml] using hj
     obtain ⟨c1,c2,c3⟩:=hB
     obtain ⟨hb0,hle',cs,T,hc,hs,hT⟩:=c3 rfl
     refine ⟨?_,Lib.frozen_of_heap hc _⟩
     rw [Nat.add_zero,c2 j (by omega),Dv (RA hg j hj)]
     show some _=some ((flatK Ea 3 (VV g m).toArray)[j]!)
     rw [wP _ (by rw [hml]; exact hj),hnum j hj]
    have hcon:=AnyQ.slices_SortFunc Tryz.laysSF 3 Tryz.isAgg31 Tryz.sizeOf31 Ea (fun _=>rfl) (fun x v hv=>by simp [Ea] at hv; rcases hv with rfl | rfl | rfl <;> rfl) wA swo3 129 #[] p.c (p.base+0) cap (VV g m).toArray W eg (fun _ _ _ _ x y=>rV x y _) hH hlt (by simp [hml]; exact hm)
    rw [show (VV g m).toArray.size=m by simp [hml]] at hcon
    refine Calls.mono hcon ?_
    rintro e W' ⟨rfl,d',n,os,hpm,hso,rfl⟩
    have hds:d'.size=m:=by have:=hpm.1; simpa [hml] using this
    have hperm:d'.toList.Perm (VV g m):=by
     have:=hpm.2.2
     rw [show d'.extract 0 m=d' by rw [<- hds]; simp,show (VV g m).toArray.extract 0 m=(VV g m).toArray from (by have h0:List.take m (VV g m)=VV g m:=List.take_of_length_le (by omega); simp [h0])] at this
     simpa using this
    have hsorted:d'.toList.Pairwise (fun x y=>¬ lt3 y x):=by
     rw [List.pairwise_iff_getElem]
     intro i j hi hj hij
     have:=hso i j (Zbt _) hij (by simpa [hds] using hj)
     rw [zm,Zax,getElem!_pos d' i (by simpa using hi),getElem!_pos d' j (by simpa using hj)] at this
     simpa using this
    have hd:d'.toList=KI (VV g m):=pR hperm hsorted
    have hd2:d'=(KI (VV g m)).toArray:=by rw [<- hd]
    have hsl:(KI (VV g m)).length=m:=by rw [(Qo _).length_eq,hml]
    have hrp:=wy hB id (flatK Ea 3 d') (YY (KI (VV g m))) (by simp [hds,Xj,hsl]) (by rw [Xj,hsl]; exact hq) (fun i hi=>by
     rw [hd2]
     exact wP _ (by rw [Xj] at hi; exact hi)) n os hlt
    obtain ⟨r1,r2⟩:=hrp
    refine ⟨ι,_,rfl,⟨[],rfl,rfl⟩,?_⟩
    change Post _ _ _ _ _ (Sort.grow (Sort.putRow id (Sort.ahead W n) p.c p.base (flatK Ea 3 d')) os)
    refine ka hR hp hb rfl ⟨rfl,rfl,rfl,?_⟩ r2 r1
    simp [Sort.grow,Sort.putRow,Sort.mapBlock,Sort.ahead]
  cases h
 cases h
end
end Go.Proofs.YtlkighkfkdpncaaGreatDoor
namespace Go.Proofs
open Go.Shelf
def Tryz.lays165_ren:Go.Shelf.Ren:=⟨fun | 165=>75 | 240=>83 | 241=>103 | 276=>111 | 277=>130 | n=>n,fun | 70=>49 | 3=>3 | 0=>0 | 4=>4 | 9=>9 | 20=>20 | 72=>52 | 37=>50 | 164=>145 | 5=>5 | n=>n,fun | n=>n⟩
def Tryz.lays159_ren:Go.Shelf.Ren:=⟨fun | 159=>40 | 165=>75 | 166=>46 | 167=>76 | 169=>26 | 230=>77 | 204=>78 | 240=>83 | 241=>103 | 197=>104 | 118=>105 | 168=>106 | 270=>107 | 262=>108 | 276=>111 | 277=>130 | 260=>131 | 242=>132 | 313=>133 | 278=>164 | 274=>165 | 275=>166 | n=>n,fun | 9=>9 | 4=>4 | 3=>3 | 5=>5 | 72=>52 | 0=>0 | 76=>85 | 75=>84 | 107=>118 | 70=>49 | 20=>20 | 37=>50 | 127=>102 | 21=>21 | 105=>138 | 164=>145 | 162=>167 | 203=>165 | 119=>189 | 46=>147 | 139=>192 | 138=>191 | 51=>193 | 160=>194 | 208=>217 | 206=>215 | 80=>67 | n=>n,fun | 13=>0 | 3=>2 | 4=>3 | n=>n⟩
theorem Tryz.lays159:Go.Proofs.Lays.n159 Tryz.prog Tryz.lays159_ren:={
 mixed:=by kernel_rfl
 f118:=Tryz.func105.trans (congrArg some (by kernel_rfl))
 f159:=Tryz.func40.trans (congrArg some (by kernel_rfl))
 f165:=Tryz.func75.trans (congrArg some (by kernel_rfl))
 f166:=Tryz.func46.trans (congrArg some (by kernel_rfl))
 f167:=Tryz.func76.trans (congrArg some (by kernel_rfl))
 f168:=Tryz.func106.trans (congrArg some (by kernel_rfl))
 f169:=Tryz.func26.trans (congrArg some (by kernel_rfl))
 f197:=Tryz.func104.trans (congrArg some (by kernel_rfl))
 f204:=Tryz.func78.trans (congrArg some (by kernel_rfl))
 f230:=Tryz.func77.trans (congrArg some (by kernel_rfl))
 f240:=Tryz.func83.trans (congrArg some (by kernel_rfl))
 f241:=Tryz.func103.trans (congrArg some (by kernel_rfl))
 f242:=Tryz.func132.trans (congrArg some (by kernel_rfl))
 f260:=Tryz.func131.trans (congrArg some (by kernel_rfl))
 f262:=Tryz.func108.trans (congrArg some (by kernel_rfl))
 f270:=Tryz.func107.trans (congrArg some (by kernel_rfl))
 f274:=Tryz.func165.trans (congrArg some (by kernel_rfl))
 f275:=Tryz.func166.trans (congrArg some (by kernel_rfl))
 f276:=Tryz.func111.trans (congrArg some (by kernel_rfl))
 f277:=Tryz.func130.trans (congrArg some (by kernel_rfl))
 f278:=Tryz.func164.trans (congrArg some (by kernel_rfl))
 f313:=Tryz.func133.trans (congrArg some (by kernel_rfl))
 t0:=Tryz.underlying0
 a0:=Tryz.isAgg0
 z0:=Tryz.sizeOf0
 v0:=Tryz.zeroValue0
 t3:=Tryz.underlying3
 a3:=Tryz.isAgg3
 z3:=Tryz.sizeOf3
 v3:=Tryz.zeroValue3
 t4:=Tryz.underlying4
 a4:=Tryz.isAgg4
 z4:=Tryz.sizeOf4
 v4:=Tryz.zeroValue4
 t5:=Tryz.underlying5
 a5:=Tryz.isAgg5
 z5:=Tryz.sizeOf5
 v5:=Tryz.zeroValue5
 t9:=Tryz.underlying9
 a9:=Tryz.isAgg9
 z9:=Tryz.sizeOf9
 v9:=Tryz.zeroValue9
 t20:=Tryz.underlying20
 a20:=Tryz.isAgg20
 z20:=Tryz.sizeOf20
 v20:=Tryz.zeroValue20
 t21:=Tryz.underlying21
 a21:=Tryz.isAgg21
 z21:=Tryz.sizeOf21
 v21:=Tryz.zeroValue21
 t37:=Tryz.underlying50
 a37:=Tryz.isAgg50
 z37:=Tryz.sizeOf50
 v37:=Tryz.zeroValue50
 t46:=Tryz.underlying147
 a46:=Tryz.isAgg147
 z46:=Tryz.sizeOf147
 v46:=Tryz.zeroValue147
 t51:=Tryz.underlying193
 a51:=Tryz.isAgg193
 z51:=Tryz.sizeOf193
 v51:=Tryz.zeroValue193
 t70:=Tryz.underlying49
 a70:=Tryz.isAgg49
 z70:=Tryz.sizeOf49
 v70:=Tryz.zeroValue49
 t72:=Tryz.underlying52
 a72:=Tryz.isAgg52
 z72:=Tryz.sizeOf52
 v72:=Tryz.zeroValue52
 t75:=Tryz.underlying84
 a75:=Tryz.isAgg84
 z75:=Tryz.sizeOf84
 v75:=Tryz.zeroValue84
 t76:=Tryz.underlying85
 a76:=Tryz.isAgg85
 z76:=Tryz.sizeOf85
 v76:=Tryz.zeroValue85
 t105:=Tryz.underlying138
 a105:=Tryz.isAgg138
 z105:=Tryz.sizeOf138
 v105:=Tryz.zeroValue138
 t107:=Tryz.underlying118
 a107:=Tryz.isAgg118
 z107:=Tryz.sizeOf118
 v107:=Tryz.zeroValue118
 t119:=Tryz.underlying189
 a119:=Tryz.isAgg189
 z119:=Tryz.sizeOf189
 t127:=Tryz.underlying102
 a127:=Tryz.isAgg102
 z127:=Tryz.sizeOf102
 v127:=Tryz.zeroValue102
 t138:=Tryz.underlying191
 a138:=Tryz.isAgg191
 z138:=Tryz.sizeOf191
 v138:=Tryz.zeroValue191
 t139:=Tryz.underlying192
 a139:=Tryz.isAgg192
 z139:=Tryz.sizeOf192
 v139:=Tryz.zeroValue192
 t160:=Tryz.underlying194
 a160:=Tryz.isAgg194
 z160:=Tryz.sizeOf194
 v160:=Tryz.zeroValue194
 t162:=Tryz.underlying167
 a162:=Tryz.isAgg167
 z162:=Tryz.sizeOf167
 v162:=Tryz.zeroValue167
 t164:=Tryz.underlying145
 a164:=Tryz.isAgg145
 z164:=Tryz.sizeOf145
 v164:=Tryz.zeroValue145
 t203:=Tryz.underlying165
 a203:=Tryz.isAgg165
 z203:=Tryz.sizeOf165
 v203:=Tryz.zeroValue165
 t206:=Tryz.underlying215
 a206:=Tryz.isAgg215
 z206:=Tryz.sizeOf215
 v206:=Tryz.zeroValue215
 t208:=Tryz.underlying217
 a208:=Tryz.isAgg217
 z208:=Tryz.sizeOf217
 v208:=Tryz.zeroValue217
 g3:=by kernel_rfl
 g4:=by kernel_rfl
 g13:=by kernel_rfl }
theorem Tryz.Builder_Extra_159:Builder.Extra Tryz.prog Tryz.lays159_ren:={
 sizeBuilder:=by kernel_rfl
 liesBuilder:=by kernel_rfl
 t5:=Tryz.underlying5
 a5:=Tryz.isAgg5
 z5:=Tryz.sizeOf5
 v5:=Tryz.zeroValue5
 infoByte:=by kernel_rfl
 cellsByte:=by kernel_rfl
 sizeByte:=by kernel_rfl
 neB5:=by decide }
open Go.RowKit in
theorem Tryz.strings_ToLower_ascii (s:ByteArray) (w:World) (hs:s.size<=140737488355328) (hascii:∀ (j:Nat) (b:UInt8),s.data.toList[j]? = some b->b.toNat < 128) :
 Calls Tryz.prog 40 #[.string s] w fun e w'=>e=.returned (.string ⟨(Lib.toLowerA s.data.toList).toArray⟩)/\Below w.heap.size w w':=Any.strings_ToLower_ascii Tryz.lays159 Tryz.Builder_Extra_159 s w hs hascii
def Tryz.lays137_ren:Go.Shelf.Ren:=⟨fun | 137=>82 | 217=>110 | 266=>135 | n=>n,fun | 9=>9 | 5=>5 | 3=>3 | n=>n,fun | n=>n⟩
theorem Tryz.lays137:Go.Proofs.Lays.n137 Tryz.prog Tryz.lays137_ren:={
 mixed:=by kernel_rfl
 f137:=Tryz.func82.trans (congrArg some (by kernel_rfl))
 f217:=Tryz.func110.trans (congrArg some (by kernel_rfl))
 f266:=Tryz.func135.trans (congrArg some (by kernel_rfl))
 t3:=Tryz.underlying3
 a3:=Tryz.isAgg3
 z3:=Tryz.sizeOf3
 v3:=Tryz.zeroValue3
 t5:=Tryz.underlying5
 a5:=Tryz.isAgg5
 z5:=Tryz.sizeOf5
 v5:=Tryz.zeroValue5
 t9:=Tryz.underlying9
 a9:=Tryz.isAgg9
 z9:=Tryz.sizeOf9
 v9:=Tryz.zeroValue9 }
open Go.RowKit in
theorem Tryz.strings_IndexByte (s:ByteArray) (c:Int) (w:World) :
 Calls Tryz.prog 82 #[.string s,.int .u8 c] w fun e w'=>e=.returned (.int .i64 (Lib.indexByte s.data.toList c.toNat.toUInt8))/\w'=w:=Any.strings_IndexByte Tryz.lays137 s c w
end Go.Proofs
namespace Go.Proofs
open Go Go.Shelf Go.RowKit
set_option maxHeartbeats 1000000 in
set_option maxRecDepth 100000 in
theorem Tryz.copyFresh (b:Nat) (w:World) (h0:w.cell? ⟨b,0,none⟩=some (.pointer none)) (hsh:w.shape? b=some (54,2)) (hfz:w.frozen? ⟨b,0,none⟩=false) :
  Calls Tryz.prog 83 #[.pointer (some ⟨b,0,none⟩)] w fun e w'=>e=.returned (.tuple #[])/\w'=w.setCell ⟨b,0,none⟩ (.pointer (some ⟨b,0,none⟩)):=by
 have hl:liesAt Tryz.prog Tryz.prog.depth 54 (2 / Tryz.prog.cellsOf 54) 0 52 1=true:=by kernel_rfl
 obtain ⟨j,hj,hjs⟩:=Go.Am.Zay.1 Tryz.Builder_Extra_159.sizeBuilder
 have hj':Tryz.prog.info? 52=some j:=hj
 have mixed:=Tryz.lays159.mixed
 go_enter Tryz.func83,Tryz.ntmps83
 go_wp2
 rw [Lib.run_to_unsafe w ⟨b,0,none⟩ (show Tryz.prog.underlying 49=some (.pointer 52) from Tryz.lays159.t70) (show Tryz.prog.underlying 145=some .unsafePointer from Tryz.lays159.t164) hj' (by rw [hjs]; decide) hsh (Nat.zero_lt_succ 1)]
 simp only [Result.andThen]
 rw [Oper.upon_value]
 go_wp2
 rw [run_callFunc_extern Tryz.func111 (by kernel_rfl) (by kernel_rfl) (by kernel_rfl) (e:=Extern.AbiNoEscape.same) (by kernel_rfl)]
 rw [Lib.run_noEscape]
 simp only [Result.andThen]
 rw [Oper.upon_value]
 go_wp2
 rw [Lib.run_from_unsafe w ⟨b,0,none⟩ (show Tryz.prog.underlying 145=some .unsafePointer from Tryz.lays159.t164) (show Tryz.prog.underlying 49=some (.pointer 52) from Tryz.lays159.t70) hj' hsh hl]
 simp only [Result.andThen]
 rw [Oper.upon_value]
 go_wp2
 go_end0
 exact ⟨rfl,rfl⟩
theorem Tryz.copyUsed (b:Nat) (w:World) (h0:w.cell? ⟨b,0,none⟩=some (.pointer (some ⟨b,0,none⟩))) :
  Calls Tryz.prog 83 #[.pointer (some ⟨b,0,none⟩)] w fun e w'=>e=.returned (.tuple #[])/\w'=w :=
 Any.Builder_copyCheck_used (ρ:=Tryz.lays159_ren) { Tryz.lays159 with } Tryz.Builder_Extra_159.toX72 b w h0
set_option maxHeartbeats 1000000 in
set_option maxRecDepth 100000 in
theorem Tryz.readAll (b g cap:Nat) (p:Value) (cur:Array Value) (l:List UInt8) (w:World) (hbk:w.heap[b]? = some (.cells #[p,.slice (some ⟨g,0,none⟩) l.length cap] 54 (0,0))) (hg:w.heap[g]? = some (.cells cur 5 (0,0)))
  (h0:l≠[]) (hc:l.length<=cap) (hm:l.length<=maxLen) (hcs:cur.size=cap) (hl:∀ (j:Nat) x,l[j]? = some x->cur[j]? = some (.int .u8 x.toNat)) :
  Calls Tryz.prog 26 #[.pointer (some ⟨b,0,none⟩)] w fun e w'=>e=.returned (.string ⟨l.toArray⟩)/\w'=w.drew.freeze ⟨g,0,none⟩ l.length:=by
 have hl0:l.length≠0:=by simpa using h0
 have c1:w.drew.cell? ⟨b,1,none⟩=some (.slice (some ⟨g,0,none⟩) l.length cap):=by
  have:w.drew.heap[b]? = some (.cells #[p,.slice (some ⟨g,0,none⟩) l.length cap] 54 (0,0)):=hbk
  rw [Lib.cell_of_heap this]; rfl
 have hSD:(Builtin.unsafeSliceData_ #[50] 102 #[.slice (some ⟨g,0,none⟩) l.length cap]).run Tryz.prog w.drew=.ok (.pointer (some ⟨g,0,none⟩)) w.drew :=
  Lib.run_unsafeSliceData_row _ _ _ _ _ _ (by omega)
 have hUS:(Builtin.unsafeString_ #[102,3] 9 #[.pointer (some ⟨g,0,none⟩),.int .i64 l.length]).run Tryz.prog w.drew=.ok (.string ⟨l.toArray⟩) (w.drew.freeze ⟨g,0,none⟩ l.length):=by
  refine Lib.run_unsafeString_row w.drew 102 3 9 5 Tryz.underlying102 Tryz.Builder_Extra_159.cellsByte g cur.size (by have hg':w.drew.heap[g]? = some (.cells cur 5 (0,0)):=hg; simp [World.shape?,hg']) l h0 (by omega) (by unfold maxLen at hm; omega) ?_
  intro j x hx
  have hg':w.drew.heap[g]? = some (.cells cur 5 (0,0)):=hg
  have ea:Addr.add ⟨g,0,none⟩ j=⟨g,j,none⟩:=by
   unfold Addr.add
   split
   ·rename_i h; rw [h]
   simp
  rw [ea,Lib.cell_of_heap hg']
  exact hl j x hx
 have mixed:=Tryz.lays159.mixed
 go_enter Tryz.func26,Tryz.ntmps26
 go_wp2
 go_region_o
 all_goals (go_wp2; go_ret; exact ⟨rfl,rfl⟩)
end Go.Proofs
namespace Go.Proofs
open Go Go.Shelf Go.RowKit
set_option maxHeartbeats 1000000 in
set_option maxRecDepth 100000 in
theorem Tryz.readNone (b:Nat) (p:Value) (w:World) (hbk:w.heap[b]? = some (.cells #[p,.slice none 0 0] 54 (0,0))) :
  Calls Tryz.prog 26 #[.pointer (some ⟨b,0,none⟩)] w fun e w'=>e=.returned (.string ⟨#[]⟩)/\w'=w.drew:=by
 have c1:w.drew.cell? ⟨b,1,none⟩=some (.slice none 0 0):=by
  have:w.drew.heap[b]? = some (.cells #[p,.slice none 0 0] 54 (0,0)):=hbk
  rw [Lib.cell_of_heap this]; rfl
 have hSD:(Builtin.unsafeSliceData_ #[50] 102 #[.slice none 0 0]).run Tryz.prog w.drew=.ok (.pointer none) w.drew:=Lib.run_unsafeSliceData_nil _ _ _ _ _
 have hUS:(Builtin.unsafeString_ #[102,3] 9 #[.pointer none,.int .i64 0]).run Tryz.prog w.drew=.ok (.string ⟨#[]⟩) w.drew:=Lib.run_unsafeString_none _ _ _ _ _
 have mixed:=Tryz.lays159.mixed
 go_enter Tryz.func26,Tryz.ntmps26
 go_wp2
 go_region_o
 all_goals (go_wp2; go_ret; exact ⟨rfl,rfl⟩)
end Go.Proofs
namespace Go.Proofs.YtlkighkfkdpncaaGreatDoor
open Go Go.Am Go.RowKit
theorem y8 [Bas] {ι:Inj} {σ:Heap} {W W':World} (hR:RelW ι σ W) (hb:Below W.heap.size W W'):Post ι σ W ι σ W' :=
 QPost.post ⟨⟨hb.os,hb.tape,hb.output,hb.size⟩,.refl ι,⟨fun b p h=>ZaH (hR.lt b p h) hb.size,fun b p x h hx=>(hR.blk b p x h hx).keep (.refl ι) (hb.block _ (hR.lt b p h)),hR.sep,hR.gap,ZaZ hR.bsz hb.size,fun c hc=>(hb.block c (ZaH hc hR.bsz)).trans (hR.bas c hc)⟩,⟨[],by simp⟩,fun c hc=>hb.block c hc,fun b p h hn=>by rw [h] at hn; cases hn⟩
section
variable {σ σ':Heap} {args:List V} {v:V} {ι:Inj} {W:World} {av:List Value}
theorem idx_ok [Bas] (h:wd args σ=some (v,σ')) (hR:RelW ι σ W) (hv:VRL ι args av) :
  Calls Tryz.prog 82 av.toArray W fun e W'=>∃ ι' v',e=.returned v'/\VR ι' v v'/\Post ι σ W ι' σ' W':=by
 unfold wd at h
 split at h
 ·injection h with h
  injection h with h1 h2
  subst h1; subst h2
  simp only [VRL,VR,S.val] at hv
  obtain ⟨_,_,rfl,rfl,_,_,rfl,rfl,rfl⟩:=hv
  refine (Tryz.strings_IndexByte _ _ W).mono ?_
  rintro e W' ⟨rfl,rfl⟩
  exact ⟨ι,_,rfl,by simp only [VR,S.val],(QPost.refl hR).post⟩
 cases h
theorem low_one {c:UInt8} (h0:65<=c.toNat) (h1:c.toNat<=90):Lib.toLowerA [c]=[c+32]:=by
 have h:∀ k:Fin 26,Lib.toLowerA [UInt8.ofNat (k.val+65)]=[UInt8.ofNat (k.val+65)+32]:=by decide +kernel
 have:=h ⟨c.toNat - 65,by omega⟩
 simp only at this
 rw [show c.toNat - 65+65=c.toNat by omega,UInt8.ofNat_toNat] at this
 exact this
theorem low_ok [Bas] (h:zj args σ=some (v,σ')) (hR:RelW ι σ W) (hv:VRL ι args av) :
  Calls Tryz.prog 40 av.toArray W fun e W'=>∃ ι' v',e=.returned v'/\VR ι' v v'/\Post ι σ W ι' σ' W':=by
 unfold zj at h
 split at h
 ·rename_i t
  split at h
  ·rename_i h0
   injection h with h
   injection h with h1 h2
   subst h1; subst h2
   simp only [VRL,VR,S.val] at hv
   obtain ⟨_,_,rfl,rfl,rfl⟩:=hv
   have ht:t=⟨#[]⟩:=by
    obtain ⟨⟨l⟩⟩:=t
    match l,h0 with
    | [],_=>rfl
   rw [ht]
   refine (Tryz.strings_ToLower_ascii ⟨#[]⟩ W (by decide) (fun j b hj=>by simp at hj)).mono ?_
   rintro e W' ⟨rfl,hbl⟩
   exact ⟨ι,_,rfl,rfl,y8 hR hbl⟩
  split at h
  ·rename_i hb
   injection h with h
   injection h with h1 h2
   subst h1; subst h2
   simp only [VRL,VR,S.val] at hv
   obtain ⟨_,_,rfl,rfl,rfl⟩:=hv
   have ht:t=⟨#[t.data.getD 0 0]⟩:=by
    obtain ⟨⟨l⟩⟩:=t
    match l,hb.1 with
    | [x],_=>rfl
   obtain ⟨c,hc⟩:∃ c,c=t.data.getD 0 0:=⟨_,rfl⟩
   rw [<- hc] at ht hb ⊢
   rw [ht]
   refine (Tryz.strings_ToLower_ascii ⟨#[c]⟩ W (by simp [ByteArray.size]) (fun j b hj=>?_)).mono ?_
   ·match j,hj with
    | 0,hj=>simp at hj; subst hj; omega
    | j+1,hj=>simp at hj
   rintro e W' ⟨rfl,hbl⟩
   exact ⟨ι,_,rfl,by simp only [VR,S.val]; exact congrArg (fun l:List UInt8=>Value.string ⟨l.toArray⟩) (low_one hb.2.1 hb.2.2),y8 hR hbl⟩
  cases h
 cases h
theorem xY {t:TypeId} {b:Nat} {x y:V} {p:Am.Place} [Bas] (hR:RelW ι σ W) (hp:ι b=some p) (hb:σ[b]? = some (.vs (.ty t) [x,y])) :
  p.base=0/\p.n=2/\∃ u0 u1,W.heap[p.c]? = some (.cells #[u0,u1] t (0,0))/\VR ι x u0/\VR ι y u1:=by
 obtain ⟨h1,h2,h3⟩:=hR.blk b p _ hp hb
 obtain ⟨hb0,hle,cs,T,hc,hs,hT,hsz⟩:=h3 rfl
 obtain rfl:T=t:=hT
 have hn:p.n=2:=h1.symm
 have h0:=h2 0 x rfl
 have h1':=h2 1 y rfl
 obtain ⟨u0,hu0,r0⟩:=h0
 obtain ⟨u1,hu1,r1⟩:=h1'
 have hcs:cs.size=2:=by omega
 rw [hb0] at hu0 hu1
 rw [Lib.cell_of_heap hc] at hu0 hu1
 obtain ⟨l⟩:=cs
 match l,hcs with
 | [a,c],_ =>
  simp at hu0 hu1
  subst hu0; subst hu1
  exact ⟨hb0,hn,a,c,hc,r0,r1⟩
theorem copy_ok [Bas] (h:Rf 54 args σ=some (v,σ')) (hR:RelW ι σ W) (hv:VRL ι args av) :
  Calls Tryz.prog 83 av.toArray W fun e W'=>∃ ι' v',e=.returned v'/\VR ι' v v'/\Post ι σ W ι' σ' W':=by
 unfold Rf at h
 split at h
 ·rename_i b
  simp only [VRL,VR] at hv
  obtain ⟨_,_,rfl,⟨p,hp,hz,rfl⟩,rfl⟩:=hv
  split at h
  ·rename_i t x hb
   split at h
   ·rename_i ht
    subst ht
    injection h with h
    injection h with h1 h2
    subst h1; subst h2
    obtain ⟨hb0,hn,u0,u1,hc,r0,r1⟩:=xY hR hp hb
    simp only [VR] at r0
    subst r0
    rw [hb0,ZaY]
    refine (Tryz.copyFresh p.c W (by rw [Lib.cell_of_heap hc]; rfl) (by simp [World.shape?,hc]) (Lib.frozen_of_heap hc 0)).mono ?_
    rintro e W' ⟨rfl,rfl⟩
    have hw:(W.setCell ⟨p.c,0,none⟩ (.pointer (some ⟨p.c,0,none⟩))).heap[p.c]? = some (.cells #[.pointer (some ⟨p.c,0,none⟩),u1] 54 (0,0)):=by
     simp [World.setCell,Array.getElem?_modify,hc]
    refine ⟨ι,_,rfl,⟨[],rfl,rfl⟩,QC hR hp hb rfl ⟨rfl,rfl,rfl,by simp⟩ (fun c hne=>by simp [World.setCell,Array.getElem?_modify,Ne.symm hne]) ⟨hn.symm,fun i y hy=>?_,fun _=>⟨hb0,by have:=hR.blk b p _ hp hb; obtain ⟨_,_,h3⟩:=this; exact (h3 rfl).2.1,_,_,hw,?_,rfl,?_⟩⟩⟩
    ·rw [hb0,ZaY,Lib.cell_of_heap hw]
     match i,hy with
     | 0,hy=>simp at hy; subst hy; exact ⟨_,rfl,by simp only [VR]; exact ⟨p,hp,hz,by rw [hb0]; rfl⟩⟩
     | 1,hy=>simp at hy; subst hy; exact ⟨_,rfl,r1⟩
     | i+2,hy=>simp at hy
    ·obtain ⟨_,_,h3⟩:=hR.blk b p _ hp hb
     obtain ⟨_,_,cs,T,hc2,hs,_,hsz⟩:=h3 rfl
     rw [hsz,hn]; rfl
    obtain ⟨_,_,h3⟩:=hR.blk b p _ hp hb
    obtain ⟨_,_,cs,T,hc2,hs,_,hsz⟩:=h3 rfl
    exact hsz
   cases h
  ·rename_i t c x hb
   split at h
   ·rename_i ht
    obtain ⟨rfl,rfl⟩:=ht
    injection h with h
    injection h with h1 h2
    subst h1; subst h2
    obtain ⟨hb0,hn,u0,u1,hc,r0,r1⟩:=xY hR hp hb
    simp only [VR] at r0
    obtain ⟨p',hp',_,rfl⟩:=r0
    rw [hp] at hp'
    injection hp' with hp'
    subst hp'
    rw [hb0,ZaY]
    rw [hb0] at hc
    refine (Tryz.copyUsed p.c W (by rw [Lib.cell_of_heap hc]; rfl)).mono ?_
    rintro e W' ⟨rfl,rfl⟩
    exact ⟨ι,_,rfl,⟨[],rfl,rfl⟩,(QPost.refl hR).post⟩
   cases h
  cases h
 cases h
theorem sb {x:S} (h:Rs x=true):x.val=.int .u8 (UInt8.ofNat (Am.byteOf x)).toNat:=by
 cases x with
 | int k n =>
  cases k <;> simp [Rs] at h
  have:(UInt8.ofNat n.toNat).toNat=n.toNat:=by
   rw [UInt8.toNat_ofNat']
   omega
  simp only [Am.byteOf,S.val,this]
  rw [Int.toNat_of_nonneg h.1]
 | bool b=>simp [Rs] at h
 | str s=>simp [Rs] at h
theorem str_ok [Bas] (h:TA 54 5 args σ=some (v,σ')) (hR:RelW ι σ W) (hv:VRL ι args av) :
  Calls Tryz.prog 26 av.toArray W fun e W'=>∃ ι' v',e=.returned v'/\VR ι' v v'/\Post ι σ W ι' σ' W':=by
 unfold TA at h
 split at h
 ·rename_i b
  simp only [VRL,VR] at hv
  obtain ⟨_,_,rfl,⟨p,hp,hz,rfl⟩,rfl⟩:=hv
  split at h
  ·rename_i t x g m hb
   split at h
   ·rename_i e q f hg
    split at h
    ·rename_i ht
     obtain ⟨rfl,rfl,hm0,hm,hall⟩:=ht
     injection h with h
     injection h with h1 h2
     subst h1; subst h2
     obtain ⟨hb0,hn,u0,u1,hc,r0,r1⟩:=xY hR hp hb
     simp only [VR,Jz] at r1
     obtain ⟨pg,cap,hpg,hle,rfl,_,hgb,hcp,hmc,hcs,hmn⟩:=r1
     obtain ⟨hq,hcell,hown⟩:=hR.blk g pg _ hpg hg
     obtain ⟨_,_,cur,T,hgc,hcz,hT⟩:=hown rfl
     obtain rfl:T=5:=hT
     rw [hb0,ZaY]
     rw [hgb,ZaY] at hc
     have hlen:(Vn f m).length=m:=by simp [Vn]
     refine (Tryz.readAll p.c pg.c cap u0 cur (Vn f m) W (by rw [hlen]; exact hc) hgc (fun e=>hm0 (by rw [<- hlen,e]; rfl)) (by omega) (by unfold maxLen; omega) (by omega) (fun j y hy=>?_)).mono ?_
     ·have hj:j < m:=by
       rw [<- hlen]
       exact (List.getElem?_eq_some_iff.1 hy).1
      have h1:=hcell j (by omega)
      rw [hgb,ZaY,Lib.cell_of_heap hgc] at h1
      rw [h1,sb (ZaO.1 hall j (ZaU.2 hj))]
      have:(Vn f m)[j]? = some (UInt8.ofNat (Am.byteOf (f j))):=by simp [Vn,hj]
      rw [this] at hy
      injection hy with hy
      rw [hy]
     rintro e W' ⟨rfl,rfl⟩
     have hk:∀ c,c≠pg.c->(W.drew.freeze ⟨pg.c,0,none⟩ (Vn f m).length).heap[c]? = W.heap[c]?:=fun c hne=>by
      unfold World.freeze
      rw [Za7 (by rw [hlen]; exact hm0)]
      simp only [Array.getElem?_modify]
      rw [Za7 (Ne.symm hne)]
      rfl
     have hs:(W.drew.freeze ⟨pg.c,0,none⟩ (Vn f m).length).heap.size=W.heap.size:=by
      unfold World.freeze
      split
      ·rfl
      simp
     have ho:(W.drew.freeze ⟨pg.c,0,none⟩ (Vn f m).length).os=W.os/\(W.drew.freeze ⟨pg.c,0,none⟩ (Vn f m).length).tape=W.tape/\(W.drew.freeze ⟨pg.c,0,none⟩ (Vn f m).length).output=W.output:=by
      unfold World.freeze
      split <;> exact ⟨rfl,rfl,rfl⟩
     exact ⟨ι,_,rfl,rfl,QC hR hpg hg rfl ⟨ho.1,ho.2.1,ho.2.2,by rw [hs]; exact Za1 _⟩ hk trivial⟩
    cases h
   cases h
  ·rename_i t x hb
   split at h
   ·rename_i ht
    subst ht
    injection h with h
    injection h with h1 h2
    subst h1; subst h2
    obtain ⟨hb0,hn,u0,u1,hc,r0,r1⟩:=xY hR hp hb
    simp only [VR] at r1
    subst r1
    rw [hb0,ZaY]
    refine (Tryz.readNone p.c u0 W hc).mono ?_
    rintro e W' ⟨rfl,rfl⟩
    exact ⟨ι,_,rfl,rfl,(QPost.refl hR.toDrew).ofDrew.post⟩
   cases h
  cases h
 cases h
end
end Go.Proofs.YtlkighkfkdpncaaGreatDoor
set_option maxRecDepth 100000
namespace Go.Proofs.YtlkighkfkdpncaaGreatDoor
open Go Go.Am Go.RowKit
theorem primsOK [Bas]:zg Tryz.prog AM:=fun f pf hb args σ v σ' h=>by
 have hb:tG f=some pf:=hb
 unfold tG primL at hb
 simp only [tQ] at hb
 cases h0:Nat.beq f 175 with
 | true =>
  rw [h0,cond_true] at hb; injection hb with hb; subst hb
  obtain rfl:=Zbh h0
  exact ⟨⟨_,Tryz.func175,by kernel_rfl,by decide⟩,fun ι W av hR hD hv=>srt_ok h hR hD hv⟩
 | false =>
 rw [h0,cond_false] at hb
 skip
 cases h0:Nat.beq f 128 with
 | true =>
  rw [h0,cond_true] at hb; injection hb with hb; subst hb
  obtain rfl:=Zbh h0
  exact ⟨⟨_,Tryz.func128,by kernel_rfl,by decide⟩,fun ι W av hR hD hv=>srt3_ok h hR hD hv⟩
 | false =>
 rw [h0,cond_false] at hb
 skip
 cases h0:Nat.beq f 156 with
 | true =>
  rw [h0,cond_true] at hb; injection hb with hb; subst hb
  obtain rfl:=Zbh h0
  exact ⟨⟨_,Tryz.func156,by kernel_rfl,by decide⟩,fun ι W av hR hD hv=>del_ok h hR hD hv⟩
 | false =>
 rw [h0,cond_false] at hb
 skip
 cases h0:Nat.beq f 167 with
 | true =>
  rw [h0,cond_true] at hb; injection hb with hb; subst hb
  obtain rfl:=Zbh h0
  exact ⟨⟨_,Tryz.func167,by kernel_rfl,by decide⟩,fun ι W av hR hD hv=>grw_ok h hR hD hv⟩
 | false =>
 rw [h0,cond_false] at hb
 skip
 cases h0:Nat.beq f 82 with
 | true =>
  rw [h0,cond_true] at hb; injection hb with hb; subst hb
  obtain rfl:=Zbh h0
  exact ⟨⟨_,Tryz.func82,by kernel_rfl,by decide⟩,fun ι W av hR _ hv=>idx_ok h hR hv⟩
 | false =>
 rw [h0,cond_false] at hb
 skip
 cases h0:Nat.beq f 40 with
 | true =>
  rw [h0,cond_true] at hb; injection hb with hb; subst hb
  obtain rfl:=Zbh h0
  exact ⟨⟨_,Tryz.func40,by kernel_rfl,by decide⟩,fun ι W av hR _ hv=>low_ok h hR hv⟩
 | false =>
 rw [h0,cond_false] at hb
 skip
 cases h0:Nat.beq f 83 with
 | true =>
  rw [h0,cond_true] at hb; injection hb with hb; subst hb
  obtain rfl:=Zbh h0
  exact ⟨⟨_,Tryz.func83,by kernel_rfl,by decide⟩,fun ι W av hR _ hv=>copy_ok h hR hv⟩
 | false =>
 rw [h0,cond_false] at hb
 skip
 cases h0:Nat.beq f 26 with
 | true =>
  rw [h0,cond_true] at hb; injection hb with hb; subst hb
  obtain rfl:=Zbh h0
  exact ⟨⟨_,Tryz.func26,by kernel_rfl,by decide⟩,fun ι W av hR _ hv=>str_ok h hR hv⟩
 | false =>
 rw [h0,cond_false] at hb
 cases hb
theorem runOK [Bas]:WM Tryz.prog (Run AM):=run_ok fnsOK primsOK (by kernel_rfl) bodsOK
end Go.Proofs.YtlkighkfkdpncaaGreatDoor
namespace Go.Proofs.YtlkighkfkdpncaaGreatDoor
open Go Go.Am Go.ChangeShapes Go.WideShapes Go.ChangeAt Go.RowKit
theorem Tryz.own:ownKnob Tryz.prog.godebug=none:=by kernel_rfl
theorem Tryz.laidOut:laidOutB Tryz.prog=true:=by kernel_rfl
abbrev Ey : List (String × DataW Unit) := [("unicode/utf8.acceptRanges", Rows.laid_unicode_utf8_acceptRanges), ("unicode.CaseRanges", Rows.laid_unicode_CaseRanges), ("unicode/utf8.first", Rows.laid_unicode_utf8_first)]
@[reducible] def basOf (W:World):Bas:={ w:=W }
theorem Zaq (os:Os) (args:Array Value):laidMetH Tryz.prog Ey ((World.laidAll Tryz.prog os Ey).forCall (fun _ _=>0) ⟨#[],args,[]⟩).memory:=by
 rw [MakeChecks.laidMetH_plain _ _ _ (by kernel_rfl)]
 exact laidMet_laidAll _ (by kernel_rfl) (by kernel_rfl)
def zeros (n:Nat):Value:=.agg (Array.replicate n (.int .i64 0))
open Go Go.Am
theorem uK (own:Bool):BC AM own 83 [] 54 (.tup []):=by
 refine ⟨[.vs (.ty 54) [.ptr 0 0 2,.snil]],?_,rfl⟩
 refine (VP (A:=AM) (pf:=Rf 54) rfl _ _ rfl).trans ?_
 cases own <;> rfl
theorem copy_BU (m:Nat) (g:Nat->S):BU AM 83 [] 54 5 m g (.tup []):=by
 refine ⟨[.vs (.ty 54) [.ptr 0 0 2,.sl 1 0 m 1 .whole],.sc (.gty 5) m g],?_,rfl,rfl⟩
 refine (VP (A:=AM) (pf:=Rf 54) rfl _ _ rfl).trans ?_
 rfl
theorem t7 (s:ByteArray):Vn (Wh s) s.size=s.data.toList:=by
 refine List.ext_getElem (by simp [Vn]) fun i h1 h2=>?_
 have hi:i < s.data.size:=by simpa using h2
 simp only [Vn,List.getElem_map,List.getElem_range,Wh,Am.byteOf,Array.getElem_toList]
 rw [Zba,Zbd hi,Option.getD_some]
 simp
theorem ok_strS (s:ByteArray) (m:Nat):(List.range m).all (fun i=>Rs (Wh s i))=true:=by
 rw [ZaO]
 intro i _
 simp only [Wh,Rs,ZaL]
 have:=(s.data.getD i 0).toNat_lt
 omega
theorem yG (s:ByteArray) (h0:s.size≠0) (h1:s.size<=140737488355328):BE AM 26 [] 54 5 s.size (Wh s) (.s (.str s)):=by
 refine ⟨[.vs (.ty 54) [.ptr 0 0 2,.sl 1 0 s.size 1 .whole],.dead],?_,rfl,rfl⟩
 refine (VP (A:=AM) (pf:=TA 54 5) rfl _ _ rfl).trans ?_
 simp only [TA,List.getElem?_cons_zero,List.getElem?_cons_succ]
 rw [Za8 ⟨trivial,trivial,h0,h1,ok_strS s _⟩,t7]
 rfl
theorem Ek (own:Bool) (t:ByteArray) (h0:t.size≠0) (hr:t.size<=140737488355328):BN AM own 46 [.s (.str t)] 54 5 (.tup [.s (.int .i64 t.size),.inil]) t.size (Wh t):=by
 suffices h:WR AM 46 [.ptr 0 0 2,.s (.str t)] [.vs (.ty 54) [KX own 0,.snil]] (fun v _ L=>v=.tup [.s (.int .i64 t.size),.inil]/\(0,Blk.vs (.ty 54) [.ptr 0 0 2,.sl 1 0 t.size 1 .whole])∈L/\(1,Blk.sc (.gty 5) t.size (Wh t))∈L) by
  obtain ⟨v,σ',n',L',h1,h2,rfl,h3,h4⟩:=h
  exact ⟨σ',1,h1,(h2.2.mem h3).2,Za1 _,(h2.2.mem h4).2⟩
 refine YJ (a:=a46) rfl rfl (YI _) (ZQ rfl) (m:=1) rfl (Ye (Yf (Yq rfl (Yq rfl (Yc (Ye (Yf (Yq rfl (wC (own:=own) (uK own) rfl rfl rfl rfl .here (Yc (Ye (Yf (Yq rfl (Yq rfl (YM rfl (Zz rfl (V6 rfl rfl ZM rfl (Yq rfl (gF (t:=t) rfl rfl h0 (by simpa [XV] using hr) (YM rfl (Zz rfl (jG rfl rfl rfl rfl rfl rfl rfl rfl (.there .here) (Yc (Ye (Yf (Yq rfl (wc rfl (Yq rfl (Yq rfl (Yc (Yi ?_)))))))))))))))))))))))))))))))
 exact ⟨_,YK rfl (YK rfl YP),rfl,.tail _ ZM,.head _⟩
theorem Ui (s t:ByteArray) (hr:s.size+t.size<=140737488355328):BW AM 46 [.s (.str t)] 54 5 s.size (Wh s) (.tup [.s (.int .i64 t.size),.inil]) (s++t).size (Wh (s++t)):=by
 have hsz:(s++t).size=s.size+t.size:=Zbf
 suffices h:WR AM 46 [.ptr 0 0 2,.s (.str t)] [.vs (.ty 54) [.ptr 0 0 2,.sl 1 0 s.size 1 .whole],.sc (.gty 5) s.size (Wh s)] (fun v _ L=>v=.tup [.s (.int .i64 t.size),.inil]/\(0,Blk.vs (.ty 54) [.ptr 0 0 2,.sl 2 0 (s.size+t.size) 1 .whole])∈L/\(1,Blk.dead)∈L/\(2,Blk.sc (.gty 5) (s.size+t.size) (fun i=>bif Nat.blt i s.size then Wh s i else Wh t (i - s.size)))∈L) by
  obtain ⟨v,σ',n',L',h1,h2,rfl,h3,h4,h5⟩:=h
  rw [hsz,<- vL]
  exact ⟨σ',2,h1,(h2.2.mem h3).2,Za1 _,(h2.2.mem h4).2,(h2.2.mem h5).2⟩
 refine YJ (a:=a46) rfl rfl (YI _) (ZQ rfl) (m:=2) rfl (Ye (Yf (Yq rfl (Yq rfl (Yc (Ye (Yf (Yq rfl (WO_bldU (copy_BU _ _) rfl rfl rfl rfl ZM ZN (Yc (Ye (Yf (Yq rfl (Yq rfl (YM rfl (Zz rfl (V6 rfl rfl ZM rfl (Yq rfl (oI (t:=t) rfl rfl (by simpa [XV] using hr) (.there .here) (YM rfl (Zz rfl (jG rfl rfl rfl rfl rfl rfl rfl rfl (.there .here) (Yc (Ye (Yf (Yq rfl (wc rfl (Yq rfl (Yq rfl (Yc (Yi ?_)))))))))))))))))))))))))))))))
 exact ⟨_,YK rfl (YK rfl YP),rfl,.tail _ ZM,.tail _ ZN,.head _⟩
theorem gw (own:Bool) (t:ByteArray) (h0:t.size=0):BC AM own 46 [.s (.str t)] 54 (.tup [.s (.int .i64 0),.inil]):=by
 suffices h:WR AM 46 [.ptr 0 0 2,.s (.str t)] [.vs (.ty 54) [KX own 0,.snil]] (fun v _ L=>v=.tup [.s (.int .i64 0),.inil]/\(0,Blk.vs (.ty 54) [.ptr 0 0 2,.snil])∈L) by
  obtain ⟨v,σ',n',L',h1,h2,rfl,h3⟩:=h
  exact ⟨σ',h1,(h2.2.mem h3).2⟩
 refine YJ (a:=a46) rfl rfl (YI _) (ZQ rfl) (m:=1) rfl (Ye (Yf (Yq rfl (Yq rfl (Yc (Ye (Yf (Yq rfl (wC (own:=own) (uK own) rfl rfl rfl rfl .here (Yc (Ye (Yf (Yq rfl (Yq rfl (YM rfl (Zz rfl (V6 rfl rfl ZM rfl (Yq rfl (gK (t:=t) rfl rfl h0 (YM rfl (Zz rfl (jG rfl rfl rfl rfl rfl rfl rfl rfl .here (Yc (Ye (Yf (Yq rfl (wc rfl (Yq rfl (Yq rfl (Yc (Yi ?_)))))))))))))))))))))))))))))))
 exact ⟨_,YK (v:=.s (.int .i64 0)) (by show V.s (.int .i64 t.size)=_; rw [h0]; rfl) (YK rfl YP),rfl,.head _⟩
open Go Go.Am
theorem kQ (g:Nat->S) (cp:Cp) (a:ByteArray) (h0:g 0=.str a) (hn:a.size≠0) (hr:a.size<=140737488355328):yt AM 20 [.ptr 0 0 2,.sl 1 0 1 1 cp] [.vs (.ty 54) [.pnil,.snil],.sc .var 1 g] 54 5 (.tup []) (a).size (Wh (a)) [.sc .var 1 g]:=by
 refine YJ (a:=a20) rfl rfl (YI _) (ZQ rfl) (m:=2) rfl (Ze (Zn rfl (Vi rfl (Yq rfl (Yc (Yk (YW (Ze (Yr (r:=.bool true) rfl rfl rfl (Yc (Ye (ZA rfl (Yh (Ye (Yk (Ze (Zx rfl rfl (Yn (x:=.str a) rfl rfl ZN h0 (Yq (v:=.s _) rfl (Yc (Yf (Zl rfl (YM rfl (Zy rfl (Yq (v:=.s _) rfl (zi (own:=false) (Ek false a hn (by omega)) rfl rfl rfl rfl .here (Yc (Yf (Zs rfl rfl ?_)))))))))))))))))))))))))))))
 refine Zj rfl (Yc (YW (Ze (Yr (r:=.bool false) rfl rfl rfl (Yc (Ye (ZB rfl (YX (Xe (⟨_,YP,?_⟩))))))))))
 refine ⟨rfl,2,YF rfl,⟨ZN,ZO,trivial⟩,ZM⟩
theorem gY (g:Nat->S) (cp:Cp) (a b c:ByteArray) (h0:g 0=.str a) (h1:g 1=.str b) (h2:g 2=.str c) (hn:a.size≠0) (hr:a.size+b.size+c.size<=140737488355328):yt AM 20 [.ptr 0 0 2,.sl 1 0 3 1 cp] [.vs (.ty 54) [.pnil,.snil],.sc .var 3 g] 54 5 (.tup []) (((a++b)++c)).size (Wh (((a++b)++c))) [.sc .var 3 g]:=by
 refine YJ (a:=a20) rfl rfl (YI _) (ZQ rfl) (m:=2) rfl (Ze (Zn rfl (Vi rfl (Yq rfl (Yc (Yk (YW (Ze (Yr (r:=.bool true) rfl rfl rfl (Yc (Ye (ZA rfl (Yh (Ye (Yk (Ze (Zx rfl rfl (Yn (x:=.str a) rfl rfl ZN h0 (Yq (v:=.s _) rfl (Yc (Yf (Zl rfl (YM rfl (Zy rfl (Yq (v:=.s _) rfl (zi (own:=false) (Ek false a hn (by omega)) rfl rfl rfl rfl .here (Yc (Yf (Zs rfl rfl ?_)))))))))))))))))))))))))))))
 refine Zj rfl (Yc (YW (Ze (Yr (r:=.bool true) rfl rfl rfl (Yc (Ye (ZA rfl (Yh (Ye (Yk (Ze (Zx rfl rfl (Yn (x:=.str b) rfl rfl ZO h1 (Yq (v:=.s _) rfl (Yc (Yf (Zl rfl (YM rfl (Zy rfl (Yq (v:=.s _) rfl (U2 (Ui a b (by omega)) rfl rfl rfl rfl (.there .here) ZM .here (Yc (Yf (Zs rfl rfl (Zj rfl (Yc (YW (Ze (Yr (r:=.bool true) rfl rfl rfl ?_)))))))))))))))))))))))))))))
 refine Yc (Ye (ZA rfl (Yh (Ye (Yk (Ze (Zx rfl rfl (Yn (x:=.str c) rfl rfl ZP h2 (Yq (v:=.s _) rfl (Yc (Yf (Zl rfl (YM rfl (Zy rfl (Yq (v:=.s _) rfl (U2 (Ui (a++b) c (by simp only [Zbf]; omega)) rfl rfl rfl rfl (.there (.there .here)) ZM .here (Yc (Yf (Zs rfl rfl (Zj rfl (Yc (YW (Ze (Yr (r:=.bool false) rfl rfl rfl (Yc (Ye (ZB rfl (YX (Xe ?_)))))))))))))))))))))))))))))
 refine ⟨_,YP,?_⟩
 refine ⟨rfl,4,YF rfl,⟨ZP,(.tail _ ZP),trivial⟩,ZM⟩
theorem TL (g:Nat->S) (cp:Cp) (a b c d:ByteArray) (h0:g 0=.str a) (h1:g 1=.str b) (h2:g 2=.str c) (h3:g 3=.str d) (hn:a.size≠0) (hr:a.size+b.size+c.size+d.size<=140737488355328):yt AM 20 [.ptr 0 0 2,.sl 1 0 4 1 cp] [.vs (.ty 54) [.pnil,.snil],.sc .var 4 g] 54 5 (.tup []) ((((a++b)++c)++d)).size (Wh ((((a++b)++c)++d))) [.sc .var 4 g]:=by
 refine YJ (a:=a20) rfl rfl (YI _) (ZQ rfl) (m:=2) rfl (Ze (Zn rfl (Vi rfl (Yq rfl (Yc (Yk (YW (Ze (Yr (r:=.bool true) rfl rfl rfl (Yc (Ye (ZA rfl (Yh (Ye (Yk (Ze (Zx rfl rfl (Yn (x:=.str a) rfl rfl ZN h0 (Yq (v:=.s _) rfl (Yc (Yf (Zl rfl (YM rfl (Zy rfl (Yq (v:=.s _) rfl (zi (own:=false) (Ek false a hn (by omega)) rfl rfl rfl rfl .here (Yc (Yf (Zs rfl rfl ?_)))))))))))))))))))))))))))))
 refine Zj rfl (Yc (YW (Ze (Yr (r:=.bool true) rfl rfl rfl (Yc (Ye (ZA rfl (Yh (Ye (Yk (Ze (Zx rfl rfl (Yn (x:=.str b) rfl rfl ZO h1 (Yq (v:=.s _) rfl (Yc (Yf (Zl rfl (YM rfl (Zy rfl (Yq (v:=.s _) rfl (U2 (Ui a b (by omega)) rfl rfl rfl rfl (.there .here) ZM .here (Yc (Yf (Zs rfl rfl (Zj rfl (Yc (YW (Ze (Yr (r:=.bool true) rfl rfl rfl ?_)))))))))))))))))))))))))))))
 refine Yc (Ye (ZA rfl (Yh (Ye (Yk (Ze (Zx rfl rfl (Yn (x:=.str c) rfl rfl ZP h2 (Yq (v:=.s _) rfl (Yc (Yf (Zl rfl (YM rfl (Zy rfl (Yq (v:=.s _) rfl (U2 (Ui (a++b) c (by simp only [Zbf]; omega)) rfl rfl rfl rfl (.there (.there .here)) ZM .here (Yc (Yf (Zs rfl rfl (Zj rfl (Yc (YW (Ze (Yr (r:=.bool true) rfl rfl rfl (Yc (Ye (ZA rfl (Yh (Ye ?_)))))))))))))))))))))))))))))
 refine Yk (Ze (Zx rfl rfl (Yn (x:=.str d) rfl rfl (.tail _ ZP) h3 (Yq (v:=.s _) rfl (Yc (Yf (Zl rfl (YM rfl (Zy rfl (Yq (v:=.s _) rfl (U2 (Ui ((a++b)++c) d (by simp only [Zbf]; omega)) rfl rfl rfl rfl (.there (.there (.there .here))) ZM .here (Yc (Yf (Zs rfl rfl (Zj rfl (Yc (YW (Ze (Yr (r:=.bool false) rfl rfl rfl (Yc (Ye (ZB rfl (YX (Xe (⟨_,YP,?_⟩)))))))))))))))))))))))))
 refine ⟨rfl,5,YF rfl,⟨(.tail _ ZP),(.tail _ (.tail _ ZP)),trivial⟩,ZM⟩
theorem RP (g:Nat->S) (cp:Cp) (a b c d:ByteArray) (h0:g 0=.str a) (h1:g 1=.str b) (h2:g 2=.str c) (h3:g 3=.str d) (he0:a.size=0) (hn:b.size≠0) (hr:b.size+c.size+d.size<=140737488355328):yt AM 20 [.ptr 0 0 2,.sl 1 0 4 1 cp] [.vs (.ty 54) [.pnil,.snil],.sc .var 4 g] 54 5 (.tup []) (((b++c)++d)).size (Wh (((b++c)++d))) [.sc .var 4 g]:=by
 refine YJ (a:=a20) rfl rfl (YI _) (ZQ rfl) (m:=2) rfl (Ze (Zn rfl (Vi rfl (Yq rfl (Yc (Yk (YW (Ze (Yr (r:=.bool true) rfl rfl rfl (Yc (Ye (ZA rfl (Yh (Ye (Yk (Ze (Zx rfl rfl (Yn (x:=.str a) rfl rfl ZN h0 (Yq (v:=.s _) rfl (Yc (Yf (Zl rfl (YM rfl (Zy rfl (Yq (v:=.s _) rfl (wC (own:=false) (gw false a he0) rfl rfl rfl rfl .here (Yc (Yf (Zs rfl rfl ?_)))))))))))))))))))))))))))))
 refine Zj rfl (Yc (YW (Ze (Yr (r:=.bool true) rfl rfl rfl (Yc (Ye (ZA rfl (Yh (Ye (Yk (Ze (Zx rfl rfl (Yn (x:=.str b) rfl rfl ZN h1 (Yq (v:=.s _) rfl (Yc (Yf (Zl rfl (YM rfl (Zy rfl (Yq (v:=.s _) rfl (zi (own:=true) (Ek true b hn (by omega)) rfl rfl rfl rfl .here (Yc (Yf (Zs rfl rfl (Zj rfl (Yc (YW (Ze (Yr (r:=.bool true) rfl rfl rfl ?_)))))))))))))))))))))))))))))
 refine Yc (Ye (ZA rfl (Yh (Ye (Yk (Ze (Zx rfl rfl (Yn (x:=.str c) rfl rfl ZO h2 (Yq (v:=.s _) rfl (Yc (Yf (Zl rfl (YM rfl (Zy rfl (Yq (v:=.s _) rfl (U2 (Ui b c (by omega)) rfl rfl rfl rfl (.there .here) ZM .here (Yc (Yf (Zs rfl rfl (Zj rfl (Yc (YW (Ze (Yr (r:=.bool true) rfl rfl rfl (Yc (Ye (ZA rfl (Yh (Ye ?_)))))))))))))))))))))))))))))
 refine Yk (Ze (Zx rfl rfl (Yn (x:=.str d) rfl rfl ZP h3 (Yq (v:=.s _) rfl (Yc (Yf (Zl rfl (YM rfl (Zy rfl (Yq (v:=.s _) rfl (U2 (Ui (b++c) d (by simp only [Zbf]; omega)) rfl rfl rfl rfl (.there (.there .here)) ZM .here (Yc (Yf (Zs rfl rfl (Zj rfl (Yc (YW (Ze (Yr (r:=.bool false) rfl rfl rfl (Yc (Ye (ZB rfl (YX (Xe (⟨_,YP,?_⟩)))))))))))))))))))))))))
 refine ⟨rfl,4,YF rfl,⟨ZP,(.tail _ ZP),trivial⟩,ZM⟩
theorem kj (g:Nat->S) (cp:Cp) (a:ByteArray) (s:ByteArray) (h0:g 0=.str a) (hr:s.size+a.size<=140737488355328):yt AM 20 [.ptr 0 0 2,.sl 2 0 1 1 cp] [QM 54 0 1 s.size,.sc (.gty 5) s.size (Wh s),.sc .var 1 g] 54 5 (.tup []) ((s++a)).size (Wh ((s++a))) [.dead,.sc .var 1 g]:=by
 refine YJ (a:=a20) rfl rfl (YI _) (ZQ rfl) (m:=3) rfl (Ze (Zn rfl (Vi rfl (Yq rfl (Yc (Yk (YW (Ze (Yr (r:=.bool true) rfl rfl rfl (Yc (Ye (ZA rfl (Yh (Ye (Yk (Ze (Zx rfl rfl (Yn (x:=.str a) rfl rfl ZO h0 (Yq (v:=.s _) rfl (Yc (Yf (Zl rfl (YM rfl (Zy rfl (Yq (v:=.s _) rfl (U2 (Ui s a (by omega)) rfl rfl rfl rfl .here ZN (.there .here) (Yc (Yf (Zs rfl rfl ?_)))))))))))))))))))))))))))))
 refine Zj rfl (Yc (YW (Ze (Yr (r:=.bool false) rfl rfl rfl (Yc (Ye (ZB rfl (YX (Xe (⟨_,YP,?_⟩))))))))))
 refine ⟨rfl,3,YF rfl,⟨ZN,ZO,ZP,trivial⟩,ZM⟩
theorem Qn (g:Nat->S) (cp:Cp) (a b:ByteArray) (s:ByteArray) (h0:g 0=.str a) (h1:g 1=.str b) (hr:s.size+a.size+b.size<=140737488355328):yt AM 20 [.ptr 0 0 2,.sl 2 0 2 1 cp] [QM 54 0 1 s.size,.sc (.gty 5) s.size (Wh s),.sc .var 2 g] 54 5 (.tup []) (((s++a)++b)).size (Wh (((s++a)++b))) [.dead,.sc .var 2 g]:=by
 refine YJ (a:=a20) rfl rfl (YI _) (ZQ rfl) (m:=3) rfl (Ze (Zn rfl (Vi rfl (Yq rfl (Yc (Yk (YW (Ze (Yr (r:=.bool true) rfl rfl rfl (Yc (Ye (ZA rfl (Yh (Ye (Yk (Ze (Zx rfl rfl (Yn (x:=.str a) rfl rfl ZO h0 (Yq (v:=.s _) rfl (Yc (Yf (Zl rfl (YM rfl (Zy rfl (Yq (v:=.s _) rfl (U2 (Ui s a (by omega)) rfl rfl rfl rfl .here ZN (.there .here) (Yc (Yf (Zs rfl rfl ?_)))))))))))))))))))))))))))))
 refine Zj rfl (Yc (YW (Ze (Yr (r:=.bool true) rfl rfl rfl (Yc (Ye (ZA rfl (Yh (Ye (Yk (Ze (Zx rfl rfl (Yn (x:=.str b) rfl rfl ZP h1 (Yq (v:=.s _) rfl (Yc (Yf (Zl rfl (YM rfl (Zy rfl (Yq (v:=.s _) rfl (U2 (Ui (s++a) b (by simp only [Zbf]; omega)) rfl rfl rfl rfl (.there .here) ZM .here (Yc (Yf (Zs rfl rfl (Zj rfl (Yc (YW (Ze (Yr (r:=.bool false) rfl rfl rfl ?_)))))))))))))))))))))))))))))
 refine Yc (Ye (ZB rfl (YX (Xe (⟨_,YP,?_⟩)))))
 refine ⟨rfl,4,YF rfl,⟨ZO,ZP,(.tail _ ZP),trivial⟩,ZM⟩
open Go Go.Am
theorem xO {P Q:Nat->Int} (h:∀ i,i < 133->Q i=P i) {s:Int} (hs:0<=s/\s < 64):Wt Q s=Wt P s:=by
 unfold Wt
 rw [Za8 hs,Za8 hs,DJ h hs]
theorem UE {P Q:Nat->Int} (h:∀ i,i < 133->Q i=P i) (t:Int):YN Q t=YN P t:=by
 unfold YN
 cases ht:isM t with
 | false=>rfl
 | true =>
  have:0<=t/\t < 64:=by simpa [isM] using ht
  rw [JA h this]
theorem qf {P Q:Nat->Int} (h:∀ i,i < 133->Q i=P i) {t:Int} (ht:0<=t/\t < 64):We Q t=We P t:=by
 have hq:sqI t=0+t.toNat*2:=rfl
 exact h _ (by omega)
theorem w8 {P Q:Nat->Int} (h:∀ i,i < 133->Q i=P i) {c t:Int} (ht:0<=t/\t < 64):VE Q c t=VE P c t:=by
 have hq:sqI t=0+t.toNat*2:=rfl
 unfold VE
 rw [h (sqI t) (by omega),h (sqI t+1) (by omega)]
theorem tY {P Q:Nat->Int} (h:∀ i,i < 133->Q i=P i) {s c:Int} (hs:0<=s/\s < 64):Qx Q s c=Qx P s c:=by
 rw [Jq,Jq,xO h hs,UE h,UE h]
 refine congrArg _ (Je fun t ht=>?_)
 have hb:=Q7 ht
 unfold X7
 rw [JA h hb,qf h hb,UE h,h 130 (by omega)]
theorem xT {P Q:Nat->Int} (h:∀ i,i < 133->Q i=P i) {s k c:Int} (hc:c=0\/c=1):XR Q s k c=XR P s k c:=by
 unfold XR
 rw [h 129 (by omega)]
 split
 ·rfl
 rename_i hn
 have hs:0<=s - 4/\s+3 < 64:=by omega
 rw [UE h,UE h,UE h,UE h,UE h,w8 h (t:=s+3) (by omega),w8 h (t:=s - 4) (by omega)]
theorem jj {P Q:Nat->Int} (h:∀ i,i < 133->Q i=P i) {s k c:Int} (hs:0<=s/\s < 64) (hc:c=0\/c=1):XM Q s k c=XM P s k c:=by
 unfold XM
 rw [tY h hs,xO h hs,xT h hc]
 refine congrArg (fun l=>if k=1 then Qx P s c else l++XR P s k c) (Je fun t ht=>?_)
 have hb:=Q7 ht
 unfold VS
 rw [JA h hb,qf h hb]
theorem Em {P:Nat->Int} {t:Int} (h:YN P t=true):0<=t/\t < 64:=by
 unfold YN isM at h
 rw [ZaM,ZaL] at h
 exact h.1
theorem xL {p:Prop} [Decidable p] {x y:Int} (h:y∈if p then [x] else []):p/\y=x:=by
 split at h
 ·exact ⟨by assumption,by simpa using h⟩
 cases h
theorem KF {P:Nat->Int} {s k c t:Int} (h:t∈XM P s k c):0<=t/\t < 64:=by
 unfold XM at h
 split at h
 ·rw [Jq] at h
  rcases ZaR.1 h with h | h
  ·rcases ZaR.1 h with h | h
   ·obtain ⟨h1,rfl⟩:=xL h; exact Em h1
   obtain ⟨h1,rfl⟩:=xL h; exact Em h1.2.2
  exact Q7 ((ZaS.1 h).1)
 rcases ZaR.1 h with h | h
 ·exact Q7 ((ZaS.1 h).1)
 unfold XR at h
 split at h
 ·cases h
 rcases ZaR.1 h with h | h
 ·obtain ⟨h1,rfl⟩:=xL h; exact Em h1.2.2.2
 obtain ⟨h1,rfl⟩:=xL h; exact Em h1.2.2.2.1
theorem QQ (P:Nat->Int) (s k c:Int):(XM P s k c).length<=66:=by
 unfold XM
 have h0:=Jl P s
 split
 ·rw [Jq,ZaG,ZaG]
  have h1:=UV (p:=YN P (YR s 0 (1 - 2*c))=true) (YR s 0 (1 - 2*c))
  have h2:=UV (p:=Wj s=1+5*c/\YN P (YR s 0 (1 - 2*c))=true/\YN P (YR s 0 (2*(1 - 2*c)))=true) (YR s 0 (2*(1 - 2*c)))
  have h3:=Zbk (X7 P c) (Wt P s)
  omega
 rw [ZaG]
 have h1:=EX P s k c
 have h2:=Zbk (fun t=>!VS P c t) (Wt P s)
 omega
theorem rG {P D:Nat->Int} {i:Int} (hi:0<=i/\i < 64) (h:∀ j,j < 133->D j=P j) (h1:D 133=i) (h2:D 134=P (sqI i)) (h3:D 135=P (sqI i+1)) (hc:P (sqI i+1)=0\/P (sqI i+1)=1):ww D=Ud P i:=by
 unfold ww Ud
 rw [h1,h2,h3,jj h hi hc]
theorem tj (P:Nat->Int) (i:Int):(Ud P i).length<=264:=by
 have h1:=QQ P i (P (sqI i)) (P (sqI i+1))
 have h2:=kq i (P (sqI i)) (P (sqI i+1)) (XM P i (P (sqI i)) (P (sqI i+1)))
 unfold Ud; omega
theorem EY {P:Nat->Int} {i:Nat}:Qk P (i+1)=Qk P i++if Ww P i=true then Ud P i else []:=by
 unfold Qk Wg
 rw [List.range_succ,List.map_append,List.flatMap_append]
 simp
theorem TT (P:Nat->Int):∀ i:Nat,(Qk P i).length<=i*264
 | 0=>Zbt _
 | i+1=>by
  have h1:=TT P i
  have h2:(if Ww P i=true then Ud P i else []).length<=264:=by
   split
   ·exact tj P i
   exact Zbt _
  rw [EY,ZaG]; omega
theorem zw (P:Nat->Int) {i:Nat} (hi:i<=64):(YY (Qk P i)).length<=60000:=by
 have:=TT P i
 rw [Xj]; omega
def Us (P:Nat->Int) (i:Nat):Nat->Int:=ovA (ov (ovA (fun _=>0) 0 133 P) 133 (i:Int)) 134 2 (ovA (fun _=>0) 0 2 (fun j=>P ((i:Int).toNat*2+j)))
theorem w3 (P:Nat->Int) (i:Nat):(∀ j,j < 133->ovA (fun _=>0) 0 136 (Us P i) j=P j)/\ovA (fun _=>0) 0 136 (Us P i) 133=i/\ovA (fun _=>0) 0 136 (Us P i) 134=P (sqI i)/\ovA (fun _=>0) 0 136 (Us P i) 135=P (sqI i+1):=by
 have hq:sqI (i:Int)=0+(i:Int).toNat*2:=rfl
 refine ⟨fun j hj=>?_,rfl,?_,?_⟩
 ·rw [X1 (by omega),Nat.sub_zero]
  unfold Us
  rw [WV (by omega),W7 (by omega),X1 (by omega),Nat.sub_zero]
 ·show P ((i:Int).toNat*2)=_
  exact congrArg P (by omega)
 show P ((i:Int).toNat*2+1)=_
 exact congrArg P (by omega)
theorem w4 {P:Nat->Int} {i:Nat} (h1:1<=P (sqI i)) (h2:P (sqI i)<=6) (h3:P (sqI i+1)=0\/P (sqI i+1)=1) (h4:P (sqI i+1)=P 128):Ww P i=true:=by
 unfold Ww YZ
 rw [ZaM,ZaL,ZaL]; omega
theorem J9 {P:Nat->Int} {i:Nat} (h:¬ (1<=P (sqI i)/\P (sqI i)<=6/\(P (sqI i+1)=0\/P (sqI i+1)=1)/\P (sqI i+1)=P 128)):Ww P i=false:=by
 unfold Ww YZ
 rw [ZaB,Zax,Zax]; omega
theorem uc {P:Nat->Int} {i:Nat} {D:Nat->Int} (h:Ww P i=true) (hD:ww D=Ud P i):YY (Qk P i)++YY (ww D)=YY (Qk P (i+1)):=by
 rw [EY,Za8 h,Ki,hD]
theorem ZbF {P:Nat->Int} {i:Nat} (h:Ww P i=false):YY (Qk P (i+1))=YY (Qk P i):=by
 rw [EY,Za7 (by rw [h]; decide),ZaQ]
theorem Zam (g0 g4 g1:Nat->S) (P:Nat->Int):WR AM 153 [.yv 0,.ptr 3 0 133] [(Jy g0 g4 3 0),.sc .var 133 g1,.vs .var [.snil],.sc .var 133 (ia P)] (fun v _ L=>v=.tup []/\EN L [(Jy g0 g4 3 0),.sc .var 133 g1] [.sc .var 133 (ia P)] (YY (Qk P 64))):=by
 refine YJ (a:=a153) rfl rfl (YI _) (ZQ rfl) (m:=4) rfl (Ze (Zy rfl (Yo rfl rfl ZP (Yq rfl (Yc (Yk (Xm (.refl _) (Xp (fun m f _ L=>∃ (i:Nat) (vO:V) (ownO:HA),(i≤64)∧(m=64 - i)∧(∀ p∈ownO,4≤p.1)∧(Rw 3 (YY (Qk P i)) vO ownO)∧(f 0=.yv 0)∧(f 1=.ptr 3 0 133)∧(f 7=.agg 128 (ia P))∧(f 8=.s (.int .i64 i))∧(L=(ownO++[(0,(Jy g0 g4 3 0)),(1,.sc .var 133 g1),(2,.vs .var [vO]),(3,.sc .var 133 (ia P))]))) (fun m f nb L hI=>?_) (64) (⟨0,.snil,[],by omega,by omega,(fun p (hp:p∈([]:HA))=>(by cases hp)),Rw.nil rfl,rfl,rfl,rfl,rfl,rfl⟩)))))))))
 obtain ⟨i,vO,ownO,hi,hm,hgO,hrO,k0,k1,k7,k8,rfl⟩:=hI
 refine Za 0 k0 (Za 1 k1 (Za 7 k7 (Za 8 k8 (Ze (Zr rfl (Yc (Ye (Yj rfl (fun h1=>?_) (fun h1=>?_))))))))) <;> simp only [NM] at h1
 ·refine Yh (Ye (Yk (Ze (Zj rfl (xQ rfl rfl rfl (by omega) (Yy (Zj rfl (Yz rfl rfl rfl rfl .here (Zf (Zy rfl (Ym (x:=P (sqI i)) rfl rfl ZM (show P ((i:Int).toNat*2)=_ from congrArg P (by have hq:sqI (i:Int)=0+(i:Int).toNat*2:=rfl; omega)) (Zr rfl (Zk rfl (Ys (t:=15) rfl (fun h2=>?_) (fun h2=>?_))))))))))))))) <;> simp only [NM] at h2
  ·refine Yb rfl (Zy rfl (Yb rfl (Ym (x:=P (sqI i)) rfl rfl ZM (show P ((i:Int).toNat*2)=_ from congrArg P (by have hq:sqI (i:Int)=0+(i:Int).toNat*2:=rfl; omega)) (Yb rfl (Zr rfl (Zq rfl (Zk rfl (Ys (t:=20) rfl (fun h3=>?_) (fun h3=>?_))))))))) <;> simp only [NM] at h3
   ·refine Yb rfl (Zz rfl (Yb rfl (Ym (x:=P (sqI i+1)) rfl rfl ZM (show P ((i:Int).toNat*2+1)=_ from congrArg P (by have hq:sqI (i:Int)=0+(i:Int).toNat*2:=rfl; omega)) (Yb rfl (Zr rfl (Yb rfl (Zk rfl (Ys (t:=24) rfl (fun h4=>?_) (fun h4=>?_))))))))) <;> simp only [NM] at h4
    ·refine ZD rfl (ZC rfl (Yb rfl (Zq rfl (Zq rfl (Zk rfl (Yc (Ye (JT (KS (l1:=[_,_,_,_,_,_,_,_,_,_,_,_,_,_]) (l2:=[_,_,_]) (Zk rfl (Zk rfl (Yb rfl (Zz rfl (Yb rfl (Ym (x:=P (sqI i+1)) rfl rfl ZM (show P ((i:Int).toNat*2+1)=_ from congrArg P (by have hq:sqI (i:Int)=0+(i:Int).toNat*2:=rfl; omega)) (Yb rfl (Yd (o':=128) rfl rfl rfl (Yb rfl (Ym rfl rfl (.tail _ (Zaz _ ZP)) rfl (Yb rfl (Zr rfl (Zq rfl (Zk rfl (Ys (t:=38) rfl (fun h5=>?_) (fun h5=>?_))))))))))))))))))))))))) <;> simp only [NM] at h5
     ·refine Yb rfl (Yq (v:=.yv _) rfl (Yb rfl (Yo rfl rfl (.tail _ (Zaz _ ZP)) (Yb rfl (Zj rfl (Yb rfl (Yo rfl rfl ZM (Yb rfl (YB (Q:=Us P i) rfl (.agg rfl (.one rfl (.agg rfl .nil))) (Yc (Ka (.cons _ (ZaE (.refl _) (.refl _))) (Df rfl ?_))))))))))))
      obtain ⟨x0,x1,x2,x3⟩:=w3 P i
      have hx4:P (sqI i+1)=0\/P (sqI i+1)=1:=by omega
      have hmv:=rG (P:=P) (i:=i) (by omega) x0 x1 x2 x3 hx4
      have hll:=zw P (i:=i) (by omega)
      refine TZ (caps:=VJ g0 g4) (xa:=[.agg 136 (ia (Us P i))]) (L0:=[]) rfl (fun _=>rfl) rfl rfl (fun _ _ _=>rfl) (YF rfl) (YF rfl) rfl rfl hrO (.refl _) (fun e=>by have h:=Dz g0 g4 g1 P (Us P i) (by omega) (by omega) (fun t ht=>KF ht) (ZaZ (QQ _ _ _ _) (YF rfl)); rw [e]; exact h) (fun m q F h1 h2=>E5 g0 g4 g1 P (Us P i) (by omega) (by omega) (fun t ht=>KF ht) (ZaZ (QQ _ _ _ _) (YF rfl)) _ m q F h1 h2 (by omega)) (fun v1 own1 n1 hr1 hge1=>Vk ?_)
      rw [uc (w4 (by assumption) (by assumption) hx4 (by assumption)) hmv] at hr1
      refine Yb rfl (Yv (r:=.bool _) rfl rfl (Zq rfl (Yc (ZB rfl (Yh (Yf (Zs rfl rfl (Zj rfl (Yc (⟨64 - (i+1),_,by omega,(ZaE (.refl _) (.refl _)),i+1,_,_,by omega,rfl,hge1,?_,rfl,rfl,rfl,rfl,rfl⟩))))))))))
      exact hr1
     refine ZE rfl (ZC rfl (Yc (Vk (ZD rfl (Zq rfl (Yc (ZB rfl (Yh (Yf (Zs rfl rfl (Zj rfl (Yc (⟨64 - (i+1),_,by omega,(.cons _ (ZaE (.refl _) (.refl _))),i+1,_,_,by omega,rfl,hgO,?_,rfl,rfl,rfl,rfl,rfl⟩)))))))))))))
     (rw [ZbF (J9 (by omega))]; exact hrO)
    refine Yb rfl (Zz rfl (Yb rfl (Ym (x:=P (sqI i+1)) rfl rfl ZM (show P ((i:Int).toNat*2+1)=_ from congrArg P (by have hq:sqI (i:Int)=0+(i:Int).toNat*2:=rfl; omega)) (Yb rfl (Zr rfl (Yb rfl (Zq rfl (Zq rfl (Zk rfl (Yc (Ye (JT (KS (l1:=[_,_,_,_,_,_,_,_,_,_,_,_,_,_]) (l2:=[_,_,_]) (Zk rfl (Zk rfl (Ys (t:=31) rfl (fun h6=>?_) (fun h6=>?_))))))))))))))))) <;> simp only [NM] at h6
    ·refine Yb rfl (Zz rfl (Yb rfl (Ym (x:=P (sqI i+1)) rfl rfl ZM (show P ((i:Int).toNat*2+1)=_ from congrArg P (by have hq:sqI (i:Int)=0+(i:Int).toNat*2:=rfl; omega)) (Yb rfl (Yd (o':=128) rfl rfl rfl (Yb rfl (Ym rfl rfl (.tail _ (Zaz _ ZP)) rfl (Yb rfl (Zr rfl (Zq rfl (Zk rfl (Ys (t:=38) rfl (fun h7=>?_) (fun h7=>?_))))))))))))) <;> simp only [NM] at h7
     ·refine Yb rfl (Yq (v:=.yv _) rfl (Yb rfl (Yo rfl rfl (.tail _ (Zaz _ ZP)) (Yb rfl (Zj rfl (Yb rfl (Yo rfl rfl ZM (Yb rfl (YB (Q:=Us P i) rfl (.agg rfl (.one rfl (.agg rfl .nil))) (Yc (Ka (.cons _ (ZaE (.refl _) (.refl _))) (Df rfl ?_))))))))))))
      obtain ⟨x0,x1,x2,x3⟩:=w3 P i
      have hx4:P (sqI i+1)=0\/P (sqI i+1)=1:=by omega
      have hmv:=rG (P:=P) (i:=i) (by omega) x0 x1 x2 x3 hx4
      have hll:=zw P (i:=i) (by omega)
      refine TZ (caps:=VJ g0 g4) (xa:=[.agg 136 (ia (Us P i))]) (L0:=[]) rfl (fun _=>rfl) rfl rfl (fun _ _ _=>rfl) (YF rfl) (YF rfl) rfl rfl hrO (.refl _) (fun e=>by have h:=Dz g0 g4 g1 P (Us P i) (by omega) (by omega) (fun t ht=>KF ht) (ZaZ (QQ _ _ _ _) (YF rfl)); rw [e]; exact h) (fun m q F h1 h2=>E5 g0 g4 g1 P (Us P i) (by omega) (by omega) (fun t ht=>KF ht) (ZaZ (QQ _ _ _ _) (YF rfl)) _ m q F h1 h2 (by omega)) (fun v2 own2 n2 hr2 hge2=>Vk ?_)
      rw [uc (w4 (by assumption) (by assumption) hx4 (by assumption)) hmv] at hr2
      refine Yb rfl (Yv (r:=.bool _) rfl rfl (Zq rfl (Yc (ZB rfl (Yh (Yf (Zs rfl rfl (Zj rfl (Yc (⟨64 - (i+1),_,by omega,(ZaE (.refl _) (.refl _)),i+1,_,_,by omega,rfl,hge2,?_,rfl,rfl,rfl,rfl,rfl⟩))))))))))
      exact hr2
     refine ZE rfl (ZC rfl (Yc (Vk (ZD rfl (Zq rfl (Yc (ZB rfl (Yh (Yf (Zs rfl rfl (Zj rfl (Yc (⟨64 - (i+1),_,by omega,(.cons _ (ZaE (.refl _) (.refl _))),i+1,_,_,by omega,rfl,hgO,?_,rfl,rfl,rfl,rfl,rfl⟩)))))))))))))
     (rw [ZbF (J9 (by omega))]; exact hrO)
    refine ZE rfl (ZC rfl (Zq rfl (Zk rfl (ZE rfl (ZC rfl (Yc (Vk (ZD rfl (Zq rfl (Yc (ZB rfl (Yh (Yf (Zs rfl rfl (Zj rfl (Yc (⟨64 - (i+1),_,by omega,(.cons _ (ZaE (.refl _) (.refl _))),i+1,_,_,by omega,rfl,hgO,?_,rfl,rfl,rfl,rfl,rfl⟩)))))))))))))))))
    (rw [ZbF (J9 (by omega))]; exact hrO)
   refine ZE rfl (YH rfl (YH rfl (YH rfl (ZC rfl (Zq rfl (Zk rfl (Yc (Ye (JT (KS (l1:=[_,_,_,_,_,_,_,_,_,_,_,_,_,_]) (l2:=[_,_,_]) (Zk rfl (Zk rfl (ZE rfl (ZC rfl (Zq rfl (Zk rfl (ZE rfl (ZC rfl (Yc (Vk (ZD rfl (Zq rfl (Yc (ZB rfl (Yh (Yf (Zs rfl rfl (Zj rfl (Yc ?_)))))))))))))))))))))))))))))
   refine ⟨64 - (i+1),_,by omega,(.cons _ (ZaE (.refl _) (.refl _))),i+1,_,_,by omega,rfl,hgO,?_,rfl,rfl,rfl,rfl,rfl⟩
   (rw [ZbF (J9 (by omega))]; exact hrO)
  refine ZD rfl (ZC rfl (Zq rfl (Zk rfl (ZE rfl (YH rfl (YH rfl (YH rfl (ZC rfl (Zq rfl (Zk rfl (Yc (Ye (JT (KS (l1:=[_,_,_,_,_,_,_,_,_,_,_,_,_,_]) (l2:=[_,_,_]) (Zk rfl (Zk rfl (ZE rfl (ZC rfl (Zq rfl (Zk rfl (ZE rfl (ZC rfl (Yc (Vk (ZD rfl (Zq rfl (Yc (ZB rfl (Yh ?_)))))))))))))))))))))))))))))
  refine Yf (Zs rfl rfl (Zj rfl (Yc (⟨64 - (i+1),_,by omega,(.cons _ (ZaE (.refl _) (.refl _))),i+1,_,_,by omega,rfl,hgO,?_,rfl,rfl,rfl,rfl,rfl⟩))))
  (rw [ZbF (J9 (by omega))]; exact hrO)
 refine YX (Xe (⟨_,YP,?_⟩))
 obtain rfl:i=64:=by omega
 exact ⟨rfl,JV hrO ⟨(Zaz _ ZM),(Zaz _ ZN),(Zaz _ ZO),(Zaz _ ZP),trivial⟩ (fun p hp=>⟨ZaC _ hp,hgO p hp⟩)⟩
open Go Go.Am
theorem all_rt (P:Nat->Int):RtR AM 100 3 [.agg 133 (ia P)] [] (YY (TX P)) []:=by
 refine Vs (sK (a:=a100) rfl rfl (YI _) (ZQ rfl) (m:=0) (c0:=2) rfl rfl (Ye (Yf (YC rfl (Jt (z:=.one .snil) rfl (Yc (Ye (Ye (Yf (Yo rfl rfl ZN (jQ (fv:=.fn 125 []) (rs:=[]) (vs:=[.agg 133 (ia P)]) (Bs:=[]) rfl rfl rfl rfl (QL (tN P) ?_))))))))))))
 rintro v9 n9 L9 ⟨rfl,rfl,rfl⟩
 refine ⟨.fn 153 [.ptr 2 0 133],[],[.sc .var 133 (ia P)],rfl,?_⟩
 refine Yc (Yk ?_)
 have fin:∀ (f:FE) (n:Nat) (v:V) (own:HA),f 2=.ptr 1 0 1->Rw 3 (YY (Qk P 64)) v own->WP AM a100.nt (.seq (.ops [ZZ 13 false 1 2,ZU 14 (.h (.call (.k (.fn 128 [])) [(.t 13),(.k (.fn 129 []))]))]) (.seq (.ops [ZZ 15 false 1 2,Z1 1 2 15]) .ret)) f n (own++[(1,.vs .var [v])])
   (fun _ _ _=>False) (fun _ _ _ _=>False) (fun f n L=>∃ b md v,rd a100.nt f 2=.ptr b 0 1∧(b,Blk.vs md [v])∈L∧∃ own,Rw 3 (YY (TX P)) v own∧∀ p∈own,p∈L) (fun _ _ _ _=>False):=fun f n v own h2 hr=>by
  refine Za 2 h2 (Ye (Yf (V6 (v:=v) rfl rfl (Zaz _ ZM) rfl (wR (caps:=[]) rfl (oP (Qk P 64) (ZaZ (TT P 64) (YF rfl))) rfl hr .here rfl rfl (fun own2 hr2=>Yc (Ye (Yf (V6 (v:=v) rfl rfl (Zaz _ ZM) rfl (Tn (b:=1) (u:=v) (v:=v) rfl rfl hr2.isrow (.appR _ .here) ?_)))))))))
  exact Yc (Yi ⟨1,.var,v,rfl,Zaz _ ZM,own2,hr2,fun p hp=>ZaC _ hp⟩)
 refine xV (Lr:=[(0,_),(1,_),(2,_)]) (L0:=[]) (vs:=[.yv 0,.ptr 3 0 133]) (Bs:=[Jy (ia P) (ia P) 3 0,.sc .var 133 (ia P),.vs .var [.snil],.sc .var 133 (ia P)]) (List.reverse_perm [_,_,_]) rfl rfl rfl rfl rfl (QL (Zam (ia P) (ia P) (ia P) P) ?_)
 rintro r n1 L1 ⟨rfl,ho⟩
 rcases ho with ⟨e1,e2⟩ | ⟨b,m,q,F,e1,e2,e3,e4,e5⟩
 ·refine .inl ⟨_,.tup [],_,e2,rfl,rfl,rfl,rfl,6,KB,_,0,_,.refl _,?_⟩
  refine Xm (.cons _ (.cons_cons _ (.cons _ .slnil))) ?_
  exact fin _ _ .snil [] rfl (.nil e1)
 refine .inr ⟨[Jy (ia P) (ia P) 3 0,.sc .var 133 (ia P)],[.sc .var 133 (ia P)],b,m,3,q,.var,.grow,ia F,.tup [],_,_,e3,rfl,e1,e2,rfl,rfl,rfl,rfl,rfl,(YF rfl),6,KB,_,0,_,.swap _ _ _,?_⟩
 refine Xm (.cons_cons _ (.cons _ (.cons_cons _ (.cons _ .slnil)))) ?_
 exact fin _ _ _ [(_,_)] rfl (.row e4 e5)
open Go Go.Am
def fnzM:List Int->Int
 | []=>0
 | x::l=>if x=0 then fnzM l else x
def cmpM (x y:Int):Int:=if x < y then -1 else if y < x then 1 else 0
open Go Go.Am
theorem ub {a b:Int} (h:a≠b):Wx .eql (.int .i64 a) (.int .i64 b)=some (.bool false):=by
 show (if IntKind.i64=IntKind.i64 then some (S.bool (a == b)) else none)=_
 simp [h]
theorem K5 {a b:Int} (h:a=b):Wx .eql (.int .i64 a) (.int .i64 b)=some (.bool true):=by
 subst h
 show (if IntKind.i64=IntKind.i64 then some (S.bool (a == a)) else none)=_
 simp
theorem xZ {a b:Int} (h:a=b):Wx .neq (.int .i64 a) (.int .i64 b)=some (.bool false):=by
 subst h
 show (if IntKind.i64=IntKind.i64 then some (S.bool (a != a)) else none)=_
 simp
theorem ut {a b:Int} (h:a≠b):Wx .neq (.int .i64 a) (.int .i64 b)=some (.bool true):=by
 show (if IntKind.i64=IntKind.i64 then some (S.bool (a != b)) else none)=_
 simp [h]
theorem three {A B:Nat->Int} (h0:A 0=B 0) (h1:A 1=B 1) (h2:A 2=B 2):∀ i,i < 3->A i=B i
 | 0,_=>h0
 | 1,_=>h1
 | 2,_=>h2
 | i+3,h=>by omega
open Go Go.Am
theorem qz {md:Md} (H:Nat->Int) (ha:0<=H 133/\H 133 < 64) (ht:0<=H 134/\H 134 < 64):WR AM 85 [.ptr 0 0 138] [.sc md 138 (ia H)] (fun v _ L=>v=.s (.int .i64 (H 134 % 8 - H 133 % 8))/\(0,Blk.sc md 138 (ia H))∈L):=by
 refine YJ (a:=a85) rfl rfl (YI _) (ZQ rfl) (m:=1) rfl (Ze (Yq rfl (Yc (Ye (Yg (Zl rfl (YM rfl (Yd (o':=133) rfl rfl rfl (Yd (o':=134) rfl rfl rfl (Ym rfl rfl ZM rfl (Yu rfl (wv (by omega)) rfl rfl rfl (Zl rfl (YM rfl (Yd (o':=133) rfl rfl rfl (Yd (o':=133) rfl rfl rfl (Ym rfl rfl ZM rfl (Yt rfl (wv (by omega)) rfl rfl rfl (Zt rfl rfl (Zj rfl (Yc (Yi (⟨_,ZL rfl,?_⟩))))))))))))))))))))))
 exact ⟨rfl,ZM⟩
theorem qp {md:Md} (H:Nat->Int) (ha:0<=H 133/\H 133 < 64) (ht:0<=H 134/\H 134 < 64):WR AM 48 [.ptr 0 0 138] [.sc md 138 (ia H)] (fun v _ L=>v=.s (.int .i64 (Y7 H (H 136) (H 133) (H 134)))/\(0,Blk.sc md 138 (ia H))∈L):=by
 refine YJ (a:=a48) rfl rfl (YI _) (ZQ rfl) (m:=1) rfl (Ze (Yq rfl (Zf (Zl rfl (YM rfl (Yd (o':=133) rfl rfl rfl (Yd (o':=134) rfl rfl rfl (Ym rfl rfl ZM rfl (Zj rfl (Yc (WD (fun f n L=>(f 0=.ptr 0 0 138)/\(f 3=.s (.int .i64 (atT H (H 136) (H 133) (H 134))))/\(L=[(0,.sc md 138 (ia H))])/\(n=1)) ?_ (fun f nb L hI=>?_))))))))))))
 ·refine Ze (Zl rfl (YM rfl (Yd (o':=136) rfl rfl rfl (Yd (o':=136) rfl rfl rfl (Ym rfl rfl ZM rfl (Zr rfl (Zk rfl (Ys (t:=15) rfl (fun h1=>?_) (fun h1=>?_))))))))) <;> simp only [NM] at h1
  ·refine Yb rfl (Zl rfl (Yb rfl (Q9 rfl (UU (qz H ha ht)) rfl rfl rfl .here (Yb rfl (Zr rfl (Zq rfl (Zk rfl (Ys (t:=20) rfl (fun h2=>?_) (fun h2=>?_))))))))) <;> simp only [NM] at h2
   ·refine Yb rfl (Zj rfl (Yb rfl (Zl rfl (Yb rfl (YM rfl (Yb rfl (Zy rfl (Yb rfl (Yd (o':=130) rfl rfl rfl (Yb rfl (Ym rfl rfl ZM rfl (Yb rfl (Zr rfl (Zq rfl (Zk rfl (Ys (t:=29) rfl (fun h3=>?_) (fun h3=>?_))))))))))))))))) <;> simp only [NM] at h3
    ·refine Yb rfl (Zl rfl (Yb rfl (Zj rfl (Yb rfl (YM rfl (Yb rfl (Zy rfl (Yb rfl (Zy rfl (Yb rfl (Zw rfl rfl rfl (Yb rfl (Yp rfl rfl ZM (Yb rfl (YB rfl .nil (Yb rfl (Yw rfl rfl (Zq rfl (Yc (Yj rfl (fun h4=>?_) (fun h4=>?_))))))))))))))))))))) <;> simp only [NM] at h4
     ·refine Yg (Zj rfl (Yu rfl (wv (by omega)) rfl rfl rfl (Zl rfl (YM rfl (Yd (o':=133) rfl rfl rfl (Yd (o':=133) rfl rfl rfl (Ym rfl rfl ZM rfl (Yt rfl (To (by omega)) rfl rfl rfl (Yt rfl (YG (At_run _ _ (by omega) (by omega))) rfl rfl rfl (Zj rfl (Yc (⟨_,(.refl _),rfl,?_,rfl,rfl⟩))))))))))))
      refine ZJ ?_
      (rw [atT,Za8 ⟨by omega,by omega,by omega,by assumption⟩,atM,Za8 (by omega)]; done)
     refine Yh (⟨_,(.refl _),rfl,?_,rfl,rfl⟩)
     refine ZJ ?_
     (rw [atT,Za7 (fun q=>Bool.false_ne_true ((show YT H (H 134)=false from (by assumption)).symm.trans q.2.2.2))]; done)
    refine ZF rfl (ZC rfl (Zq rfl (Yc (ZB rfl (Yh (⟨_,(.refl _),rfl,?_,rfl,rfl⟩))))))
    refine ZJ ?_
    (rw [atT,Za7 (fun q=>by omega)]; done)
   refine ZE rfl (ZD rfl (ZC rfl (Zq rfl (Zk rfl (ZF rfl (ZC rfl (Zq rfl (Yc (ZB rfl (Yh (⟨_,(.refl _),rfl,?_,rfl,rfl⟩)))))))))))
   refine ZJ ?_
   (rw [atT,Za7 (fun q=>by omega)]; done)
  refine ZD rfl (ZC rfl (Zq rfl (Zk rfl (ZE rfl (ZD rfl (ZC rfl (Zq rfl (Zk rfl (ZF rfl (ZC rfl (Zq rfl (Yc (ZB rfl (Yh (⟨_,(.refl _),rfl,?_,rfl,rfl⟩)))))))))))))))
  refine ZJ ?_
  (rw [atT,Za7 (fun q=>by omega)]; done)
 obtain ⟨k0,k3,rfl,rfl⟩:=hI
 refine Za 0 k0 (Za 3 k3 ?_)
 have hat:=xy (P:=H) (k:=H 136) ha ht
 refine Ye (Ze (Zl rfl (Zj rfl (YM rfl (Zy rfl (Zy rfl (Zw rfl rfl rfl (Yp rfl rfl ZM (YB rfl .nil (Yw rfl rfl (Yc (Yj rfl (fun h5=>?_) (fun h5=>?_))))))))))))) <;> simp only [NM] at h5
 ·refine Ze (Yq rfl (Yc (Yi (⟨_,ZL rfl,?_⟩))))
  refine ⟨ZJ ?_,ZM⟩
  (rw [Y7,show YT H (atT H (H 136) (H 133) (H 134))=true from (by assumption)]; rfl)
 refine Yh (Ze (Zj rfl (Zj rfl (Yc (Yi (⟨_,ZL rfl,?_⟩))))))
 refine ⟨ZJ ?_,ZM⟩
 (rw [Y7,show YT H (atT H (H 136) (H 133) (H 134))=false from (by assumption)]; rfl)
def Rk (k a t c C x y:Int) (z:Bool):Prop:=(Y0 k a t c C=1/\z=true/\x=a+3/\y=a+1)\/(Y0 k a t c C=-1/\z=true/\x=a - 4/\y=a - 1)\/(Y0 k a t c C=0/\z=false)
theorem DN {k a t c C x y:Int} (h:¬ (k=6/\a=56*c+4/\(t=a+2\/t=a - 2))):Rk k a t c C x y false:=by
 refine .inr (.inr ⟨?_,rfl⟩)
 rw [Y0,Za7 (fun q=>h ⟨q.1,q.2.1,.inl q.2.2.1⟩),Za7 (fun q=>h ⟨q.1,q.2.1,.inr q.2.2.1⟩)]
theorem qh {c:Int}:YS c=1\/YS c=4:=by unfold YS; split <;> omega
theorem uI {C s:Int} (h:0<=C/\C<=15) (hs:s=1\/s=2\/s=4\/s=8):(KM C s != 0)=decide (C / s % 2=1):=by
 rw [ZaP,ZaL,<- ko h hs,bne_iff_ne]
theorem tn {k a t c C:Int} (hC:0<=C/\C<=15) (hk:k=6) (ha:a=56*c+4) (ht:t=a+2):Rk k a t c C (56*c+4+3) (56*c+4+1) (KM C (YS c) != 0):=by
 have hs:=qh (c:=c)
 rw [uI hC (by omega)]
 by_cases h:C / YS c % 2=1
 ·refine .inl ⟨?_,ZaV h,by omega,by omega⟩
  rw [Y0,Za8 ⟨hk,ha,ht,h⟩]
 refine .inr (.inr ⟨?_,ZaT h⟩)
 rw [Y0,Za7 (fun q=>h q.2.2.2),Za7 (fun q=>by omega)]
theorem sW {k a t c C:Int} (hC:0<=C/\C<=15) (hk:k=6) (ha:a=56*c+4) (ht:t=a - 2):Rk k a t c C (56*c+4 - 4) (56*c+4 - 1) (KM C (2*YS c) != 0):=by
 have hs:=qh (c:=c)
 rw [uI hC (by omega)]
 by_cases h:C / (2*YS c) % 2=1
 ·refine .inr (.inl ⟨?_,ZaV h,by omega,by omega⟩)
  rw [Y0,Za7 (fun q=>by omega),Za8 ⟨hk,ha,ht,h⟩]
 refine .inr (.inr ⟨?_,ZaT h⟩)
 rw [Y0,Za7 (fun q=>by omega),Za7 (fun q=>h q.2.2.2)]
theorem gu {md:Md} (H:Nat->Int) (ha:0<=H 133/\H 133 < 64) (ht:0<=H 134/\H 134 < 64) (hc:H 137=0\/H 137=1) (hC:0<=H 129/\H 129<=15):WR AM 88 [.ptr 0 0 138] [.sc md 138 (ia H)] (fun v _ L=>(∃ x y z,v=.tup [.s (.int .i64 x),.s (.int .i64 y),.s (.bool z)]/\Rk (H 136) (H 133) (H 134) (H 137) (H 129) x y z)/\(0,Blk.sc md 138 (ia H))∈L):=by
 refine YJ (a:=a88) rfl rfl (YI _) (ZQ rfl) (m:=1) rfl (Ze (Yq rfl (Yq rfl (Yq rfl (Zf (Zl rfl (YM rfl (Yd (o':=136) rfl rfl rfl (Yd (o':=137) rfl rfl rfl (Ym rfl rfl ZM rfl (Wn rfl rfl (by omega) (Zs rfl rfl (Zj rfl (Zf (Zl rfl (YM rfl (Yd (o':=136) rfl rfl rfl (Yd (o':=137) rfl rfl rfl (Ym rfl rfl ZM rfl (Wn rfl rfl (by omega) (Yr rfl rfl (p6 hc) (Zj rfl (Yc (Ye (Yk (Ze (Zl rfl (YM rfl (Yd (o':=136) rfl rfl rfl ?_)))))))))))))))))))))))))))))
 refine Yd (o':=136) rfl rfl rfl (Ym rfl rfl ZM rfl (Zr rfl (Zk rfl (Ys (t:=28) rfl (fun h6=>?_) (fun h6=>?_))))) <;> simp only [NM] at h6
 ·refine ZE rfl (ZD rfl (ZC rfl (Zq rfl (Zk rfl (Yc (ZA rfl (Ze (Yq rfl (Yq rfl (Yq rfl (Yc (Yi (⟨_,YK (v:=.s (.int _ _)) rfl (YK (v:=.s (.int _ _)) rfl (ZK rfl)),?_⟩)))))))))))))
  refine ⟨⟨_,_,_,rfl,?_⟩,ZM⟩
  exact DN (by omega)
 refine Yb rfl (Zl rfl (Yb rfl (YM rfl (Yb rfl (Yd (o':=133) rfl rfl rfl (Yb rfl (Yd (o':=133) rfl rfl rfl (Yb rfl (Ym rfl rfl ZM rfl (Yb rfl (Zj rfl (Yb rfl (Zr rfl (Zq rfl (Zk rfl (Yc (Yj rfl (fun h7=>?_) (fun h7=>?_)))))))))))))))))) <;> simp only [NM] at h7
 ·refine Ze (Yq rfl (Yq rfl (Yq rfl (Yc (Yi (⟨_,YK (v:=.s (.int _ _)) rfl (YK (v:=.s (.int _ _)) rfl (ZK rfl)),?_⟩))))))
  refine ⟨⟨_,_,_,rfl,?_⟩,ZM⟩
  exact DN (by omega)
 refine Ze (Zl rfl (YM rfl (Yd (o':=133) rfl rfl rfl (Yd (o':=134) rfl rfl rfl (Ym rfl rfl ZM rfl (Zj rfl (Zs rfl rfl (Zr rfl (Zk rfl (Yc (Yj rfl (fun h8=>?_) (fun h8=>?_)))))))))))) <;> simp only [NM] at h8
 ·refine Ye (Yg (Zj rfl (Zs rfl rfl (Zj rfl (Zs rfl rfl (Zl rfl (YM rfl (Zy rfl (Yd (o':=129) rfl rfl rfl (Ym rfl rfl ZM rfl (Zj rfl (Yr (r:=.int .i64 (KM (H 129) (YS (H 137)))) rfl rfl rfl (Zr rfl (Zj rfl (Zj rfl (Zk rfl (Yc (Yi (⟨_,YK (v:=.s (.int _ _)) rfl (YK (v:=.s (.int _ _)) rfl (ZK rfl)),?_⟩)))))))))))))))))))
  refine ⟨⟨_,_,_,rfl,?_⟩,ZM⟩
  exact tn hC (by omega) (by omega) (by omega)
 refine Ze (Zl rfl (YM rfl (Yd (o':=133) rfl rfl rfl (Yd (o':=134) rfl rfl rfl (Ym rfl rfl ZM rfl (Zj rfl (Zt rfl rfl (Zr rfl (Zk rfl (Yc (Yj rfl (fun h9=>?_) (fun h9=>?_)))))))))))) <;> simp only [NM] at h9
 ·refine Ye (Yg (Zj rfl (Zt rfl rfl (Zj rfl (Zt rfl rfl (Zl rfl (YM rfl (Zy rfl (Yd (o':=129) rfl rfl rfl (Ym rfl rfl ZM rfl (Zj rfl (Yr rfl rfl (pG hc) (Yr (r:=.int .i64 (KM (H 129) (2*YS (H 137)))) rfl rfl rfl (Zr rfl (Zj rfl (Zj rfl (Zk rfl (Yc (Yi (⟨_,YK (v:=.s (.int _ _)) rfl (YK (v:=.s (.int _ _)) rfl (ZK rfl)),?_⟩))))))))))))))))))))
  refine ⟨⟨_,_,_,rfl,?_⟩,ZM⟩
  exact sW hC (by omega) (by omega) (by omega)
 refine Yh (Ze (Yq rfl (Yq rfl (Yq rfl (Yc (Yi (⟨_,YK (v:=.s (.int _ _)) rfl (YK (v:=.s (.int _ _)) rfl (ZK rfl)),?_⟩)))))))
 refine ⟨⟨_,_,_,rfl,?_⟩,ZM⟩
 exact DN (by omega)
theorem oW {md:Md} (H:Nat->Int) (ha:0<=H 133/\H 133 < 64) (ht:0<=H 134/\H 134 < 64) (hc:H 137=0\/H 137=1):WR AM 89 [.ptr 0 0 138] [.sc md 138 (ia H)] (fun v _ L=>v=.s (.bool (Vc (H 136) (H 133) (H 134) (H 137)))/\(0,Blk.sc md 138 (ia H))∈L):=by
 refine YJ (a:=a89) rfl rfl (YI _) (ZQ rfl) (m:=1) rfl (Ze (Yq rfl (Zf (Zl rfl (YM rfl (Yd (o':=136) rfl rfl rfl (Yd (o':=137) rfl rfl rfl (Ym rfl rfl ZM rfl (Wn rfl rfl (by omega) (Zt rfl rfl (Zj rfl (Yc (Ye (Yg (Zl rfl (YM rfl (Yd (o':=133) rfl rfl rfl (Yd (o':=133) rfl rfl rfl (Ym rfl rfl ZM rfl (Yu rfl (To (by omega)) rfl rfl rfl (Zl rfl (YM rfl (Yd (o':=133) rfl rfl rfl (Yd (o':=134) rfl rfl rfl (Ym rfl rfl ZM rfl (Yt rfl (To (by omega)) rfl rfl rfl (Zj rfl (Zj rfl (Zf ?_)))))))))))))))))))))))))))))
 refine Zl rfl (YM rfl (Yd (o':=136) rfl rfl rfl (Yd (o':=136) rfl rfl rfl (Ym rfl rfl ZM rfl (Zr rfl (Zk rfl (Ys (t:=31) rfl (fun h10=>?_) (fun h10=>?_)))))))) <;> simp only [NM] at h10
 ·refine Yb rfl (Zl rfl (Yb rfl (Q9 rfl (UU (qz H ha ht)) rfl rfl rfl .here (Yb rfl (Zr rfl (Zq rfl (Zk rfl (Ys (t:=36) rfl (fun h11=>?_) (fun h11=>?_))))))))) <;> simp only [NM] at h11
  ·refine Yb rfl (Zj rfl (Yb rfl (Zl rfl (Yb rfl (YM rfl (Yb rfl (Yd (o':=136) rfl rfl rfl (Yb rfl (Yd (o':=137) rfl rfl rfl (Yb rfl (Ym rfl rfl ZM rfl (Yb rfl (Wn rfl rfl (by omega) (Yb rfl (Zs rfl rfl (Yb rfl (Zr rfl (Zq rfl (Zk rfl (Ys (t:=47) rfl (fun h12=>?_) (fun h12=>?_))))))))))))))))))))) <;> simp only [NM] at h12
   ·refine Yb rfl (Zj rfl (Yb rfl (Zj rfl (Yb rfl (Zj rfl (Yb rfl (Wn rfl rfl (by omega) (Yb rfl (Zs rfl rfl (Yb rfl (Zr rfl (Zq rfl (Zk rfl (Zg rfl (⟨ZI ?_,ZM⟩)))))))))))))))
    unfold Vc
    rw [ZaP]
    simp only [Za2,ZaL,ZaF,Za5,Za3,Za6,Za4]
    omega
   refine ZE rfl (ZD rfl (Zq rfl (Zk rfl (Zg rfl (⟨ZI ?_,ZM⟩)))))
   unfold Vc
   rw [ZaP]
   simp only [Za2,ZaL,ZaF,Za5,Za3,Za6,Za4]
   omega
  refine ZF rfl (ZC rfl (Zq rfl (Zk rfl (ZE rfl (ZD rfl (Zq rfl (Zk rfl (Zg rfl (⟨ZI ?_,ZM⟩)))))))))
  unfold Vc
  rw [ZaP]
  simp only [Za2,ZaL,ZaF,Za5,Za3,Za6,Za4]
  omega
 refine ZD rfl (ZC rfl (Zq rfl (Zk rfl (ZF rfl (ZC rfl (Zq rfl (Zk rfl (ZE rfl (ZD rfl (Zq rfl (Zk rfl (Zg rfl (⟨ZI ?_,ZM⟩)))))))))))))
 unfold Vc
 rw [ZaP]
 simp only [Za2,ZaL,ZaF,Za5,Za3,Za6,Za4]
 omega
def Qq (H X K:Nat->Int):Nat->Nat->Int
 | 0=>H
 | n+1=>if isM (K (0+(n:Int).toNat*1))=true then ovA (Qq H X K n) (0+(K (0+(n:Int).toNat*1)).toNat*2) 2 X else Qq H X K n
theorem ya {H X K:Nat->Int}:∀ (n:Nat) (i:Nat),128<=i->Qq H X K n i=H i
 | 0,_,_=>rfl
 | n+1,i,hi=>by
  have ih:=ya (H:=H) (X:=X) (K:=K) n i hi
  unfold Qq
  split
  ·rename_i hs
   simp only [isM,ZaL] at hs
   rw [WV (by omega)]
   exact ih
  exact ih
theorem za {H X K:Nat->Int} {n:Nat} {s:Int} (hs:K (0+(n:Int).toNat*1)=s) (h:0<=s/\s < 64):Qq H X K (n+1)=ovA (Qq H X K n) (sqI s) 2 X:=by
 rw [Qq,hs,Za8 (show isM s=true from ZaV h)]
theorem ur {H X K:Nat->Int} {n:Nat} {s:Int} (hs:K (0+(n:Int).toNat*1)=s) (h:¬ (0<=s/\s < 64)):Qq H X K (n+1)=Qq H X K n:=by
 rw [Qq,hs,Za7 (by rw [isM,ZaT h]; decide)]
theorem set_run {md md2:Md} (hmd:md.mut=true) {q:Nat} {c:Cp} (H X K:Nat->Int) (n:Nat) (hn:n<=1000):WR AM 90 [.ptr 0 0 138,.agg 2 (ia X),.sl 1 0 n 1 c] [.sc md 138 (ia H),.sc md2 q (ia K)] (fun v _ L=>v=.tup []/\(0,Blk.sc md 138 (ia (Qq H X K n)))∈L/\(1,Blk.sc md2 q (ia K))∈L):=by
 refine YJ (a:=a90) rfl rfl (YI _) (ZQ rfl) (m:=2) rfl (Ze (YC rfl (Zf (Zn rfl (Vi rfl (Yq rfl (Yc (Yk (Xm (L':=[_,_,_]) (.refl _) (Xp (fun m f _ L=>∃ (i:Nat),(i<=n)/\(m=n - i)/\(f 0=.ptr 0 0 138)/\(f 4=.ptr 2 0 2)/\(f 8=.sl 1 0 n 1 c)/\(f 9=.s (.int .i64 n))/\(f 10=.s (.int .i64 i))/\(L=[(2,.sc .var 2 (ia X)),(0,.sc md 138 (ia (Qq H X K i))),(1,.sc md2 q (ia K))])) (fun m f nb L hI=>?_) (n) ⟨0,by omega,rfl,rfl,rfl,rfl,rfl,rfl,rfl⟩))))))))))
 obtain ⟨i,hi,hm,k0,k4,k8,k9,k10,rfl⟩:=hI
 refine Za 0 k0 (Za 4 k4 (Za 8 k8 (Za 9 k9 (Za 10 k10 (Ze (Zr rfl (Yc (Ye (Yj rfl (fun h13=>?_) (fun h13=>?_)))))))))) <;> simp only [NM] at h13
 ·refine Yh (Ye (Yk (Ze (Zx rfl rfl (Ym (x:=K (0+(i:Int).toNat*1)) rfl rfl ZO (rfl) (Zj rfl (Zf (Zj rfl (Yt rfl (KQ _) rfl rfl rfl (Yc (Yj rfl (fun h14=>?_) (fun h14=>?_))))))))))))
  ·try simp only [isM,ZaL,Zax] at h14
   refine Yg (Zl rfl (Zj rfl (Yo rfl rfl ZM (YM rfl (Zy rfl (Zy rfl (Zw rfl rfl rfl (Yz rfl rfl rfl hmd (.there .here) (Yc (Yf (Zs rfl rfl (Zj rfl (Yc (⟨n - (i+1),_,by omega,(.refl _),i+1,by omega,rfl,rfl,rfl,rfl,rfl,rfl,?_⟩))))))))))))))
   (rw [za (n:=i) (s:=K (0+(i:Int).toNat*1)) rfl (by assumption)]; done)
  try simp only [isM,ZaL,Zax] at h14
  refine Yh (Yf (Zs rfl rfl (Zj rfl (Yc (⟨n - (i+1),_,by omega,(.refl _),i+1,by omega,rfl,rfl,rfl,rfl,rfl,rfl,?_⟩)))))
  (rw [ur (n:=i) (s:=K (0+(i:Int).toNat*1)) rfl (by assumption)]; done)
 refine YX (Xe (⟨_,YP,?_⟩))
 obtain rfl:i=n:=by omega
 exact ⟨rfl,ZN,ZO⟩
def tX:List (S × V):=[(.int .i64 4,.s (.int .i64 3)),(.int .i64 7,.s (.int .i64 1)),(.int .i64 0,.s (.int .i64 2)),(.int .i64 60,.s (.int .i64 12)),(.int .i64 63,.s (.int .i64 4)),(.int .i64 56,.s (.int .i64 8))]
theorem pF (s:Int):(QV (.int .i64 s) tX).getD (Z.v (.one (.s (.int .i64 0))))=.s (.int .i64 (Xz s)):=by
 simp only [tX,QV,S.eqB,Xz]
 by_cases h4:4=s
 ·simp [h4]
 by_cases h7:7=s
 ·simp [h4,h7]
 by_cases h0:0=s
 ·simp [h4,h7,h0]
 by_cases h60:60=s
 ·simp [h4,h7,h0,h60]
 by_cases h63:63=s
 ·simp [h4,h7,h0,h60,h63]
 by_cases h56:56=s
 ·simp [h4,h7,h0,h60,h63,h56]
 simp [h4,h7,h0,h60,h63,h56,Z.v]
def yH (K:Nat->Int):Nat->Int
 | 0=>0
 | n+1=>orM (yH K n) (Xz (K (0+(n:Int).toNat*1)))
theorem pj {md:Md} {q:Nat} {c:Cp} (K:Nat->Int) (n:Nat) (hn:n<=1000):WR AM 91 [.sl 0 0 n 1 c] [.sc md q (ia K)] (fun v _ L=>v=.s (.int .i64 (yH K n))/\(0,Blk.sc md q (ia K))∈L):=by
 refine YJ (a:=a91) rfl rfl (YI _) (ZQ rfl) (m:=1) rfl (Ze (Yq rfl (Zf (jt (UB rfl rfl rfl rfl rfl rfl .here (UB rfl rfl rfl rfl rfl rfl .here (UB rfl rfl rfl rfl rfl rfl .here (UB rfl rfl rfl rfl rfl rfl .here (UB rfl rfl rfl rfl rfl rfl .here (UB rfl rfl rfl rfl rfl rfl .here (Yq (v:=.map _) rfl (Yq (v:=.map _) rfl (Yc (Ye (Ze (Zn rfl (Vi rfl (Yq rfl (Yc (Yk (Xm (L':=[_,_]) (.refl _) (Xp (fun m f _ L=>∃ (i:Nat),(i<=n)/\(m=n - i)/\(f 2=.s (.int .i64 (yH K i)))/\(f 3=.map 1)/\(f 8=.sl 0 0 n 1 c)/\(f 9=.s (.int .i64 n))/\(f 10=.s (.int .i64 i))/\(L=[(1,.mp .var tX),(0,.sc md q (ia K))])) (fun m f nb L hI=>?_) (n) ⟨0,by omega,rfl,rfl,rfl,rfl,rfl,rfl,rfl⟩))))))))))))))))))))))
 obtain ⟨i,hi,hm,k2,k3,k8,k9,k10,rfl⟩:=hI
 refine Za 2 k2 (Za 3 k3 (Za 8 k8 (Za 9 k9 (Za 10 k10 (Ze (Zr rfl (Yc (Ye (Yj rfl (fun h15=>?_) (fun h15=>?_)))))))))) <;> simp only [NM] at h15
 ·refine Yh (Ye (Yk (Ze (Zx rfl rfl (Ym (x:=K (0+(i:Int).toNat*1)) rfl rfl ZN (rfl) (Zj rfl (Yc (Yf (Zj rfl (Yq (v:=.map _) rfl (Zj rfl (Vo rfl rfl ZM rfl (pF _) (Yr (r:=.int .i64 (orM _ _)) rfl rfl rfl (Zj rfl (Yc (Yf (Zs rfl rfl (Zj rfl (Yc ?_)))))))))))))))))))
  exact ⟨n - (i+1),_,by omega,(.refl _),i+1,by omega,rfl,rfl,rfl,rfl,rfl,rfl,rfl⟩
 refine YX (Xe (Ze (Zj rfl (Zj rfl (Yc (Yi (⟨_,ZL rfl,?_⟩)))))))
 obtain rfl:i=n:=by omega
 exact ⟨rfl,ZN⟩
open Go Go.Am
theorem rook_ex {md:Md} (H:Nat->Int) (ha:0<=H 133/\H 133 < 64) (ht:0<=H 134/\H 134 < 64) (hc:H 137=0\/H 137=1) (hC:0<=H 129/\H 129<=15) :
  ∃ x y z,Rk (H 136) (H 133) (H 134) (H 137) (H 129) x y z/\RB AM 88 [.ptr 0 0 138] [.sc md 138 (ia H)] (.tup [.s (.int .i64 x),.s (.int .i64 y),.s (.bool z)]) [.sc md 138 (ia H)]:=by
 obtain ⟨v,σ',n',L',h1,h2,⟨x,y,z,rfl,hr⟩,h3⟩:=gu (md:=md) H ha ht hc hC
 exact ⟨x,y,z,hr,σ',h1,(h2.2.mem h3).2,⟨_,_,_,rfl⟩,trivial⟩
structure Same (H J:Nat->Int) (B:Nat->Int):Prop where
 lo:∀ i,i < 128->J i=B i
 hi:∀ i,128<=i->J i=H i
theorem xr {md md2:Md} (hmd:md.mut=true) {q:Nat} {c:Cp} (H X K:Nat->Int) (n:Nat) (hn:n<=1000):∃ J,J=Qq H X K n/\RB AM 90 [.ptr 0 0 138,.agg 2 (ia X),.sl 1 0 n 1 c] [.sc md 138 (ia H),.sc md2 q (ia K)] (.tup []) [.sc md 138 (ia J),.sc md2 q (ia K)] :=
 ⟨_,rfl,jV (set_run hmd H X K n hn)⟩
theorem set_two {H J:Nat->Int} {w a:Int} (e:J=Qq H (fun _=>0) (ov (ov (fun _=>0) (0*1) w) (1*1) a) 2) (ha:0<=a/\a < 64) (hw:-1<=w/\w < 64):Same H J (brd2 H w a):=by
 have h2:=za (H:=H) (X:=fun _=>0) (K:=ov (ov (fun _=>0) (0*1) w) (1*1) a) (n:=1) (s:=a) rfl ha
 refine ⟨fun i _=>?_,fun i hi=>by rw [e]; exact ya 2 i hi⟩
 rw [e,h2,brd2,DW]
 by_cases h:0<=w
 ·rw [za (H:=H) (X:=fun _=>0) (K:=ov (ov (fun _=>0) (0*1) w) (1*1) a) (n:=0) (s:=w) rfl (by omega),Za8 h]; rfl
 rw [ur (H:=H) (X:=fun _=>0) (K:=ov (ov (fun _=>0) (0*1) w) (1*1) a) (n:=0) (s:=w) rfl (by omega),Za7 h]; rfl
theorem JY {H J J' B X Y:Nat->Int} {t:Int} (j:Same H J B) (e:J'=Qq J X (ov (fun _=>0) (0*1) t) 1) (ht:0<=t/\t < 64) (hx:∀ i,i < 2->X i=Y i):Same H J' (ovA B (sqI t) 2 Y):=by
 have h1:=za (H:=J) (X:=X) (K:=ov (fun _=>0) (0*1) t) (n:=0) (s:=t) rfl ht
 refine ⟨fun i hi=>?_,fun i hi=>by rw [e,ya 1 i hi]; exact j.hi i hi⟩
 rw [e,h1]
 exact UP (n:=128) j.lo hx i hi
theorem two {X Y:Nat->Int} (h0:X 0=Y 0) (h1:X 1=Y 1):∀ i,i < 2->X i=Y i
 | 0,_=>h0
 | 1,_=>h1
 | n+2,h=>by omega
theorem EO {k a t c C:Int} (h:Y0 k a t c C≠0):a=56*c+4:=by
 unfold Y0 at h
 split at h
 ·omega
 split at h
 ·omega
 exact absurd rfl h
theorem gm {H J2 J3 J4 X:Nat->Int} {w k a t c b C x y:Int} {z:Bool} (j:Same H J2 (Es H w a t k c b)) (e3:J3=Qq J2 (fun _=>0) (ov (fun _=>0) (0*1) x) 1) (e4:J4=Qq J3 (ov (ov (fun _=>0) 0 4) 1 (X 1)) (ov (fun _=>0) (0*1) y) 1)
  (hr:Rk k a t c C x y z) (hz:z=true) (hc:c=0\/c=1) (hx1:X 1=c):Same H J4 (V0 H w a t k c b (Y0 k a t c C)):=by
 rcases hr with ⟨hg,_,rfl,rfl⟩ | ⟨hg,_,rfl,rfl⟩ | ⟨_,hf⟩
 ·have:=EO (h:=by rw [hg]; decide)
  rw [hg,V0,Za8 rfl]
  exact JY (JY j e3 (by omega) (fun _ _=>rfl)) e4 (by omega) (two rfl hx1)
 ·have:=EO (h:=by rw [hg]; decide)
  rw [hg,V0,Za7 (by decide),Za8 rfl]
  exact JY (JY j e3 (by omega) (fun _ _=>rfl)) e4 (by omega) (two rfl hx1)
 rw [hz] at hf; cases hf
theorem tx {H J2:Nat->Int} {w k a t c b C x y:Int} {z:Bool} (j:Same H J2 (Es H w a t k c b)) (hr:Rk k a t c C x y z) (hz:z=false):Same H J2 (V0 H w a t k c b (Y0 k a t c C)):=by
 rcases hr with ⟨_,h,_⟩ | ⟨_,h,_⟩ | ⟨hg,_⟩
 ·rw [hz] at h; cases h
 ·rw [hz] at h; cases h
 rw [hg,V0,Za7 (by decide),Za7 (by decide)]; exact j
structure Done (H J B:Nat->Int) (cs ovr hf fl:Int):Prop where
 lo:∀ i,i < 128->J i=B i
 s:J 128=H 128
 c:J 129=cs
 o:J 130=ovr
 h:J 131=hf
 f:J 132=fl
theorem done_is {H J:Nat->Int} {k c a t b C:Int} (h:Done H J (V0 H (Y7 H k a t) a t k c b (Y0 k a t c C)) (V2 C (orM (orM 0 (Xz a)) (Xz t))) (UN k a t c) (Uo H k (Y7 H k a t)) (QY H)) (i:Nat):ovA (fun _=>0) 0 133 (ov J 128 (Y5 (H 128))) i=Uv H k c a t b C i:=by
 unfold Uv
 by_cases hi:i < 133
 ·rw [X1 (by omega),Nat.sub_zero]
  by_cases h1:i < 128
  ·rw [Za8 h1,W7 (by omega)]; exact h.lo i h1
  rw [Za7 h1]
  have hc:i=128\/i=129\/i=130\/i=131\/i=132:=by omega
  rcases hc with rfl | rfl | rfl | rfl | rfl
  ·rfl
  ·exact h.c
  ·exact h.o
  ·exact h.h
  exact h.f
 rw [WV (by omega),Za7 (by omega),Za7 (by omega),Za7 (by omega),Za7 (by omega),Za7 (by omega),Za7 (by omega)]
theorem gP (H:Nat->Int) (ha:0<=H 133/\H 133 < 64) (ht:0<=H 134/\H 134 < 64) (hc:H 137=0\/H 137=1) (hC:0<=H 129/\H 129<=15):WR AM 50 [.ptr 0 0 138] [.sc .var 138 (ia H)] (fun v _ L=>∃ J,v=.agg 133 (ia (Uv H (H 136) (H 137) (H 133) (H 134) (H 135) (H 129)))/\(0,Blk.sc .var 138 (ia J))∈L):=by
 refine YJ (a:=a50) rfl rfl (YI _) (ZQ rfl) (m:=1) rfl (Ze (Yy (Zf (Zl rfl (Q9 rfl (UU (qp H ha ht)) rfl rfl rfl (.there .here) (Zj rfl (Zf (Zl rfl ?_))))))))
 obtain ⟨x,y,z,hr,hR⟩:=rook_ex (md:=.var) H ha ht hc hC
 refine Q9 rfl (hR) rfl rfl rfl (.there .here) (Zo rfl (YD (v:=.s (.int _ _)) rfl rfl (YD (v:=.s (.int _ _)) rfl rfl (YD (v:=.s (.bool _)) rfl rfl (Zj rfl (Zj rfl (Zk rfl (Zf (Yq rfl (Yc (WD (fun f n L=>(f 0=.ptr 0 0 138)/\(f 2=.ptr 1 0 133)/\(f 3=.s (.int .i64 (Y7 H (H 136) (H 133) (H 134))))/\(f 4=.s (.int .i64 x))/\(f 5=.s (.int .i64 y))/\(f 6=.s (.bool z))/\(f 7=.s (.int .i64 (UN (H 136) (H 133) (H 134) (H 137))))/\(L=[(1,.sc .var 133 (ia fun _=>0)),(0,.sc .var 138 (ia H))])/\(n=2)) ?_ (fun f nb L hI=>?_))))))))))))
 ·refine Ze (Zl rfl (Q9 rfl (UU (oW H ha ht hc)) rfl rfl rfl (.there .here) (Yc (Yj rfl (fun h1=>?_) (fun h1=>?_)))))
  ·refine Yg (Zl rfl (YM rfl (Yd (o':=133) rfl rfl rfl (Yd (o':=133) rfl rfl rfl (Ym rfl rfl ZN rfl (Zl rfl (YM rfl (Yd (o':=133) rfl rfl rfl (Yd (o':=134) rfl rfl rfl (Ym rfl rfl ZN rfl (Zs rfl rfl (Zu rfl rfl (Zj rfl (Yc (⟨_,(.refl _),rfl,rfl,rfl,rfl,rfl,rfl,?_,rfl,rfl⟩)))))))))))))))
   refine ZJ ?_
   rw [UN]
   exact (Za8 (by assumption)).symm
  refine Yh (⟨_,(.refl _),rfl,rfl,rfl,rfl,rfl,rfl,?_,rfl,rfl⟩)
  refine ZJ ?_
  rw [UN]
  exact (Za7 (Bool.eq_false_iff.1 (by assumption))).symm
 obtain ⟨k0,k2,k3,k4,k5,k6,k7,rfl,rfl⟩:=hI
 refine Za 0 k0 (Za 2 k2 (Za 3 k3 (Za 4 k4 (Za 5 k5 (Za 6 k6 (Za 7 k7 (Ze (Zl rfl (YM rfl (Yd (o':=136) rfl rfl rfl (Yp rfl rfl ZN (Yy (Yz rfl rfl rfl rfl .here (Yc (WD (fun f n L=>∃ (X:Nat->Int),(X 0=(if H 135=0 then H 136 else H 135))/\(X 1=H 137)/\(f 0=.ptr 0 0 138)/\(f 2=.ptr 1 0 133)/\(f 3=.s (.int .i64 (Y7 H (H 136) (H 133) (H 134))))/\(f 4=.s (.int .i64 x))/\(f 5=.s (.int .i64 y))/\(f 6=.s (.bool z))/\(f 7=.s (.int .i64 (UN (H 136) (H 133) (H 134) (H 137))))/\(f 8=.ptr 2 0 2)/\(L=[(2,.sc .var 2 (ia X)),(1,.sc .var 133 (ia fun _=>0)),(0,.sc .var 138 (ia H))])/\(n=3)) ?_ (fun f nb L hI=>?_))))))))))))))))
 ·refine Ze (Zl rfl (YM rfl (Yd (o':=133) rfl rfl rfl (Yd (o':=135) rfl rfl rfl (Ym rfl rfl ZO rfl (Zr rfl (Yc (Yj rfl (fun h2=>?_) (fun h2=>?_))))))))) <;> simp only [NM] at h2
  ·refine Yf (Zl rfl (YM rfl (Yd (o':=133) rfl rfl rfl (Yd (o':=135) rfl rfl rfl (Ym rfl rfl ZO rfl (Zy rfl (YA rfl rfl rfl rfl .here (Yc (⟨_,(.refl _),_,?_,?_,rfl,rfl,rfl,rfl,rfl,rfl,rfl,rfl,rfl,rfl⟩)))))))))
   · exact (Za7 (by assumption)).symm
   rfl
  refine Yh (⟨_,(.refl _),_,?_,?_,rfl,rfl,rfl,rfl,rfl,rfl,rfl,rfl,rfl,rfl⟩)
  · exact (Za8 (by assumption)).symm
  rfl
 obtain ⟨X,hx0,hx1,k0,k2,k3,k4,k5,k6,k7,k8,rfl,rfl⟩:=hI
 refine Za 0 k0 (Za 2 k2 (Za 3 k3 (Za 4 k4 (Za 5 k5 (Za 6 k6 (Za 7 k7 (Za 8 k8 (Ze (Zl rfl (YB rfl .nil (Zj rfl (Zl rfl (YM rfl (Yd (o':=133) rfl rfl rfl (Yd (o':=133) rfl rfl rfl (Ym (x:=H 133) rfl rfl ZO (rfl) (Xo rfl (.one rfl (.one rfl .nil)) ?_)))))))))))))))))
 obtain ⟨J1,eJ1,hSJ1⟩:=xr (md:=.var) (md2:=.var) (q:=2) (c:=.ex 2) rfl H (fun _=>0) (ov (ov (fun _=>0) (0*1) (Y7 H (H 136) (H 133) (H 134))) (1*1) (H 133)) 2 (by omega)
 have j1:Same H J1 (brd2 H (Y7 H (H 136) (H 133) (H 134)) (H 133)):=set_two eJ1 ha (VH ha ht)
 refine VN (rs:=[0,3]) (Bs:=[_,_]) rfl (hSJ1) rfl rfl (YF rfl) (fun _ h=>h) rfl ⟨ZP,⟨_,_,_,rfl⟩,⟨ZM,⟨_,_,_,rfl⟩,trivial⟩⟩ rfl rfl rfl (.cons (.there (.there (.there .here))) (.cons .here .nil)) (Yc (Ye (Yg (Zl rfl (Yo rfl rfl ZN (Zl rfl (YM rfl (Yd (o':=133) rfl rfl rfl (Yd (o':=134) rfl rfl rfl (Ym (x:=H 134) rfl rfl ZP (j1.hi 134 (by omega)) (Xo rfl (.one rfl .nil) ?_)))))))))))
 obtain ⟨J2,eJ2,hSJ2⟩:=xr (md:=.var) (md2:=.var) (q:=1) (c:=.ex 1) rfl J1 X (ov (fun _=>0) (0*1) (H 134)) 1 (by omega)
 have j2:Same H J2 (Es H (Y7 H (H 136) (H 133) (H 134)) (H 133) (H 134) (H 136) (H 137) (H 135)):=JY j1 eJ2 ht (two hx0 hx1)
 refine VN (rs:=[0,4]) (Bs:=[_,_]) rfl (hSJ2) rfl rfl (YF rfl) (fun _ h=>h) rfl ⟨(.tail _ ZP),⟨_,_,_,rfl⟩,⟨ZM,⟨_,_,_,rfl⟩,trivial⟩⟩ rfl rfl rfl (.cons (.there (.there (.there (.there .here)))) (.cons .here .nil)) (Yc (WD (fun f n L=>∃ (X J:Nat->Int),(3<=n)/\(Same H J (V0 H (Y7 H (H 136) (H 133) (H 134)) (H 133) (H 134) (H 136) (H 137) (H 135) (Y0 (H 136) (H 133) (H 134) (H 137) (H 129))))/\(f 0=.ptr 0 0 138)/\(f 2=.ptr 1 0 133)/\(f 3=.s (.int .i64 (Y7 H (H 136) (H 133) (H 134))))/\(f 7=.s (.int .i64 (UN (H 136) (H 133) (H 134) (H 137))))/\(L=[(2,.sc .var 2 (ia X)),(1,.sc .var 133 (ia fun _=>0)),(0,.sc .var 138 (ia J))])) ?_ (fun f nb L hI=>?_)))
 ·refine Ze (Zk rfl (Yc (Yj rfl (fun h3=>?_) (fun h3=>?_))))
  ·refine Ze (Zl rfl (YB rfl .nil (Zj rfl (Xo rfl (.one rfl .nil) ?_))))
   obtain ⟨J3,eJ3,hSJ3⟩:=xr (md:=.var) (md2:=.var) (q:=1) (c:=.ex 1) rfl J2 (fun _=>0) (ov (fun _=>0) (0*1) x) 1 (by omega)
   refine VN (rs:=[0,5]) (Bs:=[_,_]) rfl (hSJ3) rfl rfl (YF rfl) (fun _ h=>h) rfl ⟨(.tail _ (.tail _ ZP)),⟨_,_,_,rfl⟩,⟨ZM,⟨_,_,_,rfl⟩,trivial⟩⟩ rfl rfl rfl (.cons (.there (.there (.there (.there (.there .here))))) (.cons .here .nil)) (Yc (Yf (Zl rfl (Zz rfl (Ym rfl rfl ZP rfl (YB rfl (.one rfl (.one rfl .nil)) (Zj rfl (Xo rfl (.one rfl .nil) ?_))))))))
   obtain ⟨J4,eJ4,hSJ4⟩:=xr (md:=.var) (md2:=.var) (q:=1) (c:=.ex 1) rfl J3 (ov (ov (fun _=>0) 0 4) 1 (X 1)) (ov (fun _=>0) (0*1) y) 1 (by omega)
   have j4:Same H J4 (V0 H (Y7 H (H 136) (H 133) (H 134)) (H 133) (H 134) (H 136) (H 137) (H 135) (Y0 (H 136) (H 133) (H 134) (H 137) (H 129))):=gm j2 eJ3 eJ4 hr (by assumption) hc hx1
   refine VN (rs:=[0,6]) (Bs:=[_,_]) rfl (hSJ4) rfl rfl (YF rfl) (fun _ h=>h) rfl ⟨(.tail _ (.tail _ (.tail _ ZP))),⟨_,_,_,rfl⟩,⟨ZM,⟨_,_,_,rfl⟩,trivial⟩⟩ rfl rfl rfl (.cons (.there (.there (.there (.there (.there (.there .here)))))) (.cons .here .nil)) (Yc ?_)
   exact ⟨_,(.cons _ (.cons _ (.cons _ (.cons _ (.refl _))))),X,J4,by omega,j4,rfl,rfl,rfl,rfl,rfl⟩
  refine Yh ?_
  exact ⟨_,(.cons _ (.cons _ (.refl _))),X,J2,by omega,tx j2 hr (by assumption),rfl,rfl,rfl,rfl,rfl⟩
 obtain ⟨X,J,hn3,hJ,k0,k2,k3,k7,rfl⟩:=hI
 refine Za 0 k0 (Za 2 k2 (Za 3 k3 (Za 7 k7 (Ze (Zl rfl (Zj rfl (YM rfl (Zy rfl (Yd (o':=130) rfl rfl rfl (YA rfl rfl rfl rfl (.there (.there .here)) (Yc (Ye (Yg (Zl rfl (YM rfl (Zy rfl (Yd (o':=129) rfl rfl rfl (Ym (x:=H 129) rfl rfl ZO (hJ.hi 129 (by omega)) (Zl rfl (YM rfl (Yd (o':=133) rfl rfl rfl (Yd (o':=133) rfl rfl rfl (Ym (x:=H 133) rfl rfl ZO (hJ.hi 133 (by omega)) (Zl rfl (YM rfl (Yd (o':=133) rfl rfl rfl (Yd (o':=134) rfl rfl rfl (Ym (x:=H 134) rfl rfl ZO (hJ.hi 134 (by omega)) (Xo rfl (.one rfl (.one rfl .nil)) ?_)))))))))))))))))))))))))))))
 refine gk (rs:=[nb]) (Bs:=[_]) (av:=[.sl nb 0 2 1 (.ex 2)]) (v:=.s (.int .i64 (yH (ov (ov (fun _=>0) (0*1) (H 133)) (1*1) (H 134)) 2))) rfl (UU (pj (md:=.ro) (q:=2) (c:=.ex 2) (ov (ov (fun _=>0) (0*1) (H 133)) (1*1) (H 134)) 2 (by omega))) rfl (by simp [V.refsL,V.refs,Ve]) (by simp [V.refsL,V.refs]) (by simp [V.refsL,V.refs]) (by simp [rnL,V.renL,V.ren,pos]) ⟨ZM,⟨_,_,_,rfl⟩,trivial⟩ rfl rfl rfl (Yr (r:=.int .i64 (V2 (H 129) _)) rfl rfl rfl (YM rfl (Zy rfl (Yd (o':=129) rfl rfl rfl (YA rfl rfl rfl rfl (.there (.there (.there .here))) (Zf (Zl rfl (Zl rfl (YM rfl (Zy rfl (Yd (o':=131) rfl rfl rfl (Ym (x:=H 131) rfl rfl ZP (hJ.hi 131 (by omega)) (DZ rfl rfl (Yr rfl rfl rfl (YM rfl (Zy rfl (Yd (o':=131) rfl rfl rfl (YA rfl rfl rfl rfl (.there (.there (.there .here))) (Yc (WD (fun f n L=>∃ (J:Nat->Int),(Done H J (V0 H (Y7 H (H 136) (H 133) (H 134)) (H 133) (H 134) (H 136) (H 137) (H 135) (Y0 (H 136) (H 133) (H 134) (H 137) (H 129))) (V2 (H 129) (orM (orM 0 (Xz (H 133))) (Xz (H 134)))) (UN (H 136) (H 133) (H 134) (H 137)) (Uo H (H 136) (Y7 H (H 136) (H 133) (H 134))) (H 132))/\(f 0=.ptr 0 0 138)/\(f 2=.ptr 1 0 133)/\(L=[(1,.sc .var 133 (ia fun _=>0)),(0,.sc .var 138 (ia J))])) ?_ (fun f nb L hI=>?_)))))))))))))))))))))
 ·refine Ze (Zj rfl (Zr rfl (Zk rfl (Ys (t:=118) rfl (fun h4=>?_) (fun h4=>?_))))) <;> simp only [NM] at h4
  ·refine ZE rfl (ZD rfl (Zq rfl (Yc (ZA rfl (Yf (Zl rfl (YM rfl (Zy rfl (Yd (o':=131) rfl rfl rfl (YA rfl rfl rfl rfl (.there (.there (.there .here))) (Yc (⟨_,(.cons _ (.cons _ (.refl _))),_,?_,rfl,rfl,rfl⟩))))))))))))
   refine ⟨(by intro i hi; (repeat rw [W7 (by omega)]); exact hJ.lo i hi),hJ.hi 128 (by omega),rfl,rfl,?_,hJ.hi 132 (by omega)⟩
   have hb:=VH (P:=H) (k:=H 136) ha ht
   rw [Uo]
   exact (Za8 (by omega)).symm
  refine Yb rfl (Zl rfl (Yb rfl (YM rfl (Yb rfl (Yd (o':=136) rfl rfl rfl (Yb rfl (Yd (o':=136) rfl rfl rfl (Yb rfl (Ym (x:=H 136) rfl rfl ZP (hJ.hi 136 (by omega)) (Yb rfl (Zr rfl (Zq rfl (Yc (Yj rfl (fun h5=>?_) (fun h5=>?_))))))))))))))) <;> simp only [NM] at h5
  ·refine Yf (Zl rfl (YM rfl (Zy rfl (Yd (o':=131) rfl rfl rfl (YA rfl rfl rfl rfl (.there (.there (.there .here))) (Yc (⟨_,(.cons _ (.cons _ (.refl _))),_,?_,rfl,rfl,rfl⟩)))))))
   refine ⟨(by intro i hi; (repeat rw [W7 (by omega)]); exact hJ.lo i hi),hJ.hi 128 (by omega),rfl,rfl,?_,hJ.hi 132 (by omega)⟩
   have hb:=VH (P:=H) (k:=H 136) ha ht
   rw [Uo]
   exact (Za8 (by omega)).symm
  refine Yh (⟨_,(.cons _ (.cons _ (.refl _))),_,?_,rfl,rfl,rfl⟩)
  refine ⟨(by intro i hi; (repeat rw [W7 (by omega)]); exact hJ.lo i hi),hJ.hi 128 (by omega),rfl,rfl,?_,hJ.hi 132 (by omega)⟩
  have hb:=VH (P:=H) (k:=H 136) ha ht
  rw [Uo]
  exact (Za7 (by omega)).symm
 obtain ⟨J,hD,k0,k2,rfl⟩:=hI
 refine Za 0 k0 (Za 2 k2 (WD (fun f n L=>∃ (J:Nat->Int),(Done H J (V0 H (Y7 H (H 136) (H 133) (H 134)) (H 133) (H 134) (H 136) (H 137) (H 135) (Y0 (H 136) (H 133) (H 134) (H 137) (H 129))) (V2 (H 129) (orM (orM 0 (Xz (H 133))) (Xz (H 134)))) (UN (H 136) (H 133) (H 134) (H 137)) (Uo H (H 136) (Y7 H (H 136) (H 133) (H 134))) (QY H))/\(f 0=.ptr 0 0 138)/\(f 2=.ptr 1 0 133)/\(L=[(1,.sc .var 133 (ia fun _=>0)),(0,.sc .var 138 (ia J))])) ?_ (fun f nb L hI=>?_)))
 ·refine Ze (Zl rfl (YM rfl (Zy rfl (Yd (o':=128) rfl rfl rfl (Ym (x:=H 128) rfl rfl ZN (hD.s) (Zr rfl (Yc (Yj rfl (fun h6=>?_) (fun h6=>?_))))))))) <;> simp only [NM] at h6
  ·refine Yf (Zl rfl (Zl rfl (YM rfl (Zy rfl (Yd (o':=132) rfl rfl rfl (Ym (x:=H 132) rfl rfl ZN (hD.f) (DZ rfl rfl (Yr rfl rfl rfl (YM rfl (Zy rfl (Yd (o':=132) rfl rfl rfl (YA rfl rfl rfl rfl (.there .here) (Yc (⟨_,(.refl _),_,?_,rfl,rfl,rfl⟩))))))))))))))
   refine ⟨(by intro i hi; (repeat rw [W7 (by omega)]); exact hD.lo i hi),hD.s,hD.c,hD.o,hD.h,?_⟩
   rw [QY]
   exact (Za8 (by assumption)).symm
  refine Yh (⟨_,(.refl _),_,?_,rfl,rfl,rfl⟩)
  refine ⟨(by intro i hi; (repeat rw [W7 (by omega)]); exact hD.lo i hi),hD.s,hD.c,hD.o,hD.h,?_⟩
  rw [QY]
  exact hD.f.trans (Za7 (by assumption)).symm
 obtain ⟨J,hE,k0,k2,rfl⟩:=hI
 refine Za 0 k0 (Za 2 k2 (Ze (Zl rfl (Zl rfl (YM rfl (Zy rfl (Yd (o':=128) rfl rfl rfl (Ym (x:=H 128) rfl rfl ZN (hE.s) (Yt rfl (YG (Uc _)) rfl rfl rfl (YM rfl (Zy rfl (Yd (o':=128) rfl rfl rfl (YA rfl rfl rfl rfl (.there .here) (Zf (Zl rfl (YM rfl (Zy rfl (Yo rfl rfl ZN (Yz rfl rfl rfl rfl .here (Yc (Yi (⟨_,X9 rfl rfl ZM (YP),?_⟩))))))))))))))))))))))
 refine ⟨_,congrArg (fun g=>V.agg 133 (ia g)) (funext fun i=>?_),ZN⟩
 exact done_is hE i
structure HandOf (P m H:Nat->Int):Prop where
 lo:∀ i,i < 129->H i=P i
 c:H 129=Vb P
 hi:∀ i,130<=i->i < 133->H i=P i
 a:H 133=m 0
 t:H 134=m 1
 b:H 135=m 2
 k:H 136=P (sqI (m 0))
 s:H 137=P (sqI (m 0)+1)
def ja (P m:Nat->Int):Nat->Int:=ovA (ovA (ovA (fun _=>0) 0 133 P) 133 3 m) 136 2 (dp P (sqI (m 0)))
theorem Rt {P m:Nat->Int} {i:Nat} (h:i < 133):ja P m i=P i:=by
 unfold ja
 rw [WV (by omega),WV (by omega),X1 (by omega),Nat.sub_zero]
theorem oh {P m:Nat->Int} (h:0<=P 129/\P 129<=15):HandOf P m (ja P m) :=
 ⟨fun i hi=>Rt (by omega),by rw [Rt (by omega),Vb,Za7 (by omega)],fun i _ hi=>Rt hi,rfl,rfl,rfl,rfl,rfl⟩
theorem qD {P m:Nat->Int} (h:P 129 < 0\/15 < P 129):HandOf P m (ov (ja P m) 129 0) :=
 ⟨fun i hi=>by rw [W7 (by omega)]; exact Rt (by omega),by rw [Vb,Za8 h]; rfl,fun i h1 hi=>by rw [W7 (by omega)]; exact Rt hi,rfl,rfl,rfl,rfl,rfl⟩
theorem Ue {P:Nat->Int} {a t b:Int} (h:¬ (1<=P (sqI a)/\P (sqI a)<=6/\P (sqI a+1)=P 128/\(P (sqI a+1)=0\/P (sqI a+1)=1)/\(if P (sqI a)=1/\t / 8=7*(1 - P (sqI a+1)) then 2<=b/\b<=5 else b=0))):XH P a t b=false:=ZaT h
theorem U3 {P:Nat->Int} {a t b:Int} (h:1<=P (sqI a)/\P (sqI a)<=6/\P (sqI a+1)=P 128/\(P (sqI a+1)=0\/P (sqI a+1)=1)/\(if P (sqI a)=1/\t / 8=7*(1 - P (sqI a+1)) then 2<=b/\b<=5 else b=0)):XH P a t b=true:=ZaV h
theorem sA (P m:Nat->Int):WR AM 47 [.agg 133 (ia P),.agg 3 (ia m)] [] (fun v _ L=>(v=.tup [.pnil,.s (.int .i64 (Wf P (m 0) (m 1) (m 2)))]/\Wf P (m 0) (m 1) (m 2)≠0)\/(Wf P (m 0) (m 1) (m 2)=0/\∃ b H,v=.tup [.ptr b 0 138,.s (.int .i64 (Wf P (m 0) (m 1) (m 2)))]/\HandOf P m H/\(b,Blk.sc .var 138 (ia H))∈L)):=by
 refine YJ (a:=a47) rfl rfl (YI _) (ZQ rfl) (m:=0) rfl (Ze (YC rfl (YC rfl (Yq rfl (Yq rfl (Yc (Ye (Ze (Zy rfl (Ym rfl rfl ZM rfl (Yt rfl (KQ _) rfl rfl rfl (Yv (r:=.bool _) rfl rfl (Zk rfl (Ys (t:=13) rfl (fun h7=>?_) (fun h7=>?_))))))))))))))) <;> simp only [NM] at h7
 ·try simp only [isM,ZaL,Zax] at h7
  refine ZE rfl (Zq rfl (Zk rfl (ZE rfl (ZC rfl (Zq rfl (Yc (ZA rfl (Ze (Yq rfl (Yq rfl (Yc (Yi (⟨_,YK (v:=.pnil) rfl (ZL rfl),?_⟩)))))))))))))
  have he:=UK (P:=P) (a:=m 0) (t:=m 1) (b:=m 2) (by omega)
  rw [he]
  exact .inl ⟨rfl,by decide⟩
 try simp only [isM,ZaL,Zax] at h7
 refine Yb rfl (Zz rfl (Yb rfl (Ym rfl rfl ZM rfl (Yb rfl (Yt rfl (KQ _) rfl rfl rfl (Yb rfl (Yv (r:=.bool _) rfl rfl (Zq rfl (Zk rfl (Ys (t:=19) rfl (fun h8=>?_) (fun h8=>?_))))))))))) <;> simp only [NM] at h8
 ·try simp only [isM,ZaL,Zax] at h8
  refine ZE rfl (ZC rfl (Zq rfl (Yc (ZA rfl (Ze (Yq rfl (Yq rfl (Yc (Yi (⟨_,YK (v:=.pnil) rfl (ZL rfl),?_⟩))))))))))
  have he:=UK (P:=P) (a:=m 0) (t:=m 1) (b:=m 2) (by omega)
  rw [he]
  exact .inl ⟨rfl,by decide⟩
 try simp only [isM,ZaL,Zax] at h8
 refine Yb rfl (Zy rfl (Yb rfl (Ym rfl rfl ZM rfl (Yb rfl (Zz rfl (Yb rfl (Ym rfl rfl ZM rfl (Yb rfl (Zr rfl (Zq rfl (Yc (Yj rfl (fun h9=>?_) (fun h9=>?_))))))))))))) <;> simp only [NM] at h9
 ·refine Ze (Yq rfl (Yq rfl (Yc (Yi (⟨_,YK (v:=.pnil) rfl (ZL rfl),?_⟩)))))
  have he:=UK (P:=P) (a:=m 0) (t:=m 1) (b:=m 2) (by omega)
  rw [he]
  exact .inl ⟨rfl,by decide⟩
 refine Yh (Ye (Yg (Yo rfl rfl ZN (Yo rfl rfl ZM (Zy rfl (Ym rfl rfl ZM rfl (Zy rfl (Zw rfl rfl rfl (Yp rfl rfl ZN (YB rfl (.agg rfl (.agg rfl (.agg rfl .nil))) (YC rfl (Zl rfl (Yc (WD (fun f n L=>∃ (H:Nat->Int),(HandOf P m H)/\(0<=m 0/\m 0 < 64)/\(0<=m 1/\m 1 < 64)/\(m 0≠m 1)/\(f 2=.ptr 0 0 133)/\(f 3=.ptr 1 0 3)/\(f 6=.ptr 2 0 138)/\(L=[(2,.sc .var 138 (ia H)),(1,.sc .var 3 (ia m)),(0,.sc .var 133 (ia P))])/\(n=3)) ?_ (fun f nb L hI=>?_)))))))))))))))
 ·refine Ze (Zl rfl (YM rfl (Zy rfl (Yd (o':=129) rfl rfl rfl (Ym (x:=P 129) rfl rfl ZM (rfl) (Zr rfl (Zk rfl (Ys (t:=41) rfl (fun h10=>?_) (fun h10=>?_))))))))) <;> simp only [NM] at h10
  ·refine ZE rfl (ZD rfl (Zq rfl (Yc (ZA rfl (Yf (Zl rfl (YM rfl (Zy rfl (Yd (o':=129) rfl rfl rfl (YA rfl rfl rfl rfl .here (Yc (⟨_,(.refl _),_,?_,by omega,by omega,by omega,rfl,rfl,rfl,rfl,rfl⟩))))))))))))
   exact qD (.inl (by assumption))
  refine Yb rfl (Zl rfl (Yb rfl (YM rfl (Yb rfl (Zy rfl (Yb rfl (Yd (o':=129) rfl rfl rfl (Yb rfl (Ym (x:=P 129) rfl rfl ZM (rfl) (Yb rfl (Zr rfl (Zq rfl (Yc (Yj rfl (fun h11=>?_) (fun h11=>?_))))))))))))))) <;> simp only [NM] at h11
  ·refine Yf (Zl rfl (YM rfl (Zy rfl (Yd (o':=129) rfl rfl rfl (YA rfl rfl rfl rfl .here (Yc (⟨_,(.refl _),_,?_,by omega,by omega,by omega,rfl,rfl,rfl,rfl,rfl⟩)))))))
   exact qD (.inr (by assumption))
  refine Yh (⟨_,(.refl _),_,?_,by omega,by omega,by omega,rfl,rfl,rfl,rfl,rfl⟩)
  exact oh ⟨by omega,by omega⟩
 obtain ⟨H,hH,ha,ht,hat,k2,k3,k6,rfl,rfl⟩:=hI
 refine Za 2 k2 (Za 3 k3 (Za 6 k6 (Ze (Zl rfl (YM rfl (Yd (o':=136) rfl rfl rfl (Yp rfl rfl ZM (Yy (Yz rfl rfl rfl rfl .here (Yc (Ye (Ze (Zy rfl (Ym (x:=P (sqI (m 0))) rfl rfl ZM (hH.k) (Zr rfl (Zk rfl (Ys (t:=60) rfl (fun h12=>?_) (fun h12=>?_)))))))))))))))))) <;> simp only [NM] at h12
 ·refine ZD rfl (ZC rfl (Zq rfl (Zk rfl (ZE rfl (ZC rfl (Zq rfl (Zk rfl (ZE rfl (YH rfl (YH rfl (YH rfl (ZC rfl (Zq rfl (Yc (ZA rfl (Ze (Yq rfl (Yq rfl (Yc (Yi (⟨_,YK (v:=.pnil) rfl (ZL rfl),?_⟩)))))))))))))))))))))
  have hh:XH P (m 0) (m 1) (m 2)=false:=Ue (by first | omega | (split <;> omega))
  have he:=Wy (by omega) hh
  rw [he]
  exact .inl ⟨rfl,by decide⟩
 refine Yb rfl (Zy rfl (Yb rfl (Ym (x:=P (sqI (m 0))) rfl rfl ZM (hH.k) (Yb rfl (Zr rfl (Zq rfl (Zk rfl (Ys (t:=65) rfl (fun h13=>?_) (fun h13=>?_))))))))) <;> simp only [NM] at h13
 ·refine ZE rfl (ZC rfl (Zq rfl (Zk rfl (ZE rfl (YH rfl (YH rfl (YH rfl (ZC rfl (Zq rfl (Yc (ZA rfl (Ze (Yq rfl (Yq rfl (Yc (Yi (⟨_,YK (v:=.pnil) rfl (ZL rfl),?_⟩)))))))))))))))))
  have hh:XH P (m 0) (m 1) (m 2)=false:=Ue (by first | omega | (split <;> omega))
  have he:=Wy (by omega) hh
  rw [he]
  exact .inl ⟨rfl,by decide⟩
 refine Yb rfl (Zz rfl (Yb rfl (Ym (x:=P (sqI (m 0)+1)) rfl rfl ZM (hH.s) (Yb rfl (Yd (o':=128) rfl rfl rfl (Yb rfl (Ym rfl rfl ZP rfl (Yb rfl (Zr rfl (Zq rfl (Zk rfl (Ys (t:=72) rfl (fun h14=>?_) (fun h14=>?_))))))))))))) <;> simp only [NM] at h14
 ·refine ZE rfl (YH rfl (YH rfl (YH rfl (ZC rfl (Zq rfl (Yc (ZA rfl (Ze (Yq rfl (Yq rfl (Yc (Yi (⟨_,YK (v:=.pnil) rfl (ZL rfl),?_⟩)))))))))))))
  have hh:XH P (m 0) (m 1) (m 2)=false:=Ue (by first | omega | (split <;> omega))
  have he:=Wy (by omega) hh
  rw [he]
  exact .inl ⟨rfl,by decide⟩
 refine Yb rfl (Zz rfl (Yb rfl (Ym (x:=P (sqI (m 0)+1)) rfl rfl ZM (hH.s) (Yb rfl (Zr rfl (Yb rfl (Zk rfl (Ys (t:=76) rfl (fun h15=>?_) (fun h15=>?_))))))))) <;> simp only [NM] at h15
 ·refine Yb rfl (Zz rfl (Yb rfl (Ym (x:=P (sqI (m 0)+1)) rfl rfl ZM (hH.s) (Yb rfl (Zr rfl (Yb rfl (Zq rfl (Zq rfl (Yc (Yj rfl (fun h16=>?_) (fun h16=>?_))))))))))) <;> simp only [NM] at h16
  ·refine Ze (Yq rfl (Yq rfl (Yc (Yi (⟨_,YK (v:=.pnil) rfl (ZL rfl),?_⟩)))))
   have hh:XH P (m 0) (m 1) (m 2)=false:=Ue (by first | omega | (split <;> omega))
   have he:=Wy (by omega) hh
   rw [he]
   exact .inl ⟨rfl,by decide⟩
  refine Yh (Ye (Yg (Zy rfl (Ym (x:=P (sqI (m 0))) rfl rfl ZM (hH.k) (Zr rfl (Zk rfl (Ys (t:=85) rfl (fun h17=>?_) (fun h17=>?_)))))))) <;> simp only [NM] at h17
  ·refine Yb rfl (Zz rfl (Yb rfl (Ym rfl rfl ZO rfl (Yb rfl (Yu rfl (To (by omega)) rfl rfl rfl (Yb rfl (Zz rfl (Yb rfl (Ym (x:=P (sqI (m 0)+1)) rfl rfl ZM (hH.s) (Yb rfl (Zt rfl rfl (Yb rfl (Wn rfl rfl (by omega) (Yb rfl (Zr rfl (Zq rfl (Zk rfl (Yc (Ye (Ze (Zk rfl (Zk rfl (Ys (t:=96) rfl (fun h18=>?_) (fun h18=>?_)))))))))))))))))))))))) <;> simp only [NM] at h18
   ·refine Yb rfl (Yd (o':=2) rfl rfl rfl (Yb rfl (Ym rfl rfl ZO rfl (Yb rfl (Zr rfl (Yb rfl (Zk rfl (Ys (t:=100) rfl (fun h19=>?_) (fun h19=>?_))))))))) <;> simp only [NM] at h19
    ·refine ZD rfl (ZC rfl (Yb rfl (Zq rfl (Zq rfl (Zk rfl (ZD rfl (ZC rfl (YH rfl (YH rfl (YH rfl (ZC rfl (Zq rfl (Yc (ZA rfl (Ze (Yq rfl (Yq rfl (Yc (Yi (⟨_,YK (v:=.pnil) rfl (ZL rfl),?_⟩))))))))))))))))))))
     have hh:XH P (m 0) (m 1) (m 2)=false:=Ue (by first | omega | (split <;> omega))
     have he:=Wy (by omega) hh
     rw [he]
     exact .inl ⟨rfl,by decide⟩
    refine Yb rfl (Yd (o':=2) rfl rfl rfl (Yb rfl (Ym rfl rfl ZO rfl (Yb rfl (Zr rfl (Yb rfl (Zq rfl (Zq rfl (Zk rfl (Ys (t:=106) rfl (fun h20=>?_) (fun h20=>?_))))))))))) <;> simp only [NM] at h20
    ·refine ZD rfl (ZC rfl (YH rfl (YH rfl (YH rfl (ZC rfl (Zq rfl (Yc (ZA rfl (Ze (Yq rfl (Yq rfl (Yc (Yi (⟨_,YK (v:=.pnil) rfl (ZL rfl),?_⟩))))))))))))))
     have hh:XH P (m 0) (m 1) (m 2)=false:=Ue (by first | omega | (split <;> omega))
     have he:=Wy (by omega) hh
     rw [he]
     exact .inl ⟨rfl,by decide⟩
    refine Yb rfl (Zk rfl (Yb rfl (Yv (r:=.bool _) rfl rfl (Yb rfl (Zk rfl (Ys (t:=109) rfl (fun h21=>?_) (fun h21=>?_))))))) <;> simp only [NM] at h21
    ·refine Yb rfl (Yd (o':=2) rfl rfl rfl (Yb rfl (Ym rfl rfl ZO rfl (Yb rfl (Zr rfl (Yb rfl (Zq rfl (Zq rfl (Yc (Yj rfl (fun h22=>?_) (fun h22=>?_))))))))))) <;> simp only [NM] at h22
     ·refine Ze (Yq rfl (Yq rfl (Yc (Yi (⟨_,YK (v:=.pnil) rfl (ZL rfl),?_⟩)))))
      have hh:XH P (m 0) (m 1) (m 2)=false:=Ue (by first | omega | (split <;> omega))
      have he:=Wy (by omega) hh
      rw [he]
      exact .inl ⟨rfl,by decide⟩
     refine Yh (Ze (Zl rfl (Zl rfl (Yq rfl (Yc (Yi (⟨_,YK (v:=.ptr _ _ _) rfl (ZL rfl),?_⟩)))))))
     have hh:XH P (m 0) (m 1) (m 2)=true:=U3 (by refine ⟨by omega,by omega,by omega,by omega,?_⟩; first | omega | (split <;> omega))
     have he:=Vr (by omega) hh
     rw [he]
     exact .inr ⟨rfl,_,H,rfl,hH,ZN⟩
    refine ZD rfl (ZC rfl (Yb rfl (Zq rfl (Zq rfl (Yc (ZB rfl (Yh (Ze (Zl rfl (Zl rfl (Yq rfl (Yc (Yi (⟨_,YK (v:=.ptr _ _ _) rfl (ZL rfl),?_⟩))))))))))))))
    have hh:XH P (m 0) (m 1) (m 2)=true:=U3 (by refine ⟨by omega,by omega,by omega,by omega,?_⟩; first | omega | (split <;> omega))
    have he:=Vr (by omega) hh
    rw [he]
    exact .inr ⟨rfl,_,H,rfl,hH,ZN⟩
   refine ZE rfl (YH rfl (YH rfl (YH rfl (ZC rfl (Zq rfl (Zk rfl (Yb rfl (Zk rfl (Yb rfl (Yv (r:=.bool _) rfl rfl (Yb rfl (Zk rfl (Ys (t:=109) rfl (fun h23=>?_) (fun h23=>?_)))))))))))))) <;> simp only [NM] at h23
   ·refine Yb rfl (Yd (o':=2) rfl rfl rfl (Yb rfl (Ym rfl rfl ZO rfl (Yb rfl (Zr rfl (Yb rfl (Zq rfl (Zq rfl (Yc (Yj rfl (fun h24=>?_) (fun h24=>?_))))))))))) <;> simp only [NM] at h24
    ·refine Ze (Yq rfl (Yq rfl (Yc (Yi (⟨_,YK (v:=.pnil) rfl (ZL rfl),?_⟩)))))
     have hh:XH P (m 0) (m 1) (m 2)=false:=Ue (by first | omega | (split <;> omega))
     have he:=Wy (by omega) hh
     rw [he]
     exact .inl ⟨rfl,by decide⟩
    refine Yh (Ze (Zl rfl (Zl rfl (Yq rfl (Yc (Yi (⟨_,YK (v:=.ptr _ _ _) rfl (ZL rfl),?_⟩)))))))
    have hh:XH P (m 0) (m 1) (m 2)=true:=U3 (by refine ⟨by omega,by omega,by omega,by omega,?_⟩; first | omega | (split <;> omega))
    have he:=Vr (by omega) hh
    rw [he]
    exact .inr ⟨rfl,_,H,rfl,hH,ZN⟩
   refine ZD rfl (ZC rfl (Yb rfl (Zq rfl (Zq rfl (Yc (ZB rfl (Yh (Ze (Zl rfl (Zl rfl (Yq rfl (Yc (Yi (⟨_,YK (v:=.ptr _ _ _) rfl (ZL rfl),?_⟩))))))))))))))
   have hh:XH P (m 0) (m 1) (m 2)=true:=U3 (by refine ⟨by omega,by omega,by omega,by omega,?_⟩; first | omega | (split <;> omega))
   have he:=Vr (by omega) hh
   rw [he]
   exact .inr ⟨rfl,_,H,rfl,hH,ZN⟩
  refine ZF rfl (Zq rfl (Zk rfl (Yc (Ye (Ze (Zk rfl (Zk rfl (ZE rfl (YH rfl (YH rfl (YH rfl (ZC rfl (Zq rfl (Zk rfl (Yb rfl (Zk rfl (Yb rfl (Yv (r:=.bool _) rfl rfl (Yb rfl (Zk rfl (Yb rfl (Yd (o':=2) rfl rfl rfl (Yb rfl (Ym rfl rfl ZO rfl (Yb rfl (Zr rfl (Yb rfl (Zq rfl (Zq rfl ?_)))))))))))))))))))))))))))))
  refine Yc (Yj rfl (fun h25=>?_) (fun h25=>?_)) <;> simp only [NM] at h25
  ·refine Ze (Yq rfl (Yq rfl (Yc (Yi (⟨_,YK (v:=.pnil) rfl (ZL rfl),?_⟩)))))
   have hh:XH P (m 0) (m 1) (m 2)=false:=Ue (by first | omega | (split <;> omega))
   have he:=Wy (by omega) hh
   rw [he]
   exact .inl ⟨rfl,by decide⟩
  refine Yh (Ze (Zl rfl (Zl rfl (Yq rfl (Yc (Yi (⟨_,YK (v:=.ptr _ _ _) rfl (ZL rfl),?_⟩)))))))
  have hh:XH P (m 0) (m 1) (m 2)=true:=U3 (by refine ⟨by omega,by omega,by omega,by omega,?_⟩; first | omega | (split <;> omega))
  have he:=Vr (by omega) hh
  rw [he]
  exact .inr ⟨rfl,_,H,rfl,hH,ZN⟩
 refine ZD rfl (ZC rfl (Yb rfl (Zq rfl (Zq rfl (Yc (ZB rfl (Yh (Ye (Yg (Zy rfl (Ym (x:=P (sqI (m 0))) rfl rfl ZM (hH.k) (Zr rfl (Zk rfl (Ys (t:=85) rfl (fun h26=>?_) (fun h26=>?_))))))))))))))) <;> simp only [NM] at h26
 ·refine Yb rfl (Zz rfl (Yb rfl (Ym rfl rfl ZO rfl (Yb rfl (Yu rfl (To (by omega)) rfl rfl rfl (Yb rfl (Zz rfl (Yb rfl (Ym (x:=P (sqI (m 0)+1)) rfl rfl ZM (hH.s) (Yb rfl (Zt rfl rfl (Yb rfl (Wn rfl rfl (by omega) (Yb rfl (Zr rfl (Zq rfl (Zk rfl (Yc (Ye (Ze (Zk rfl (Zk rfl (Ys (t:=96) rfl (fun h27=>?_) (fun h27=>?_)))))))))))))))))))))))) <;> simp only [NM] at h27
  ·refine Yb rfl (Yd (o':=2) rfl rfl rfl (Yb rfl (Ym rfl rfl ZO rfl (Yb rfl (Zr rfl (Yb rfl (Zk rfl (Ys (t:=100) rfl (fun h28=>?_) (fun h28=>?_))))))))) <;> simp only [NM] at h28
   ·refine ZD rfl (ZC rfl (Yb rfl (Zq rfl (Zq rfl (Zk rfl (ZD rfl (ZC rfl (YH rfl (YH rfl (YH rfl (ZC rfl (Zq rfl (Yc (ZA rfl (Ze (Yq rfl (Yq rfl (Yc (Yi (⟨_,YK (v:=.pnil) rfl (ZL rfl),?_⟩))))))))))))))))))))
    have hh:XH P (m 0) (m 1) (m 2)=false:=Ue (by first | omega | (split <;> omega))
    have he:=Wy (by omega) hh
    rw [he]
    exact .inl ⟨rfl,by decide⟩
   refine Yb rfl (Yd (o':=2) rfl rfl rfl (Yb rfl (Ym rfl rfl ZO rfl (Yb rfl (Zr rfl (Yb rfl (Zq rfl (Zq rfl (Zk rfl (Ys (t:=106) rfl (fun h29=>?_) (fun h29=>?_))))))))))) <;> simp only [NM] at h29
   ·refine ZD rfl (ZC rfl (YH rfl (YH rfl (YH rfl (ZC rfl (Zq rfl (Yc (ZA rfl (Ze (Yq rfl (Yq rfl (Yc (Yi (⟨_,YK (v:=.pnil) rfl (ZL rfl),?_⟩))))))))))))))
    have hh:XH P (m 0) (m 1) (m 2)=false:=Ue (by first | omega | (split <;> omega))
    have he:=Wy (by omega) hh
    rw [he]
    exact .inl ⟨rfl,by decide⟩
   refine Yb rfl (Zk rfl (Yb rfl (Yv (r:=.bool _) rfl rfl (Yb rfl (Zk rfl (Ys (t:=109) rfl (fun h30=>?_) (fun h30=>?_))))))) <;> simp only [NM] at h30
   ·refine Yb rfl (Yd (o':=2) rfl rfl rfl (Yb rfl (Ym rfl rfl ZO rfl (Yb rfl (Zr rfl (Yb rfl (Zq rfl (Zq rfl (Yc (Yj rfl (fun h31=>?_) (fun h31=>?_))))))))))) <;> simp only [NM] at h31
    ·refine Ze (Yq rfl (Yq rfl (Yc (Yi (⟨_,YK (v:=.pnil) rfl (ZL rfl),?_⟩)))))
     have hh:XH P (m 0) (m 1) (m 2)=false:=Ue (by first | omega | (split <;> omega))
     have he:=Wy (by omega) hh
     rw [he]
     exact .inl ⟨rfl,by decide⟩
    refine Yh (Ze (Zl rfl (Zl rfl (Yq rfl (Yc (Yi (⟨_,YK (v:=.ptr _ _ _) rfl (ZL rfl),?_⟩)))))))
    have hh:XH P (m 0) (m 1) (m 2)=true:=U3 (by refine ⟨by omega,by omega,by omega,by omega,?_⟩; first | omega | (split <;> omega))
    have he:=Vr (by omega) hh
    rw [he]
    exact .inr ⟨rfl,_,H,rfl,hH,ZN⟩
   refine ZD rfl (ZC rfl (Yb rfl (Zq rfl (Zq rfl (Yc (ZB rfl (Yh (Ze (Zl rfl (Zl rfl (Yq rfl (Yc (Yi (⟨_,YK (v:=.ptr _ _ _) rfl (ZL rfl),?_⟩))))))))))))))
   have hh:XH P (m 0) (m 1) (m 2)=true:=U3 (by refine ⟨by omega,by omega,by omega,by omega,?_⟩; first | omega | (split <;> omega))
   have he:=Vr (by omega) hh
   rw [he]
   exact .inr ⟨rfl,_,H,rfl,hH,ZN⟩
  refine ZE rfl (YH rfl (YH rfl (YH rfl (ZC rfl (Zq rfl (Zk rfl (Yb rfl (Zk rfl (Yb rfl (Yv (r:=.bool _) rfl rfl (Yb rfl (Zk rfl (Ys (t:=109) rfl (fun h32=>?_) (fun h32=>?_)))))))))))))) <;> simp only [NM] at h32
  ·refine Yb rfl (Yd (o':=2) rfl rfl rfl (Yb rfl (Ym rfl rfl ZO rfl (Yb rfl (Zr rfl (Yb rfl (Zq rfl (Zq rfl (Yc (Yj rfl (fun h33=>?_) (fun h33=>?_))))))))))) <;> simp only [NM] at h33
   ·refine Ze (Yq rfl (Yq rfl (Yc (Yi (⟨_,YK (v:=.pnil) rfl (ZL rfl),?_⟩)))))
    have hh:XH P (m 0) (m 1) (m 2)=false:=Ue (by first | omega | (split <;> omega))
    have he:=Wy (by omega) hh
    rw [he]
    exact .inl ⟨rfl,by decide⟩
   refine Yh (Ze (Zl rfl (Zl rfl (Yq rfl (Yc (Yi (⟨_,YK (v:=.ptr _ _ _) rfl (ZL rfl),?_⟩)))))))
   have hh:XH P (m 0) (m 1) (m 2)=true:=U3 (by refine ⟨by omega,by omega,by omega,by omega,?_⟩; first | omega | (split <;> omega))
   have he:=Vr (by omega) hh
   rw [he]
   exact .inr ⟨rfl,_,H,rfl,hH,ZN⟩
  refine ZD rfl (ZC rfl (Yb rfl (Zq rfl (Zq rfl (Yc (ZB rfl (Yh (Ze (Zl rfl (Zl rfl (Yq rfl (Yc (Yi (⟨_,YK (v:=.ptr _ _ _) rfl (ZL rfl),?_⟩))))))))))))))
  have hh:XH P (m 0) (m 1) (m 2)=true:=U3 (by refine ⟨by omega,by omega,by omega,by omega,?_⟩; first | omega | (split <;> omega))
  have he:=Vr (by omega) hh
  rw [he]
  exact .inr ⟨rfl,_,H,rfl,hH,ZN⟩
 refine ZF rfl (Zq rfl (Zk rfl (Yc (Ye (Ze (Zk rfl (Zk rfl (ZE rfl (YH rfl (YH rfl (YH rfl (ZC rfl (Zq rfl (Zk rfl (Yb rfl (Zk rfl (Yb rfl (Yv (r:=.bool _) rfl rfl (Yb rfl (Zk rfl (Yb rfl (Yd (o':=2) rfl rfl rfl (Yb rfl (Ym rfl rfl ZO rfl (Yb rfl (Zr rfl (Yb rfl (Zq rfl (Zq rfl ?_)))))))))))))))))))))))))))))
 refine Yc (Yj rfl (fun h34=>?_) (fun h34=>?_)) <;> simp only [NM] at h34
 ·refine Ze (Yq rfl (Yq rfl (Yc (Yi (⟨_,YK (v:=.pnil) rfl (ZL rfl),?_⟩)))))
  have hh:XH P (m 0) (m 1) (m 2)=false:=Ue (by first | omega | (split <;> omega))
  have he:=Wy (by omega) hh
  rw [he]
  exact .inl ⟨rfl,by decide⟩
 refine Yh (Ze (Zl rfl (Zl rfl (Yq rfl (Yc (Yi (⟨_,YK (v:=.ptr _ _ _) rfl (ZL rfl),?_⟩)))))))
 have hh:XH P (m 0) (m 1) (m 2)=true:=U3 (by refine ⟨by omega,by omega,by omega,by omega,?_⟩; first | omega | (split <;> omega))
 have he:=Vr (by omega) hh
 rw [he]
 exact .inr ⟨rfl,_,H,rfl,hH,ZN⟩
end Go.Proofs.YtlkighkfkdpncaaGreatDoor
