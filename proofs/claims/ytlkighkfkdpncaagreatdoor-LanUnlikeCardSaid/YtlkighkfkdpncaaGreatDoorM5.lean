/- Texts of this seat, joined. -/
import Derived.Test.YtlkighkfkdpncaaGreatDoorM4
set_option linter.unusedSimpArgs false
set_option linter.unusedVariables false
namespace Go.Proofs.YtlkighkfkdpncaaGreatDoor
open Go Go.Am
theorem Zbz {a b:Int} (h:b<=a):Wx .lss (.int .i64 a) (.int .i64 b)=some (.bool false):=by
 show (if IntKind.i64=IntKind.i64 then some (S.bool (decide (a < b))) else none)=_
 rw [Za8 rfl,ZaT (by omega)]
theorem toList_inj {a b:ByteArray} (h:a.toList=b.toList):a=b:=by
 rw [ByteArray.toList_eq,ByteArray.toList_eq] at h
 exact ZbI h
theorem ZbZ {a b:ByteArray} (h:a≠b):Wx .eql (.str a) (.str b)=some (.bool false):=by
 show some (S.bool (a.toList == b.toList))=_
 rw [beq_eq_false_iff_ne.2 fun e=>h (toList_inj e)]
theorem Zbu {a b:ByteArray} (h:a=b):Wx .neq (.str a) (.str b)=some (.bool false):=by
 subst h
 show some (S.bool (!(a.toList == a.toList)))=_
 rw [beq_self_eq_true]; rfl
theorem ZbB {a b:Int} (h:a=b):Wx .neq (.int .u8 a) (.int .u8 b)=some (.bool false):=by
 subst h
 show (if IntKind.u8=IntKind.u8 then some (S.bool (a != a)) else none)=_
 simp
theorem o_no {x:UInt8} (h:x=79):(x.toNat:Int)=79:=by subst h; rfl
theorem ZbL {x:UInt8} (h:x=45\/x=120) (h2:¬ ((x.toNat:Int)=45)):(x.toNat:Int)=120:=by
 rcases h with rfl | rfl
 ·exact absurd rfl h2
 rfl
theorem Zb9 {P:Nat->Int} (hz:∀ i,133<=i->P i=0):(XE P).Pairwise lt3:=by
 rw [Dh hz]
 split
 ·exact (Zb4 P 64).filter _
 exact .nil
def ZbA (P:Nat->Int) (l:List Mv):List ByteArray:=l.map fun m=>Kn P m.1 m.2.1 m.2.2
theorem ZbW (P:Nat->Int) (l:List Mv):(ZbA P l).length=l.length:=List.length_map _
theorem Zb3 (P:Nat->Int) {l:List Mv} {k i:Nat} (hk:k < i) (hi:i<=l.length):(ZbA P (l.take i)).getD k ⟨#[]⟩=Kn P (l.getD k (0,0,0)).1 (l.getD k (0,0,0)).2.1 (l.getD k (0,0,0)).2.2:=by
 unfold ZbA
 rw [Zau,Zbp,List.getElem?_take,Za8 hk,Zav (by omega),Zau,Zav (by omega)]; rfl
theorem Zbv (P:Nat->Int) {l:List Mv} {i:Nat} (hi:i < l.length):ZbA P (l.take i)++[Kn P (l.getD i (0,0,0)).1 (l.getD i (0,0,0)).2.1 (l.getD i (0,0,0)).2.2]=ZbA P (l.take (i+1)):=by
 unfold ZbA
 rw [List.take_succ_eq_append_getElem hi,List.map_append,Zau,Zav hi]; rfl
theorem Zca {P:Nat->Int} (hz:∀ i,133<=i->P i=0) {l:List Mv} (hl:l=XE P) {k i:Nat} (hk:k < i) (hi:i < l.length):Kn P (l.getD k (0,0,0)).1 (l.getD k (0,0,0)).2.1 (l.getD k (0,0,0)).2.2≠Kn P (l.getD i (0,0,0)).1 (l.getD i (0,0,0)).2.1 (l.getD i (0,0,0)).2.2:=by
 intro h
 have e:=Zcd hz (by rw [<- hl]; exact ZbG (by omega)) (by rw [<- hl]; exact ZbG hi) h
 have hp:=List.pairwise_iff_getElem.1 (hl ▸ Zb9 hz) k i (by omega) hi hk
 have e2:l[k]'(by omega)=l[i]:=by
  have g1:l.getD k (0,0,0)=l[k]'(by omega):=by rw [Zau,Zav (by omega)]; rfl
  have g2:l.getD i (0,0,0)=l[i]:=by rw [Zau,Zav hi]; rfl
  rw [<- g1,<- g2]; exact e
 rw [e2] at hp
 unfold lt3 at hp
 omega
theorem ZbS (P M:Nat->Int) (hz:∀ i,133<=i->P i=0) (hm:(M 0,M 1,M 2)∈XE P):WR AM 4 [.agg 133 (ia P),.agg 3 (ia M)] [] (fun v _ _=>v=.s (.bool true)):=by
 have his:=YG (E2 P M)
 rw [ZaV hm] at his
 have hend:=YG (kU P M hz hm)
 refine YJ (a:=a4) rfl rfl (YI _) (ZQ rfl) (m:=0) rfl (Ze (YC rfl (YC rfl (Yq rfl (Yc (Ye (Ze (Yt rfl (YG D4) rfl rfl rfl (Yv (r:=.bool _) rfl rfl (Yc (ZB rfl (Yh (Ze ?_)))))))))))))
 obtain ⟨l,hleq⟩:∃ l,l=XE P:=⟨_,rfl⟩
 have hmv:=vj P
 rw [<- hleq] at hmv
 have hlen:l.length<=16896:=by rw [hleq]; exact vx P
 refine Yo rfl rfl ZN (YE rfl (hmv) rfl rfl (fun v1 own1 n1 hr1=>Yq (v:=v1) rfl (Zf (Yq rfl (Yc (Ye (Ze (Yq rfl (Yc (Yk (Xm (ZaE (.refl _) (.refl _)) (Xp (fun m f _ L=>∃ (i:Nat) (vS:V) (U7:HA),(i<=l.length)/\(m=l.length - i)/\(Sw (ZbA P (l.take i)) vS U7)/\(f 2=.ptr 0 0 133)/\(f 3=.ptr 1 0 3)/\(f 5=v1)/\(f 6=vS)/\(f 7=.s (.int .i64 i))/\(L=(U7++(own1++[(1,.sc .var 3 (ia M)),(0,.sc .var 133 (ia P))])))) (fun m f nb L hI=>?_) (l.length) (⟨0,.snil,[],by omega,by omega,Sw.nil (by simp [ZbA]),rfl,rfl,rfl,rfl,rfl,rfl⟩)))))))))))))
 obtain ⟨i,vS,U7,hi,hm2,hrS,k2,k3,k5,k6,k7,rfl⟩:=hI
 refine Za 2 k2 (Za 3 k3 (Za 5 k5 (Za 6 k6 (Za 7 k7 (Ye (Ze (Zj rfl (Yq (v:=v1) rfl (Wq rfl hr1.rx (by decide) (Xj l) (Zr rfl (Yc (Yj rfl (fun h1=>?_) (fun h1=>?_))))))))))))) <;> simp only [NM] at h1
 ·refine Yh (Ye (Yk (Ye (Yg (Yo rfl rfl (Zaz _ (Zaz _ ZN)) (Yq (v:=v1) rfl (Zj rfl ?_)))))))
  obtain ⟨b1,q1,md1,c1,F1,rfl,rfl,hF1⟩:=hr1.rx.at (by decide) (Xj l) (by omega)
  refine Zx rfl rfl ?_
  obtain ⟨hx0,hx1,hx2⟩:=xq hF1 (i:=i) (by omega)
  have hgm:(l.getD i (0,0,0))∈XE P:=by rw [<- hleq]; exact ZbG (by omega)
  obtain ⟨hs3,ht4,htx,hbg⟩:=ZbP (a:=(l.getD i (0,0,0)).1) (t:=(l.getD i (0,0,0)).2.1) (b:=(l.getD i (0,0,0)).2.2) hz hgm
  obtain ⟨_,hsq,_,hk6,_,_,_⟩:=ZbE hz hgm
  have hlong:=YG (kU P (dp F1 (0+(i:Int).toNat*3)) hz (by rw [show (dp F1 (0+(i:Int).toNat*3)) 0=(l.getD i (0,0,0)).1 from hx0,show (dp F1 (0+(i:Int).toNat*3)) 1=(l.getD i (0,0,0)).2.1 from hx1,show (dp F1 (0+(i:Int).toNat*3)) 2=(l.getD i (0,0,0)).2.2 from hx2]; exact hgm))
  rw [show (dp F1 (0+(i:Int).toNat*3)) 0=(l.getD i (0,0,0)).1 from hx0,show (dp F1 (0+(i:Int).toNat*3)) 1=(l.getD i (0,0,0)).2.1 from hx1,show (dp F1 (0+(i:Int).toNat*3)) 2=(l.getD i (0,0,0)).2.2 from hx2] at hlong
  have hshow:=gD (l.getD i (0,0,0)).1 (l.getD i (0,0,0)).2.1 (l.getD i (0,0,0)).2.2 htx
  have hlit : ∀ j, j < [(l.getD i (0, 0, 0)).1, (l.getD i (0, 0, 0)).2.1, (l.getD i (0, 0, 0)).2.2].length → (ovA (fun _ => 0) (0 * 3) 3 (dp F1 (0 + (i : Int).toNat * 3))) j = [(l.getD i (0, 0, 0)).1, (l.getD i (0, 0, 0)).2.1, (l.getD i (0, 0, 0)).2.2].getD j 0 := fun j hj => by
       match j,hj with
       | 0,_=>exact hx0
       | 1,_=>exact hx1
       | 2,_=>exact hx2
  have hol:(ZbA P (l.take i)).length=i:=by rw [ZbW,ZaN]; omega
  refine Yp rfl rfl (Zaz _ ZM) (Yt rfl (hlong) rfl rfl rfl (Zo rfl (YD (v:=.s _) rfl rfl (YD (v:=.s (.int _ _)) rfl rfl (Yq (v:=.s _) rfl (Zj rfl (Zf (Zn rfl (Zj rfl (Zx rfl rfl (Yp rfl rfl (Zaz _ ZM) (Wo rfl (.agg rfl .nil) (Wp (caps:=[]) rfl (hshow) rfl ((.row rfl hlit)) (Qf ZM) rfl rfl rfl (Zo rfl (YD (v:=.s _) rfl rfl (YD (v:=.s (.int _ _)) rfl rfl (Yq (v:=.s _) rfl (Zj rfl (Yc (Ye (Ze (Zj rfl (Yr rfl rfl (xZ rfl) (Zk rfl (Yb rfl (Zj rfl (Yb rfl (Yr rfl rfl (xZ rfl) (Zq rfl ?_)))))))))))))))))))))))))))))
  refine Zk rfl (Yb rfl (Yq (v:=.s _) rfl (Yb rfl (wc rfl (Yb rfl (Yr rfl rfl (Zbz (by omega)) (Zq rfl (Zk rfl (Yb rfl (Yq (v:=.s _) rfl (Yb rfl (wc rfl (Yb rfl (Yr rfl rfl (Zbz (by omega)) (Zq rfl (Yc (ZB rfl (Yh (Ye (Ze (Yq rfl (Yc (Yk (Xm (.cons _ (ZaE (.refl _) (.refl _))) (Xp (fun m f _ L=>∃ (k:Nat),(k<=i)/\(m=i - k)/\(f 2=.ptr 0 0 133)/\(f 3=.ptr 1 0 3)/\(f 5=.sl b1 0 l.length 3 c1)/\(f 6=vS)/\(f 7=.s (.int .i64 i))/\(f 8=.s (.str (Kn P (l.getD i (0,0,0)).1 (l.getD i (0,0,0)).2.1 (l.getD i (0,0,0)).2.2)))/\(f 10=.s (.str (ZbC (l.getD i (0,0,0)).1 (l.getD i (0,0,0)).2.1 (l.getD i (0,0,0)).2.2)))/\(f 12=.s (.int .i64 k))/\(L=(U7++[(b1,.sc md1 q1 (ia F1)),(1,.sc .var 3 (ia M)),(0,.sc .var 133 (ia P))]))) (fun m f nb L hI=>?_) (i) (⟨0,by omega,by omega,rfl,rfl,rfl,rfl,rfl,rfl,rfl,rfl,rfl⟩))))))))))))))))))))))))))
  obtain ⟨k,hk,hm3,k2,k3,k5,k6,k7,k8,k10,k12,rfl⟩:=hI
  refine Za 2 k2 (Za 3 k3 (Za 5 k5 (Za 6 k6 (Za 7 k7 (Za 8 k8 (Za 10 k10 (Za 12 k12 (Ye (Ze (Zj rfl (Zj rfl (Zr rfl (Yc (Yj rfl (fun h2=>?_) (fun h2=>?_))))))))))))))) <;> simp only [NM] at h2
  ·refine Yh (Ye (Yk (Ze (Yq (v:=vS) rfl (Zj rfl ?_)))))
   obtain ⟨bS,qS,gS,rfl,rfl,hgS⟩:=hrS.at (i:=k) (by rw [hol]; omega)
   refine D2 rfl rfl (by rw [hol]; omega) (Yn (x:=.str (Kn P (l.getD k (0,0,0)).1 (l.getD k (0,0,0)).2.1 (l.getD k (0,0,0)).2.2)) rfl rfl ZM (by rw [show 0+(k:Int).toNat*1=k by omega,hgS k (by rw [hol]; omega),Zb3 P (by omega) (by omega)]) (Yq (v:=.s _) rfl (Yr rfl rfl (ZbZ (Zca hz hleq (by omega) (by omega))) (Yc (ZB rfl (Yh (Yf (Zj rfl (Zs rfl rfl (Zj rfl (Yc ?_)))))))))))
   refine ⟨i - (k+1),_,by omega,(.refl _),k+1,by omega,rfl,rfl,rfl,rfl,rfl,rfl,rfl,rfl,rfl,rfl⟩
  refine YX (Xe (Ze (Yq (v:=vS) rfl (Yq (v:=.s _) rfl (EK rfl (ZbX (a:=(Kn P (l.getD i (0,0,0)).1 (l.getD i (0,0,0)).2.1 (l.getD i (0,0,0)).2.2)) rfl hrS rfl ZM (.there .here) (by rw [hol]; omega) (fun v9 own9 n9 hr9=>Yq (v:=v9) rfl (Zf (Yq (v:=.s _) rfl (Zbw rfl rfl (by omega) (Zr rfl (Yc (Yj rfl (fun h77=>?_) (fun h77=>?_)))))))))))))) <;> simp only [NM] at h77
  ·refine Ze ?_
   have hbg2:=hbg.resolve_left fun e=>h77 (o_no e)
   refine Yq (v:=.s _) rfl (Yq (v:=.s _) rfl (Yc (Ye (Ze (Zn rfl (Zj rfl (Zx rfl rfl (Yd rfl rfl rfl (Ym (x:=(l.getD i (0,0,0)).1) rfl rfl (Zaz _ ZN) (hx0) (Zy rfl (Zw rfl rfl rfl (Yd rfl rfl rfl (Ym (x:=(P (sqI (l.getD i (0,0,0)).1))) rfl rfl (Zaz _ ZP) (rfl) (Zr rfl (Yc (Yj rfl (fun h88=>?_) (fun h88=>?_))))))))))))))))) <;> simp only [NM] at h88
   ·refine Yf (Yq (v:=.s _) rfl (UT (a:=1) (b:=((Kn P (l.getD i (0,0,0)).1 (l.getD i (0,0,0)).2.1 (l.getD i (0,0,0)).2.2).size:Nat)) rfl rfl rfl (by omega) ?_))
    rw [show (Kn P (l.getD i (0,0,0)).1 (l.getD i (0,0,0)).2.1 (l.getD i (0,0,0)).2.2).extract (1:Int).toNat (((Kn P (l.getD i (0,0,0)).1 (l.getD i (0,0,0)).2.1 (l.getD i (0,0,0)).2.2).size:Nat):Int).toNat=(Kn P (l.getD i (0,0,0)).1 (l.getD i (0,0,0)).2.1 (l.getD i (0,0,0)).2.2).extract 1 (Kn P (l.getD i (0,0,0)).1 (l.getD i (0,0,0)).2.1 (l.getD i (0,0,0)).2.2).size from rfl]
    refine Yq (v:=.s _) rfl (Yc (Ye (Yg ?_)))
    have hw:=hbg2.2 _ rfl
    rw [Za7 h88] at hw
    obtain ⟨ho1,ho2,ho3,ho4⟩:=hw
    refine Yq (v:=.s _) rfl (wc rfl (Yr rfl rfl (Zbz (by omega)) (Zk rfl (Yb rfl (Yq (v:=.s _) rfl (Yb rfl (UT (a:=0) (b:=2) rfl rfl rfl (by omega) (Yb rfl (Yq (v:=.s _) rfl (Yb rfl (UT (a:=0) (b:=2) rfl rfl rfl (by omega) (Yb rfl (Yr rfl rfl (Zbu ho2) (Zq rfl (Zk rfl (Yb rfl (Yq (v:=.s _) rfl (Yb rfl (UT (a:=3) (b:=5) rfl rfl rfl (by omega) (Yb rfl (Yq (v:=.s _) rfl (Yb rfl (UT (a:=2) (b:=4) rfl rfl rfl (by omega) (Yb rfl (Yr rfl rfl (Zbu ho3) (Zq rfl (Zk rfl (Yb rfl (Yq (v:=.s _) rfl ?_)))))))))))))))))))))))))))))
    refine Yb rfl (Zbw rfl rfl (by omega) (Yb rfl (Zr rfl (Yb rfl (Zk rfl (Ys (t:=112) rfl (fun h112=>?_) (fun h112=>?_))))))) <;> simp only [NM] at h112
    ·refine Yb rfl (Yq (v:=.s _) rfl (Yb rfl (Zbw rfl rfl (by omega) (Yb rfl (Yr rfl rfl (ZbB (ZbL ho4 h112)) (Yb rfl (Zq rfl (Zq rfl (Yc (ZB rfl (Yh (Yf (Zj rfl (Zs rfl rfl (Zj rfl (Yc ?_))))))))))))))))
     refine ⟨l.length - (i+1),_,by omega,(ZaE (.refl _) (.cons _ (.refl _))),i+1,_,_,by omega,rfl,by rw [<- Zbv P (by omega)]; exact hr9,rfl,rfl,rfl,rfl,rfl,rfl⟩
    refine ZD rfl (ZC rfl (Yb rfl (Zq rfl (Zq rfl (Yc (ZB rfl (Yh (Yf (Zj rfl (Zs rfl rfl (Zj rfl (Yc ?_))))))))))))
    refine ⟨l.length - (i+1),_,by omega,(ZaE (.refl _) (.cons _ (.refl _))),i+1,_,_,by omega,rfl,by rw [<- Zbv P (by omega)]; exact hr9,rfl,rfl,rfl,rfl,rfl,rfl⟩
   refine Yh (Ye (Yg ?_))
   have hw:=hbg2.2 _ rfl
   rw [Za8 h88] at hw
   obtain ⟨ho1,ho2,ho3,ho4⟩:=hw
   refine Yq (v:=.s _) rfl (wc rfl (Yr rfl rfl (Zbz (by omega)) (Zk rfl (Yb rfl (Yq (v:=.s _) rfl (Yb rfl (UT (a:=0) (b:=2) rfl rfl rfl (by omega) (Yb rfl (Yq (v:=.s _) rfl (Yb rfl (UT (a:=0) (b:=2) rfl rfl rfl (by omega) (Yb rfl (Yr rfl rfl (Zbu ho2) (Zq rfl (Zk rfl (Yb rfl (Yq (v:=.s _) rfl (Yb rfl (UT (a:=3) (b:=5) rfl rfl rfl (by omega) (Yb rfl (Yq (v:=.s _) rfl (Yb rfl (UT (a:=2) (b:=4) rfl rfl rfl (by omega) (Yb rfl (Yr rfl rfl (Zbu ho3) (Zq rfl (Zk rfl (Yb rfl (Yq (v:=.s _) rfl ?_)))))))))))))))))))))))))))))
   refine Yb rfl (Zbw rfl rfl (by omega) (Yb rfl (Zr rfl (Yb rfl (Zk rfl (Ys (t:=112) rfl (fun h112=>?_) (fun h112=>?_))))))) <;> simp only [NM] at h112
   ·refine Yb rfl (Yq (v:=.s _) rfl (Yb rfl (Zbw rfl rfl (by omega) (Yb rfl (Yr rfl rfl (ZbB (ZbL ho4 h112)) (Yb rfl (Zq rfl (Zq rfl (Yc (ZB rfl (Yh (Yf (Zj rfl (Zs rfl rfl (Zj rfl (Yc ?_))))))))))))))))
    refine ⟨l.length - (i+1),_,by omega,(ZaE (.refl _) (.cons _ (.refl _))),i+1,_,_,by omega,rfl,by rw [<- Zbv P (by omega)]; exact hr9,rfl,rfl,rfl,rfl,rfl,rfl⟩
   refine ZD rfl (ZC rfl (Yb rfl (Zq rfl (Zq rfl (Yc (ZB rfl (Yh (Yf (Zj rfl (Zs rfl rfl (Zj rfl (Yc ?_))))))))))))
   refine ⟨l.length - (i+1),_,by omega,(ZaE (.refl _) (.cons _ (.refl _))),i+1,_,_,by omega,rfl,by rw [<- Zbv P (by omega)]; exact hr9,rfl,rfl,rfl,rfl,rfl,rfl⟩
  refine Yh (Yf (Zj rfl (Zs rfl rfl (Zj rfl (Yc ?_)))))
  refine ⟨l.length - (i+1),_,by omega,(ZaE (.refl _) (.cons _ (.refl _))),i+1,_,_,by omega,rfl,by rw [<- Zbv P (by omega)]; exact hr9,rfl,rfl,rfl,rfl,rfl,rfl⟩
 refine YX (Xe (Ze (Yo rfl rfl (Zaz _ (Zaz _ ZN)) (Yo rfl rfl (Zaz _ (Zaz _ ZM)) (Yt rfl (hend) rfl rfl rfl (Zo rfl (YD (v:=.s _) rfl rfl (YD (v:=.s (.int _ _)) rfl rfl (Yq (v:=.s _) rfl (Zj rfl (Zf (Zj rfl (Yr rfl rfl (K5 rfl) (Yo rfl rfl (Zaz _ (Zaz _ ZN)) (Yo rfl rfl (Zaz _ (Zaz _ ZM)) (Yt rfl (his) rfl rfl rfl (Zb6 rfl rfl (rfl) (Zk rfl (Yb rfl (Zj rfl (Yb rfl (Yr rfl rfl (K5 rfl) (Yb rfl (Zk rfl (ZD rfl (ZC rfl (YH rfl (YH rfl (ZC rfl ?_)))))))))))))))))))))))))))))
 refine Yb rfl (Zq rfl (Zq rfl (Zk rfl (Zg rfl ?_))))
 rfl
theorem ZbY (P M:Nat->Int) (hz:∀ i,133<=i->P i=0) (hm:(M 0,M 1,M 2) ∉ XE P):WR AM 4 [.agg 133 (ia P),.agg 3 (ia M)] [] (fun v _ _=>v=.s (.bool true)):=by
 have his:=YG (E2 P M)
 rw [ZaT hm] at his
 have hend:=YG (Long_no P M hm)
 refine YJ (a:=a4) rfl rfl (YI _) (ZQ rfl) (m:=0) rfl (Ze (YC rfl (YC rfl (Yq rfl (Yc (Ye (Ze (Yt rfl (YG D4) rfl rfl rfl (Yv (r:=.bool _) rfl rfl (Yc (ZB rfl (Yh (Ze ?_)))))))))))))
 obtain ⟨l,hleq⟩:∃ l,l=XE P:=⟨_,rfl⟩
 have hmv:=vj P
 rw [<- hleq] at hmv
 have hlen:l.length<=16896:=by rw [hleq]; exact vx P
 refine Yo rfl rfl ZN (YE rfl (hmv) rfl rfl (fun v1 own1 n1 hr1=>Yq (v:=v1) rfl (Zf (Yq rfl (Yc (Ye (Ze (Yq rfl (Yc (Yk (Xm (ZaE (.refl _) (.refl _)) (Xp (fun m f _ L=>∃ (i:Nat) (vS:V) (U7:HA),(i<=l.length)/\(m=l.length - i)/\(Sw (ZbA P (l.take i)) vS U7)/\(f 2=.ptr 0 0 133)/\(f 3=.ptr 1 0 3)/\(f 5=v1)/\(f 6=vS)/\(f 7=.s (.int .i64 i))/\(L=(U7++(own1++[(1,.sc .var 3 (ia M)),(0,.sc .var 133 (ia P))])))) (fun m f nb L hI=>?_) (l.length) (⟨0,.snil,[],by omega,by omega,Sw.nil (by simp [ZbA]),rfl,rfl,rfl,rfl,rfl,rfl⟩)))))))))))))
 obtain ⟨i,vS,U7,hi,hm2,hrS,k2,k3,k5,k6,k7,rfl⟩:=hI
 refine Za 2 k2 (Za 3 k3 (Za 5 k5 (Za 6 k6 (Za 7 k7 (Ye (Ze (Zj rfl (Yq (v:=v1) rfl (Wq rfl hr1.rx (by decide) (Xj l) (Zr rfl (Yc (Yj rfl (fun h3=>?_) (fun h3=>?_))))))))))))) <;> simp only [NM] at h3
 ·refine Yh (Ye (Yk (Ye (Yg (Yo rfl rfl (Zaz _ (Zaz _ ZN)) (Yq (v:=v1) rfl (Zj rfl ?_)))))))
  obtain ⟨b1,q1,md1,c1,F1,rfl,rfl,hF1⟩:=hr1.rx.at (by decide) (Xj l) (by omega)
  refine Zx rfl rfl ?_
  obtain ⟨hx0,hx1,hx2⟩:=xq hF1 (i:=i) (by omega)
  have hgm:(l.getD i (0,0,0))∈XE P:=by rw [<- hleq]; exact ZbG (by omega)
  obtain ⟨hs3,ht4,htx,hbg⟩:=ZbP (a:=(l.getD i (0,0,0)).1) (t:=(l.getD i (0,0,0)).2.1) (b:=(l.getD i (0,0,0)).2.2) hz hgm
  obtain ⟨_,hsq,_,hk6,_,_,_⟩:=ZbE hz hgm
  have hlong:=YG (kU P (dp F1 (0+(i:Int).toNat*3)) hz (by rw [show (dp F1 (0+(i:Int).toNat*3)) 0=(l.getD i (0,0,0)).1 from hx0,show (dp F1 (0+(i:Int).toNat*3)) 1=(l.getD i (0,0,0)).2.1 from hx1,show (dp F1 (0+(i:Int).toNat*3)) 2=(l.getD i (0,0,0)).2.2 from hx2]; exact hgm))
  rw [show (dp F1 (0+(i:Int).toNat*3)) 0=(l.getD i (0,0,0)).1 from hx0,show (dp F1 (0+(i:Int).toNat*3)) 1=(l.getD i (0,0,0)).2.1 from hx1,show (dp F1 (0+(i:Int).toNat*3)) 2=(l.getD i (0,0,0)).2.2 from hx2] at hlong
  have hshow:=gD (l.getD i (0,0,0)).1 (l.getD i (0,0,0)).2.1 (l.getD i (0,0,0)).2.2 htx
  have hlit : ∀ j, j < [(l.getD i (0, 0, 0)).1, (l.getD i (0, 0, 0)).2.1, (l.getD i (0, 0, 0)).2.2].length → (ovA (fun _ => 0) (0 * 3) 3 (dp F1 (0 + (i : Int).toNat * 3))) j = [(l.getD i (0, 0, 0)).1, (l.getD i (0, 0, 0)).2.1, (l.getD i (0, 0, 0)).2.2].getD j 0 := fun j hj => by
       match j,hj with
       | 0,_=>exact hx0
       | 1,_=>exact hx1
       | 2,_=>exact hx2
  have hol:(ZbA P (l.take i)).length=i:=by rw [ZbW,ZaN]; omega
  refine Yp rfl rfl (Zaz _ ZM) (Yt rfl (hlong) rfl rfl rfl (Zo rfl (YD (v:=.s _) rfl rfl (YD (v:=.s (.int _ _)) rfl rfl (Yq (v:=.s _) rfl (Zj rfl (Zf (Zn rfl (Zj rfl (Zx rfl rfl (Yp rfl rfl (Zaz _ ZM) (Wo rfl (.agg rfl .nil) (Wp (caps:=[]) rfl (hshow) rfl ((.row rfl hlit)) (Qf ZM) rfl rfl rfl (Zo rfl (YD (v:=.s _) rfl rfl (YD (v:=.s (.int _ _)) rfl rfl (Yq (v:=.s _) rfl (Zj rfl (Yc (Ye (Ze (Zj rfl (Yr rfl rfl (xZ rfl) (Zk rfl (Yb rfl (Zj rfl (Yb rfl (Yr rfl rfl (xZ rfl) (Zq rfl ?_)))))))))))))))))))))))))))))
  refine Zk rfl (Yb rfl (Yq (v:=.s _) rfl (Yb rfl (wc rfl (Yb rfl (Yr rfl rfl (Zbz (by omega)) (Zq rfl (Zk rfl (Yb rfl (Yq (v:=.s _) rfl (Yb rfl (wc rfl (Yb rfl (Yr rfl rfl (Zbz (by omega)) (Zq rfl (Yc (ZB rfl (Yh (Ye (Ze (Yq rfl (Yc (Yk (Xm (.cons _ (ZaE (.refl _) (.refl _))) (Xp (fun m f _ L=>∃ (k:Nat),(k<=i)/\(m=i - k)/\(f 2=.ptr 0 0 133)/\(f 3=.ptr 1 0 3)/\(f 5=.sl b1 0 l.length 3 c1)/\(f 6=vS)/\(f 7=.s (.int .i64 i))/\(f 8=.s (.str (Kn P (l.getD i (0,0,0)).1 (l.getD i (0,0,0)).2.1 (l.getD i (0,0,0)).2.2)))/\(f 10=.s (.str (ZbC (l.getD i (0,0,0)).1 (l.getD i (0,0,0)).2.1 (l.getD i (0,0,0)).2.2)))/\(f 12=.s (.int .i64 k))/\(L=(U7++[(b1,.sc md1 q1 (ia F1)),(1,.sc .var 3 (ia M)),(0,.sc .var 133 (ia P))]))) (fun m f nb L hI=>?_) (i) (⟨0,by omega,by omega,rfl,rfl,rfl,rfl,rfl,rfl,rfl,rfl,rfl⟩))))))))))))))))))))))))))
  obtain ⟨k,hk,hm3,k2,k3,k5,k6,k7,k8,k10,k12,rfl⟩:=hI
  refine Za 2 k2 (Za 3 k3 (Za 5 k5 (Za 6 k6 (Za 7 k7 (Za 8 k8 (Za 10 k10 (Za 12 k12 (Ye (Ze (Zj rfl (Zj rfl (Zr rfl (Yc (Yj rfl (fun h4=>?_) (fun h4=>?_))))))))))))))) <;> simp only [NM] at h4
  ·refine Yh (Ye (Yk (Ze (Yq (v:=vS) rfl (Zj rfl ?_)))))
   obtain ⟨bS,qS,gS,rfl,rfl,hgS⟩:=hrS.at (i:=k) (by rw [hol]; omega)
   refine D2 rfl rfl (by rw [hol]; omega) (Yn (x:=.str (Kn P (l.getD k (0,0,0)).1 (l.getD k (0,0,0)).2.1 (l.getD k (0,0,0)).2.2)) rfl rfl ZM (by rw [show 0+(k:Int).toNat*1=k by omega,hgS k (by rw [hol]; omega),Zb3 P (by omega) (by omega)]) (Yq (v:=.s _) rfl (Yr rfl rfl (ZbZ (Zca hz hleq (by omega) (by omega))) (Yc (ZB rfl (Yh (Yf (Zj rfl (Zs rfl rfl (Zj rfl (Yc ?_)))))))))))
   refine ⟨i - (k+1),_,by omega,(.refl _),k+1,by omega,rfl,rfl,rfl,rfl,rfl,rfl,rfl,rfl,rfl,rfl⟩
  refine YX (Xe (Ze (Yq (v:=vS) rfl (Yq (v:=.s _) rfl (EK rfl (ZbX (a:=(Kn P (l.getD i (0,0,0)).1 (l.getD i (0,0,0)).2.1 (l.getD i (0,0,0)).2.2)) rfl hrS rfl ZM (.there .here) (by rw [hol]; omega) (fun v9 own9 n9 hr9=>Yq (v:=v9) rfl (Zf (Yq (v:=.s _) rfl (Zbw rfl rfl (by omega) (Zr rfl (Yc (Yj rfl (fun h77=>?_) (fun h77=>?_)))))))))))))) <;> simp only [NM] at h77
  ·refine Ze ?_
   have hbg2:=hbg.resolve_left fun e=>h77 (o_no e)
   refine Yq (v:=.s _) rfl (Yq (v:=.s _) rfl (Yc (Ye (Ze (Zn rfl (Zj rfl (Zx rfl rfl (Yd rfl rfl rfl (Ym (x:=(l.getD i (0,0,0)).1) rfl rfl (Zaz _ ZN) (hx0) (Zy rfl (Zw rfl rfl rfl (Yd rfl rfl rfl (Ym (x:=(P (sqI (l.getD i (0,0,0)).1))) rfl rfl (Zaz _ ZP) (rfl) (Zr rfl (Yc (Yj rfl (fun h88=>?_) (fun h88=>?_))))))))))))))))) <;> simp only [NM] at h88
   ·refine Yf (Yq (v:=.s _) rfl (UT (a:=1) (b:=((Kn P (l.getD i (0,0,0)).1 (l.getD i (0,0,0)).2.1 (l.getD i (0,0,0)).2.2).size:Nat)) rfl rfl rfl (by omega) ?_))
    rw [show (Kn P (l.getD i (0,0,0)).1 (l.getD i (0,0,0)).2.1 (l.getD i (0,0,0)).2.2).extract (1:Int).toNat (((Kn P (l.getD i (0,0,0)).1 (l.getD i (0,0,0)).2.1 (l.getD i (0,0,0)).2.2).size:Nat):Int).toNat=(Kn P (l.getD i (0,0,0)).1 (l.getD i (0,0,0)).2.1 (l.getD i (0,0,0)).2.2).extract 1 (Kn P (l.getD i (0,0,0)).1 (l.getD i (0,0,0)).2.1 (l.getD i (0,0,0)).2.2).size from rfl]
    refine Yq (v:=.s _) rfl (Yc (Ye (Yg ?_)))
    have hw:=hbg2.2 _ rfl
    rw [Za7 h88] at hw
    obtain ⟨ho1,ho2,ho3,ho4⟩:=hw
    refine Yq (v:=.s _) rfl (wc rfl (Yr rfl rfl (Zbz (by omega)) (Zk rfl (Yb rfl (Yq (v:=.s _) rfl (Yb rfl (UT (a:=0) (b:=2) rfl rfl rfl (by omega) (Yb rfl (Yq (v:=.s _) rfl (Yb rfl (UT (a:=0) (b:=2) rfl rfl rfl (by omega) (Yb rfl (Yr rfl rfl (Zbu ho2) (Zq rfl (Zk rfl (Yb rfl (Yq (v:=.s _) rfl (Yb rfl (UT (a:=3) (b:=5) rfl rfl rfl (by omega) (Yb rfl (Yq (v:=.s _) rfl (Yb rfl (UT (a:=2) (b:=4) rfl rfl rfl (by omega) (Yb rfl (Yr rfl rfl (Zbu ho3) (Zq rfl (Zk rfl (Yb rfl (Yq (v:=.s _) rfl ?_)))))))))))))))))))))))))))))
    refine Yb rfl (Zbw rfl rfl (by omega) (Yb rfl (Zr rfl (Yb rfl (Zk rfl (Ys (t:=112) rfl (fun h112=>?_) (fun h112=>?_))))))) <;> simp only [NM] at h112
    ·refine Yb rfl (Yq (v:=.s _) rfl (Yb rfl (Zbw rfl rfl (by omega) (Yb rfl (Yr rfl rfl (ZbB (ZbL ho4 h112)) (Yb rfl (Zq rfl (Zq rfl (Yc (ZB rfl (Yh (Yf (Zj rfl (Zs rfl rfl (Zj rfl (Yc ?_))))))))))))))))
     refine ⟨l.length - (i+1),_,by omega,(ZaE (.refl _) (.cons _ (.refl _))),i+1,_,_,by omega,rfl,by rw [<- Zbv P (by omega)]; exact hr9,rfl,rfl,rfl,rfl,rfl,rfl⟩
    refine ZD rfl (ZC rfl (Yb rfl (Zq rfl (Zq rfl (Yc (ZB rfl (Yh (Yf (Zj rfl (Zs rfl rfl (Zj rfl (Yc ?_))))))))))))
    refine ⟨l.length - (i+1),_,by omega,(ZaE (.refl _) (.cons _ (.refl _))),i+1,_,_,by omega,rfl,by rw [<- Zbv P (by omega)]; exact hr9,rfl,rfl,rfl,rfl,rfl,rfl⟩
   refine Yh (Ye (Yg ?_))
   have hw:=hbg2.2 _ rfl
   rw [Za8 h88] at hw
   obtain ⟨ho1,ho2,ho3,ho4⟩:=hw
   refine Yq (v:=.s _) rfl (wc rfl (Yr rfl rfl (Zbz (by omega)) (Zk rfl (Yb rfl (Yq (v:=.s _) rfl (Yb rfl (UT (a:=0) (b:=2) rfl rfl rfl (by omega) (Yb rfl (Yq (v:=.s _) rfl (Yb rfl (UT (a:=0) (b:=2) rfl rfl rfl (by omega) (Yb rfl (Yr rfl rfl (Zbu ho2) (Zq rfl (Zk rfl (Yb rfl (Yq (v:=.s _) rfl (Yb rfl (UT (a:=3) (b:=5) rfl rfl rfl (by omega) (Yb rfl (Yq (v:=.s _) rfl (Yb rfl (UT (a:=2) (b:=4) rfl rfl rfl (by omega) (Yb rfl (Yr rfl rfl (Zbu ho3) (Zq rfl (Zk rfl (Yb rfl (Yq (v:=.s _) rfl ?_)))))))))))))))))))))))))))))
   refine Yb rfl (Zbw rfl rfl (by omega) (Yb rfl (Zr rfl (Yb rfl (Zk rfl (Ys (t:=112) rfl (fun h112=>?_) (fun h112=>?_))))))) <;> simp only [NM] at h112
   ·refine Yb rfl (Yq (v:=.s _) rfl (Yb rfl (Zbw rfl rfl (by omega) (Yb rfl (Yr rfl rfl (ZbB (ZbL ho4 h112)) (Yb rfl (Zq rfl (Zq rfl (Yc (ZB rfl (Yh (Yf (Zj rfl (Zs rfl rfl (Zj rfl (Yc ?_))))))))))))))))
    refine ⟨l.length - (i+1),_,by omega,(ZaE (.refl _) (.cons _ (.refl _))),i+1,_,_,by omega,rfl,by rw [<- Zbv P (by omega)]; exact hr9,rfl,rfl,rfl,rfl,rfl,rfl⟩
   refine ZD rfl (ZC rfl (Yb rfl (Zq rfl (Zq rfl (Yc (ZB rfl (Yh (Yf (Zj rfl (Zs rfl rfl (Zj rfl (Yc ?_))))))))))))
   refine ⟨l.length - (i+1),_,by omega,(ZaE (.refl _) (.cons _ (.refl _))),i+1,_,_,by omega,rfl,by rw [<- Zbv P (by omega)]; exact hr9,rfl,rfl,rfl,rfl,rfl,rfl⟩
  refine Yh (Yf (Zj rfl (Zs rfl rfl (Zj rfl (Yc ?_)))))
  refine ⟨l.length - (i+1),_,by omega,(ZaE (.refl _) (.cons _ (.refl _))),i+1,_,_,by omega,rfl,by rw [<- Zbv P (by omega)]; exact hr9,rfl,rfl,rfl,rfl,rfl,rfl⟩
 refine YX (Xe (Ze (Yo rfl rfl (Zaz _ (Zaz _ ZN)) (Yo rfl rfl (Zaz _ (Zaz _ ZM)) (Yt rfl (hend) rfl rfl rfl (Zo rfl (YD (v:=.s _) rfl rfl (YD (v:=.s (.int _ _)) rfl rfl (Yq (v:=.s _) rfl (Zj rfl (Zf (Zj rfl (Yr rfl rfl (ub (by decide)) (Yo rfl rfl (Zaz _ (Zaz _ ZN)) (Yo rfl rfl (Zaz _ (Zaz _ ZM)) (Yt rfl (his) rfl rfl rfl (Zb6 rfl rfl (rfl) (Zk rfl (Yb rfl (Zj rfl (Yb rfl (Yr rfl rfl (ub (by decide)) (Yb rfl (Zk rfl (Yb rfl (Zj rfl (Yb rfl (Yr rfl rfl (K5 rfl) (Yb rfl ?_)))))))))))))))))))))))))))))
 refine Zk rfl (Yb rfl (Yq (v:=.s _) rfl (Yb rfl (Yr rfl rfl (Ec _) (Yb rfl (Zq rfl (Yb rfl (Zq rfl (Zq rfl (Zk rfl (Zg rfl ?_)))))))))))
 rfl
theorem ZbT (P M:Nat->Int) (hz:∀ i,133<=i->P i=0):WR AM 4 [.agg 133 (ia P),.agg 3 (ia M)] [] (fun v _ _=>v=.s (.bool true)):=by
 by_cases hm:(M 0,M 1,M 2)∈XE P
 ·exact ZbS P M hz hm
 exact ZbY P M hz hm
end Go.Proofs.YtlkighkfkdpncaaGreatDoor
