/- Texts of this seat, joined. -/
import Derived.ProofKit
import Derived.Test.YtlkighkfkdpncaaGreatAm0
import Derived.Test.YtlkighkfkdpncaaGreatAm1
import Derived.Test.YtlkighkfkdpncaaGreatAm2
import Derived.Test.YtlkighkfkdpncaaGreatM0
import Derived.Test.YtlkighkfkdpncaaGreatM1
set_option linter.unusedSimpArgs false
set_option linter.unusedVariables false
namespace Go.Proofs.YtlkighkfkdpncaaGreat
open Go Go.Am
def QJ (P:Nat→Int) (c s a:Int):Bool:=decide (P (sqI a+1) = c) && decide (s∈XY P a)
def Vx (P:Nat→Int) (c s:Int):Bool:=(X4 64).any (QJ P c s)
theorem any_no {p:Int→Bool} {i:Nat} (h:∀ a:Nat,a < i→p a = false):(X4 i).any p = false:=by
 unfold X4
 rw [List.any_map,List.any_eq_false]
 intro a ha
 have:=h a (List.mem_range.1 ha)
 simpa using this
theorem any_yes {p:Int→Bool} {i k:Nat} (hi:i < k) (h:p i = true):(X4 k).any p = true:=by
 unfold X4
 rw [List.any_map,List.any_eq_true]
 exact ⟨i,List.mem_range.2 hi,h⟩
def optV:Option S→V
 | none=>.undef
 | some x=>.s x
def Jf (g0 g10 g11 g18:Nat→S) (x1 x9 x13 x14 x15 x17 x19 x20:S) (ml o:Nat) (c:Cp) (u:Option S):List V:=[.agg 133 g0,.s x1,.sl 4 0 ml 1 c,.ptr 1 0 133,.undef,.undef,.ptr 2 0 1,.ptr 3 0 133,.undef,.s x9,.agg 133 g10,.agg 133 g11,.sl 4 0 ml 1 c,.s x13,.s x14,.s x15,.ptr 4 o 1,.s x17,.agg 133 g18,.s x19,.s x20,.fn 72 [.ptr 5 0 133,.ptr 6 0 1,.ptr 7 0 1],.undef,optV u]
section
variable (g0 g10 g11 g18:Nat→S) (x1 x9 x13 x14 x15 x17 x19 x20:S) (ml o:Nat) (c:Cp) (u:Option S)
noncomputable def UU (st:Nat) (r:Nat→S) (B1 B3 B4:Blk) (P:Nat→Int) (b s:Int):List Blk:=[.lp 22 yA (Jf g0 g10 g11 g18 x1 x9 x13 x14 x15 x17 x19 x20 ml o c u) st,B1,.sc .var 1 r,B3,B4,.sc .var 133 (ia P),.sc .var 1 (fun _=>.int .i64 b),.sc .var 1 (fun _=>.int .i64 s)]
theorem rF {r:Nat→S} {B1 B3 B4:Blk} {P:Nat→Int} {b s a:Int}:WR AM 22 [.pan .undef,.yv 0,.s (.int .i64 a)] (UU g0 g10 g11 g18 x1 x9 x13 x14 x15 x17 x19 x20 ml o c u 0 r B1 B3 B4 P b s) (fun v n L=>v = .s (.bool false)∧UQ L 0 (UU g0 g10 g11 g18 x1 x9 x13 x14 x15 x17 x19 x20 ml o c u 2 (WU r 0 1 fun _=>.bool true) B1 B3 B4 P b s)):=by
 refine RC (N:=24) (B:=B33) (f:=YH ((Jf g0 g10 g11 g18 x1 x9 x13 x14 x15 x17 x19 x20 ml o c u).set 22 (.s (.int .i64 a)))) (caps:=Jf g0 g10 g11 g18 x1 x9 x13 x14 x15 x17 x19 x20 ml o c u) rfl rfl rfl (Ek rfl) rfl (Yg ⟨22,yA,Jf g0 g10 g11 g18 x1 x9 x13 x14 x15 x17 x19 x20 ml o c u,rfl,?_⟩)
 refine Yj (Yd (Ye (RO rfl rfl rfl rfl rfl rfl (.there (.there .here)) (Yb (Yh ⟨22,yA,Jf g0 g10 g11 g18 x1 x9 x13 x14 x15 x17 x19 x20 ml o c u,rfl,rfl,?_⟩)))))
 exact ⟨.head _,.tail _ ZL,.tail _ ZM,.tail _ ZN,.tail _ ZO,.tail _ (.tail _ ZO),.tail _ (.tail _ (.tail _ ZO)),.tail _ (.tail _ (.tail _ (.tail _ ZO))),trivial⟩
theorem qG {st:Nat} {r G1 G3 G4:Nat→S} {md:Md} {q:Nat} {P:Nat→Int} {b s:Int}:Xn [0,1,2,3,4,5,6,7] (UU g0 g10 g11 g18 x1 x9 x13 x14 x15 x17 x19 x20 ml o c u st r (.sc .var 133 G1) (.sc .var 133 G3) (.sc md q G4) P b s) = some (UU g0 g10 g11 g18 x1 x9 x13 x14 x15 x17 x19 x20 ml o c u st r (.sc .var 133 G1) (.sc .var 133 G3) (.sc md q G4) P b s):=by cases u <;> rfl
theorem vF {st:Nat} {r G1 G3 G4:Nat→S} {md:Md} {q:Nat} {P:Nat→Int} {b s:Int}:Y6 (UU g0 g10 g11 g18 x1 x9 x13 x14 x15 x17 x19 x20 ml o c u st r (.sc .var 133 G1) (.sc .var 133 G3) (.sc md q G4) P b s) 64 [0] [] = List.range 8:=by cases u <;> rfl
theorem jA {st:Nat} {r G1 G3 G4:Nat→S} {md:Md} {q:Nat} {P:Nat→Int} {b s:Int}:Y6 (UU g0 g10 g11 g18 x1 x9 x13 x14 x15 x17 x19 x20 ml o c u st r (.sc .var 133 G1) (.sc .var 133 G3) (.sc md q G4) P b s) 64 [0,5,6,7] [] = List.range 8:=by cases u <;> rfl
end
theorem wy (P:Nat→Int) (s b:Int):WR AM 53 [.agg 133 (ia P),.s (.int .i64 s),.s (.int .i64 b)] [] (fun v n L=>v = .fn 72 [.ptr 0 0 133,.ptr 2 0 1,.ptr 1 0 1]∧n = 3∧L = [(2,.sc .var 1 fun _=>.int .i64 b),(1,.sc .var 1 fun _=>.int .i64 s),(0,.sc .var 133 (ia P))]):=by
 refine YI (a:=a53) rfl rfl (YH _) (ZP rfl) (m:=0) rfl (Yd (Ye (YB rfl (kC rfl (kC rfl (Yp rfl (Yb (Yd (Ye (Qz rfl (Yp rfl (Yb ?_))))))))))))
 exact Yh ⟨_,YK rfl YS,rfl,rfl,rfl⟩
theorem rR {A:AP} {fid:FuncId} {z:Nat} {av:List V} {l:List Int} (hs:RtR A fid z av [] l []) (h1:V.looseL av = true) {n:Nat} {L:HA}:∀ σ,Hp σ n L→∃ r,Y4 (Run A) false (.fn fid []) av σ = some r:=fun σ hσ=>by
 have hk:=YD (A:=A) (N:=0) (f:=fun _=>.undef) (n:=n) (L:=L) (K:=fun _ _ _=>True) (Zp:=fun _ _ _ _=>False) (rest:=[]) (d:=0) (x:=.k (.fn fid [])) (xs:=av.map .k) rfl hs (by rw [List.map_map]; exact List.map_id'' (fun _=>rfl) _) h1 (fun _ _ _ _=>Yb trivial)
 obtain ⟨x,f',σ',n',L',e1,e2,e3⟩:=hk σ hσ
 have hev:(av.map O.k).map (fun x=>x.ev (E 0 fun _=>.undef)) = av:=by rw [List.map_map]; exact List.map_id'' (fun _=>rfl) _
 cases hc:Y4 (Run A) false (.fn fid []) av σ with
 | some r=>exact ⟨r,rfl⟩
 | none =>
  exfalso
  simp only [Ww,XA,Xk,YJ,hev] at e1
  rw [show (O.k (.fn fid [])).ev (E 0 fun _=>.undef) = .fn fid [] from rfl,hc] at e1
  simp only [Option.map_none,Option.map_eq_some_iff,Prod.mk.injEq] at e1
  obtain ⟨y,_,h,_⟩:=e1
  subst h
  exact e3
theorem iter_is (g0 g10 g11 g18:Nat→S) (x1 x9 x13 x14 x15 x17 x19 x20:S) (ml o:Nat) (c:Cp) (u:Option S) {r G1 G3 G4:Nat→S} {md:Md} {q:Nat} (P:Nat→Int) (b s:Int):WR AM 72 [.yv 0,.ptr 5 0 133,.ptr 6 0 1,.ptr 7 0 1] (UU g0 g10 g11 g18 x1 x9 x13 x14 x15 x17 x19 x20 ml o c u 0 r (.sc .var 133 G1) (.sc .var 133 G3) (.sc md q G4) P b s) (fun v _ L=>v = .tup []∧UQ L 0 (if Vx P b s = true then UU g0 g10 g11 g18 x1 x9 x13 x14 x15 x17 x19 x20 ml o c u 2 (WU r 0 1 fun _=>.bool true) (.sc .var 133 G1) (.sc .var 133 G3) (.sc md q G4) P b s else UU g0 g10 g11 g18 x1 x9 x13 x14 x15 x17 x19 x20 ml o c u 0 r (.sc .var 133 G1) (.sc .var 133 G3) (.sc md q G4) P b s)):=by
 refine YI (a:=a72) rfl rfl (YH _) (ZP rfl) (m:=8) rfl (Zd (Zx rfl (Zx rfl (Yn rfl rfl (.tail _ (.tail _ ZO)) (Yp rfl (Yb (Yj (Xe (.refl _) (Xg (fun m f _ L=>∃ (i:Nat),(i≤64)∧(m = 64 - i)∧(∀ a:Nat,a < i→QJ P b s a = false)∧(f 0 = .yv 0)∧(f 1 = .ptr 5 0 133)∧(f 2 = .ptr 6 0 1)∧(f 3 = .ptr 7 0 1)∧(f 9 = .agg 128 (ia P))∧(f 10 = .s (.int .i64 i))∧(L = [(0,.lp 22 yA (Jf g0 g10 g11 g18 x1 x9 x13 x14 x15 x17 x19 x20 ml o c u) 0),(1,.sc .var 133 G1),(2,.sc .var 1 r),(3,.sc .var 133 G3),(4,.sc md q G4),(5,.sc .var 133 (ia P)),(6,.sc .var 1 (fun _=>.int .i64 b)),(7,.sc .var 1 (fun _=>.int .i64 s))])) (fun m f nb L hI=>?_) (64) (⟨0,by omega,rfl,fun a h=>by omega,rfl,rfl,rfl,rfl,rfl,rfl,rfl⟩))))))))))
 obtain ⟨i,hi,hm,hn,k0,k1,k2,k3,k9,k10,rfl⟩:=hI
 refine pH 0 k0 (pH 1 k1 (pH 2 k2 (pH 3 k3 (pH 9 k9 (pH 10 k10 (Zd (Zq rfl (Yb (Yd (Yi rfl (fun h1=>?_) (fun h1=>?_))))))))))) <;> simp only [NM] at h1
 ·refine Yg (Yd (Yj (Zd (Zi rfl (zq rfl rfl rfl (by omega) (Yx (Zi rfl (Yy rfl rfl rfl rfl .here (Yb (Yd (WP_parcO2' [0,1,2,3,4,5,6] [7,8,9,10,11,12,13,14,15,16] [8,7,9,10,11,12,13,14,15,16] rfl (by decide +kernel) ?_)))))))))))
  simp only [Xr,List.getElem?_cons_zero,List.getElem?_cons_succ]
  refine Zy rfl (Yl (x:=P (sqI i+1)) rfl rfl ZL (show P ((i:Int).toNat*2+1) = _ from congrArg P (by have hq:sqI (i:Int) = 0+(i:Int).toNat*2:=rfl; omega)) (Ym (x:=.int _ _) rfl rfl (.tail _ (.tail _ (.tail _ (.tail _ ZO)))) rfl (Zq rfl (Zj rfl (Yr (t:=18) rfl (fun h2=>?_) (fun h2=>?_)))))) <;> simp only [NM] at h2
  ·refine Ya rfl (Yn rfl rfl (.tail _ (.tail _ (.tail _ ZO))) (Ya rfl (Zi rfl (Yb (⟨wq (t:=18) (b:=7) rfl rfl rfl rfl (.tail _ (.tail _ (.tail _ (.tail _ (.tail _ ZO))))) ⟨.s (.int .i64 s),fun σ h=>by simp only [rdV,h,cond_false]⟩ rfl rfl (rR (xf P i (by omega)) rfl),?_⟩)))))
   refine Ki (l1:=[_,_,_,_,_,_,_]) (l2:=[_,_,_]) (Ya rfl (YD rfl (xf P i (by omega)) rfl rfl (fun v1 own1 n1 hr1=>Ya rfl (Ym (x:=.int _ _) rfl rfl (List.mem_append_right _ (.tail _ (.tail _ (.tail _ (.tail _ (.tail _ ZO)))))) rfl (Ya rfl (VF (caps:=[]) rfl (qO s (XY P i) (Nat.le_trans (Ez P i) (by decide))) rfl (hr1.rx) (fun _ h=>(List.mem_append_left _ h)) rfl rfl rfl (Zo rfl (Zj rfl (Yr (t:=25) rfl (fun h3=>?_) (fun h3=>?_)))))))))) <;> simp only [NM] at h3
   ·refine Ya rfl (Yp (v:=.yv _) rfl (Ya rfl (Zi rfl (Yb (Qn (List.sublist_append_of_sublist_right (.cons _ (.refl _))) (Eo rfl ?_))))))
    refine pv (Lr:=[(0,_),(1,_),(2,_),(3,_),(4,_),(5,_),(6,_),(7,_)]) (L0:=[]) (vs:=[.yv 0,.s (.int .i64 i)]) (Bs:=UU g0 g10 g11 g18 x1 x9 x13 x14 x15 x17 x19 x20 ml o c u 0 r (.sc .var 133 G1) (.sc .var 133 G3) (.sc md q G4) P b s) (by first | (rw [List.append_nil]; done) | (rw [List.append_nil]; exact .refl _)) rfl rfl ZL rfl (qG g0 g10 g11 g18 x1 x9 x13 x14 x15 x17 x19 x20 ml o c u) rfl (vF g0 g10 g11 g18 x1 x9 x13 x14 x15 x17 x19 x20 ml o c u) ?_
    refine U0 (rF g0 g10 g11 g18 x1 x9 x13 x14 x15 x17 x19 x20 ml o c u) ?_
    rintro v n1 L1 ⟨rfl,hfa⟩
    refine ⟨UU g0 g10 g11 g18 x1 x9 x13 x14 x15 x17 x19 x20 ml o c u 2 (WU r 0 1 fun _=>.bool true) (.sc .var 133 G1) (.sc .var 133 G3) (.sc md q G4) P b s,.s (.bool false),_,hfa,rfl,rfl,rfl,qG g0 g10 g11 g18 x1 x9 x13 x14 x15 x17 x19 x20 ml o c u,?_⟩
    refine WY (Ya rfl (Yu (r:=.bool _) rfl rfl (Zo rfl (Yb (Zz rfl (Yh (⟨_,YS,?_⟩)))))))
    refine ⟨rfl,?_⟩
    rw [if_pos (show Vx P b s = true from any_yes (p:=QJ P b s) (i:=i) (by omega) (by unfold QJ; rw [Bool.and_eq_true,decide_eq_true_eq,decide_eq_true_eq]; exact ⟨by assumption,by assumption⟩))]
    exact ⟨ZL,ZM,ZN,ZO,(.tail _ ZO),(.tail _ (.tail _ ZO)),(.tail _ (.tail _ (.tail _ ZO))),(.tail _ (.tail _ (.tail _ (.tail _ ZO)))),trivial⟩
   ·refine ZC rfl (Yb (WY (ZC rfl (Zo rfl (Yb (ZA rfl (Yg (Ye (Zr rfl rfl (Zi rfl (Yb (⟨64 - (i+1),_,by omega,(List.sublist_append_of_sublist_right (.cons _ (.refl _))),i+1,by omega,rfl,?_,rfl,rfl,rfl,rfl,rfl,rfl,rfl⟩))))))))))))
    intro a ha
    by_cases e:a = i
    · subst e; unfold QJ; rw [Bool.and_eq_false_iff,decide_eq_false_iff_not,decide_eq_false_iff_not]; first | exact .inl (by assumption) | exact .inr (by assumption)
    · exact hn a (by omega)
  ·refine ZC rfl (Yb (⟨ta (t:=18) rfl rfl rfl rfl rfl rfl,WY ?_⟩))
   refine ZC rfl (ZB rfl (Zo rfl (Zj rfl (ZD rfl (Zo rfl (Yb (ZA rfl (Yg (Ye (Zr rfl rfl (Zi rfl (Yb (⟨64 - (i+1),_,by omega,(.cons _ (.refl _)),i+1,by omega,rfl,?_,rfl,rfl,rfl,rfl,rfl,rfl,rfl⟩)))))))))))))
   intro a ha
   by_cases e:a = i
   · subst e; unfold QJ; rw [Bool.and_eq_false_iff,decide_eq_false_iff_not,decide_eq_false_iff_not]; first | exact .inl (by assumption) | exact .inr (by assumption)
   · exact hn a (by omega)
 ·refine YZ (Xc (⟨_,YS,?_⟩))
  obtain rfl:i = 64:=by omega
  refine ⟨rfl,?_⟩
  have hno:=any_no (p:=QJ P b s) hn
  rw [if_neg (show ¬ Vx P b s = true by unfold Vx; rw [hno]; decide)]
  exact ⟨ZL,ZM,ZN,ZO,(.tail _ ZO),(.tail _ (.tail _ ZO)),(.tail _ (.tail _ (.tail _ ZO))),(.tail _ (.tail _ (.tail _ (.tail _ ZO)))),trivial⟩
open Go Go.Am
theorem perm7 {α:Type} (a b c d e f g:α):[g,f,e,a,b,c,d].Perm [a,b,c,d,e,f,g]:=by
 have h:([g,f,e]++[a,b,c,d]).Perm ([a,b,c,d]++[g,f,e]):=List.perm_append_comm
 exact h.trans (List.Perm.append_left [a,b,c,d] (List.reverse_perm [e,f,g]))
theorem perm3 {α:Type} (a b c:α) (l:List α):(c::b::a::l).Perm (a::b::c::l):=(List.reverse_perm [a,b,c]).append_right l
theorem cut2 (P:Nat→Int):∀ i,i < 133→ovA (fun _=>0) 0 133 (ovA (fun _=>0) 0 133 P) i = P i:=TG P
theorem xq {P Q:Nat→Int} (h:∀ i,i < 133→Q i = P i) (c s:Int):Vx Q c s = Vx P c s:=by
 have hh:∀ a:Nat,a < 64→QJ Q c s a = QJ P c s a:=fun a ha=>by
  have hq:sqI (a:Int) = 0+(a:Int).toNat*2:=rfl
  unfold QJ
  rw [h (sqI (a:Int)+1) (by omega),Ec h (by omega)]
 unfold Vx X4
 rw [List.any_map,List.any_map,Bool.eq_iff_iff,List.any_eq_true,List.any_eq_true]
 constructor
 ·rintro ⟨a,ha,hx⟩; exact ⟨a,ha,by show QJ P c s a = true; rw [← hh a (List.mem_range.1 ha)]; exact hx⟩
 ·rintro ⟨a,ha,hx⟩; exact ⟨a,ha,by show QJ Q c s a = true; rw [hh a (List.mem_range.1 ha)]; exact hx⟩
theorem any_at {p:Int→Bool} {l:List Int} {i:Nat} (hi:i < l.length) (h:p (l.getD i 0) = true):l.any p = true:=by
 rw [List.any_eq_true]
 rw [List.getD_eq_getElem?_getD,List.getElem?_eq_getElem hi] at h
 exact ⟨l[i],List.getElem_mem hi,h⟩
theorem wX {p:Int→Bool} {l:List Int} (h:∀ j:Nat,j < l.length→p (l.getD j 0) = false):l.any p = false:=by
 rw [List.any_eq_false]
 intro x hx
 obtain ⟨j,hj,rfl⟩:=List.mem_iff_getElem.1 hx
 have:=h j hj
 rw [List.getD_eq_getElem?_getD,List.getElem?_eq_getElem hj] at this
 simpa using this
theorem kY (P:Nat→Int) (c:Int) (l:List Int) (hlen:l.length≤1000000):RdR AM 33 1 [.agg 133 (ia P),.s (.int .i64 c)] [] l (.s (.bool (l.any (Vx P c)))):=by
 refine ER fun v Bs hc=>?_
 refine YI (a:=a33) rfl rfl (YH _) (ZP rfl) rfl ?_ (by first | rfl | (cases hc <;> rfl))
 have hr0:=hc.rx
 rw [show Xj 0 Bs = Xj 0 Bs++[] from (List.append_nil _).symm]
 generalize hown:Xj 0 Bs = own0 at hr0 ⊢
 refine Zd (YB rfl (um (Ze (Yn rfl rfl ZM (YA (Q:=ovA (fun _=>0) 0 133 P) rfl (.agg rfl .nil) (Yx (Yy rfl rfl rfl rfl .here (Yb (Yd (Zd (Yp (v:=v) rfl (Vn rfl hr0 (by decide) Ka (Yp rfl (Yb (Yj (yD (perm3 _ _ _ _) (Xe (.cons_cons _ (.cons_cons _ (.cons_cons _ (List.Sublist.append (.refl _) .slnil)))) (Xg (fun m f _ L=>∃ (i:Nat) (u:Option S),(i≤l.length)∧(m = l.length - i)∧(∀ j:Nat,j < i→Vx P c (l.getD j 0) = false)∧(f 0 = .agg 133 (ia P))∧(f 1 = .s (.int .i64 c))∧(f 2 = v)∧(f 3 = .ptr Bs.length 0 133)∧(f 4 = .undef)∧(f 5 = .undef)∧(f 6 = .ptr (Bs.length+1) 0 1)∧(f 7 = .ptr (Bs.length+1+1) 0 133)∧(f 8 = .undef)∧(f 10 = .agg 133 (ia P))∧(f 11 = .agg 133 (ia (ovA (fun _=>0) 0 133 P)))∧(f 12 = v)∧(f 13 = .s (.int .i64 l.length))∧(f 14 = .s (.int .i64 i))∧(f 22 = .undef)∧(f 23 = optV u)∧(L = (Bs.length,.sc .var 133 (ia P))::(Bs.length+1,.sc .var 1 (fun _=>.bool false))::(Bs.length+1+1,.sc .var 133 (ia (ovA (fun _=>0) 0 133 (ovA (fun _=>0) 0 133 P))))::(own0++[]))) (fun m f nb L hI=>?_) (l.length) (⟨0,none,by omega,by omega,fun j hj=>by omega,rfl,rfl,rfl,rfl,rfl,rfl,rfl,rfl,rfl,rfl,rfl,rfl,rfl,rfl,rfl,rfl,rfl⟩)))))))))))))))))))
 obtain ⟨i,u,hi,hm,hn,k0,k1,k2,k3,k4,k5,k6,k7,k8,k10,k11,k12,k13,k14,k22,k23,rfl⟩:=hI
 refine pH 0 k0 (pH 1 k1 (pH 2 k2 (pH 3 k3 (pH 4 k4 (pH 5 k5 (pH 6 k6 (pH 7 k7 (pH 8 k8 (pH 10 k10 (pH 11 k11 (pH 12 k12 (pH 13 k13 (pH 14 k14 (pH 22 k22 (pH 23 k23 (Zd (Zq rfl (Yb (Yd (Yi rfl (fun h1=>?_) (fun h1=>?_))))))))))))))))))))) <;> simp only [NM] at h1
 ·refine Yg (Yd (Yj (Zd ?_)))
  obtain ⟨b0,q0,md0,c0,F0,rfl,rfl,hF0⟩:=hr0.at (by decide) Ka (by omega)
  refine Zw rfl rfl (Yl (x:=(l.getD i 0)) rfl rfl ZO (ld1 hF0 (by omega)) (Zi rfl (Ze (Yn rfl rfl ZN (Zi rfl (Zi rfl (w5 (fv:=.fn 53 []) (rs:=[]) (vs:=[.agg 133 (ia (ovA (fun _=>0) 0 133 (ovA (fun _=>0) 0 133 P))),.s (.int .i64 (l.getD i 0)),.s (.int .i64 c)]) (Bs:=[]) rfl rfl rfl rfl (U0 (wy (ovA (fun _=>0) 0 133 (ovA (fun _=>0) 0 133 P)) (l.getD i 0) c) ?_))))))))
  rintro v9 n9 L9 ⟨rfl,rfl,rfl⟩
  refine ⟨.fn 72 [.ptr nb 0 133,.ptr (nb+1) 0 1,.ptr (nb+2) 0 1],[],[.sc .var 133 (ia (ovA (fun _=>0) 0 133 (ovA (fun _=>0) 0 133 P))),.sc .var 1 (fun _=>.int .i64 c),.sc .var 1 (fun _=>.int .i64 (l.getD i 0))],rfl,?_⟩
  refine Yb (Yj ?_)
  refine Zav (Lr:=[(Bs.length,_),(Bs.length+1,_),(Bs.length+1+1,_),(b0,_),(nb,_),(nb+1,_),(nb+2,_)]) (L0:=[]) (vs:=[.yv 0,.ptr 5 0 133,.ptr 6 0 1,.ptr 7 0 1]) (caps:=Jf (ia P) (ia P) (ia (ovA (fun _=>0) 0 133 P)) (ia (ovA (fun _=>0) 0 133 (ovA (fun _=>0) 0 133 P))) (.int .i64 c) (.int .i64 (l.getD i 0)) (.int .i64 l.length) (.int .i64 i) (.bool (decide ((i:Int) < (l.length:Int)))) (.int .i64 (l.getD i 0)) (.int .i64 (l.getD i 0)) (.int .i64 c) l.length (0+(i:Int).toNat*1) c0 u) (Br:=[.sc .var 133 (ia P),.sc .var 1 (fun _=>.bool false),.sc .var 133 (ia (ovA (fun _=>0) 0 133 (ovA (fun _=>0) 0 133 P))),.sc md0 q0 (ia F0),.sc .var 133 (ia (ovA (fun _=>0) 0 133 (ovA (fun _=>0) 0 133 P))),.sc .var 1 (fun _=>.int .i64 c),.sc .var 1 (fun _=>.int .i64 (l.getD i 0))]) (perm7 _ _ _ _ _ _ _) rfl rfl (by cases u <;> rfl) rfl rfl (jA (ia P) (ia P) (ia (ovA (fun _=>0) 0 133 P)) (ia (ovA (fun _=>0) 0 133 (ovA (fun _=>0) 0 133 P))) (.int .i64 c) (.int .i64 (l.getD i 0)) (.int .i64 l.length) (.int .i64 i) (.bool (decide ((i:Int) < (l.length:Int)))) (.int .i64 (l.getD i 0)) (.int .i64 (l.getD i 0)) (.int .i64 c) l.length (0+(i:Int).toNat*1) c0 u) ?_
  refine U0 (iter_is (ia P) (ia P) (ia (ovA (fun _=>0) 0 133 P)) (ia (ovA (fun _=>0) 0 133 (ovA (fun _=>0) 0 133 P))) (.int .i64 c) (.int .i64 (l.getD i 0)) (.int .i64 l.length) (.int .i64 i) (.bool (decide ((i:Int) < (l.length:Int)))) (.int .i64 (l.getD i 0)) (.int .i64 (l.getD i 0)) (.int .i64 c) l.length (0+(i:Int).toNat*1) c0 u (ovA (fun _=>0) 0 133 (ovA (fun _=>0) 0 133 P)) c (l.getD i 0)) ?_
  rintro v9 n9 L9 ⟨rfl,hfa⟩
  by_cases hh:Vx (ovA (fun _=>0) 0 133 (ovA (fun _=>0) 0 133 P)) c (l.getD i 0) = true
  ·rw [if_pos hh] at hfa
   refine ⟨[.sc .var 133 (ia P),.sc .var 1 (WU (fun _=>.bool false) 0 1 fun _=>.bool true),.sc .var 133 (ia (ovA (fun _=>0) 0 133 (ovA (fun _=>0) 0 133 P))),.sc md0 q0 (ia F0),.sc .var 133 (ia (ovA (fun _=>0) 0 133 (ovA (fun _=>0) 0 133 P))),.sc .var 1 (fun _=>.int .i64 c),.sc .var 1 (fun _=>.int .i64 (l.getD i 0))],.tup [],[.sc .var 133 (ia P),.sc .var 1 (WU (fun _=>.bool false) 0 1 fun _=>.bool true),.sc .var 133 (ia (ovA (fun _=>0) 0 133 (ovA (fun _=>0) 0 133 P))),.sc md0 q0 (ia F0),.sc .var 133 (ia (ovA (fun _=>0) 0 133 (ovA (fun _=>0) 0 133 P))),.sc .var 1 (fun _=>.int .i64 c),.sc .var 1 (fun _=>.int .i64 (l.getD i 0))],2,hfa,rfl,rfl,rfl,rfl,?_⟩
   refine ⟨_,ju rfl rfl ZM rfl (YS),?_⟩
   refine ⟨?_,(KG ZO)⟩
   rw [any_at (i:=i) (by omega) (by rw [← xq (cut2 P)]; exact hh)]; rfl
  ·rw [if_neg hh] at hfa
   refine ⟨[.sc .var 133 (ia P),.sc .var 1 (fun _=>.bool false),.sc .var 133 (ia (ovA (fun _=>0) 0 133 (ovA (fun _=>0) 0 133 P))),.sc md0 q0 (ia F0),.sc .var 133 (ia (ovA (fun _=>0) 0 133 (ovA (fun _=>0) 0 133 P))),.sc .var 1 (fun _=>.int .i64 c),.sc .var 1 (fun _=>.int .i64 (l.getD i 0))],.tup [],[.sc .var 133 (ia P),.sc .var 1 (fun _=>.bool false),.sc .var 133 (ia (ovA (fun _=>0) 0 133 (ovA (fun _=>0) 0 133 P))),.sc md0 q0 (ia F0),.sc .var 133 (ia (ovA (fun _=>0) 0 133 (ovA (fun _=>0) 0 133 P))),.sc .var 1 (fun _=>.int .i64 c),.sc .var 1 (fun _=>.int .i64 (l.getD i 0))],0,hfa,rfl,rfl,rfl,rfl,?_⟩
   refine Ye (Zr rfl rfl (Zi rfl (Yb (⟨l.length - (i+1),_,by omega,(.cons_cons _ (.cons_cons _ (.cons_cons _ (.cons_cons _ (.cons _ (.cons _ (.cons _ .slnil))))))),i+1,some _,by omega,rfl,?_,rfl,rfl,rfl,rfl,rfl,rfl,rfl,rfl,rfl,rfl,rfl,rfl,rfl,rfl,rfl,rfl,rfl⟩))))
   intro j hj
   by_cases e:j = i
   ·subst e; rw [← xq (cut2 P)]; simpa using hh
   ·exact hn j (by omega)
 ·refine YZ (Xc (Zd (ZaI rfl rfl rfl rfl (.there .here) (Yb (Yh (⟨_,ju rfl rfl ZM rfl (YS),?_⟩))))))
  obtain rfl:i = l.length:=by omega
  refine ⟨?_,(fun _ h=>(.tail _ (.tail _ (.tail _ h))))⟩
  rw [wX hn]; rfl
def RV (c:Int):Nat→Int:=ov (ov (fun _=>0) 0 6) 1 c
def Xu (P:Nat→Int) (c:Int):Bool:=if c = 0∨c = 1 then (R8 P (RV c)).any (Vx P (Y0 c)) else false
theorem JP (P X:Nat→Int):(R8 P X).length≤64:=TS _ 64
theorem kX (P:Nat→Int) (c:Int):WR AM 21 [.agg 133 (ia P),.s (.int .i64 c)] [] (fun v _ _=>v = .s (.bool (Xu P c))):=by
 refine YI (a:=a21) rfl rfl (YH _) (ZP rfl) (m:=0) rfl (Zd (YB rfl (Yp rfl (Yb (Yd (Zd (Zi rfl (Zq rfl (Zj rfl (Yr (t:=7) rfl (fun h2=>?_) (fun h2=>?_))))))))))) <;> simp only [NM] at h2
 ·refine Ya rfl (Zi rfl (Ya rfl (Zq rfl (Zo rfl (Yb (Yi rfl (fun h3=>?_) (fun h3=>?_))))))) <;> simp only [NM] at h3
  ·refine Zd (Yp rfl (Zf rfl ?_))
   unfold Xu
   (rw [if_neg (by omega)]; rfl)
  ·refine Yg (Yd (Yf (Yn rfl rfl ZL (Zi rfl (Yt rfl (YF (VH _)) rfl rfl rfl (Yn rfl rfl ZL (Zi rfl (YA rfl (.one rfl (.one rfl .nil)) (Ux rfl (kj P (RV c)) rfl rfl (fun v1 own1 n1 hr1=>VF (caps:=[]) rfl (kY P (Y0 c) _ (Nat.le_trans (JP _ _) (by decide))) rfl (hr1.rx) (fun _ h=>(List.mem_append_left _ h)) rfl rfl rfl (Zj rfl (Zf rfl ?_))))))))))))
   unfold Xu
   (rw [if_pos (by omega)]; rfl)
 ·refine ZC rfl (Zo rfl (Yb (ZA rfl (Yg (Yd (Yf (Yn rfl rfl ZL (Zi rfl (Yt rfl (YF (VH _)) rfl rfl rfl (Yn rfl rfl ZL (Zi rfl (YA rfl (.one rfl (.one rfl .nil)) (Ux rfl (kj P (RV c)) rfl rfl (fun v2 own2 n2 hr2=>VF (caps:=[]) rfl (kY P (Y0 c) _ (Nat.le_trans (JP _ _) (by decide))) rfl (hr2.rx) (fun _ h=>(List.mem_append_left _ h)) rfl rfl rfl (Zj rfl (Zf rfl ?_))))))))))))))))
  unfold Xu
  (rw [if_pos (by omega)]; rfl)
theorem EM (P:Nat→Int) (c:Int):RF AM 21 [.agg 133 (ia P),.s (.int .i64 c)] (.s (.bool (Xu P c))):=YF (kX P c)
open Go Go.Am
def YL (P:Nat→Int) (t:Int):Bool:=isM t && YP P t
def XZ (P:Nat→Int) (t:Int):Int:=P (sqI t+1)
def US (P:Nat→Int) (s c:Int):List Int :=
 (if YL P (YN s 0 (1 - 2*c)) = true then [YN s 0 (1 - 2*c)] else []) ++
 (if X6 s = 1+5*c∧YL P (YN s 0 (1 - 2*c)) = true∧YL P (YN s 0 (2*(1 - 2*c))) = true then [YN s 0 (2*(1 - 2*c))] else []) ++
 (Wb P s).filter fun t=>(!YP P t && decide (XZ P t = Y0 c)) || (YL P t && decide (t = P 130))
def Vj (P:Nat→Int) (c t:Int):Bool:=decide (P (sqI t) = 4∧P (sqI t+1) = c)
def XC (P:Nat→Int) (s k c:Int):List Int :=
 if k ≠ 6∨s ≠ 56*c+4∨P 129 < 0∨15 < P 129 then []
 else (if P 129 / YO c % 2 = 1∧Vj P c (s+3) = true∧YL P (s+1) = true∧YL P (s+2) = true then [s+2] else []) ++
  (if P 129 / (2*YO c) % 2 = 1∧Vj P c (s - 4) = true∧YL P (s - 1) = true∧YL P (s - 2) = true∧YL P (s - 3) = true then [s - 2] else [])
def Vs (P:Nat→Int) (c t:Int):Bool:=!YP P t && decide (XZ P t = c)
def Xy (P:Nat→Int) (s k c:Int):List Int :=
 if k = 1 then US P s c else ((Wb P s).filter fun t=>!Vs P c t)++XC P s k c
def endM (k c t:Int):Bool:=decide (k = 1∧t / 8 = 7*(1 - c))
def toM (s k c t:Int):List Mv:=if endM k c t = true then [(s,t,2),(s,t,3),(s,t,4),(s,t,5)] else [(s,t,0)]
def We (P:Nat→Int) (s:Int):Bool:=YU (P (sqI s)) (P (sqI s+1)) && decide (P (sqI s+1) = P 128)
def VM (P:Nat→Int) (s:Int):List Mv:=(Xy P s (P (sqI s)) (P (sqI s+1))).flatMap (toM s (P (sqI s)) (P (sqI s+1)))
def UG (P:Nat→Int) (n:Nat):List Mv:=(X4 n).flatMap fun s=>if We P s = true then VM P s else []
def Td (P:Nat→Int):List Mv:=Kk (UG P 64)
def fromSv (P:Nat→Int) (s:Int):List Mv:=if (0≤s∧s < 64)∧We P s = true then Kk (VM P s) else []
def goP (P:Nat→Int) (s t c:Int):Bool :=
 if t = s+8*(1 - 2*c) then YL P t
 else if t = s+16*(1 - 2*c)∧s / 8 = 1+5*c then YL P (s+8*(1 - 2*c)) && YL P t
 else Xb P s t && ((!YP P t && decide (XZ P t = Y0 c)) || (YL P t && decide (t = P 130)))
def goC (P:Nat→Int) (s t c:Int):Bool :=
 if s ≠ 56*c+4∨P 129 < 0∨15 < P 129 then false
 else if t = s+2 then decide (P 129 / YO c % 2 = 1) && Vj P c (s+3) && YL P (s+1) && YL P (s+2)
 else decide (t = s - 2) && decide (P 129 / (2*YO c) % 2 = 1) && Vj P c (s - 4) && YL P (s - 1) && YL P (s - 2) && YL P (s - 3)
def goK (P:Nat→Int) (s t k c:Int):Bool :=
 if k = 1 then goP P s t c else (Xb P s t && !Vs P c t) || (decide (k = 6) && goC P s t c)
def WN (P:Nat→Int) (s t:Int):Bool:=We P s && decide (s ≠ t) && goK P s t (P (sqI s)) (P (sqI s+1))
def VN (P:Nat→Int) (s:Int) (n:Nat):List Mv:=(X4 n).flatMap fun t=>if WN P s t = true then toM s (P (sqI s)) (P (sqI s+1)) t else []
def UB (P:Nat→Int) (n:Nat):List Mv:=(X4 n).flatMap fun s=>VN P s 64
theorem qe {P:Nat→Int} {s t:Int} (h:Xb P s t = true):s ≠ t:=by
 intro e
 unfold Xb KI at h
 rw [if_pos (.inr e)] at h
 cases h
theorem D5 {P:Nat→Int} {s t:Int} (h:Xb P s t = true) (hk:P (sqI s) = 1):XF (t % 8 - s % 8) = 1:=by
 unfold Xb KI at h
 rw [hk] at h
 split at h
 ·cases h
 ·rw [if_pos rfl,decide_eq_true_eq] at h; exact h.1
theorem jf {P:Nat→Int} {s t:Int} (h:Xb P s t = true) (hk:P (sqI s) = 6):XF (t % 8 - s % 8)≤1:=by
 unfold Xb KI at h
 rw [hk] at h
 split at h
 ·cases h
 ·rw [if_neg (by decide),if_neg (by decide),if_pos rfl,decide_eq_true_eq] at h; exact h.1
theorem R7 {P:Nat→Int} {s t:Int} (hs:0≤s∧s < 64):t∈Wb P s↔(0≤t∧t < 64)∧Xb P s t = true:=by
 rw [rV]
 unfold attL
 rw [if_pos hs,List.mem_filter]
 unfold X4
 rw [List.mem_map]
 constructor
 ·rintro ⟨⟨i,hi,rfl⟩,h⟩
  exact ⟨⟨by omega,by have:=List.mem_range.1 hi; omega⟩,h⟩
 ·rintro ⟨h1,h2⟩
  exact ⟨⟨t.toNat,List.mem_range.2 (by omega),by omega⟩,h2⟩
theorem fromS_nodup {P:Nat→Int} {s:Int}:(Wb P s).Nodup:=by
 unfold Wb
 split
 ·rename_i h
  exact (Qs _).nodup_iff.2 (zN h)
 ·exact .nil
theorem kP {P:Nat→Int} {t:Int} (h:YL P t = true):0≤t∧t < 64:=by
 unfold YL isM at h
 rw [Bool.and_eq_true,decide_eq_true_eq] at h
 exact h.1
theorem Q5 {s d:Int} (hs:0≤s∧s < 64) (hd:-8 < d∧d < 8):YN s 0 d = if 0≤s+8*d∧s+8*d < 64 then s+8*d else -1:=by
 unfold YN atM
 rw [if_pos ⟨hs,by omega,hd⟩]
 split <;> split <;> omega
theorem KE {p:Prop} [Decidable p] {x t:Int}:t∈(if p then [x] else [])↔p∧t = x:=by
 split
 ·rename_i h; simp [h]
 ·rename_i h; simp [h]
theorem uv {P:Nat→Int} {s t c:Int} (hs:0≤s∧s < 64) (hc:c = 0∨c = 1) (hk:P (sqI s) = 1):t∈US P s c↔(0≤t∧t < 64)∧goP P s t c = true:=by
 unfold US goP
 rw [List.mem_append,List.mem_append,KE,KE,List.mem_filter,R7 hs,Q5 hs (by omega),Q5 hs (by omega)]
 have hr:X6 s = s / 8:=if_pos hs
 rw [hr]
 have f0:YL P (-1) = false:=rfl
 by_cases h1:t = s+8*(1 - 2*c)
 ·rw [if_pos h1]
  subst h1
  have na:¬ Xb P s (s+8*(1 - 2*c)) = true:=fun h=>by
   have:=D5 h hk
   unfold XF at this
   split at this <;> omega
  constructor
  ·rintro ((⟨h2,h3⟩ | ⟨⟨h2,h3,h4⟩,h5⟩) | ⟨⟨_,h⟩,_⟩)
   ·split at h2
    ·rename_i hb; exact ⟨hb,h2⟩
    ·rw [f0] at h2; cases h2
   ·split at h4
    ·split at h5 <;> omega
    ·rw [f0] at h4; cases h4
   ·exact absurd h na
  ·rintro ⟨h2,h3⟩
   rw [if_pos (by omega)]
   exact .inl (.inl ⟨by rw [show s+8*(1 - 2*c) = s+8*(1 - 2*c) from rfl]; exact h3,rfl⟩)
 ·rw [if_neg h1]
  have n1:¬ (YL P (if 0≤s+8*(1 - 2*c)∧s+8*(1 - 2*c) < 64 then s+8*(1 - 2*c) else -1) = true∧t = if 0≤s+8*(1 - 2*c)∧s+8*(1 - 2*c) < 64 then s+8*(1 - 2*c) else -1):=by
   rintro ⟨h2,h3⟩
   split at h2
   ·rename_i hb; rw [if_pos hb] at h3; exact h1 h3
   ·rw [f0] at h2; cases h2
  by_cases h2:t = s+16*(1 - 2*c)∧s / 8 = 1+5*c
  ·rw [if_pos h2]
   obtain ⟨h2,h3⟩:=h2
   have na:¬ Xb P s t = true:=fun h=>by
    have:=D5 h hk
    unfold XF at this
    split at this <;> omega
   rw [if_pos (by omega),if_pos (by omega)]
   constructor
   ·rintro ((h | ⟨⟨_,h4,h5⟩,h6⟩) | ⟨⟨_,h⟩,_⟩)
    ·rw [if_pos (by omega)] at n1; exact absurd h n1
    ·refine ⟨by omega,?_⟩
     rw [h4,Bool.true_and,h6]
     exact h5
    ·exact absurd h na
   ·rintro ⟨h4,h5⟩
    rw [Bool.and_eq_true] at h5
    refine .inl (.inr ⟨⟨h3,h5.1,?_⟩,by omega⟩)
    rw [show s+8*(2*(1 - 2*c)) = t by omega]
    exact h5.2
  ·rw [if_neg h2]
   have n2:¬ ((s / 8 = 1+5*c∧YL P (if 0≤s+8*(1 - 2*c)∧s+8*(1 - 2*c) < 64 then s+8*(1 - 2*c) else -1) = true∧YL P (if 0≤s+8*(2*(1 - 2*c))∧s+8*(2*(1 - 2*c)) < 64 then s+8*(2*(1 - 2*c)) else -1) = true)∧t = if 0≤s+8*(2*(1 - 2*c))∧s+8*(2*(1 - 2*c)) < 64 then s+8*(2*(1 - 2*c)) else -1):=by
    rintro ⟨⟨h3,h4,h5⟩,h6⟩
    split at h5
    ·rename_i hb
     rw [if_pos hb] at h6
     exact h2 ⟨by omega,h3⟩
    ·rw [f0] at h5; cases h5
   simp only [n1,n2,false_or,Bool.and_eq_true,and_assoc]
theorem jG {P:Nat→Int} {s c:Int} (hs:0≤s∧s < 64) (hc:c = 0∨c = 1) (hk:P (sqI s) = 1):(US P s c).Nodup:=by
 have f0:YL P (-1) = false:=rfl
 unfold US
 rw [List.nodup_append,List.nodup_append]
 refine ⟨⟨by split <;> simp,by split <;> simp,fun a ha b hb e=>?_⟩,fromS_nodup.filter _,fun a ha b hb e=>?_⟩
 ·rw [KE] at ha hb
  subst e
  have h1:=kP ha.1
  have h2:=kP hb.1.2.2
  have e1:=ha.2
  have e2:=hb.2
  rw [Q5 hs (by omega)] at h1 e1
  rw [Q5 hs (by omega)] at h2 e2
  split at h1 <;> split at h2 <;> omega
 ·subst e
  have hb:=(R7 hs).1 (List.mem_filter.1 hb).1
  have ht:=D5 hb.2 hk
  rw [List.mem_append,KE,KE,Q5 hs (by omega),Q5 hs (by omega)] at ha
  unfold XF at ht
  have hb:=hb.1
  rcases ha with ⟨_,e⟩ | ⟨_,e⟩
  ·split at e <;> split at ht <;> omega
  ·split at e <;> split at ht <;> omega
theorem TW {P:Nat→Int} {s t k c:Int} (hk:k = 6):t∈XC P s k c↔goC P s t c = true:=by
 unfold XC goC
 by_cases h:s ≠ 56*c+4∨P 129 < 0∨15 < P 129
 ·rw [if_pos h,if_pos (.inr h)]; simp
 ·have hn:¬ (k ≠ 6∨s ≠ 56*c+4∨P 129 < 0∨15 < P 129):=by
   rintro (h' | h')
   ·exact h' hk
   ·exact h h'
  rw [if_neg h,if_neg hn,List.mem_append,KE,KE]
  by_cases h2:t = s+2
  ·rw [if_pos h2]
   have:¬ t = s - 2:=by omega
   simp [h2,this,and_assoc]
   omega
  ·rw [if_neg h2]
   simp [h2,and_assoc]
   constructor
   ·rintro ⟨a,b,c,d,e,f⟩; exact ⟨f,a,b,c,d,e⟩
   ·rintro ⟨f,a,b,c,d,e⟩; exact ⟨a,b,c,d,e,f⟩
theorem Rt {P:Nat→Int} {s k c:Int} (hk:k ≠ 6):XC P s k c = []:=if_pos (.inl hk)
theorem goC_bd {P:Nat→Int} {s t c:Int} (hc:c = 0∨c = 1) (h:goC P s t c = true):(0≤t∧t < 64)∧s ≠ t:=by
 unfold goC at h
 split at h
 ·cases h
 ·split at h <;> simp at h <;> omega
theorem Dk {P:Nat→Int} {s t:Int} (hs:0≤s∧s < 64) (hm:We P s = true):t∈Xy P s (P (sqI s)) (P (sqI s+1))↔(0≤t∧t < 64)∧WN P s t = true:=by
 unfold WN
 rw [hm,Bool.true_and,Bool.and_eq_true,decide_eq_true_eq]
 have hc:P (sqI s+1) = 0∨P (sqI s+1) = 1:=by
  unfold We YU at hm
  simp only [Bool.and_eq_true,decide_eq_true_eq] at hm
  omega
 unfold Xy goK
 by_cases hk:P (sqI s) = 1
 ·rw [if_pos hk,if_pos hk,uv hs hc hk]
  constructor
  ·rintro ⟨h1,h2⟩
   refine ⟨h1,fun e=>?_,h2⟩
   subst e
   unfold goP at h2
   rw [if_neg (by omega),if_neg (by omega),Bool.and_eq_true] at h2
   exact qe h2.1 rfl
  ·rintro ⟨h1,_,h2⟩
   exact ⟨h1,h2⟩
 ·rw [if_neg hk,if_neg hk,List.mem_append,List.mem_filter,R7 hs]
  by_cases h6:P (sqI s) = 6
  ·rw [TW h6,Bool.or_eq_true,Bool.and_eq_true,Bool.and_eq_true,decide_eq_true_eq]
   constructor
   ·rintro (⟨⟨h1,h2⟩,h3⟩ | h)
    ·exact ⟨h1,qe h2,.inl ⟨h2,h3⟩⟩
    ·have:=goC_bd hc h
     exact ⟨this.1,this.2,.inr ⟨h6,h⟩⟩
   ·rintro ⟨h1,_,⟨h2,h3⟩ | ⟨_,h⟩⟩
    ·exact .inl ⟨⟨h1,h2⟩,h3⟩
    ·exact .inr h
  ·rw [Rt h6,Bool.or_eq_true,Bool.and_eq_true,Bool.and_eq_true,decide_eq_true_eq]
   constructor
   ·rintro (⟨⟨h1,h2⟩,h3⟩ | h)
    ·exact ⟨h1,qe h2,.inl ⟨h2,h3⟩⟩
    ·cases h
   ·rintro ⟨h1,_,⟨h2,h3⟩ | ⟨h,_⟩⟩
    ·exact .inl ⟨⟨h1,h2⟩,h3⟩
    ·exact absurd h h6
theorem wv {P:Nat→Int} {s:Int} (hs:0≤s∧s < 64) (hm:We P s = true):(Xy P s (P (sqI s)) (P (sqI s+1))).Nodup:=by
 have hc:P (sqI s+1) = 0∨P (sqI s+1) = 1:=by
  unfold We YU at hm
  simp only [Bool.and_eq_true,decide_eq_true_eq] at hm
  omega
 unfold Xy
 by_cases hk:P (sqI s) = 1
 ·rw [if_pos hk]; exact jG hs hc hk
 ·rw [if_neg hk,List.nodup_append]
  refine ⟨fromS_nodup.filter _,?_,fun a ha b hb e=>?_⟩
  ·unfold XC
   split
   ·exact .nil
   ·rw [List.nodup_append]
    refine ⟨by split <;> simp,by split <;> simp,fun a ha b hb e=>?_⟩
    rw [KE] at ha hb
    omega
  ·subst e
   by_cases h6:P (sqI s) = 6
   ·rw [TW h6] at hb
    have ha:=(R7 hs).1 (List.mem_filter.1 ha).1
    have hka:=jf ha.2 h6
    have ha:=ha.1
    unfold goC at hb
    unfold XF at hka
    split at hb
    ·cases hb
    ·split at hb
     ·split at hka <;> omega
     ·simp at hb
      split at hka <;> omega
   ·rw [Rt h6] at hb; cases hb
theorem K3 {s k c t:Int} {m:Mv} (h:m∈toM s k c t):m.1 = s∧m.2.1 = t:=by
 unfold toM at h
 split at h <;> simp at h
 ·rcases h with rfl | rfl | rfl | rfl <;> exact ⟨rfl,rfl⟩
 ·subst h; exact ⟨rfl,rfl⟩
theorem sG (s k c t:Int):(toM s k c t).Pairwise lt3:=by
 unfold toM
 split <;> simp [lt3]
theorem rH (P:Nat→Int) (s:Int) (n:Nat):(VN P s n).Pairwise lt3:=by
 unfold VN
 rw [List.pairwise_flatMap]
 refine ⟨fun t _=>?_,?_⟩
 ·split
  ·exact sG _ _ _ _
  ·exact .nil
 ·unfold X4
  rw [List.pairwise_map]
  refine List.pairwise_lt_range.imp fun h x hx y hy=>?_
  split at hx
  ·split at hy
   ·have h1:=K3 hx; have h2:=K3 hy
    unfold lt3; omega
   ·cases hy
  ·cases hx
theorem KD {P:Nat→Int} {s:Int} {n:Nat} {m:Mv} (h:m∈VN P s n):m.1 = s:=by
 unfold VN at h
 rw [List.mem_flatMap] at h
 obtain ⟨t,_,h⟩:=h
 split at h
 ·exact (K3 h).1
 ·cases h
theorem allR_lt (P:Nat→Int) (n:Nat):(UB P n).Pairwise lt3:=by
 unfold UB
 rw [List.pairwise_flatMap]
 refine ⟨fun s _=>rH P s 64,?_⟩
 unfold X4
 rw [List.pairwise_map]
 refine List.pairwise_lt_range.imp fun h x hx y hy=>?_
 have h1:=KD hx; have h2:=KD hy
 unfold lt3; omega
theorem mem64 {t:Int}:t∈X4 64↔0≤t∧t < 64:=by
 unfold X4
 rw [List.mem_map]
 constructor
 ·rintro ⟨i,hi,rfl⟩; have:=List.mem_range.1 hi; omega
 ·intro h; exact ⟨t.toNat,List.mem_range.2 (by omega),by omega⟩
theorem KT {P:Nat→Int} {s:Int} (hs:0≤s∧s < 64) (hm:We P s = true) (m:Mv):m∈VM P s↔m∈VN P s 64:=by
 unfold VM VN
 rw [List.mem_flatMap,List.mem_flatMap]
 constructor
 ·rintro ⟨t,h1,h2⟩
  obtain ⟨h3,h4⟩:=(Dk hs hm).1 h1
  exact ⟨t,mem64.2 h3,by rw [if_pos h4]; exact h2⟩
 ·rintro ⟨t,h1,h2⟩
  split at h2
  ·rename_i h4
   exact ⟨t,(Dk hs hm).2 ⟨mem64.1 h1,h4⟩,h2⟩
  ·cases h2
theorem wY {P:Nat→Int} {s:Int} (hs:0≤s∧s < 64) (hm:We P s = true):(VM P s).Nodup:=by
 unfold VM
 unfold List.Nodup
 rw [List.pairwise_flatMap]
 refine ⟨fun t _=>(sG _ _ _ _).imp fun h e=>by subst e; exact xi _ _ h h,(wv hs hm).imp fun h x hx y hy e=>?_⟩
 subst e
 exact h ((K3 hx).2.symm.trans (K3 hy).2)
theorem kU {P:Nat→Int} {s:Int} (hm:¬ We P s = true) (n:Nat):VN P s n = []:=by
 unfold VN
 rw [List.flatMap_eq_nil_iff]
 intro t _
 rw [if_neg]
 unfold WN
 simp [hm]
theorem allS_is (P:Nat→Int):Td P = UB P 64:=by
 unfold Td
 refine srt3_is ?_ (allR_lt P 64) fun m=>?_
 ·unfold UG List.Nodup
  rw [List.pairwise_flatMap]
  refine ⟨fun s hs=>?_,?_⟩
  ·split
   ·rename_i hm; exact wY (mem64.1 hs) hm
   ·exact .nil
  ·unfold X4
   rw [List.pairwise_map]
   refine List.pairwise_lt_range.imp_of_mem fun {a b} ha hb h x hx y hy e=>?_
   subst e
   split at hx
   ·split at hy
    ·rename_i m1 m2
     have ha:=List.mem_range.1 ha
     have hb:=List.mem_range.1 hb
     have h1:=KD ((KT (by omega) m1 _).1 hx)
     have h2:=KD ((KT (by omega) m2 _).1 hy)
     omega
    ·cases hy
   ·cases hx
 ·unfold UG UB
  rw [List.mem_flatMap,List.mem_flatMap]
  constructor
  ·rintro ⟨s,hs,h⟩
   split at h
   ·rename_i hm; exact ⟨s,hs,(KT (mem64.1 hs) hm m).1 h⟩
   ·cases h
  ·rintro ⟨s,hs,h⟩
   by_cases hm:We P s = true
   ·exact ⟨s,hs,by rw [if_pos hm]; exact (KT (mem64.1 hs) hm m).2 h⟩
   ·rw [kU hm] at h; cases h
open Go Go.Am
def VS (p:Nat→Bool):Nat→Int
 | 0=>-1
 | n+1=>if VS p n = -1 then (if p n = true then n else -1) else VS p n
theorem JI {p:Nat→Bool}:∀ {n:Nat},(∀ j,j < n→p j = false)→VS p n = -1
 | 0,_=>rfl
 | n+1,h=>by
  unfold VS
  rw [if_pos (JI fun j hj=>h j (by omega)),h n (by omega)]; rfl
theorem y9 {p:Nat→Bool} {i:Nat}:∀ {n:Nat},i < n→p i = true→(∀ j,j < i→p j = false)→VS p n = i
 | 0,h,_,_=>by omega
 | n+1,h,hp,hn=>by
  unfold VS
  by_cases e:i = n
  ·subst e
   rw [if_pos (JI hn),if_pos hp]
  ·rw [y9 (by omega) hp hn,if_neg (by omega)]
theorem yZ {p:Nat→Bool}:∀ {n:Nat},0≤VS p n↔∃ i,i < n∧p i = true
 | 0=>by simp [VS]
 | n+1=>by
  have ih:=yZ (p:=p) (n:=n)
  unfold VS
  by_cases h:VS p n = -1
  ·rw [if_pos h]
   have hn:¬ ∃ i,i < n∧p i = true:=fun hx=>by have:=ih.2 hx; omega
   by_cases hp:p n = true
   ·rw [if_pos hp]; exact ⟨fun _=>⟨n,by omega,hp⟩,fun _=>by omega⟩
   ·rw [if_neg hp]
    constructor
    ·intro h; omega
    ·rintro ⟨i,hi,hx⟩
     by_cases e:i = n
     ·subst e; exact absurd hx hp
     ·exact absurd ⟨i,by omega,hx⟩ hn
  ·rw [if_neg h,ih]
   constructor
   ·rintro ⟨i,hi,h⟩; exact ⟨i,by omega,h⟩
   ·rintro ⟨i,hi,hp⟩
    by_cases e:i = n
    ·have hlo:-1≤VS p n:=fstI_lo n
     exact ih.1 (by omega)
    ·exact ⟨i,by omega,hp⟩
 where
 fstI_lo:∀ n,-1≤VS p n
  | 0=>Int.le_refl _
  | n+1=>by
   have:=fstI_lo n
   unfold VS
   split
   ·split <;> omega
   ·exact this
theorem vj {md:Md} (M:Nat→Int) (t:Int):WR AM 145 [.s (.int .i64 t),.ptr 0 0 136] [.sc md 136 (ia M)] (fun v _ L=>v = .s (.bool (!YL M t))∧(0,Blk.sc md 136 (ia M))∈L):=by
 refine YI (a:=a145) rfl rfl (YH _) (ZP rfl) (m:=1) rfl (Zd (Yp rfl (Ze (Zi rfl (Ys rfl (Ju _) rfl rfl rfl (Yu (r:=.bool _) rfl rfl (Zj rfl (Yr (t:=7) rfl (fun h1=>?_) (fun h1=>?_))))))))) <;> simp only [NM] at h1
 ·try simp only [isM,decide_eq_true_eq,decide_eq_false_iff_not] at h1
  refine ZD rfl (ZC rfl (ZB rfl (Zo rfl (Zj rfl (Zf rfl (⟨ZH ?_,ZL⟩))))))
  unfold YL isM
  (rw [decide_eq_false (by assumption)]; rfl)
 ·try simp only [isM,decide_eq_true_eq,decide_eq_false_iff_not] at h1
  refine Ya rfl (Zi rfl (Ya rfl (Zx rfl (Ya rfl (Zx rfl (Ya rfl (Zv rfl rfl rfl (Ya rfl (Yo rfl rfl ZL (Ya rfl (YA rfl .nil (Ya rfl (Yv rfl rfl (Zo rfl (Zj rfl (Zf rfl (⟨ZH ?_,ZL⟩)))))))))))))))))
  unfold YL isM
  (rw [decide_eq_true (by assumption),Bool.true_and]; rfl)
theorem jV {md md2:Md} {q:Nat} {c:Cp} (K M:Nat→Int) (nn:Nat) (hnn:nn≤1000000):WR AM 66 [.sl 0 0 nn 1 c,.fn 145 [.ptr 1 0 136]] [.sc md q (ia K),.sc md2 136 (ia M)] (fun v _ L=>v = .s (.int .i64 (VS (fun j=>!YL M (K j)) nn))∧(0,Blk.sc md q (ia K))∈L∧(1,Blk.sc md2 136 (ia M))∈L):=by
 refine YI (a:=a66) rfl rfl (YH _) (ZP rfl) (m:=2) rfl (Zd (Yp rfl (Yb (Yd (Zd (Zm rfl (QR rfl (Yp rfl (Yb (Yj (Xe (.refl _) (Xg (fun m f _ L=>∃ (i:Nat),(i≤nn)∧(m = nn - i)∧(∀ j,j < i→(!YL M (K j)) = false)∧(f 0 = .sl 0 0 nn 1 c)∧(f 1 = .fn 145 [.ptr 1 0 136])∧(f 7 = .s (.int .i64 nn))∧(f 8 = .s (.int .i64 i))∧(L = [(0,.sc md q (ia K)),(1,.sc md2 136 (ia M))])) (fun m f nb L hI=>?_) (nn) (⟨0,by omega,by omega,fun j hj=>by omega,rfl,rfl,rfl,rfl,rfl⟩)))))))))))))
 obtain ⟨i,hi,hm,hn,k0,k1,k7,k8,rfl⟩:=hI
 refine pH 0 k0 (pH 1 k1 (pH 7 k7 (pH 8 k8 (Zd (Zq rfl (Yb (Yd (Yi rfl (fun h2=>?_) (fun h2=>?_))))))))) <;> simp only [NM] at h2
 ·refine Yg (Yd (Yj (Zd (Zi rfl (Zi rfl (Ze (Yp (v:=.fn _ _) rfl (Zm rfl (Zi rfl (Zw rfl rfl (Yl (x:=K i) rfl rfl ZL (by rw [show 0+(i:Int).toNat*1 = i by omega]) (Vd (rs:=[1]) (Bs:=[.sc md2 136 (ia M)]) rfl (Ua (vj M (K i))) rfl rfl (YE rfl) (fun _ h=>h) rfl ⟨ZM,⟨_,_,_,rfl⟩,trivial⟩ rfl rfl rfl (.cons (.there .here) .nil) (Yb (Yi rfl (fun h3=>?_) (fun h3=>?_))))))))))))))) <;> simp only [NM] at h3
  ·refine Zd (Zi rfl (Zi rfl (Yb (Yh (⟨_,ZK rfl,?_⟩)))))
   refine ⟨ZI ?_,ZL,ZM⟩
   exact (y9 (i:=i) (by omega) (by simp [*]) hn).symm
  ·refine Yg (Ye (Zr rfl rfl (Zi rfl (Yb (⟨nn - (i+1),_,by omega,(.refl _),i+1,by omega,rfl,?_,rfl,rfl,rfl,rfl,rfl⟩)))))
   intro j hj
   by_cases e:j = i
   ·subst e; simp [*]
   ·exact hn j (by omega)
 ·refine YZ (Xc (Zd (Yp rfl (Yb (Yh (⟨_,ZK rfl,?_⟩))))))
  refine ⟨ZI ?_,ZL,ZM⟩
  exact (JI fun j hj=>hn j (by omega)).symm
theorem yS {md md2:Md} {q:Nat} {c:Cp} (K M:Nat→Int) (nn:Nat) (hnn:nn≤1000000):WR AM 49 [.sl 0 0 nn 1 c,.fn 145 [.ptr 1 0 136]] [.sc md q (ia K),.sc md2 136 (ia M)] (fun v _ L=>v = .s (.bool (decide (0≤VS (fun j=>!YL M (K j)) nn)))∧(0,Blk.sc md q (ia K))∈L∧(1,Blk.sc md2 136 (ia M))∈L):=by
 refine YI (a:=a49) rfl rfl (YH _) (ZP rfl) (m:=2) rfl (Zd (Yp rfl (Ze (Zm rfl (Yp (v:=.fn _ _) rfl (Wn (rs:=[0,1]) (Bs:=[.sc md q (ia K),.sc md2 136 (ia M)]) rfl (Ew (jV K M nn hnn)) rfl rfl (YE rfl) (fun _ h=>h) rfl ⟨ZL,⟨_,_,_,rfl⟩,ZM,⟨_,_,_,rfl⟩,trivial⟩ rfl rfl rfl (.cons .here (.cons (.there .here) .nil)) (Zq rfl (Zj rfl (Zf rfl ?_)))))))))
 exact ⟨rfl,ZL,ZM⟩
theorem sg {md:Md} {q:Nat} {c:Cp} (K M:Nat→Int) (nn:Nat) (hnn:nn≤1000000):WR AM 130 [.agg 136 (ia M),.sl 0 0 nn 1 c] [.sc md q (ia K)] (fun v _ L=>v = .s (.bool (!decide (0≤VS (fun j=>!YL M (K j)) nn)))∧(0,Blk.sc md q (ia K))∈L):=by
 refine YI (a:=a130) rfl rfl (YH _) (ZP rfl) (m:=1) rfl (Zd (YB rfl (Yp rfl (Ze (Zm rfl (Qz rfl (Wn (rs:=[0,1]) (Bs:=[.sc md q (ia K),.sc .var 136 (ia M)]) rfl (Ew (yS K M nn hnn)) rfl rfl (YE rfl) (fun _ h=>h) rfl ⟨ZM,⟨_,_,_,rfl⟩,ZL,⟨_,_,_,rfl⟩,trivial⟩ rfl rfl rfl (.cons (.there .here) (.cons .here .nil)) (Yu (r:=.bool _) rfl rfl (Zj rfl (Zf rfl ?_))))))))))
 exact ⟨rfl,ZM⟩
theorem free_l {M K:Nat→Int} {l:List Int} (hK:∀ i,i < l.length→K i = l.getD i 0):(!decide (0≤VS (fun j=>!YL M (K j)) l.length)) = l.all (YL M):=by
 rw [Bool.eq_iff_iff,Bool.not_eq_true',decide_eq_false_iff_not,yZ,List.all_eq_true]
 constructor
 ·intro h x hx
  obtain ⟨j,hj,rfl⟩:=List.mem_iff_getElem.1 hx
  cases hf:YL M l[j] with
  | true=>rfl
  | false=>exact absurd ⟨j,hj,by rw [hK j hj,List.getD_eq_getElem?_getD,List.getElem?_eq_getElem hj]; simp [hf]⟩ h
 ·rintro h ⟨j,hj,hx⟩
  rw [hK j hj,List.getD_eq_getElem?_getD,List.getElem?_eq_getElem hj] at hx
  have:=h _ (List.getElem_mem hj)
  simp [this] at hx
theorem free_rb {md:Md} {q:Nat} {c:Cp} (K M:Nat→Int) (l:List Int) (hK:∀ i,i < l.length→K i = l.getD i 0) (hl:l.length≤1000000):RB AM 130 [.agg 136 (ia M),.sl 0 0 l.length 1 c] [.sc md q (ia K)] (.s (.bool (l.all (YL M)))) [.sc md q (ia K)]:=by
 have:=Ua (sg (md:=md) (q:=q) (c:=c) K M l.length hl)
 rw [free_l hK] at this
 exact this
open Go Go.Am
theorem eqI_cut {n:Nat} {Y Z:Nat→Int}:eqI n (ovA (fun _=>0) 0 n Y) Z = eqI n Y Z:=by
 rw [Bool.eq_iff_iff,Qx,Qx]
 exact ⟨fun h i hi=>by have:=h i hi; rwa [XR (by omega),Nat.sub_zero] at this,fun h i hi=>by rw [XR (by omega),Nat.sub_zero]; exact h i hi⟩
def XT (M:Nat→Int) (c t:Int):Bool:=(!YP M t && decide (XZ M t = Y0 c)) || (YL M t && decide (t = M 130))
theorem Q2 {M:Nat→Int} {c t:Int} (h:YL M t = true) (h2:t = M 130):XT M c t = true:=by
 unfold XT; rw [h,decide_eq_true h2]; simp
theorem KB (M:Nat→Int) (s c:Int):US M s c = (if YL M (YN s 0 (1 - 2*c)) = true then [YN s 0 (1 - 2*c)] else [])++(if X6 s = 1+5*c∧YL M (YN s 0 (1 - 2*c)) = true∧YL M (YN s 0 (2*(1 - 2*c))) = true then [YN s 0 (2*(1 - 2*c))] else [])++(Wb M s).filter (XT M c):=rfl
theorem Qo {P:Nat→Int} {s t:Int} (h:t∈Wb P s):0≤t∧t < 64:=by
 unfold Wb at h
 split at h
 ·exact kA (srtM_mem.1 h)
 ·cases h
theorem Ku (P:Nat→Int) (s:Int):(Wb P s).length≤64:=by
 unfold Wb
 split
 ·rw [(Qs _).length_eq]; exact Ez P s
 ·exact Nat.zero_le _
theorem pe {l:List Int} {i:Nat} (hi:i < l.length):l.getD i 0∈l:=by
 rw [List.getD_eq_getElem?_getD,List.getElem?_eq_getElem hi]
 exact List.getElem_mem hi
theorem Eg {p:Int→Bool} {r:List Int} {i:Nat} (hi:i < r.length) (h:p (r.getD i 0) = true):(r.take (i+1)).filter p = (r.take i).filter p++[r.getD i 0]:=by
 rw [W5 0 hi,List.filter_append,List.filter_cons,h,if_pos rfl]; rfl
theorem Tq {p:Int→Bool} {r:List Int} {i:Nat} (hi:i < r.length) (h:p (r.getD i 0) = false):(r.take (i+1)).filter p = (r.take i).filter p:=by
 rw [W5 0 hi,List.filter_append,List.filter_cons,h,if_neg (by decide)]; simp
theorem Us {p:Prop} [Decidable p] (x:Int):(if p then [x] else []).length≤1:=by split <;> simp
theorem QZ {md:Md} {q:Nat} {c:Cp} (n:Nat) (K M:Nat→Int) (l:List Int) (hn:l.length = n) (hK:∀ i,i < l.length→K i = l.getD i 0) (hl:n≤1000000):RB AM 130 [.agg 136 (ia M),.sl 0 0 n 1 c] [.sc md q (ia K)] (.s (.bool (l.all (YL M)))) [.sc md q (ia K)]:=by
 subst hn; exact free_rb K M l hK hl
theorem Qf {p:Int→Bool} {x:Int}:[x].all p = p x:=by simp
theorem Qh {p:Int→Bool} {x y:Int}:[x,y].all p = (p x && p y):=by simp
theorem Qi {p:Int→Bool} {x y z:Int}:[x,y,z].all p = (p x && (p y && p z)):=by simp
theorem pg (M:Nat→Int) (ha:0≤M 133∧M 133 < 64) (hc:M 135 = 0∨M 135 = 1):RtR AM 111 1 [.agg 136 (ia M)] [] (US M (M 133) (M 135)) []:=by
 refine W7 (YI (a:=a111) rfl rfl (YH _) (ZP rfl) (m:=0) rfl (Zd (YB rfl (Yp rfl (Ze (Yc (o':=134) rfl rfl rfl (Yc (o':=135) rfl rfl rfl (Yl rfl rfl ZL rfl (X9 rfl rfl (by omega) (Zs rfl rfl (Zi rfl (Yb (Yd (Yf (Yc (o':=133) rfl rfl rfl (Yl rfl rfl ZL rfl (Zi rfl (Yt rfl (Uo _ _ _) rfl rfl rfl (Yc (o':=133) rfl rfl rfl (Yl rfl rfl ZL rfl (Zi rfl (X9 rfl rfl (by omega) (Ys rfl (Uo _ _ _) rfl rfl rfl (Zi rfl (Zi rfl (Yb (WE (fun f n L=>∃ (vA:V) (ownA:HA),(Rw 1 ((if YL M (YN (M 133) 0 (1 - 2*(M 135))) = true then [(YN (M 133) 0 (1 - 2*(M 135)))] else [])) vA ownA)∧(f 1 = .ptr 0 0 136)∧(f 2 = vA)∧(f 4 = .s (.int .i64 (YN (M 133) 0 (1 - 2*(M 135)))))∧(f 5 = .s (.int .i64 (YN (M 133) 0 (2*(1 - 2*(M 135))))))∧(L = (ownA++[(0,.sc .var 136 (ia M))]))) ?_ (fun f nb L hI=>?_))))))))))))))))))))))))))))
 ·refine Zd (Yn rfl rfl ZL (Zi rfl (Xd rfl (.one rfl .nil) (Wn (rs:=[1]) (Bs:=[_]) (av:=[.agg 136 (ia M),.sl (1) 0 1 1 (.ex 1)]) rfl (QZ (c:=.ex 1) 1 _ M [(YN (M 133) 0 (1 - 2*(M 135)))] rfl Da (YE rfl)) rfl rfl (YE rfl) (fun _ h=>h) (by simp [rnL,V.renL,V.ren,pos]) ⟨ZL,⟨_,_,_,rfl⟩,trivial⟩ rfl rfl rfl (.cons .here .nil) (Yb (Yi rfl (fun h1=>?_) (fun h1=>?_)))))))
  ·try simp only [Qf,Qh,Qi,Bool.and_eq_true,Bool.and_eq_false_iff] at h1
   refine Ye (Yp (v:=.snil) rfl (Zi rfl (Xd rfl (.one rfl .nil) (Xx (c:=[(YN (M 133) 0 (1 - 2*(M 135)))]) rfl (Rw.nil rfl) rfl ZL (Dr.here (own:=[])) (by decide) (by decide) rfl (QT) (by simp only [List.length_nil]; omega) (fun v1 own1 n1 hr1=>Yp (v:=v1) rfl (Yb (⟨_,(List.Sublist.append (.refl _) (.cons _ (.cons _ (.refl _)))),_,own1,?_,rfl,rfl,rfl,rfl,rfl⟩)))))))
   (rw [if_pos (by assumption)]; exact hr1)
  ·try simp only [Qf,Qh,Qi,Bool.and_eq_true,Bool.and_eq_false_iff] at h1
   refine Yg (⟨_,(.cons _ (.refl _)),_,[],?_,rfl,rfl,rfl,rfl,rfl⟩)
   (rw [if_neg (by simp [*])]; exact (Rw.nil rfl))
 ·obtain ⟨vA,ownA,hrA,k1,k2,k4,k5,rfl⟩:=hI
  refine pH 1 k1 (pH 2 k2 (pH 4 k4 (pH 5 k5 (WE (fun f n L=>∃ (vA:V) (ownA:HA),(Rw 1 ((if YL M (YN (M 133) 0 (1 - 2*(M 135))) = true then [(YN (M 133) 0 (1 - 2*(M 135)))] else [])++(if X6 (M 133) = 1+5*(M 135)∧YL M (YN (M 133) 0 (1 - 2*(M 135))) = true∧YL M (YN (M 133) 0 (2*(1 - 2*(M 135)))) = true then [(YN (M 133) 0 (2*(1 - 2*(M 135))))] else [])) vA ownA)∧(f 1 = .ptr 0 0 136)∧(f 2 = vA)∧(L = (ownA++[(0,.sc .var 136 (ia M))]))) ?_ (fun f nb L hI=>?_)))))
  ·refine Yd (Yf (Yc (o':=133) rfl rfl rfl (Yl rfl rfl (List.mem_append_right _ ZL) rfl (Yt rfl (QY _) rfl rfl rfl (Yc (o':=134) rfl rfl rfl (Yc (o':=135) rfl rfl rfl (Yl rfl rfl (List.mem_append_right _ ZL) rfl (X9 rfl rfl (by omega) (Zr rfl rfl (Zq rfl (Zj rfl (Yr (t:=40) rfl (fun h2=>?_) (fun h2=>?_))))))))))))) <;> simp only [NM] at h2
   ·refine Ya rfl (Yn rfl rfl (List.mem_append_right _ ZL) (Ya rfl (Zi rfl (Ya rfl (Zi rfl (Ya rfl (Xd rfl (.one rfl (.one rfl .nil)) (Ya rfl (Wn (rs:=[nb]) (Bs:=[_]) (av:=[.agg 136 (ia M),.sl (nb) 0 2 1 (.ex 2)]) rfl (QZ (c:=.ex 2) 2 _ M [(YN (M 133) 0 (1 - 2*(M 135))),(YN (M 133) 0 (2*(1 - 2*(M 135))))] rfl wH (YE rfl)) rfl rfl (YE rfl) (fun _ h=>h) (by simp [rnL,V.renL,V.ren,pos]) ⟨ZL,⟨_,_,_,rfl⟩,trivial⟩ rfl rfl rfl (.cons .here .nil) (Zo rfl (Yb (Yi rfl (fun h3=>?_) (fun h3=>?_)))))))))))))
    ·try simp only [Qf,Qh,Qi,Bool.and_eq_true,Bool.and_eq_false_iff] at h3
     refine Ye (Yp (v:=vA) rfl (Zi rfl (Xd rfl (.one rfl .nil) (Xx (c:=[(YN (M 133) 0 (2*(1 - 2*(M 135))))]) rfl hrA rfl ZL (.there (.there .here)) (by decide) (by decide) rfl (QT) (by have:=Us (p:=YL M (YN (M 133) 0 (1 - 2*(M 135))) = true) (YN (M 133) 0 (1 - 2*(M 135))); omega) (fun v2 own2 n2 hr2=>Yp (v:=v2) rfl (Yb (⟨_,(List.Sublist.append (.refl _) (.cons _ (.cons _ (.refl _)))),_,own2,?_,rfl,rfl,rfl⟩)))))))
     (rw [if_pos (c:=X6 (M 133) = 1+5*(M 135)∧_∧_) ⟨by assumption,by assumption⟩]; exact hr2)
    ·try simp only [Qf,Qh,Qi,Bool.and_eq_true,Bool.and_eq_false_iff] at h3
     refine Yg (⟨_,(.cons _ (List.Sublist.append (.refl _) (.refl _))),_,ownA,?_,rfl,rfl,rfl⟩)
     (rw [if_neg (c:=X6 (M 133) = 1+5*(M 135)∧_∧_) (by rintro ⟨a1,a2,a3⟩; simp_all),List.append_nil]; exact hrA)
   ·refine ZD rfl (ZB rfl (Zo rfl (Yb (ZA rfl (Yg (⟨_,(List.Sublist.append (.refl _) (.refl _)),_,ownA,?_,rfl,rfl,rfl⟩))))))
    (rw [if_neg (c:=X6 (M 133) = 1+5*(M 135)∧_∧_) (by rintro ⟨a1,a2,a3⟩; simp_all),List.append_nil]; exact hrA)
  ·obtain ⟨vA,ownA,hrA,k1,k2,rfl⟩:=hI
   refine pH 1 k1 (pH 2 k2 (Yd (Zd (Zx rfl (Yn rfl rfl (List.mem_append_right _ ZL) (Yc (o':=133) rfl rfl rfl (Yl rfl rfl (List.mem_append_right _ ZL) rfl ?_)))))))
   obtain ⟨r,hreq⟩:∃ r,r = Wb M (M 133):=⟨_,rfl⟩
   have hfrom:=ke M (M 133)
   rw [← hreq] at hfrom
   have hrl:r.length≤64:=by rw [hreq]; exact Ku _ _
   refine YD rfl (hfrom) rfl rfl (fun v3 own3 n3 hr3=>Vn rfl hr3.rx (by decide) Ka (Yp rfl (Yb (Yj (yD (Dr.appR _ .here).all (Xe (List.Sublist.append (.refl _) (List.Sublist.append (.refl _) (.refl _))) (Xg (fun m f _ L=>∃ (i:Nat) (vO:V) (ownO:HA),(i≤r.length)∧(m = r.length - i)∧(Rw 1 ((if YL M (YN (M 133) 0 (1 - 2*(M 135))) = true then [(YN (M 133) 0 (1 - 2*(M 135)))] else [])++(if X6 (M 133) = 1+5*(M 135)∧YL M (YN (M 133) 0 (1 - 2*(M 135))) = true∧YL M (YN (M 133) 0 (2*(1 - 2*(M 135)))) = true then [(YN (M 133) 0 (2*(1 - 2*(M 135))))] else [])++(r.take i).filter (XT M (M 135))) vO ownO)∧(f 1 = .ptr 0 0 136)∧(f 2 = vO)∧(f 55 = v3)∧(f 56 = .s (.int .i64 r.length))∧(f 57 = .s (.int .i64 i))∧(L = (ownO++(own3++[(0,.sc .var 136 (ia M))])))) (fun m f nb L hI=>?_) (r.length) (⟨0,vA,ownA,by omega,by omega,by rw [List.take_zero,List.filter_nil,List.append_nil]; exact hrA,rfl,rfl,rfl,rfl,rfl,rfl⟩))))))))
   obtain ⟨i,vO,ownO,hi,hm,hrO,k1,k2,k55,k56,k57,rfl⟩:=hI
   refine pH 1 k1 (pH 2 k2 (pH 55 k55 (pH 56 k56 (pH 57 k57 (Zd (Zq rfl (Yb (Yd (Yi rfl (fun h4=>?_) (fun h4=>?_)))))))))) <;> simp only [NM] at h4
   ·refine Yg (Yd (Yj (Zd ?_)))
    have htb:0≤r.getD i 0∧r.getD i 0 < 64:=Qo (P:=M) (s:=M 133) (by rw [← hreq]; exact pe (by omega))
    obtain ⟨b3,q3,md3,c3,F3,rfl,rfl,hF3⟩:=hr3.rx.at (by decide) Ka (by omega)
    refine Zw rfl rfl (Yl (x:=(r.getD i 0)) rfl rfl (List.mem_append_right _ ZL) (ld1 hF3 (by omega)) (Zi rfl (Ze (Zi rfl (Zx rfl (Zx rfl (Zv rfl rfl rfl (Yo rfl rfl (List.mem_append_right _ ZM) (Yx (Yy rfl rfl rfl rfl .here (Yb (Yd (Yf (Yn rfl rfl ZL (YA rfl .nil (Yw (b:=!YP M (r.getD i 0)) rfl rfl (congrArg (fun b=>!b) eqI_cut) (Zj rfl (Yr (t:=69) rfl (fun h5=>?_) (fun h5=>?_))))))))))))))))))) <;> simp only [NM] at h5
    ·refine Ya rfl (Zy rfl (Ya rfl (Yl (x:=XZ M (r.getD i 0)) rfl rfl ZL (rfl) (Ya rfl (Yc (o':=134) rfl rfl rfl (Ya rfl (Yc (o':=135) rfl rfl rfl (Ya rfl (Yl rfl rfl (.tail _ (List.mem_append_right _ ZM)) rfl (Ya rfl (Yt rfl (YF (VH _)) rfl rfl rfl (Ya rfl (Zq rfl (Zo rfl (Zj rfl (Yr (t:=78) rfl (fun h6=>?_) (fun h6=>?_))))))))))))))))) <;> simp only [NM] at h6
     ·refine ZD rfl (ZB rfl (YG rfl (YG rfl (YG rfl (YG rfl (YG rfl (ZB rfl (Zo rfl (Yb (Zz rfl (Ye (Yp (v:=vO) rfl (Zi rfl (Xd rfl (.one rfl .nil) (Xx (c:=[(r.getD i 0)]) rfl hrO rfl ZL (.there (.there .here)) (by decide) (by decide) rfl (QT) (by rw [List.length_append,List.length_append]; have:=Us (p:=YL M (YN (M 133) 0 (1 - 2*(M 135))) = true) (YN (M 133) 0 (1 - 2*(M 135))); have:=Us (p:=X6 (M 133) = 1+5*(M 135)∧YL M (YN (M 133) 0 (1 - 2*(M 135))) = true∧YL M (YN (M 133) 0 (2*(1 - 2*(M 135)))) = true) (YN (M 133) 0 (2*(1 - 2*(M 135)))); have:=List.length_filter_le (XT M (M 135)) (r.take i); rw [List.length_take] at this; omega) (fun v4 own4 n4 hr4=>Yp (v:=v4) rfl (Yb (Ye (Zr rfl rfl (Zi rfl (Yb (⟨r.length - (i+1),_,by omega,(List.Sublist.append (.refl _) (.cons _ (.cons _ (.refl _)))),i+1,_,_,by omega,rfl,?_,rfl,rfl,rfl,rfl,rfl,rfl⟩))))))))))))))))))))))
      (rw [Eg (p:=XT M (M 135)) (i:=i) (by omega) (by first | exact Q2 (by assumption) (by assumption) | (unfold XT; simp [*,-hreq,-List.getD_eq_getElem?_getD]) | (unfold XT; simp_all [-hreq,-List.getD_eq_getElem?_getD])),← List.append_assoc]; exact hr4)
     ·refine Ya rfl (Yn rfl rfl (.tail _ (List.mem_append_right _ ZM)) (Ya rfl (Zi rfl (Ya rfl (Xd rfl (.one rfl .nil) (Ya rfl (Wn (rs:=[nb+1]) (Bs:=[_]) (av:=[.agg 136 (ia M),.sl (nb+1) 0 1 1 (.ex 1)]) rfl (QZ (c:=.ex 1) 1 _ M [(r.getD i 0)] rfl Da (YE rfl)) rfl rfl (YE rfl) (fun _ h=>h) (by simp [rnL,V.renL,V.ren,pos]) ⟨ZL,⟨_,_,_,rfl⟩,trivial⟩ rfl rfl rfl (.cons .here .nil) (Ya rfl (Zj rfl (Yr (t:=83) rfl (fun h7=>?_) (fun h7=>?_)))))))))))
      ·try simp only [Qf,Qh,Qi,Bool.and_eq_true,Bool.and_eq_false_iff] at h7
       refine Ya rfl (Zi rfl (Ya rfl (Zx rfl (Ya rfl (Yc (o':=130) rfl rfl rfl (Ya rfl (Yl rfl rfl (.tail _ (.tail _ (List.mem_append_right _ ZM))) rfl (Ya rfl (Zq rfl (Ya rfl (Zo rfl (Zo rfl (Yb (Yi rfl (fun h8=>?_) (fun h8=>?_))))))))))))))) <;> simp only [NM] at h8
       ·refine Ye (Yp (v:=vO) rfl (Zi rfl (Xd rfl (.one rfl .nil) (Xx (c:=[(r.getD i 0)]) rfl hrO rfl ZL (.there (.there (.there .here))) (by decide) (by decide) rfl (QT) (by rw [List.length_append,List.length_append]; have:=Us (p:=YL M (YN (M 133) 0 (1 - 2*(M 135))) = true) (YN (M 133) 0 (1 - 2*(M 135))); have:=Us (p:=X6 (M 133) = 1+5*(M 135)∧YL M (YN (M 133) 0 (1 - 2*(M 135))) = true∧YL M (YN (M 133) 0 (2*(1 - 2*(M 135)))) = true) (YN (M 133) 0 (2*(1 - 2*(M 135)))); have:=List.length_filter_le (XT M (M 135)) (r.take i); rw [List.length_take] at this; omega) (fun v5 own5 n5 hr5=>Yp (v:=v5) rfl (Yb (Ye (Zr rfl rfl (Zi rfl (Yb (⟨r.length - (i+1),_,by omega,(List.Sublist.append (.refl _) (.cons _ (.cons _ (.cons _ (.refl _))))),i+1,_,_,by omega,rfl,?_,rfl,rfl,rfl,rfl,rfl,rfl⟩)))))))))))
        (rw [Eg (p:=XT M (M 135)) (i:=i) (by omega) (by first | exact Q2 (by assumption) (by assumption) | (unfold XT; simp [*,-hreq,-List.getD_eq_getElem?_getD]) | (unfold XT; simp_all [-hreq,-List.getD_eq_getElem?_getD])),← List.append_assoc]; exact hr5)
       ·refine Yg (Ye (Zr rfl rfl (Zi rfl (Yb (⟨r.length - (i+1),_,by omega,(.cons _ (.cons _ (List.Sublist.append (.refl _) (.refl _)))),i+1,_,_,by omega,rfl,?_,rfl,rfl,rfl,rfl,rfl,rfl⟩)))))
        (rw [Tq (p:=XT M (M 135)) (i:=i) (by omega) (by first | exact Q2 (by assumption) (by assumption) | (unfold XT; simp [*,-hreq,-List.getD_eq_getElem?_getD]) | (unfold XT; simp_all [-hreq,-List.getD_eq_getElem?_getD]))]; exact hrO)
      ·try simp only [Qf,Qh,Qi,Bool.and_eq_true,Bool.and_eq_false_iff] at h7
       refine ZD rfl (ZB rfl (Ya rfl (Zo rfl (Zo rfl (Yb (ZA rfl (Yg (Ye (Zr rfl rfl (Zi rfl (Yb (⟨r.length - (i+1),_,by omega,(.cons _ (.cons _ (List.Sublist.append (.refl _) (.refl _)))),i+1,_,_,by omega,rfl,?_,rfl,rfl,rfl,rfl,rfl,rfl⟩))))))))))))
       (rw [Tq (p:=XT M (M 135)) (i:=i) (by omega) (by first | exact Q2 (by assumption) (by assumption) | (unfold XT; simp [*,-hreq,-List.getD_eq_getElem?_getD]) | (unfold XT; simp_all [-hreq,-List.getD_eq_getElem?_getD]))]; exact hrO)
    ·refine ZD rfl (ZC rfl (ZB rfl (Zo rfl (Zj rfl (Ya rfl (Yn rfl rfl (.tail _ (List.mem_append_right _ ZM)) (Ya rfl (Zi rfl (Ya rfl (Xd rfl (.one rfl .nil) (Ya rfl (Wn (rs:=[nb+1]) (Bs:=[_]) (av:=[.agg 136 (ia M),.sl (nb+1) 0 1 1 (.ex 1)]) rfl (QZ (c:=.ex 1) 1 _ M [(r.getD i 0)] rfl Da (YE rfl)) rfl rfl (YE rfl) (fun _ h=>h) (by simp [rnL,V.renL,V.ren,pos]) ⟨ZL,⟨_,_,_,rfl⟩,trivial⟩ rfl rfl rfl (.cons .here .nil) (Ya rfl (Zj rfl (Yr (t:=83) rfl (fun h9=>?_) (fun h9=>?_))))))))))))))))
     ·try simp only [Qf,Qh,Qi,Bool.and_eq_true,Bool.and_eq_false_iff] at h9
      refine Ya rfl (Zi rfl (Ya rfl (Zx rfl (Ya rfl (Yc (o':=130) rfl rfl rfl (Ya rfl (Yl rfl rfl (.tail _ (.tail _ (List.mem_append_right _ ZM))) rfl (Ya rfl (Zq rfl (Ya rfl (Zo rfl (Zo rfl (Yb (Yi rfl (fun h10=>?_) (fun h10=>?_))))))))))))))) <;> simp only [NM] at h10
      ·refine Ye (Yp (v:=vO) rfl (Zi rfl (Xd rfl (.one rfl .nil) (Xx (c:=[(r.getD i 0)]) rfl hrO rfl ZL (.there (.there (.there .here))) (by decide) (by decide) rfl (QT) (by rw [List.length_append,List.length_append]; have:=Us (p:=YL M (YN (M 133) 0 (1 - 2*(M 135))) = true) (YN (M 133) 0 (1 - 2*(M 135))); have:=Us (p:=X6 (M 133) = 1+5*(M 135)∧YL M (YN (M 133) 0 (1 - 2*(M 135))) = true∧YL M (YN (M 133) 0 (2*(1 - 2*(M 135)))) = true) (YN (M 133) 0 (2*(1 - 2*(M 135)))); have:=List.length_filter_le (XT M (M 135)) (r.take i); rw [List.length_take] at this; omega) (fun v6 own6 n6 hr6=>Yp (v:=v6) rfl (Yb (Ye (Zr rfl rfl (Zi rfl (Yb (⟨r.length - (i+1),_,by omega,(List.Sublist.append (.refl _) (.cons _ (.cons _ (.cons _ (.refl _))))),i+1,_,_,by omega,rfl,?_,rfl,rfl,rfl,rfl,rfl,rfl⟩)))))))))))
       (rw [Eg (p:=XT M (M 135)) (i:=i) (by omega) (by first | exact Q2 (by assumption) (by assumption) | (unfold XT; simp [*,-hreq,-List.getD_eq_getElem?_getD]) | (unfold XT; simp_all [-hreq,-List.getD_eq_getElem?_getD])),← List.append_assoc]; exact hr6)
      ·refine Yg (Ye (Zr rfl rfl (Zi rfl (Yb (⟨r.length - (i+1),_,by omega,(.cons _ (.cons _ (List.Sublist.append (.refl _) (.refl _)))),i+1,_,_,by omega,rfl,?_,rfl,rfl,rfl,rfl,rfl,rfl⟩)))))
       (rw [Tq (p:=XT M (M 135)) (i:=i) (by omega) (by first | exact Q2 (by assumption) (by assumption) | (unfold XT; simp [*,-hreq,-List.getD_eq_getElem?_getD]) | (unfold XT; simp_all [-hreq,-List.getD_eq_getElem?_getD]))]; exact hrO)
     ·try simp only [Qf,Qh,Qi,Bool.and_eq_true,Bool.and_eq_false_iff] at h9
      refine ZD rfl (ZB rfl (Ya rfl (Zo rfl (Zo rfl (Yb (ZA rfl (Yg (Ye (Zr rfl rfl (Zi rfl (Yb (⟨r.length - (i+1),_,by omega,(.cons _ (.cons _ (List.Sublist.append (.refl _) (.refl _)))),i+1,_,_,by omega,rfl,?_,rfl,rfl,rfl,rfl,rfl,rfl⟩))))))))))))
      (rw [Tq (p:=XT M (M 135)) (i:=i) (by omega) (by first | exact Q2 (by assumption) (by assumption) | (unfold XT; simp [*,-hreq,-List.getD_eq_getElem?_getD]) | (unfold XT; simp_all [-hreq,-List.getD_eq_getElem?_getD]))]; exact hrO)
   ·refine YZ (Xc (Zd (Yp (v:=vO) rfl (Yp (v:=vO) rfl (Yb (Yh (⟨_,YK (v:=vO) rfl (YS),?_⟩)))))))
    obtain rfl:i = r.length:=by omega
    rw [List.take_length,hreq,← KB] at hrO
    exact ⟨_,hrO,(fun _ h=>(List.mem_append_left _ h))⟩
theorem tu {x c:Int} (h:0≤x∧x≤15) (hc:c = 0∨c = 1):WX .shr (.int .i64 x) (.int .i64 (2*c)) = some (.int .i64 (x / YO c)):=by
 obtain ⟨n,rfl⟩:∃ n:Nat,x = n:=⟨x.toNat,by omega⟩
 have:n = 0∨n = 1∨n = 2∨n = 3∨n = 4∨n = 5∨n = 6∨n = 7∨n = 8∨n = 9∨n = 10∨n = 11∨n = 12∨n = 13∨n = 14∨n = 15:=by omega
 rcases hc with rfl | rfl <;> rcases this with rfl | rfl | rfl | rfl | rfl | rfl | rfl | rfl | rfl | rfl | rfl | rfl | rfl | rfl | rfl | rfl <;> rfl
theorem wW {c:Int}:YO c = 1∨YO c = 4:=by unfold YO; split <;> simp
theorem tp {x c:Int} (h:0≤x∧x≤15):0≤x / YO c∧x / YO c≤15:=by
 rcases wW (c:=c) with e | e <;> rw [e] <;> omega
theorem ph {x c:Int} (h:0≤x∧x≤15):WX .neq (.int .i64 (Q1 (x / YO c) 1)) (.int .i64 0) = some (.bool (decide (x / YO c % 2 = 1))):=by
 have e:=wU (C:=x / YO c) (s:=1) (tp h) (.inl rfl)
 rw [Int.ediv_one] at e
 show some (S.bool (Q1 (x / YO c) 1 != 0)) = _
 rw [show (Q1 (x / YO c) 1 != 0) = decide (x / YO c % 2 = 1) by rw [Bool.eq_iff_iff,bne_iff_ne,decide_eq_true_eq]; exact e]
theorem rh {x c:Int} (h:0≤x∧x≤15):WX .neq (.int .i64 (Q1 (x / YO c) 2)) (.int .i64 0) = some (.bool (decide (x / (2*YO c) % 2 = 1))):=by
 have e:=wU (C:=x / YO c) (s:=2) (tp h) (.inr (.inl rfl))
 have e2:x / YO c / 2 = x / (2*YO c):=by rcases wW (c:=c) with e | e <;> rw [e] <;> omega
 rw [e2] at e
 show some (S.bool (Q1 (x / YO c) 2 != 0)) = _
 rw [show (Q1 (x / YO c) 2 != 0) = decide (x / (2*YO c) % 2 = 1) by rw [Bool.eq_iff_iff,bne_iff_ne,decide_eq_true_eq]; exact e]
theorem wZ {M:Nat→Int} {c t:Int}:eqI 2 (dp M (sqI t)) (ovA (fun _=>0) 0 2 (ov (ov (fun _=>0) 0 4) 1 c)) = Vj M c t:=by
 rw [Bool.eq_iff_iff,Qx]; unfold Vj; rw [decide_eq_true_eq]
 exact ⟨fun h=>⟨h 0 (by omega),h 1 (by omega)⟩,fun h i hi=>by
  obtain rfl | rfl:i = 0∨i = 1:=by omega
  ·exact h.1
  ·exact h.2⟩
theorem QK {M:Nat→Int} {s k c:Int} (hk:k = 6) (hs:s = 56*c+4) (h:0≤M 129∧M 129≤15):XC M s k c = (if M 129 / YO c % 2 = 1∧Vj M c ((56*c+4)+3) = true∧YL M ((56*c+4)+1) = true∧YL M ((56*c+4)+2) = true then [(56*c+4)+2] else [])++(if M 129 / (2*YO c) % 2 = 1∧Vj M c ((56*c+4) - 4) = true∧YL M ((56*c+4) - 1) = true∧YL M ((56*c+4) - 2) = true∧YL M ((56*c+4) - 3) = true then [(56*c+4) - 2] else []):=by
 unfold XC
 rw [if_neg (by omega),hs]
theorem Qk {M:Nat→Int} {s k c:Int} (h:k ≠ 6∨s ≠ 56*c+4∨M 129 < 0∨15 < M 129):XC M s k c = []:=if_pos h
theorem ji (M:Nat→Int) (ha:0≤M 133∧M 133 < 64) (hc:M 135 = 0∨M 135 = 1):RtR AM 115 1 [.agg 136 (ia M)] [] (XC M (M 133) (M 134) (M 135)) []:=by
 refine W7 (YI (a:=a115) rfl rfl (YH _) (ZP rfl) (m:=0) rfl (Zd (YB rfl (Yp rfl (Ze (Yc (o':=134) rfl rfl rfl (Yc (o':=135) rfl rfl rfl (Yl rfl rfl ZL rfl (X9 rfl rfl (by omega) (Zr rfl rfl (Zi rfl (Yb (Yd (Zd (Yc (o':=134) rfl rfl rfl (Yc (o':=134) rfl rfl rfl (Yl rfl rfl ZL rfl (Zq rfl (Zj rfl (Yr (t:=15) rfl (fun h11=>?_) (fun h11=>?_))))))))))))))))))))) <;> simp only [NM] at h11
 ·refine ZD rfl (Zo rfl (Zj rfl (ZD rfl (Zo rfl (Zj rfl (ZD rfl (Zo rfl (Yb (Zz rfl (Zd (Yp rfl (Yb (Yh (⟨_,YK (v:=.snil) rfl (YS),?_⟩))))))))))))))
  refine ⟨[],Rw.nil (Qk (by omega)),fun _ h=>nomatch h⟩
 ·refine Ya rfl (Yc (o':=133) rfl rfl rfl (Ya rfl (Yl rfl rfl ZL rfl (Ya rfl (Zi rfl (Ya rfl (Zq rfl (Zo rfl (Zj rfl (Yr (t:=21) rfl (fun h12=>?_) (fun h12=>?_))))))))))) <;> simp only [NM] at h12
  ·refine ZD rfl (Zo rfl (Zj rfl (ZD rfl (Zo rfl (Yb (Zz rfl (Zd (Yp rfl (Yb (Yh (⟨_,YK (v:=.snil) rfl (YS),?_⟩)))))))))))
   refine ⟨[],Rw.nil (Qk (by omega)),fun _ h=>nomatch h⟩
  ·refine Ya rfl (Zx rfl (Ya rfl (Yc (o':=129) rfl rfl rfl (Ya rfl (Yl rfl rfl ZL rfl (Ya rfl (Zq rfl (Zo rfl (Zj rfl (Yr (t:=27) rfl (fun h13=>?_) (fun h13=>?_))))))))))) <;> simp only [NM] at h13
   ·refine ZD rfl (Zo rfl (Yb (Zz rfl (Zd (Yp rfl (Yb (Yh (⟨_,YK (v:=.snil) rfl (YS),?_⟩))))))))
    refine ⟨[],Rw.nil (Qk (by omega)),fun _ h=>nomatch h⟩
   ·refine Ya rfl (Zx rfl (Ya rfl (Yc (o':=129) rfl rfl rfl (Ya rfl (Yl rfl rfl ZL rfl (Ya rfl (Zq rfl (Zo rfl (Yb (Yi rfl (fun h14=>?_) (fun h14=>?_))))))))))) <;> simp only [NM] at h14
    ·refine Zd (Yp rfl (Yb (Yh (⟨_,YK (v:=.snil) rfl (YS),?_⟩))))
     refine ⟨[],Rw.nil (Qk (by omega)),fun _ h=>nomatch h⟩
    ·refine Yg (Zd (Yc (o':=134) rfl rfl rfl (Yc (o':=135) rfl rfl rfl (Yl rfl rfl ZL rfl (YA rfl (.one rfl (.one rfl .nil)) (Yx (Yy rfl rfl rfl rfl .here (Ze (Zx rfl (Yc (o':=129) rfl rfl rfl (Yl rfl rfl ZM rfl (Yc (o':=134) rfl rfl rfl (Yc (o':=135) rfl rfl rfl (Yl rfl rfl ZM rfl (X9 rfl rfl (by omega) (Yq rfl rfl (tu (by omega) hc) (Zi rfl (Yb (WE (fun f n L=>∃ (vA:V) (ownA:HA),(Rw 1 ((if M 129 / YO (M 135) % 2 = 1∧Vj M (M 135) ((56*(M 135)+4)+3) = true∧YL M ((56*(M 135)+4)+1) = true∧YL M ((56*(M 135)+4)+2) = true then [(56*(M 135)+4)+2] else [])) vA ownA)∧(f 1 = .ptr 0 0 136)∧(f 2 = vA)∧(f 3 = .s (.int .i64 (56*(M 135)+4)))∧(f 4 = .ptr 1 0 2)∧(f 5 = .s (.int .i64 (M 129 / YO (M 135))))∧(L = (ownA++[(1,.sc .var 2 (ia (ovA (fun _=>0) 0 2 (ov (ov (fun _=>0) 0 4) 1 (M 135))))),(0,.sc .var 136 (ia M))]))) ?_ (fun f nb L hI=>?_))))))))))))))))))))
     ·refine Yd (Yf (Zi rfl (Yq rfl rfl rfl (Yq rfl rfl (ph (by omega)) (Zj rfl (Yr (t:=48) rfl (fun h15=>?_) (fun h15=>?_))))))) <;> simp only [NM] at h15
      ·refine Ya rfl (Zi rfl (Ya rfl (Zr rfl rfl (Ya rfl (Zx rfl (Ya rfl (Zx rfl (Ya rfl (Zv rfl rfl rfl (Ya rfl (Yo rfl rfl ZM (Ya rfl (Yn rfl rfl ZL (Ya rfl (Yw (b:=Vj M (M 135) ((56*(M 135)+4)+3)) rfl rfl (wZ) (Zo rfl (Zj rfl (Yr (t:=58) rfl (fun h16=>?_) (fun h16=>?_)))))))))))))))))))
       ·refine Ya rfl (Yn rfl rfl ZM (Ya rfl (Zi rfl (Ya rfl (Zr rfl rfl (Ya rfl (Zi rfl (Ya rfl (Zr rfl rfl (Ya rfl (Xd rfl (.one rfl (.one rfl .nil)) (Ya rfl (Wn (rs:=[2]) (Bs:=[_]) (av:=[.agg 136 (ia M),.sl (2) 0 2 1 (.ex 2)]) rfl (QZ (c:=.ex 2) 2 _ M [(56*(M 135)+4)+1,(56*(M 135)+4)+2] rfl wH (YE rfl)) rfl rfl (YE rfl) (fun _ h=>h) (by simp [rnL,V.renL,V.ren,pos]) ⟨ZL,⟨_,_,_,rfl⟩,trivial⟩ rfl rfl rfl (.cons .here .nil) (Zo rfl (Yb (Yi rfl (fun h17=>?_) (fun h17=>?_)))))))))))))))))
        ·try simp only [Qf,Qh,Qi,Bool.and_eq_true,Bool.and_eq_false_iff] at h17
         refine Ye (Yp (v:=.snil) rfl (Zi rfl (Zr rfl rfl (Xd rfl (.one rfl .nil) (Xx (c:=[(56*(M 135)+4)+2]) rfl (Rw.nil rfl) rfl ZL (Dr.here (own:=[])) (by decide) (by decide) rfl (QT) (by simp only [List.length_nil]; omega) (fun v1 own1 n1 hr1=>Yp (v:=v1) rfl (Yb (⟨_,(List.Sublist.append (.refl _) (.cons _ (.cons _ (.refl _)))),_,own1,?_,rfl,rfl,rfl,rfl,rfl,rfl⟩))))))))
         (rw [if_pos ⟨by assumption,by assumption,by assumption⟩]; exact hr1)
        ·try simp only [Qf,Qh,Qi,Bool.and_eq_true,Bool.and_eq_false_iff] at h17
         refine Yg (⟨_,(.cons _ (.refl _)),_,[],?_,rfl,rfl,rfl,rfl,rfl,rfl⟩)
         (rw [if_neg (by rintro ⟨a1,a2,a3⟩; simp_all only [or_self,and_true,and_false,false_or,not_true_eq_false,reduceCtorEq])]; exact (Rw.nil rfl))
       ·refine Z9 rfl rfl (ZD rfl (ZC rfl (Zo rfl (Yb (ZA rfl (Yg (⟨_,(.refl _),_,[],?_,rfl,rfl,rfl,rfl,rfl,rfl⟩)))))))
        (rw [if_neg (by rintro ⟨a1,a2,a3⟩; simp_all only [or_self,and_true,and_false,false_or,not_true_eq_false,reduceCtorEq])]; exact (Rw.nil rfl))
      ·refine ZE rfl (Zo rfl (Zj rfl (ZD rfl (ZC rfl (ZB rfl (Zo rfl (Yb (ZA rfl (Yg (⟨_,(.refl _),_,[],?_,rfl,rfl,rfl,rfl,rfl,rfl⟩))))))))))
       (rw [if_neg (by rintro ⟨a1,a2,a3⟩; simp_all only [or_self,and_true,and_false,false_or,not_true_eq_false,reduceCtorEq])]; exact (Rw.nil rfl))
     ·obtain ⟨vA,ownA,hrA,k1,k2,k3,k4,k5,rfl⟩:=hI
      refine pH 1 k1 (pH 2 k2 (pH 3 k3 (pH 4 k4 (pH 5 k5 (Yd (Yd (Yf (Zi rfl (Yq rfl rfl rfl (Yq rfl rfl (rh (by omega)) (Zj rfl (Yr (t:=75) rfl (fun h18=>?_) (fun h18=>?_))))))))))))) <;> simp only [NM] at h18
      ·refine Ya rfl (Zi rfl (Ya rfl (Zs rfl rfl (Ya rfl (Zx rfl (Ya rfl (Zx rfl (Ya rfl (Zv rfl rfl rfl (Ya rfl (Yo rfl rfl (List.mem_append_right _ ZM) (Ya rfl (Yn rfl rfl (List.mem_append_right _ ZL) (Ya rfl (Yw (b:=Vj M (M 135) ((56*(M 135)+4) - 4)) rfl rfl (wZ) (Zo rfl (Zj rfl (Yr (t:=85) rfl (fun h19=>?_) (fun h19=>?_)))))))))))))))))))
       ·refine Ya rfl (Yn rfl rfl (List.mem_append_right _ ZM) (Ya rfl (Zi rfl (Ya rfl (Zs rfl rfl (Ya rfl (Zi rfl (Ya rfl (Zs rfl rfl (Ya rfl (Zi rfl (Ya rfl (Zs rfl rfl (Ya rfl (Xd rfl (.one rfl (.one rfl (.one rfl .nil))) (Ya rfl (Wn (rs:=[nb]) (Bs:=[_]) (av:=[.agg 136 (ia M),.sl (nb) 0 3 1 (.ex 3)]) rfl (QZ (c:=.ex 3) 3 _ M [(56*(M 135)+4) - 1,(56*(M 135)+4) - 2,(56*(M 135)+4) - 3] rfl lit3r (YE rfl)) rfl rfl (YE rfl) (fun _ h=>h) (by simp [rnL,V.renL,V.ren,pos]) ⟨ZL,⟨_,_,_,rfl⟩,trivial⟩ rfl rfl rfl (.cons .here .nil) (Zo rfl (Yb (Yi rfl (fun h20=>?_) (fun h20=>?_)))))))))))))))))))))
        ·try simp only [Qf,Qh,Qi,Bool.and_eq_true,Bool.and_eq_false_iff] at h20
         refine Ye (Yp (v:=vA) rfl (Zi rfl (Zs rfl rfl (Xd rfl (.one rfl .nil) (Xx (c:=[(56*(M 135)+4) - 2]) rfl hrA rfl ZL (.there (.there .here)) (by decide) (by decide) rfl (QT) (by have:=Us (p:=M 129 / YO (M 135) % 2 = 1∧Vj M (M 135) ((56*(M 135)+4)+3) = true∧YL M ((56*(M 135)+4)+1) = true∧YL M ((56*(M 135)+4)+2) = true) ((56*(M 135)+4)+2); omega) (fun v2 own2 n2 hr2=>Yp (v:=v2) rfl (Ze (Yp (v:=v2) rfl (Yp (v:=v2) rfl (Yb (Yh (⟨_,YK (v:=v2) rfl (YS),?_⟩))))))))))))
         rw [QK (by omega) (by omega) (by omega)]
         exact ⟨_,by first | (rw [if_pos (c:=M 129 / (2*_) % 2 = 1∧_) ⟨by assumption,by assumption,by assumption⟩]; exact hr2) | (rw [if_neg (c:=M 129 / (2*_) % 2 = 1∧_) (by rintro ⟨a1,a2,a3⟩; simp_all only [or_self,and_true,and_false,false_or,not_true_eq_false,reduceCtorEq]),List.append_nil]; exact hr2),(fun _ h=>(List.mem_append_left _ h))⟩
        ·try simp only [Qf,Qh,Qi,Bool.and_eq_true,Bool.and_eq_false_iff] at h20
         refine Yg (Zd (Yp (v:=vA) rfl (Yp (v:=vA) rfl (Yb (Yh (⟨_,YK (v:=vA) rfl (YS),?_⟩))))))
         rw [QK (by omega) (by omega) (by omega)]
         exact ⟨_,by first | (rw [if_pos (c:=M 129 / (2*_) % 2 = 1∧_) ⟨by assumption,by assumption,by assumption⟩]; exact hrA) | (rw [if_neg (c:=M 129 / (2*_) % 2 = 1∧_) (by rintro ⟨a1,a2,a3⟩; simp_all only [or_self,and_true,and_false,false_or,not_true_eq_false,reduceCtorEq]),List.append_nil]; exact hrA),(fun _ h=>(.tail _ (List.mem_append_left _ h)))⟩
       ·refine Z9 rfl rfl (ZE rfl (Zo rfl (Yb (ZA rfl (Yg (Zd (Yp (v:=vA) rfl (Yp (v:=vA) rfl (Yb (Yh (⟨_,YK (v:=vA) rfl (YS),?_⟩)))))))))))
        rw [QK (by omega) (by omega) (by omega)]
        exact ⟨_,by first | (rw [if_pos (c:=M 129 / (2*_) % 2 = 1∧_) ⟨by assumption,by assumption,by assumption⟩]; exact hrA) | (rw [if_neg (c:=M 129 / (2*_) % 2 = 1∧_) (by rintro ⟨a1,a2,a3⟩; simp_all only [or_self,and_true,and_false,false_or,not_true_eq_false,reduceCtorEq]),List.append_nil]; exact hrA),(fun _ h=>(List.mem_append_left _ h))⟩
      ·refine ZE rfl (Zo rfl (Zj rfl (ZE rfl (ZB rfl (Zo rfl (Yb (ZA rfl (Yg (Zd (Yp (v:=vA) rfl (Yp (v:=vA) rfl (Yb (Yh (⟨_,YK (v:=vA) rfl (YS),?_⟩))))))))))))))
       rw [QK (by omega) (by omega) (by omega)]
       exact ⟨_,by first | (rw [if_pos (c:=M 129 / (2*_) % 2 = 1∧_) ⟨by assumption,by assumption,by assumption⟩]; exact hrA) | (rw [if_neg (c:=M 129 / (2*_) % 2 = 1∧_) (by rintro ⟨a1,a2,a3⟩; simp_all only [or_self,and_true,and_false,false_or,not_true_eq_false,reduceCtorEq]),List.append_nil]; exact hrA),(fun _ h=>(List.mem_append_left _ h))⟩
open Go Go.Am
theorem TV (M:Nat→Int) (s k c:Int):(XC M s k c).length≤2:=by
 unfold XC
 split
 ·exact Nat.zero_le _
 ·rw [List.length_append]
  have h1:=Us (p:=M 129 / YO c % 2 = 1∧Vj M c (s+3) = true∧YL M (s+1) = true∧YL M (s+2) = true) (s+2)
  have h2:=Us (p:=M 129 / (2*YO c) % 2 = 1∧Vj M c (s - 4) = true∧YL M (s - 1) = true∧YL M (s - 2) = true∧YL M (s - 3) = true) (s - 2)
  omega
theorem own_is {M:Nat→Int} {t:Int} (ht:0≤t∧t < 64):UA (ia M) t = Vs M (M 135) t:=by
 have hq:sqI t = 0+t.toNat*2:=rfl
 have e:YP M t = (decide (M (t.toNat*2) = 0) && decide (M (t.toNat*2+1) = 0)):=by
  rw [Bool.eq_iff_iff,Bool.and_eq_true,decide_eq_true_eq,decide_eq_true_eq]
  unfold YP
  rw [Qx,hq,Nat.zero_add]
  exact ⟨fun h=>⟨h 0 (by omega),h 1 (by omega)⟩,fun h i hi=>by
   obtain rfl | rfl:i = 0∨i = 1:=by omega
   ·exact h.1
   ·exact h.2⟩
 unfold UA Vs XZ
 rw [e,hq,Nat.zero_add]; rfl
theorem allB_true' {p:Nat→Bool}:∀ {n:Nat},(∀ i,i < n→p i = true)→Xi n p = true
 | 0,_=>rfl
 | n+1,h=>by
  show (Xi n p && p n) = true
  rw [h n (Nat.lt_succ_self n),allB_true' fun i hi=>h i (Nat.lt_succ_of_lt hi)]; rfl
theorem Ko {p q:Int→Bool}:∀ {l:List Int},(∀ t∈l,p t = q t)→l.filter p = l.filter q
 | [],_=>rfl
 | t::l,h=>by rw [List.filter_cons,List.filter_cons,h t ZL,Ko fun u hu=>h u (.tail _ hu)]
theorem j7 {l:List Int} {i:Nat} (hi:i < l.length):l.getD i 0∈l:=by
 rw [List.getD_eq_getElem?_getD,List.getElem?_eq_getElem hi]
 exact List.getElem_mem hi
theorem km {md:Md} (M:Nat→Int):RB AM 113 [.snil,.fn 112 [.ptr 0 0 136]] [.sc md 136 (ia M)] .snil [.sc md 136 (ia M)]:=by
 refine ⟨[_],?_,rfl,⟨_,_,_,rfl⟩,trivial⟩
 rw [Qm (pf:=RH 112) rfl _ _ rfl]; rfl
theorem kv {md:Md} (M F:Nat→Int) (l:List Int) (m q:Nat) (hl:l.length = m) (hF:∀ i,i < l.length→F i = l.getD i 0) (hb:∀ t∈l,0≤t∧t < 64) (hm:m≤1000000) :
  ∃ q' F',(∀ i,i < (l.filter fun t=>!Vs M (M 135) t).length→F' i = (l.filter fun t=>!Vs M (M 135) t).getD i 0)∧RNd AM 113 [.sl 0 0 m 1 .whole,.fn 112 [.ptr 1 0 136]] [.sc .grow q (ia F),.sc md 136 (ia M)] (fun b=>.sl b 0 (l.filter fun t=>!Vs M (M 135) t).length 1 .whole) (.sc .grow q' (ia F')) [.dead,.sc md 136 (ia M)]:=by
 have hn:=xR hl hF
 have he:(XK (ia F) m).filter (fun t=>!UA (ia M) t) = l.filter fun t=>!Vs M (M 135) t:=by
  rw [hn]; exact Ko fun t ht=>by rw [own_is (hb t ht)]
 have h1:Xi m (fun i=>Vy (ia F i) && (decide (0≤Wc (ia F i)) && decide (Wc (ia F i) < 64))) = true:=allB_true' fun i hi=>by
  have hx:=hb _ (j7 (l:=l) (i:=i) (by omega))
  rw [← hF i (by omega)] at hx
  show (true && (decide (0≤F i) && decide (F i < 64))) = true
  rw [decide_eq_true hx.1,decide_eq_true hx.2]; rfl
 have h2:Xi 136 (fun i=>Vy (ia M i)) = true:=allI 136
 have h3:Nat.ble m 4611686018427387904 = true:=Nat.ble_eq_true_of_le (by omega)
 refine ⟨_,fun i=>(l.filter fun t=>!Vs M (M 135) t).getD i 0,fun i _=>rfl,2,[.dead,.sc md 136 (ia M),.sc .grow (l.filter fun t=>!Vs M (M 135) t).length (ia fun i=>(l.filter fun t=>!Vs M (M 135) t).getD i 0)],?_,Nat.le_refl _,rfl,rfl,rfl,rfl,rfl,trivial⟩
 rw [Qm (pf:=RH 112) rfl _ _ rfl]
 show (bif (decide (0 ≠ 1) && (Xi m (fun i=>Vy (ia F i) && (decide (0≤Wc (ia F i)) && decide (Wc (ia F i) < 64))) && (Xi 136 (fun i=>Vy (ia M i)) && Nat.ble m 4611686018427387904))) then
  some (V.sl 2 0 ((XK (ia F) m).filter fun t=>!UA (ia M) t).length 1 .whole,[Blk.dead,.sc md 136 (ia M)]++[.sc .grow ((XK (ia F) m).filter fun t=>!UA (ia M) t).length fun i=>.int .i64 (((XK (ia F) m).filter fun t=>!UA (ia M) t).getD i 0)]) else none) = _
 rw [h1,h2,h3,he]; rfl
theorem zM (M:Nat→Int) (ha:0≤M 133∧M 133 < 64) (hc:M 135 = 0∨M 135 = 1):RtR AM 92 1 [.agg 136 (ia M)] [] (Xy M (M 133) (M 134) (M 135)) []:=by
 refine W7 (YI (a:=a92) rfl rfl (YH _) (ZP rfl) (m:=0) rfl (Zd (YB rfl (Yp rfl (Yb (Yd (Zd (Yc (o':=134) rfl rfl rfl (Yc (o':=134) rfl rfl rfl (Yl rfl rfl ZL rfl (Zq rfl (Yb (Yi rfl (fun h1=>?_) (fun h1=>?_)))))))))))))) <;> simp only [NM] at h1
 ·refine Zd (Yn rfl rfl ZL (YD rfl (pg M ha hc) rfl rfl (fun v1 own1 n1 hr1=>Yp (v:=v1) rfl (Yb (Yh (⟨_,YK (v:=v1) rfl (YS),?_⟩))))))
  have e:Xy M (M 133) (M 134) (M 135) = US M (M 133) (M 135):=if_pos (by assumption)
  exact ⟨_,e ▸ hr1,(fun _ h=>(List.mem_append_left _ h))⟩
 ·refine Yg (Zd (Qz rfl (Yp (v:=.fn _ _) rfl (Yb (Yd (sQ [0,1,2,3] [4,5,6,7,8,9,10] [[4,5,6,7,8,9,10],[4,5,7,6,8,9,10],[5,4,6,7,8,9,10],[5,4,7,6,8,9,10],[7,4,5,6,8,9,10],[5,7,4,6,8,9,10]] rfl (by decide +kernel) ?_))))))
  simp only [Xr,List.getElem?_cons_zero,List.getElem?_cons_succ]
  have hfrom:=ke M (M 133)
  have hcast:=ji M ha hc
  have hl1:=Ku M (M 133)
  have hl2:=List.length_filter_le (fun t=>!Vs M (M 135) t) (Wb M (M 133))
  have hl3:=TV M (M 133) (M 134) (M 135)
  refine Zx rfl (Yn rfl rfl ZL (Yc (o':=133) rfl rfl rfl (Yl rfl rfl ZL rfl (Yb (⟨?_,WY ?_⟩)))))
  ·refine re (fun l=>RX (b:=0) (B:=.sc .var 136 (ia M)) (v:=.fn 112 [.ptr 0 0 136]) rfl rfl ZL (fun σ _=>rfl) (YD rfl hfrom rfl rfl (fun v own n2 hr=>Yb (List.mem_append_right _ ZL))) l) (fun l=>RX (b:=0) (B:=.sc .var 136 (ia M)) (v:=.agg 136 fun i=>ia M (0+i)) rfl rfl ZL (fun σ h=>T0 (z:=136) (o:=0) rfl rfl (by simp only [rdV,h,cond_true]))  (YD rfl hfrom rfl rfl (fun v own n2 hr=>Yb (List.mem_append_right _ ZL))) l) rfl
    (YD rfl hfrom rfl rfl (fun v own n2 hr=>Yb trivial)) (Yp (v:=.fn 112 [.ptr 0 0 136]) rfl (Yb fun l=>RX (b:=0) (B:=.sc .var 136 (ia M)) (v:=.agg 136 fun i=>ia M (0+i)) rfl rfl ZL (fun σ h=>T0 (z:=136) (o:=0) rfl rfl (by simp only [rdV,h,cond_true]))  (YD rfl hfrom rfl rfl (fun v own n2 hr=>Yb (List.mem_append_right _ ZL))) l))
    (YD rfl hfrom rfl rfl (fun v own n2 hr=>Yp (v:=.fn 112 [.ptr 0 0 136]) rfl (Yb fun l=>RX (b:=0) (B:=.sc .var 136 (ia M)) (v:=.agg 136 fun i=>ia M (0+i)) rfl rfl (List.mem_append_right _ ZL) (fun σ h=>T0 (z:=136) (o:=0) rfl rfl (by simp only [rdV,h,cond_true]))  (zx (l':=(Wb M (M 133)).filter fun t=>!Vs M (M 135) t) rfl rfl hr .here ZL ⟨_,_,_,rfl⟩ (fun h=>⟨by rw [h]; rfl,km M⟩) (fun m q F h1 h2=>kv M F (Wb M (M 133)) m q h1 h2 (fun t ht=>Qo ht) (by have:=Ku M (M 133); omega)) (fun v2 own2 n3 hr2=>Yb (List.mem_append_right _ ZL))) l)))
  refine YD rfl (hfrom) rfl rfl (fun v2 own2 n2 hr2=>Yp (v:=.fn _ _) rfl (zx (l':=(Wb M (M 133)).filter fun t=>!Vs M (M 135) t) rfl rfl hr2 .here ZL ⟨_,_,_,rfl⟩ (fun h=>⟨by rw [h]; rfl,km M⟩) (fun m q F h1 h2=>kv M F (Wb M (M 133)) m q h1 h2 (fun t ht=>Qo ht) (by have:=Ku M (M 133); omega)) (fun v3 own3 n3 hr3=>Yn rfl rfl (List.mem_append_right _ ZL) (YD rfl (hcast) rfl rfl (fun v4 own4 n4 hr4=>TQ rfl hr3 rfl (hr4.rx) (fun _ h=>(List.mem_append_left _ h)) (Dr.appR _ .here) (by decide) (by omega) (fun v5 own5 n5 hr5=>Yp (v:=v5) rfl (Yb (Yh (⟨_,YK (v:=v5) rfl (YS),?_⟩)))))))))
  have e:Xy M (M 133) (M 134) (M 135) = ((Wb M (M 133)).filter fun t=>!Vs M (M 135) t)++XC M (M 133) (M 134) (M 135):=if_neg (by assumption)
  exact ⟨_,e ▸ hr5,(fun _ h=>(List.mem_append_left _ h))⟩
open Go Go.Am
theorem U7 {Q:Nat→Int} {x y z:Int} (h0:Q 0 = x) (h1:Q 1 = y) (h2:Q 2 = z):∀ i,i < [x,y,z].length→ovA (fun _=>0) (0*3) 3 Q (0+i) = [x,y,z].getD i 0
 | 0,_=>h0
 | 1,_=>h1
 | 2,_=>h2
 | i+3,h=>absurd (show i+3 < 3 from h) (by omega)
theorem QA (a b:List Mv):YV (a++b) = YV a++YV b:=by unfold YV; exact List.flatMap_append
theorem toM_len (s k c t:Int):(toM s k c t).length≤4:=by
 unfold toM
 split
 ·exact Nat.le_refl 4
 ·exact YE rfl
theorem qC (s k c:Int):∀ l:List Int,(l.flatMap (toM s k c)).length≤l.length*4
 | []=>Nat.zero_le _
 | t::l=>by
  have h1:=toM_len s k c t
  have h2:=qC s k c l
  rw [List.flatMap_cons,List.length_append,List.length_cons]
  omega
theorem QF (s k c:Int) (l:List Int):(YV (l.flatMap (toM s k c))).length≤l.length*12:=by
 have:=qC s k c l
 rw [Xm]; omega
theorem yC {s k c:Int} {l:List Int} {i:Nat} (hi:i < l.length):YV ((l.take (i+1)).flatMap (toM s k c)) = YV ((l.take i).flatMap (toM s k c))++YV (toM s k c (l.getD i 0)):=by
 rw [W5 0 hi,List.flatMap_append,QA]; simp
def UD (s t:Int) (j:Nat):List Int:=YV ((([2,3,4,5]:List Int).take j).map fun p=>(s,t,p))
theorem JM (s t:Int):∀ j,j < 4→UD s t (j+1) = UD s t j++[s,t,2+(j:Int)]
 | 0,_=>rfl
 | 1,_=>rfl
 | 2,_=>rfl
 | 3,_=>rfl
 | j+4,h=>absurd h (by omega)
theorem TL (s t:Int) (j:Nat):(UD s t j).length≤12:=by
 unfold UD
 rw [Xm,List.length_map,List.length_take]
 show min j 4*3≤12
 omega
theorem to_end {s k c t:Int} (hb:0≤t∧t < 64) (hk:k = 1) (ht:X6 t = 7*(1 - c)):YV (toM s k c t) = UD s t 4:=by
 unfold X6 at ht
 rw [if_pos hb] at ht
 unfold toM endM
 rw [if_pos (decide_eq_true ⟨hk,ht⟩)]; rfl
theorem sI {s k c t:Int} (hb:0≤t∧t < 64) (h:k ≠ 1∨X6 t ≠ 7*(1 - c)):YV (toM s k c t) = [s,t,0]:=by
 unfold X6 at h
 rw [if_pos hb] at h
 unfold toM endM
 rw [if_neg (by rw [decide_eq_true_eq]; omega)]; rfl
theorem to_rt (M:Nat→Int) (hM:M 135 = 0∨M 135 = 1) (l:List Int) (hlen:l.length≤1000) (hb:∀ t∈l,0≤t∧t < 64):yQ AM 91 1 3 [.agg 136 (ia M)] [] l (YV (l.flatMap (toM (M 133) (M 134) (M 135)))):=by
 refine DW fun v Bs hc=>?_
 refine YI (a:=a91) rfl rfl (YH _) (ZP rfl) rfl ?_ (by first | rfl | (cases hc <;> rfl))
 have hr0:=hc.rx
 rw [show Xj 0 Bs = Xj 0 Bs++[] from (List.append_nil _).symm]
 generalize hown:Xj 0 Bs = own0 at hr0 ⊢
 refine Zd (YB rfl (Yp rfl (Yb (Yd (Zd (Yp (v:=v) rfl (Vn rfl hr0 (by decide) Ka (Yp rfl (Yb (Yj (Xe (.cons_cons _ (List.Sublist.append (.refl _) .slnil)) (Xg (fun m f _ L=>∃ (i:Nat) (vO:V) (ownO:HA),(i≤l.length)∧(m = l.length - i)∧(Rw 3 (YV ((l.take i).flatMap (toM (M 133) (M 134) (M 135)))) vO ownO)∧(f 2 = .ptr Bs.length 0 136)∧(f 4 = vO)∧(f 8 = v)∧(f 9 = .s (.int .i64 l.length))∧(f 10 = .s (.int .i64 i))∧(L = (ownO++(Bs.length,.sc .var 136 (ia M))::(own0++[])))) (fun m f nb L hI=>?_) (l.length) (⟨0,.snil,[],by omega,rfl,.nil rfl,rfl,rfl,rfl,rfl,rfl,rfl⟩)))))))))))))
 obtain ⟨i,vO,ownO,hi,hm,hrO,k2,k4,k8,k9,k10,rfl⟩:=hI
 refine pH 2 k2 (pH 4 k4 (pH 8 k8 (pH 9 k9 (pH 10 k10 (Zd (Zq rfl (Yb (Yd (Yi rfl (fun h1=>?_) (fun h1=>?_)))))))))) <;> simp only [NM] at h1
 ·refine Yg (Yd (Yj (Zd ?_)))
  have htb:0≤l.getD i 0∧l.getD i 0 < 64:=hb _ (j7 (by omega))
  obtain ⟨b0,q0,md0,c0,F0,rfl,rfl,hF0⟩:=hr0.at (by decide) Ka (by omega)
  refine Zw rfl rfl (Yl (x:=(l.getD i 0)) rfl rfl (List.mem_append_right _ ZM) (ld1 hF0 (by omega)) (Zi rfl (Yb (Yd (Yd (Yf (Yc (o':=134) rfl rfl rfl (Yc (o':=134) rfl rfl rfl (Yl rfl rfl (List.mem_append_right _ ZL) rfl (Zq rfl (Zj rfl (Yr (t:=18) rfl (fun h2=>?_) (fun h2=>?_))))))))))))) <;> simp only [NM] at h2
  ·refine ZE rfl (Zo rfl (Yb (Zz rfl (Zd (Yp (v:=vO) rfl (Yc (o':=133) rfl rfl rfl (Yl rfl rfl (List.mem_append_right _ ZL) rfl (Zi rfl (YA rfl (.one rfl (.one rfl .nil)) (Wm rfl (.agg rfl .nil) (Xx (c:=[(M 133),(l.getD i 0),0]) rfl hrO rfl ZL (.there .here) (by decide) (by decide) rfl ((U7 rfl rfl rfl)) (by have e1:=QF (M 133) (M 134) (M 135) (l.take i); rw [List.length_take] at e1; omega) (fun v1 own1 n1 hr1=>Yp (v:=v1) rfl (Yb (YZ (Xc (Ye (Zr rfl rfl (Zi rfl (Yb (⟨l.length - (i+1),_,by omega,(List.Sublist.append (.refl _) (.cons _ (.refl _))),i+1,_,_,by omega,rfl,?_,rfl,rfl,rfl,rfl,rfl,rfl⟩))))))))))))))))))))
   rw [yC (l:=l) (i:=i) (by omega)]
   (rw [sI htb (by first | exact .inl (by assumption) | exact .inr (by assumption))]; exact hr1)
  ·refine Ya rfl (Zi rfl (Ya rfl (Yt rfl (QY _) rfl rfl rfl (Ya rfl (Yc (o':=134) rfl rfl rfl (Ya rfl (Yc (o':=135) rfl rfl rfl (Ya rfl (Yl rfl rfl (List.mem_append_right _ ZL) rfl (Ya rfl (Zs rfl rfl (Ya rfl (X9 rfl rfl (by omega) (Ya rfl (Zq rfl (Zo rfl (Yb (Yi rfl (fun h3=>?_) (fun h3=>?_))))))))))))))))))) <;> simp only [NM] at h3
   ·refine Zd (Yp (v:=vO) rfl (Yc (o':=133) rfl rfl rfl (Yl rfl rfl (List.mem_append_right _ ZL) rfl (Zi rfl (YA rfl (.one rfl (.one rfl .nil)) (Wm rfl (.agg rfl .nil) (Xx (c:=[(M 133),(l.getD i 0),0]) rfl hrO rfl ZL (.there .here) (by decide) (by decide) rfl ((U7 rfl rfl rfl)) (by have e1:=QF (M 133) (M 134) (M 135) (l.take i); rw [List.length_take] at e1; omega) (fun v2 own2 n2 hr2=>Yp (v:=v2) rfl (Yb (YZ (Xc (Ye (Zr rfl rfl (Zi rfl (Yb (⟨l.length - (i+1),_,by omega,(List.Sublist.append (.refl _) (.cons _ (.refl _))),i+1,_,_,by omega,rfl,?_,rfl,rfl,rfl,rfl,rfl,rfl⟩))))))))))))))))
    rw [yC (l:=l) (i:=i) (by omega)]
    (rw [sI htb (by first | exact .inl (by assumption) | exact .inr (by assumption))]; exact hr2)
   ·refine Yg (Zd (Yp rfl (Yb (Yj (Xe (List.Sublist.append (.refl _) (.refl _)) (Xg (fun m f _ L=>∃ (j:Nat) (vP:V) (ownP:HA),(j≤4)∧(m = 4 - j)∧(Rw 3 (YV ((l.take i).flatMap (toM (M 133) (M 134) (M 135)))++UD (M 133) (l.getD i 0) j) vP ownP)∧(f 2 = .ptr Bs.length 0 136)∧(f 4 = vP)∧(f 6 = .s (.int .i64 (l.getD i 0)))∧(f 7 = .s (.int .i64 (2+(j:Int))))∧(f 8 = .sl b0 0 l.length 1 c0)∧(f 9 = .s (.int .i64 l.length))∧(f 10 = .s (.int .i64 i))∧(L = (ownP++[(Bs.length,.sc .var 136 (ia M)),(b0,.sc md0 q0 (ia F0))]))) (fun m f nb L hI=>?_) (4) (⟨0,vO,ownO,by omega,by omega,by rw [show UD (M 133) (l.getD i 0) 0 = [] from rfl,List.append_nil]; exact hrO,rfl,rfl,rfl,rfl,rfl,rfl,rfl,rfl⟩)))))))
    obtain ⟨j,vP,ownP,hj,hm2,hrP,k2,k4,k6,k7,k8,k9,k10,rfl⟩:=hI
    refine pH 2 k2 (pH 4 k4 (pH 6 k6 (pH 7 k7 (pH 8 k8 (pH 9 k9 (pH 10 k10 (Yd (Zd (Zi rfl (Zq rfl (Yb (Yi rfl (fun h4=>?_) (fun h4=>?_))))))))))))) <;> simp only [NM] at h4
    ·refine Yg (Yd (Yj (Ye (Yp (v:=vP) rfl (Yc (o':=133) rfl rfl rfl (Yl rfl rfl (List.mem_append_right _ ZL) rfl (Zi rfl (Zi rfl (YA rfl (.one rfl (.one rfl (.one rfl .nil))) (Wm rfl (.agg rfl .nil) (Xx (c:=[(M 133),(l.getD i 0),2+(j:Int)]) rfl hrP rfl ZL (.there .here) (by decide) (by decide) rfl ((U7 rfl rfl rfl)) (by have e1:=QF (M 133) (M 134) (M 135) (l.take i); rw [List.length_take] at e1; have e2:=TL (M 133) (l.getD i 0) j; rw [List.length_append]; omega) (fun v3 own3 n3 hr3=>Yp (v:=v3) rfl (Yb (Ye (Zi rfl (Zr rfl rfl (Zi rfl (Yb (⟨4 - (j+1),_,by omega,(List.Sublist.append (.refl _) (.cons _ (.refl _))),j+1,_,_,by omega,rfl,?_,rfl,rfl,rfl,by rw [show (2:Int)+((j+1:Nat):Int) = 2+(j:Int)+1 by omega]; rfl,rfl,rfl,rfl,rfl⟩)))))))))))))))))))
     rw [JM _ _ _ (by omega),← List.append_assoc]; exact hr3
    ·refine YZ (Xc (Ye (Zr rfl rfl (Zi rfl (Yb (⟨l.length - (i+1),_,by omega,(List.Sublist.append (.refl _) (.refl _)),i+1,_,_,by omega,rfl,?_,rfl,rfl,rfl,rfl,rfl,rfl⟩))))))
     rw [yC (l:=l) (i:=i) (by omega)]
     (rw [to_end htb (by assumption) (by assumption)]; obtain rfl:j = 4:=(by omega); exact hrP)
 ·refine YZ (Xc (Zd (Yp (v:=vO) rfl (Yp (v:=vO) rfl (Yb (Yh (⟨_,YK (v:=vO) rfl (YS),?_⟩)))))))
  obtain rfl:i = l.length:=by omega
  rw [List.take_length] at hrO
  exact ⟨_,_,hrO,.here,(fun _ h=>(.tail _ h))⟩
open Go Go.Am
theorem Jo:∀ {l:List Mv} {i:Nat},i < l.length→(YV l).getD (3*i) 0 = (l.getD i (0,0,0)).1∧(YV l).getD (3*i+1) 0 = (l.getD i (0,0,0)).2.1∧(YV l).getD (3*i+2) 0 = (l.getD i (0,0,0)).2.2
 | x::l,0,_=>⟨rfl,rfl,rfl⟩
 | x::l,i+1,h=>by
  have ih:=Jo (l:=l) (i:=i) (by simpa using h)
  have e:YV (x::l) = x.1::x.2.1::x.2.2::YV l:=rfl
  rw [e,show 3*(i+1) = 3*i+1+1+1 by omega]
  exact ih
theorem mvOf_is {F:Nat→Int} {l:List Mv} {m:Nat} (hl:(YV l).length = m*3) (hF:∀ i,i < (YV l).length→F i = (YV l).getD i 0):Vw (ia F) m = l:=by
 have hm:l.length = m:=by rw [Xm] at hl; omega
 unfold Vw
 refine List.ext_getElem (by simp [hm]) fun i h1 h2=>?_
 rw [List.getElem_map,List.getElem_range]
 obtain ⟨e1,e2,e3⟩:=Jo h2
 have hb:3*i+2 < (YV l).length:=by rw [Xm]; omega
 rw [← hF _ (by omega)] at e1 e2 e3
 have hg:l.getD i (0,0,0) = l[i]:=by rw [List.getD_eq_getElem?_getD,List.getElem?_eq_getElem h2]; rfl
 rw [hg] at e1 e2 e3
 show (F (3*i),F (3*i+1),F (3*i+2)) = _
 rw [e1,e2,e3]
theorem rX (l:List Mv) (hlen:l.length≤1000000):StR AM 93 3 [] [.fn 94 []] (YV l) (YV (Kk l)):=by
 have hp:=(UP l).length_eq
 refine ⟨by rw [Xm,Xm,hp],fun _=>⟨[],?_,trivial⟩,fun m q F hl hF=>⟨_,tK (F:=F),[_],?_,rfl,⟨_,_,_,rfl⟩,trivial⟩⟩
 ·rw [Qm (pf:=Ja 94) rfl _ _ rfl]; rfl
 ·rw [Qm (pf:=Ja 94) rfl _ _ rfl]
  have hm:l.length = m:=by rw [Xm] at hl; omega
  have hlt:Nat.blt m 4611686018427387904 = true:=Nat.ble_eq_true_of_le (by omega)
  show (bif Xi (m*3) (fun i=>Vy (ia F i)) && Nat.blt m 4611686018427387904 then some (V.tup [],[Blk.sc .grow q (TO (YV (Kk (Vw (ia F) m))) (ia F))]) else none) = _
  rw [allI,hlt,mvOf_is hl hF,kH]; rfl
theorem vo (P:Nat→Int):WR AM 90 [.agg 133 (ia P)] [] (fun v n L=>v = .fn 110 [.ptr 0 0 133]∧n = 1∧L = [(0,.sc .var 133 (ia P))]):=by
 refine YI (a:=a90) rfl rfl (YH _) (ZP rfl) (m:=0) rfl (Yd (Ye (YB rfl (Yp rfl (Yb (Yd (Ye (Qz rfl (Yp rfl (Yb ?_))))))))))
 exact Yh ⟨_,YK rfl YS,rfl,rfl,rfl⟩
def xe (M:Nat→Int):List Mv:=(Xy M (M 133) (M 134) (M 135)).flatMap (toM (M 133) (M 134) (M 135))
def Vp (g0 g4:Nat→S) (c:Nat):List V:=[.agg 133 g0,.ptr 1 0 133,.ptr 2 0 1,.undef,.agg 133 g4,.fn 110 [.ptr c 0 133],.undef,.undef,.undef,.undef,.undef,.undef,.undef,.undef,.undef,.undef]
section
variable (g0 g4 g1:Nat→S) (Q:Nat→Int)
noncomputable def KL (c st:Nat):Blk:=.lp 6 Jx (Vp g0 g4 c) st
theorem Ev (M:Nat→Int) (ha:0≤(ovA (fun _=>0) 0 136 M) 133∧(ovA (fun _=>0) 0 136 M) 133 < 64) (hc:(ovA (fun _=>0) 0 136 M) 135 = 0∨(ovA (fun _=>0) 0 136 M) 135 = 1) (hb:∀ t∈Xy (ovA (fun _=>0) 0 136 M) ((ovA (fun _=>0) 0 136 M) 133) ((ovA (fun _=>0) 0 136 M) 134) ((ovA (fun _=>0) 0 136 M) 135),0≤t∧t < 64) (hl:(Xy (ovA (fun _=>0) 0 136 M) ((ovA (fun _=>0) 0 136 M) 133) ((ovA (fun _=>0) 0 136 M) 134) ((ovA (fun _=>0) 0 136 M) 135)).length≤1000) :
  WR AM 6 [.pan .undef,.yv 0,.agg 136 (ia M)] [KL g0 g4 3 0,.sc .var 133 g1,.vs .var [.snil],.sc .var 133 (ia Q)] (fun v n L=>v = .s (.bool true)∧TK L [KL g0 g4 3 0,.sc .var 133 g1] [.sc .var 133 (ia Q)] (YV (xe (ovA (fun _=>0) 0 136 M)))):=by
 refine RC (N:=16) (B:=B68) (f:=YH ((Vp g0 g4 3).set 6 (.agg 136 (ia M)))) (caps:=Vp g0 g4 3) rfl rfl rfl (Ek rfl) rfl (Ye (Yx (Yy rfl rfl rfl rfl .here (Yb (⟨6,Jx,Vp g0 g4 3,rfl,?_⟩)))))
 refine Yj (Yf (UX (v:=.snil) rfl rfl ZO rfl (Yn rfl rfl ZL (Yn rfl rfl ZL (Ux rfl (zM (ovA (fun _=>0) 0 136 M) ha hc) rfl rfl (fun v1 own1 n1 hr1=>EV (caps:=[]) rfl (to_rt (ovA (fun _=>0) 0 136 M) hc _ hl hb) rfl hr1.rx (fun p hp=>List.mem_append_left _ hp) rfl rfl (fun v2 own2 n2 hr2=>?_)))))))
 have hroom:=QF ((ovA (fun _=>0) 0 136 M) 133) ((ovA (fun _=>0) 0 136 M) 134) ((ovA (fun _=>0) 0 136 M) 135) (Xy (ovA (fun _=>0) 0 136 M) ((ovA (fun _=>0) 0 136 M) 133) ((ovA (fun _=>0) 0 136 M) 134) ((ovA (fun _=>0) 0 136 M) 135))
 refine R9 rfl (Rw.nil rfl) rfl hr2.rx (fun p hp=>List.mem_append_left _ hp) (Dr.here (own:=[])) (by decide) (by rw [List.length_nil]; omega) (fun v3 own3 n3 hr3 hn3=>Ru (b:=2) (u:=.snil) (v:=v3) rfl rfl hr3.isrow (.appR _ (.appR _ (.appR _ (.appR _ (.there (.there (.there .here))))))) (Ub (L':=own3++[(0,.lp 6 Jx (Vp g0 g4 3) 1),(1,.sc .var 133 g1),(2,.vs .var [v3]),(3,.sc .var 133 (ia Q))]) (List.Sublist.append (.refl _) (List.sublist_append_of_sublist_right (List.sublist_append_of_sublist_right (List.sublist_append_of_sublist_right (.cons _ (.refl _)))))) (V7 List.perm_append_comm (Yb ⟨6,Jx,Vp g0 g4 3,rfl,rfl,?_⟩))))
 have h4:∀ p∈own3,4 < p.1:=fun p hp=>hn3 p hp (4,_) (List.mem_append_right _ (List.mem_append_right _ ZL))
 rw [List.nil_append] at hr3
 refine K0 hr3 ⟨.head _,.tail _ ZL,.tail _ ZM,.tail _ ZN,trivial⟩ (fun p hp=>⟨.tail _ (.tail _ (.tail _ (.tail _ ?_))),Nat.le_of_lt (h4 p hp)⟩)
 show p∈setL 0 _ own3
 rw [Kv (fun p hp=>by have:=h4 p hp; omega)]; exact hp
theorem Ed (M:Nat→Int) (ha:0≤(ovA (fun _=>0) 0 136 M) 133∧(ovA (fun _=>0) 0 136 M) 133 < 64) (hc:(ovA (fun _=>0) 0 136 M) 135 = 0∨(ovA (fun _=>0) 0 136 M) 135 = 1) (hb:∀ t∈Xy (ovA (fun _=>0) 0 136 M) ((ovA (fun _=>0) 0 136 M) 133) ((ovA (fun _=>0) 0 136 M) 134) ((ovA (fun _=>0) 0 136 M) 135),0≤t∧t < 64) (hl:(Xy (ovA (fun _=>0) 0 136 M) ((ovA (fun _=>0) 0 136 M) 133) ((ovA (fun _=>0) 0 136 M) 134) ((ovA (fun _=>0) 0 136 M) 135)).length≤1000) (l:List Int) (m q:Nat) (F:Nat→Int) (hlm:l.length = m*3) (hF:∀ i,i < l.length→F i = l.getD i 0) (hll:l.length≤1000000) :
  WR AM 6 [.pan .undef,.yv 0,.agg 136 (ia M)] [KL g0 g4 4 0,.sc .var 133 g1,Vf .var 3 m 3,.sc .grow q (ia F),.sc .var 133 (ia Q)] (fun v n L=>v = .s (.bool true)∧TK L [KL g0 g4 4 0,.sc .var 133 g1] [.dead,.sc .var 133 (ia Q)] (l++YV (xe (ovA (fun _=>0) 0 136 M)))):=by
 refine RC (N:=16) (B:=B68) (f:=YH ((Vp g0 g4 4).set 6 (.agg 136 (ia M)))) (caps:=Vp g0 g4 4) rfl rfl rfl (Ek rfl) rfl (Ye (Yx (Yy rfl rfl rfl rfl .here (Yb (⟨6,Jx,Vp g0 g4 4,rfl,?_⟩)))))
 refine Yj (Yf (UX (v:=.sl 3 0 m 3 .whole) rfl rfl ZO rfl (Yn rfl rfl ZL (Yn rfl rfl ZL (Ux rfl (zM (ovA (fun _=>0) 0 136 M) ha hc) rfl rfl (fun v1 own1 n1 hr1=>EV (caps:=[]) rfl (to_rt (ovA (fun _=>0) 0 136 M) hc _ hl hb) rfl hr1.rx (fun p hp=>List.mem_append_left _ hp) rfl rfl (fun v2 own2 n2 hr2=>?_)))))))
 have hroom:=QF ((ovA (fun _=>0) 0 136 M) 133) ((ovA (fun _=>0) 0 136 M) 134) ((ovA (fun _=>0) 0 136 M) 135) (Xy (ovA (fun _=>0) 0 136 M) ((ovA (fun _=>0) 0 136 M) 133) ((ovA (fun _=>0) 0 136 M) 134) ((ovA (fun _=>0) 0 136 M) 135))
 refine R9 rfl (Rw.row hlm hF) rfl hr2.rx (fun p hp=>List.mem_append_left _ hp) (.appR _ (.appR _ (.there (.there (.there (.there .here)))))) (by decide) (by omega) (fun v3 own3 n3 hr3 hn3=>Ru (b:=2) (u:=.sl 3 0 m 3 .whole) (v:=v3) rfl rfl hr3.isrow (.appR _ (.there (.appR _ (.appR _ (.appR _ (.there (.there (.there .here)))))))) (Ub (L':=own3++[(3,.dead),(0,.lp 6 Jx (Vp g0 g4 4) 1),(1,.sc .var 133 g1),(2,.vs .var [v3]),(4,.sc .var 133 (ia Q))]) (List.Sublist.append (.refl _) (.cons_cons _ (List.sublist_append_of_sublist_right (List.sublist_append_of_sublist_right (.cons _ (.refl _)))))) (V7 List.perm_append_comm (Yb ⟨6,Jx,Vp g0 g4 4,rfl,rfl,?_⟩))))
 have h4:∀ p∈own3,5 < p.1:=fun p hp=>hn3 p hp (5,_) (List.mem_append_right _ (List.mem_append_right _ ZL))
 refine K0 hr3 ⟨.tail _ ZL,.tail _ ZM,.tail _ ZN,.head _,.tail _ ZO,trivial⟩ (fun p hp=>⟨.tail _ (.tail _ (.tail _ (.tail _ (.tail _ ?_)))),Nat.le_of_lt (h4 p hp)⟩)
 show p∈setL 0 _ own3
 rw [Kv (fun p hp=>by have:=h4 p hp; omega)]; exact hp
end
end Go.Proofs.YtlkighkfkdpncaaGreat
namespace Go.Proofs.YtlkighkfkdpncaaGreat
open Go Go.Am Go.RowKit Go.Sort Go.Lib
theorem Df (x y:Mv):ltOf yL x y = decide (lt3 x y):=by
 obtain ⟨a,b,c⟩:=x
 obtain ⟨a',b',c'⟩:=y
 unfold ltOf yL or3M Lib.compareInt lt3
 refine decide_eq_decide.2 ?_
 dsimp only
 repeat' split
 all_goals omega
theorem swo3:SWO (ltOf yL) where
 irrefl x:=by rw [Df]; exact decide_eq_false fun h=>xi x x h h
 trans x y z h1 h2:=by
  rw [Df,decide_eq_true_eq] at *
  unfold lt3 at *; omega
 ntrans x y z h1 h2:=by
  rw [Df,decide_eq_false_iff_not] at *
  unfold lt3 at *; omega
theorem wc (l:List Mv) {i:Nat} (hi:i < l.length*3):(flatK TA 3 l.toArray)[i]! = .int .i64 ((YV l).getD i 0):=by
 rw [get_flatK _ _ _ _ (by simpa using hi)]
 have h:=Jo (l:=l) (i:=i / 3) (by omega)
 have hg:l.toArray[i / 3]! = l.getD (i / 3) (0,0,0):=by
  rw [List.getD_eq_getElem?_getD,List.getElem?_eq_getElem (by omega),getElem!_pos l.toArray (i / 3) (by simp; omega)]; simp
 rw [hg]
 have h3:i % 3 = 0∨i % 3 = 1∨i % 3 = 2:=by omega
 rcases h3 with e | e | e
 ·rw [e,show i = 3*(i / 3) by omega,show 3*(i / 3) / 3 = i / 3 by omega,h.1]; rfl
 ·rw [e,show i = 3*(i / 3)+1 by omega,show (3*(i / 3)+1) / 3 = i / 3 by omega,h.2.1]; rfl
 ·rw [e,show i = 3*(i / 3)+2 by omega,show (3*(i / 3)+2) / 3 = i / 3 by omega,h.2.2]; rfl
section
variable {σ σ':Heap} {args:List V} {v:V} {ι:Inj} {W:World} {av:List Value}
theorem srt3_ok [Bas] (h:Ja 94 args σ = some (v,σ')) (hR:RelW ι σ W) (hD:Dom ι σ) (hv:VRL ι args av) :
  Calls Tryz.prog 93 av.toArray W fun e W'=>∃ ι' v',e = .returned v'∧VR ι' v v'∧Post ι σ W ι' σ' W':=by
 have eg:∀ args w,(callFunc 94 args).run Tryz.prog w = .ok (.enter 94 args) w:=enters_of Tryz.func94 (by kernel_rfl) rfl
 unfold Ja at h
 split at h
 ·split at h
  ·injection h with h
   injection h with h1 h2
   subst h1; subst h2
   simp only [VRL,VR] at hv
   obtain ⟨_,_,rfl,rfl,_,_,rfl,⟨cs,rfl,rfl⟩,rfl⟩:=hv
   refine Calls.mono (sN _ W) ?_
   rintro e W' ⟨rfl,rfl⟩
   exact ⟨ι,_,rfl,⟨[],rfl,rfl⟩,(QPost.refl hR).post⟩
  ·cases h
 ·rename_i b m f
  split at h
  ·rename_i q g hb
   cases hcond:(decide (f = 94) && (Xi (m*3) (fun i=>Vy (g i)) && Nat.blt m 4611686018427387904)) with
   | false=>rw [hcond] at h; cases h
   | true =>
    rw [hcond,cond_true] at h
    injection h with h
    injection h with h1 h2
    subst h1; subst h2
    simp only [Bool.and_eq_true,decide_eq_true_eq] at hcond
    obtain ⟨rfl,hg,hm⟩:=hcond
    have hm:m < 4611686018427387904:=YE hm
    simp only [VRL,VR] at hv
    obtain ⟨_,_,rfl,⟨p,cap,hp,hle,rfl,hcap⟩,_,_,rfl,⟨cs,rfl,rfl⟩,rfl⟩:=hv
    have hB:=hR.blk b p _ hp hb
    have hlt:=hR.lt b p hp
    have hq:m*3≤q:=by have:=hB.1; omega
    have hml:(Vw g m).length = m:=by simp [Vw]
    have hnum:∀ i,i < m*3→(YV (Vw g m)).getD i 0 = Wc (g i):=fun i hi=>by
     have h:=Jo (l:=Vw g m) (i:=i / 3) (by omega)
     have hg:(Vw g m).getD (i / 3) (0,0,0) = (Wc (g (3*(i / 3))),Wc (g (3*(i / 3)+1)),Wc (g (3*(i / 3)+2))):=by
      unfold Vw
      rw [List.getD_eq_getElem?_getD,List.getElem?_map,List.getElem?_range (by omega)]; rfl
     rw [hg] at h
     have h3:i % 3 = 0∨i % 3 = 1∨i % 3 = 2:=by omega
     rcases h3 with e | e | e
     ·have e':i = 3*(i / 3):=by omega
      rw [e']; exact h.1
     ·have e':i = 3*(i / 3)+1:=by omega
      rw [e']; exact h.2.1
     ·have e':i = 3*(i / 3)+2:=by omega
      rw [e']; exact h.2.2
    have hH:HoldsK TA 3 W p.c (p.base+0) (Vw g m).toArray:=fun j hj=>by
     have hj:j < m*3:=by simpa [hml] using hj
     obtain ⟨c1,c2,c3⟩:=hB
     obtain ⟨hb0,hle',cs,T,hc,hs,hT⟩:=c3 rfl
     refine ⟨?_,Lib.frozen_of_heap hc _⟩
     rw [Nat.add_zero,c2 j (by omega),Eu (Jy hg j hj)]
     show some _ = some ((flatK TA 3 (Vw g m).toArray)[j]!)
     rw [wc _ (by rw [hml]; exact hj),hnum j hj]
    have hcon:=AnyQ.slices_SortFunc Tryz.laysSF 3 Tryz.isAgg49 Tryz.sizeOf49 TA (fun _=>rfl) (fun x v hv=>by simp [TA] at hv; rcases hv with rfl | rfl | rfl <;> rfl) yL swo3 94 #[] p.c (p.base+0) cap (Vw g m).toArray W eg (fun _ _ _ _ x y=>sv x y _) hH hlt (by simp [hml]; exact hm)
    rw [show (Vw g m).toArray.size = m by simp [hml]] at hcon
    refine Calls.mono hcon ?_
    rintro e W' ⟨rfl,d',n,os,hpm,hso,rfl⟩
    have hds:d'.size = m:=by have:=hpm.1; simpa [hml] using this
    have hperm:d'.toList.Perm (Vw g m):=by
     have:=hpm.2.2
     rw [show d'.extract 0 m = d' by rw [← hds]; simp,show (Vw g m).toArray.extract 0 m = (Vw g m).toArray from (by have h0:List.take m (Vw g m) = Vw g m:=List.take_of_length_le (by omega); simp [h0])] at this
     simpa using this
    have hsorted:d'.toList.Pairwise (fun x y=>¬ lt3 y x):=by
     rw [List.pairwise_iff_getElem]
     intro i j hi hj hij
     have:=hso i j (Nat.zero_le _) hij (by simpa [hds] using hj)
     rw [Df,decide_eq_false_iff_not,getElem!_pos d' i (by simpa using hi),getElem!_pos d' j (by simpa using hj)] at this
     simpa using this
    have hd:d'.toList = Kk (Vw g m):=gx hperm hsorted
    have hd2:d' = (Kk (Vw g m)).toArray:=by rw [← hd]
    have hsl:(Kk (Vw g m)).length = m:=by rw [(UP _).length_eq,hml]
    have hrp:=y7 hB id (flatK TA 3 d') (YV (Kk (Vw g m))) (by simp [hds,Xm,hsl]) (by rw [Xm,hsl]; exact hq) (fun i hi=>by
     rw [hd2]
     exact wc _ (by rw [Xm] at hi; exact hi)) n os hlt
    obtain ⟨r1,r2⟩:=hrp
    refine ⟨ι,_,rfl,⟨[],rfl,rfl⟩,?_⟩
    change Post _ _ _ _ _ (Sort.grow (Sort.putRow id (Sort.ahead W n) p.c p.base (flatK TA 3 d')) os)
    refine qT hR hp hb rfl ⟨rfl,rfl,rfl,?_⟩ r2 r1
    simp [Sort.grow,Sort.putRow,Sort.mapBlock,Sort.ahead]
  ·cases h
 ·cases h
end
end Go.Proofs.YtlkighkfkdpncaaGreat
set_option maxRecDepth 100000
namespace Go.Proofs.YtlkighkfkdpncaaGreat
open Go Go.Am Go.RowKit
theorem primsOK [Bas]:E2 Tryz.prog AM:=fun f pf hb args σ v σ' h=>by
 have hb:vm f = some pf:=hb
 unfold vm primL at hb
 simp only [vL] at hb
 cases h0:Nat.beq f 131 with
 | true =>
  rw [h0,cond_true] at hb; injection hb with hb; subst hb
  obtain rfl:=Nat.eq_of_beq_eq_true h0
  exact ⟨⟨_,Tryz.func131,by kernel_rfl,by decide⟩,fun ι W av hR hD hv=>srt_ok h hR hD hv⟩
 | false =>
 rw [h0,cond_false] at hb
 skip
 cases h0:Nat.beq f 93 with
 | true =>
  rw [h0,cond_true] at hb; injection hb with hb; subst hb
  obtain rfl:=Nat.eq_of_beq_eq_true h0
  exact ⟨⟨_,Tryz.func93,by kernel_rfl,by decide⟩,fun ι W av hR hD hv=>srt3_ok h hR hD hv⟩
 | false =>
 rw [h0,cond_false] at hb
 skip
 cases h0:Nat.beq f 113 with
 | true =>
  rw [h0,cond_true] at hb; injection hb with hb; subst hb
  obtain rfl:=Nat.eq_of_beq_eq_true h0
  exact ⟨⟨_,Tryz.func113,by kernel_rfl,by decide⟩,fun ι W av hR hD hv=>del_ok h hR hD hv⟩
 | false =>
 rw [h0,cond_false] at hb
 skip
 cases h0:Nat.beq f 126 with
 | true =>
  rw [h0,cond_true] at hb; injection hb with hb; subst hb
  obtain rfl:=Nat.eq_of_beq_eq_true h0
  exact ⟨⟨_,Tryz.func126,by kernel_rfl,by decide⟩,fun ι W av hR hD hv=>grw_ok h hR hD hv⟩
 | false =>
 rw [h0,cond_false] at hb
 cases hb
theorem runOK [Bas]:Wu Tryz.prog (Run AM):=run_ok fnsOK primsOK (by kernel_rfl) bodsOK
end Go.Proofs.YtlkighkfkdpncaaGreat
namespace Go.Am
open Go Go.RowKit Go.ChangeShapes Go.WideShapes
theorem TU {H:Type} {enc:TypeId × Value→H} {P:Program} (hl:laidOutB P = true) {W W':World} (hb:Below W.heap.size W W'):∀ {ts:List TypeId} {vs:List Value} {ds:List (DataW H)} {ps:List MemPlace},
  DataW.TrodAll enc P W 0 (fun _=>true) true ts vs ds ps→(ts.all fun t=>P.readableRec t && decide (t < P.types.size)) = true→(∀ x∈ps,x.block < W.heap.size) →
  DataW.TrodAll enc P W' 0 (fun b=>decide (b < W.heap.size)) true ts vs ds ps
 | [],[],[],ps,h,_,_=>h
 | t::ts,v::vs,d::ds,ps,h,hr,hlt=>by
  obtain ⟨p,q,h1,h2,rfl⟩:=h
  simp only [List.all_cons,Bool.and_eq_true,decide_eq_true_eq] at hr
  exact ⟨p,q,Below.trod hl hr.1.1 hr.1.2 h1 hb (fun x hx=>hlt x (List.mem_append.2 (.inl hx))),TU hl hb h2 hr.2 (fun x hx=>hlt x (List.mem_append.2 (.inr hx))),rfl⟩
 | [],[],_::_,_,h,_,_=>h.elim
 | [],_::_,_,_,h,_,_=>h.elim
 | _::_,[],_,_,h,_,_=>h.elim
 | _::_,_::_,[],_,h,_,_=>h.elim
def uR [Bas] (A:AP) (f:FuncId) (W:World) (args:Array Value):Prop :=
 ∃ ι σ av σ',RelW ι σ W∧Dom ι σ∧VRL ι av args.toList∧(∀ b,¬ mutb σ b)∧Run A f av σ = some (.s (.bool true),σ')
theorem jk [Bas] {H:Type} {enc:TypeId × Value→H} {P:Program} {A:AP} (hr:Wu P (Run A)) (hl:laidOutB P = true) {f:FuncId} {fn:Func} {s:ChangeSpec} {apart:Bool} {W:World} {args:Array Value} {ds gs:List (DataW H)} {before:List MemPlace} {tb:TypeId}
  (hW:DataW.Whole enc P fn.params.toList s.vars apart W args.toList ds gs before) (hv:s.vars = []) (hs:s.fn H ds = { results:=[.lit (.bool true)],args:=ds }) (hrt:fn.resultTypes = #[tb]) (htb:P.underlying tb = some .bool)
  (hts:(fn.params.toList.all fun t=>P.readableRec t && decide (t < P.types.size)) = true) (ho:uR A f W args) :
  Calls P f args W fun e W'=>∃ v,e = .returned v∧s.post enc P fn apart true false false W args v W':=by
 obtain ⟨ι,σ,av,σ',hR,hD,hvr,hro,hrun⟩:=ho
 have h:=ul hr hrun hR hD hvr hro
 rw [Array.toArray_toList] at h
 refine h.mono ?_
 rintro e W' ⟨rfl,hb⟩
 refine ⟨_,rfl,?_⟩
 have hlt:=hW.lt
 have hW':=hW
 obtain ⟨p,q,hA,hV,rfl,hfz,hnd⟩:=hW'
 rw [hv] at hV
 have hgs:gs = []∧q = []:=by
  cases gs with
  | nil=>exact ⟨rfl,hV⟩
  | cons _ _=>exact hV.elim
 obtain ⟨rfl,rfl⟩:=hgs
 rw [List.append_nil] at hlt
 refine ⟨ds,[],p++[],[],p,[],hW,?_,?_,?_,hb.frame _,fun h=>nomatch h⟩
 ·rw [List.append_nil,hs,hrt]
  exact trodAll_mk1 ⟨1,by simp [DataW.trod,Value.cells,htb]⟩
 ·rw [List.append_nil,hs]
  exact TU hl hb hA hts hlt
 ·rw [List.append_nil,hs,hv]
  rfl
theorem vrl1 {ι:Inj} {a:V} {v0:Value} (h0:VR ι a v0):VRL ι [a] (#[v0]:Array Value).toList:=by
 simp only [VRL]; exact ⟨_,_,rfl,h0,rfl⟩
def flatI (P:Program) (t:TypeId) (n:Nat):Bool :=
 match P.underlying t with
 | some (.struct _) | some (.array _ _)=>P.cellsOf t == n && (match P.cellTypes P.depth t with
  | some ts=>ts.all fun u=>match P.underlying u with
   | some (.int .i64)=>true
   | _=>false
  | none=>false)
 | _=>false
def wC (cs:Array Value) (n:Nat):Nat→Int:=fun i=>if i < n then (match cs[i]? with
 | some (.int _ x)=>x
 | _=>0) else 0
theorem i64_bd {x:Int} (h:IntKind.i64.has x):-9223372036854775808≤x∧x≤9223372036854775807:=h
theorem sw {P:Program} {W:World} {base:Nat} {t:TypeId} {v:Value} {n:Nat} (hf:flatI P t n = true) (h:Value.okWide P W .any base t v) :
  ∃ Q:Nat→Int,(∀ ι,VR ι (.agg n (ia Q)) v)∧(∀ i,-9223372036854775808≤Q i∧Q i≤9223372036854775807)∧∀ i,n≤i→Q i = 0:=by
 have key:P.cellsOf t = n→(∃ ts,P.cellTypes P.depth t = some ts∧(ts.all fun u=>match P.underlying u with
   | some (.int .i64)=>true
   | _=>false) = true)→(∃ cs,v = .agg cs∧cs.size = P.cellsOf t∧Row.okWide P W .any base t cs)→∃ Q:Nat→Int,(∀ ι,VR ι (.agg n (ia Q)) v)∧(∀ i,-9223372036854775808≤Q i∧Q i≤9223372036854775807)∧∀ i,n≤i→Q i = 0:=by
  rintro hn ⟨ts,hts,hall⟩ ⟨cs,rfl,hsz,ts',hts',_,hcell⟩
  rw [hts] at hts'
  injection hts' with hts'
  subst hts'
  have each:∀ i,i < n→∃ x,cs[i]? = some (.int .i64 x)∧IntKind.i64.has x:=by
   intro i hi
   have hlt:i < cs.size:=by omega
   obtain ⟨u,hu,hok⟩:=hcell i cs[i] (Array.getElem?_eq_getElem hlt)
   have hm:=List.mem_of_getElem? hu
   have hq:=List.all_eq_true.1 hall u hm
   split at hq
   ·rename_i hk
    simp only [Cell.okWide,hk,Cell.ok] at hok
    rw [Array.getElem?_eq_getElem hlt]
    cases hv:cs[i] with
    | int k x =>
     rw [hv] at hok
     simp only at hok
     obtain ⟨rfl,hh⟩:=hok
     exact ⟨x,rfl,hh⟩
    | _=>rw [hv] at hok; simp at hok
   ·simp at hq
  refine ⟨wC cs n,fun ι=>?_,fun i=>?_,fun i hi=>if_neg (by omega)⟩
  ·simp only [VR]
   refine ⟨cs,rfl,by omega,fun i hi=>?_⟩
   obtain ⟨x,hx,_⟩:=each i hi
   rw [hx]
   show some _ = some (Value.int .i64 (wC cs n i))
   simp [wC,hi,hx]
  ·unfold wC
   split
   ·rename_i hi
    obtain ⟨x,hx,hh⟩:=each i hi
    rw [hx]
    exact i64_bd hh
   ·omega
 unfold flatI at hf
 split at hf
 ·rename_i fs hu
  simp only [Bool.and_eq_true,beq_iff_eq] at hf
  refine key hf.1 ?_ ?_
  ·cases hc:P.cellTypes P.depth t with
   | none=>rw [hc] at hf; simp at hf
   | some ts=>rw [hc] at hf; exact ⟨ts,rfl,hf.2⟩
  ·simpa [Value.okWide,hu] using h
 ·rename_i m e hu
  simp only [Bool.and_eq_true,beq_iff_eq] at hf
  refine key hf.1 ?_ ?_
  ·cases hc:P.cellTypes P.depth t with
   | none=>rw [hc] at hf; simp at hf
   | some ts=>rw [hc] at hf; exact ⟨ts,rfl,hf.2⟩
  ·simpa [Value.okWide,hu] using h
 ·simp at hf
def JF:Inj:=fun _=>none
theorem pk (W:World):@RelW ⟨W⟩ JF [] W:=@RelW.mk ⟨W⟩ _ _ _ (fun _ _ h=>by simp [JF] at h) (fun _ _ _ h=>by simp [JF] at h) (fun _ _ _ _ h=>by simp [JF] at h) (fun _ _ h=>by simp [JF] at h) (Nat.le_refl _) (fun _ _=>rfl)
theorem po:Dom JF []:=fun _ _ h=>by simp [JF] at h
theorem ro_none:∀ b,¬ mutb [] b:=fun b ⟨x,hx,_⟩=>by simp at hx
end Go.Am
namespace Go.Am
open Go Go.RowKit Go.ChangeShapes Go.WideShapes
def intOfV:Option Value→Int
 | some (.int _ x)=>x
 | _=>0
end Go.Am
namespace Go.Proofs.YtlkighkfkdpncaaGreat
open Go Go.Am
theorem zp {P Q:Nat→Int} (h:∀ i,i < 133→Q i = P i) {s:Int} (hs:0≤s∧s < 64):Wb Q s = Wb P s:=by
 unfold Wb
 rw [if_pos hs,if_pos hs,Ec h hs]
theorem Ud {P Q:Nat→Int} (h:∀ i,i < 133→Q i = P i) (t:Int):YL Q t = YL P t:=by
 unfold YL
 cases ht:isM t with
 | false=>rfl
 | true =>
  have:0≤t∧t < 64:=by simpa [isM] using ht
  rw [KU h this]
theorem wi {P Q:Nat→Int} (h:∀ i,i < 133→Q i = P i) {t:Int} (ht:0≤t∧t < 64):XZ Q t = XZ P t:=by
 have hq:sqI t = 0+t.toNat*2:=rfl
 exact h _ (by omega)
theorem xp {P Q:Nat→Int} (h:∀ i,i < 133→Q i = P i) {c t:Int} (ht:0≤t∧t < 64):Vj Q c t = Vj P c t:=by
 have hq:sqI t = 0+t.toNat*2:=rfl
 unfold Vj
 rw [h (sqI t) (by omega),h (sqI t+1) (by omega)]
theorem vw {P Q:Nat→Int} (h:∀ i,i < 133→Q i = P i) {s c:Int} (hs:0≤s∧s < 64):US Q s c = US P s c:=by
 rw [KB,KB,zp h hs,Ud h,Ud h]
 refine congrArg _ (Ko fun t ht=>?_)
 have hb:=Qo ht
 unfold XT
 rw [KU h hb,wi h hb,Ud h,h 130 (by omega)]
theorem yK {P Q:Nat→Int} (h:∀ i,i < 133→Q i = P i) {s k c:Int} (hc:c = 0∨c = 1):XC Q s k c = XC P s k c:=by
 unfold XC
 rw [h 129 (by omega)]
 split
 ·rfl
 ·rename_i hn
  have hs:0≤s - 4∧s+3 < 64:=by omega
  rw [Ud h,Ud h,Ud h,Ud h,Ud h,xp h (t:=s+3) (by omega),xp h (t:=s - 4) (by omega)]
theorem qu {P Q:Nat→Int} (h:∀ i,i < 133→Q i = P i) {s k c:Int} (hs:0≤s∧s < 64) (hc:c = 0∨c = 1):Xy Q s k c = Xy P s k c:=by
 unfold Xy
 rw [vw h hs,zp h hs,yK h hc]
 refine congrArg (fun l=>if k = 1 then US P s c else l++XC P s k c) (Ko fun t ht=>?_)
 have hb:=Qo ht
 unfold Vs
 rw [KU h hb,wi h hb]
theorem R6 {P:Nat→Int} {t:Int} (h:YL P t = true):0≤t∧t < 64:=by
 unfold YL isM at h
 rw [Bool.and_eq_true,decide_eq_true_eq] at h
 exact h.1
theorem yn {p:Prop} [Decidable p] {x y:Int} (h:y∈if p then [x] else []):p∧y = x:=by
 split at h
 ·exact ⟨by assumption,by simpa using h⟩
 ·cases h
theorem QL {P:Nat→Int} {s k c t:Int} (h:t∈Xy P s k c):0≤t∧t < 64:=by
 unfold Xy at h
 split at h
 ·rw [KB] at h
  rcases List.mem_append.1 h with h | h
  ·rcases List.mem_append.1 h with h | h
   ·obtain ⟨h1,rfl⟩:=yn h; exact R6 h1
   ·obtain ⟨h1,rfl⟩:=yn h; exact R6 h1.2.2
  ·exact Qo ((List.mem_filter.1 h).1)
 ·rcases List.mem_append.1 h with h | h
  ·exact Qo ((List.mem_filter.1 h).1)
  ·unfold XC at h
   split at h
   ·cases h
   ·rcases List.mem_append.1 h with h | h
    ·obtain ⟨h1,rfl⟩:=yn h; exact R6 h1.2.2.2
    ·obtain ⟨h1,rfl⟩:=yn h; exact R6 h1.2.2.2.1
theorem Qa (P:Nat→Int) (s k c:Int):(Xy P s k c).length≤66:=by
 unfold Xy
 have h0:=Ku P s
 split
 ·rw [KB,List.length_append,List.length_append]
  have h1:=Us (p:=YL P (YN s 0 (1 - 2*c)) = true) (YN s 0 (1 - 2*c))
  have h2:=Us (p:=X6 s = 1+5*c∧YL P (YN s 0 (1 - 2*c)) = true∧YL P (YN s 0 (2*(1 - 2*c))) = true) (YN s 0 (2*(1 - 2*c)))
  have h3:=List.length_filter_le (XT P c) (Wb P s)
  omega
 ·rw [List.length_append]
  have h1:=TV P s k c
  have h2:=List.length_filter_le (fun t=>!Vs P c t) (Wb P s)
  omega
theorem up {P D:Nat→Int} {i:Int} (hi:0≤i∧i < 64) (h:∀ j,j < 133→D j = P j) (h1:D 133 = i) (h2:D 134 = P (sqI i)) (h3:D 135 = P (sqI i+1)) (hc:P (sqI i+1) = 0∨P (sqI i+1) = 1):xe D = VM P i:=by
 unfold xe VM
 rw [h1,h2,h3,qu h hi hc]
theorem vK (P:Nat→Int) (i:Int):(VM P i).length≤264:=by
 have h1:=Qa P i (P (sqI i)) (P (sqI i+1))
 have h2:=qC i (P (sqI i)) (P (sqI i+1)) (Xy P i (P (sqI i)) (P (sqI i+1)))
 unfold VM; omega
theorem EB {P:Nat→Int} {i:Nat}:UG P (i+1) = UG P i++if We P i = true then VM P i else []:=by
 unfold UG X4
 rw [List.range_succ,List.map_append,List.flatMap_append]
 simp
theorem RU (P:Nat→Int):∀ i:Nat,(UG P i).length≤i*264
 | 0=>Nat.zero_le _
 | i+1=>by
  have h1:=RU P i
  have h2:(if We P i = true then VM P i else []).length≤264:=by
   split
   ·exact vK P i
   ·exact Nat.zero_le _
  rw [EB,List.length_append]; omega
theorem Dl (P:Nat→Int) {i:Nat} (hi:i≤64):(YV (UG P i)).length≤60000:=by
 have:=RU P i
 rw [Xm]; omega
def VY (P:Nat→Int) (i:Nat):Nat→Int:=ovA (ov (ovA (fun _=>0) 0 133 P) 133 (i:Int)) 134 2 (ovA (fun _=>0) 0 2 (fun j=>P ((i:Int).toNat*2+j)))
theorem x8 (P:Nat→Int) (i:Nat):(∀ j,j < 133→ovA (fun _=>0) 0 136 (VY P i) j = P j)∧ovA (fun _=>0) 0 136 (VY P i) 133 = i∧ovA (fun _=>0) 0 136 (VY P i) 134 = P (sqI i)∧ovA (fun _=>0) 0 136 (VY P i) 135 = P (sqI i+1):=by
 have hq:sqI (i:Int) = 0+(i:Int).toNat*2:=rfl
 refine ⟨fun j hj=>?_,rfl,?_,?_⟩
 ·rw [XR (by omega),Nat.sub_zero]
  unfold VY
  rw [WA (by omega),WF (by omega),XR (by omega),Nat.sub_zero]
 ·show P ((i:Int).toNat*2) = _
  exact congrArg P (by omega)
 ·show P ((i:Int).toNat*2+1) = _
  exact congrArg P (by omega)
theorem xZ {P:Nat→Int} {i:Nat} (h1:1≤P (sqI i)) (h2:P (sqI i)≤6) (h3:P (sqI i+1) = 0∨P (sqI i+1) = 1) (h4:P (sqI i+1) = P 128):We P i = true:=by
 unfold We YU
 rw [Bool.and_eq_true,decide_eq_true_eq,decide_eq_true_eq]; omega
theorem Jp {P:Nat→Int} {i:Nat} (h:¬ (1≤P (sqI i)∧P (sqI i)≤6∧(P (sqI i+1) = 0∨P (sqI i+1) = 1)∧P (sqI i+1) = P 128)):We P i = false:=by
 unfold We YU
 rw [Bool.and_eq_false_iff,decide_eq_false_iff_not,decide_eq_false_iff_not]; omega
theorem j0 {P:Nat→Int} {i:Nat} {D:Nat→Int} (h:We P i = true) (hD:xe D = VM P i):YV (UG P i)++YV (xe D) = YV (UG P (i+1)):=by
 rw [EB,if_pos h,QA,hD]
theorem Rl {P:Nat→Int} {i:Nat} (h:We P i = false):YV (UG P (i+1)) = YV (UG P i):=by
 rw [EB,if_neg (by rw [h]; decide),List.append_nil]
theorem rJ (g0 g4 g1:Nat→S) (P:Nat→Int):WR AM 110 [.yv 0,.ptr 3 0 133] [(KL g0 g4 3 0),.sc .var 133 g1,.vs .var [.snil],.sc .var 133 (ia P)] (fun v _ L=>v = .tup []∧TK L [(KL g0 g4 3 0),.sc .var 133 g1] [.sc .var 133 (ia P)] (YV (UG P 64))):=by
 refine YI (a:=a110) rfl rfl (YH _) (ZP rfl) (m:=4) rfl (Zd (Zx rfl (Yn rfl rfl ZO (Yp rfl (Yb (Yj (Xe (.refl _) (Xg (fun m f _ L=>∃ (i:Nat) (vO:V) (ownO:HA),(i≤64)∧(m = 64 - i)∧(∀ p∈ownO,4≤p.1)∧(Rw 3 (YV (UG P i)) vO ownO)∧(f 0 = .yv 0)∧(f 1 = .ptr 3 0 133)∧(f 7 = .agg 128 (ia P))∧(f 8 = .s (.int .i64 i))∧(L = (ownO++[(0,(KL g0 g4 3 0)),(1,.sc .var 133 g1),(2,.vs .var [vO]),(3,.sc .var 133 (ia P))]))) (fun m f nb L hI=>?_) (64) (⟨0,.snil,[],by omega,by omega,(fun p (hp:p∈([]:HA))=>(by cases hp)),Rw.nil rfl,rfl,rfl,rfl,rfl,rfl⟩)))))))))
 obtain ⟨i,vO,ownO,hi,hm,hgO,hrO,k0,k1,k7,k8,rfl⟩:=hI
 refine pH 0 k0 (pH 1 k1 (pH 7 k7 (pH 8 k8 (Zd (Zq rfl (Yb (Yd (Yi rfl (fun h1=>?_) (fun h1=>?_))))))))) <;> simp only [NM] at h1
 ·refine Yg (Yd (Yj (Zd (Zi rfl (zq rfl rfl rfl (by omega) (Yx (Zi rfl (Yy rfl rfl rfl rfl .here (Ze (Zx rfl (Yl (x:=P (sqI i)) rfl rfl ZL (show P ((i:Int).toNat*2) = _ from congrArg P (by have hq:sqI (i:Int) = 0+(i:Int).toNat*2:=rfl; omega)) (Zq rfl (Zj rfl (Yr (t:=15) rfl (fun h2=>?_) (fun h2=>?_))))))))))))))) <;> simp only [NM] at h2
  ·refine Ya rfl (Zx rfl (Ya rfl (Yl (x:=P (sqI i)) rfl rfl ZL (show P ((i:Int).toNat*2) = _ from congrArg P (by have hq:sqI (i:Int) = 0+(i:Int).toNat*2:=rfl; omega)) (Ya rfl (Zq rfl (Zo rfl (Zj rfl (Yr (t:=20) rfl (fun h3=>?_) (fun h3=>?_))))))))) <;> simp only [NM] at h3
   ·refine Ya rfl (Zy rfl (Ya rfl (Yl (x:=P (sqI i+1)) rfl rfl ZL (show P ((i:Int).toNat*2+1) = _ from congrArg P (by have hq:sqI (i:Int) = 0+(i:Int).toNat*2:=rfl; omega)) (Ya rfl (Zq rfl (Ya rfl (Zj rfl (Yr (t:=24) rfl (fun h4=>?_) (fun h4=>?_))))))))) <;> simp only [NM] at h4
    ·refine ZC rfl (ZB rfl (Ya rfl (Zo rfl (Zo rfl (Zj rfl (Yb (Yd (K5 (Ki (l1:=[_,_,_,_,_,_,_,_,_,_,_,_,_,_]) (l2:=[_,_,_]) (Zj rfl (Zj rfl (Ya rfl (Zy rfl (Ya rfl (Yl (x:=P (sqI i+1)) rfl rfl ZL (show P ((i:Int).toNat*2+1) = _ from congrArg P (by have hq:sqI (i:Int) = 0+(i:Int).toNat*2:=rfl; omega)) (Ya rfl (Yc (o':=128) rfl rfl rfl (Ya rfl (Yl rfl rfl (.tail _ (List.mem_append_right _ ZO)) rfl (Ya rfl (Zq rfl (Zo rfl (Zj rfl (Yr (t:=38) rfl (fun h5=>?_) (fun h5=>?_))))))))))))))))))))))))) <;> simp only [NM] at h5
     ·refine Ya rfl (Yp (v:=.yv _) rfl (Ya rfl (Yn rfl rfl (.tail _ (List.mem_append_right _ ZO)) (Ya rfl (Zi rfl (Ya rfl (Yn rfl rfl ZL (Ya rfl (YA (Q:=VY P i) rfl (.agg rfl (.one rfl (.agg rfl .nil))) (Yb (Qn (.cons _ (List.Sublist.append (.refl _) (.refl _))) (Eo rfl ?_))))))))))))
      obtain ⟨x0,x1,x2,x3⟩:=x8 P i
      have hx4:P (sqI i+1) = 0∨P (sqI i+1) = 1:=by omega
      have hmv:=up (P:=P) (i:=i) (by omega) x0 x1 x2 x3 hx4
      have hll:=Dl P (i:=i) (by omega)
      refine To (caps:=Vp g0 g4) (xa:=[.agg 136 (ia (VY P i))]) (L0:=[]) rfl (fun _=>rfl) rfl rfl (fun _ _ _=>rfl) (YE rfl) (YE rfl) rfl rfl hrO (.refl _) (fun e=>by have h:=Ev g0 g4 g1 P (VY P i) (by omega) (by omega) (fun t ht=>QL ht) (Nat.le_trans (Qa _ _ _ _) (YE rfl)); rw [e]; exact h) (fun m q F h1 h2=>Ed g0 g4 g1 P (VY P i) (by omega) (by omega) (fun t ht=>QL ht) (Nat.le_trans (Qa _ _ _ _) (YE rfl)) _ m q F h1 h2 (by omega)) (fun v1 own1 n1 hr1 hge1=>WY ?_)
      rw [j0 (xZ (by assumption) (by assumption) hx4 (by assumption)) hmv] at hr1
      refine Ya rfl (Yu (r:=.bool _) rfl rfl (Zo rfl (Yb (ZA rfl (Yg (Ye (Zr rfl rfl (Zi rfl (Yb (⟨64 - (i+1),_,by omega,(List.Sublist.append (.refl _) (.refl _)),i+1,_,_,by omega,rfl,hge1,?_,rfl,rfl,rfl,rfl,rfl⟩))))))))))
      exact hr1
     ·refine ZD rfl (ZB rfl (Yb (WY (ZC rfl (Zo rfl (Yb (ZA rfl (Yg (Ye (Zr rfl rfl (Zi rfl (Yb (⟨64 - (i+1),_,by omega,(.cons _ (List.Sublist.append (.refl _) (.refl _))),i+1,_,_,by omega,rfl,hgO,?_,rfl,rfl,rfl,rfl,rfl⟩)))))))))))))
      (rw [Rl (Jp (by omega))]; exact hrO)
    ·refine Ya rfl (Zy rfl (Ya rfl (Yl (x:=P (sqI i+1)) rfl rfl ZL (show P ((i:Int).toNat*2+1) = _ from congrArg P (by have hq:sqI (i:Int) = 0+(i:Int).toNat*2:=rfl; omega)) (Ya rfl (Zq rfl (Ya rfl (Zo rfl (Zo rfl (Zj rfl (Yb (Yd (K5 (Ki (l1:=[_,_,_,_,_,_,_,_,_,_,_,_,_,_]) (l2:=[_,_,_]) (Zj rfl (Zj rfl (Yr (t:=31) rfl (fun h6=>?_) (fun h6=>?_))))))))))))))))) <;> simp only [NM] at h6
     ·refine Ya rfl (Zy rfl (Ya rfl (Yl (x:=P (sqI i+1)) rfl rfl ZL (show P ((i:Int).toNat*2+1) = _ from congrArg P (by have hq:sqI (i:Int) = 0+(i:Int).toNat*2:=rfl; omega)) (Ya rfl (Yc (o':=128) rfl rfl rfl (Ya rfl (Yl rfl rfl (.tail _ (List.mem_append_right _ ZO)) rfl (Ya rfl (Zq rfl (Zo rfl (Zj rfl (Yr (t:=38) rfl (fun h7=>?_) (fun h7=>?_))))))))))))) <;> simp only [NM] at h7
      ·refine Ya rfl (Yp (v:=.yv _) rfl (Ya rfl (Yn rfl rfl (.tail _ (List.mem_append_right _ ZO)) (Ya rfl (Zi rfl (Ya rfl (Yn rfl rfl ZL (Ya rfl (YA (Q:=VY P i) rfl (.agg rfl (.one rfl (.agg rfl .nil))) (Yb (Qn (.cons _ (List.Sublist.append (.refl _) (.refl _))) (Eo rfl ?_))))))))))))
       obtain ⟨x0,x1,x2,x3⟩:=x8 P i
       have hx4:P (sqI i+1) = 0∨P (sqI i+1) = 1:=by omega
       have hmv:=up (P:=P) (i:=i) (by omega) x0 x1 x2 x3 hx4
       have hll:=Dl P (i:=i) (by omega)
       refine To (caps:=Vp g0 g4) (xa:=[.agg 136 (ia (VY P i))]) (L0:=[]) rfl (fun _=>rfl) rfl rfl (fun _ _ _=>rfl) (YE rfl) (YE rfl) rfl rfl hrO (.refl _) (fun e=>by have h:=Ev g0 g4 g1 P (VY P i) (by omega) (by omega) (fun t ht=>QL ht) (Nat.le_trans (Qa _ _ _ _) (YE rfl)); rw [e]; exact h) (fun m q F h1 h2=>Ed g0 g4 g1 P (VY P i) (by omega) (by omega) (fun t ht=>QL ht) (Nat.le_trans (Qa _ _ _ _) (YE rfl)) _ m q F h1 h2 (by omega)) (fun v2 own2 n2 hr2 hge2=>WY ?_)
       rw [j0 (xZ (by assumption) (by assumption) hx4 (by assumption)) hmv] at hr2
       refine Ya rfl (Yu (r:=.bool _) rfl rfl (Zo rfl (Yb (ZA rfl (Yg (Ye (Zr rfl rfl (Zi rfl (Yb (⟨64 - (i+1),_,by omega,(List.Sublist.append (.refl _) (.refl _)),i+1,_,_,by omega,rfl,hge2,?_,rfl,rfl,rfl,rfl,rfl⟩))))))))))
       exact hr2
      ·refine ZD rfl (ZB rfl (Yb (WY (ZC rfl (Zo rfl (Yb (ZA rfl (Yg (Ye (Zr rfl rfl (Zi rfl (Yb (⟨64 - (i+1),_,by omega,(.cons _ (List.Sublist.append (.refl _) (.refl _))),i+1,_,_,by omega,rfl,hgO,?_,rfl,rfl,rfl,rfl,rfl⟩)))))))))))))
       (rw [Rl (Jp (by omega))]; exact hrO)
     ·refine ZD rfl (ZB rfl (Zo rfl (Zj rfl (ZD rfl (ZB rfl (Yb (WY (ZC rfl (Zo rfl (Yb (ZA rfl (Yg (Ye (Zr rfl rfl (Zi rfl (Yb (⟨64 - (i+1),_,by omega,(.cons _ (List.Sublist.append (.refl _) (.refl _))),i+1,_,_,by omega,rfl,hgO,?_,rfl,rfl,rfl,rfl,rfl⟩)))))))))))))))))
      (rw [Rl (Jp (by omega))]; exact hrO)
   ·refine ZD rfl (YG rfl (YG rfl (YG rfl (ZB rfl (Zo rfl (Zj rfl (Yb (Yd (K5 (Ki (l1:=[_,_,_,_,_,_,_,_,_,_,_,_,_,_]) (l2:=[_,_,_]) (Zj rfl (Zj rfl (ZD rfl (ZB rfl (Zo rfl (Zj rfl (ZD rfl (ZB rfl (Yb (WY (ZC rfl (Zo rfl (Yb (ZA rfl (Yg (Ye (Zr rfl rfl (Zi rfl (Yb ?_)))))))))))))))))))))))))))))
    refine ⟨64 - (i+1),_,by omega,(.cons _ (List.Sublist.append (.refl _) (.refl _))),i+1,_,_,by omega,rfl,hgO,?_,rfl,rfl,rfl,rfl,rfl⟩
    (rw [Rl (Jp (by omega))]; exact hrO)
  ·refine ZC rfl (ZB rfl (Zo rfl (Zj rfl (ZD rfl (YG rfl (YG rfl (YG rfl (ZB rfl (Zo rfl (Zj rfl (Yb (Yd (K5 (Ki (l1:=[_,_,_,_,_,_,_,_,_,_,_,_,_,_]) (l2:=[_,_,_]) (Zj rfl (Zj rfl (ZD rfl (ZB rfl (Zo rfl (Zj rfl (ZD rfl (ZB rfl (Yb (WY (ZC rfl (Zo rfl (Yb (ZA rfl (Yg ?_)))))))))))))))))))))))))))))
   refine Ye (Zr rfl rfl (Zi rfl (Yb (⟨64 - (i+1),_,by omega,(.cons _ (List.Sublist.append (.refl _) (.refl _))),i+1,_,_,by omega,rfl,hgO,?_,rfl,rfl,rfl,rfl,rfl⟩))))
   (rw [Rl (Jp (by omega))]; exact hrO)
 ·refine YZ (Xc (⟨_,YS,?_⟩))
  obtain rfl:i = 64:=by omega
  exact ⟨rfl,K0 hrO ⟨(List.mem_append_right _ ZL),(List.mem_append_right _ ZM),(List.mem_append_right _ ZN),(List.mem_append_right _ ZO),trivial⟩ (fun p hp=>⟨List.mem_append_left _ hp,hgO p hp⟩)⟩
open Go Go.Am
theorem ZaC (P:Nat→Int):RtR AM 68 3 [.agg 133 (ia P)] [] (YV (Td P)) []:=by
 refine W7 (uh (a:=a68) rfl rfl (YH _) (ZP rfl) (m:=0) (c0:=2) rfl rfl (Yd (Ye (YB rfl (Kw (z:=.one .snil) rfl (Yb (Yd (Yd (Ye (Yn rfl rfl ZM (w5 (fv:=.fn 90 []) (rs:=[]) (vs:=[.agg 133 (ia P)]) (Bs:=[]) rfl rfl rfl rfl (U0 (vo P) ?_))))))))))))
 rintro v9 n9 L9 ⟨rfl,rfl,rfl⟩
 refine ⟨.fn 110 [.ptr 2 0 133],[],[.sc .var 133 (ia P)],rfl,?_⟩
 refine Yb (Yj ?_)
 have fin:∀ (f:FE) (n:Nat) (v:V) (own:HA),f 2 = .ptr 1 0 1→Rw 3 (YV (UG P 64)) v own→WP AM a68.nt (.seq (.ops [ZY 13 false 1 2,ZT 14 (.h (.call (.k (.fn 93 [])) [(.t 13),(.k (.fn 94 []))]))]) (.seq (.ops [ZY 15 false 1 2,Z0 1 2 15]) .ret)) f n (own++[(1,.vs .var [v])])
   (fun _ _ _=>False) (fun _ _ _ _=>False) (fun f n L=>∃ b md v,rd a68.nt f 2 = .ptr b 0 1∧(b,Blk.vs md [v])∈L∧∃ own,Rw 3 (YV (Td P)) v own∧∀ p∈own,p∈L) (fun _ _ _ _=>False):=fun f n v own h2 hr=>by
  refine pH 2 h2 (Yd (Ye (UX (v:=v) rfl rfl (List.mem_append_right _ ZL) rfl (wg (caps:=[]) rfl (rX (UG P 64) (Nat.le_trans (RU P 64) (YE rfl))) rfl hr .here rfl rfl (fun own2 hr2=>Yb (Yd (Ye (UX (v:=v) rfl rfl (List.mem_append_right _ ZL) rfl (Ru (b:=1) (u:=v) (v:=v) rfl rfl hr2.isrow (.appR _ .here) ?_)))))))))
  exact Yb (Yh ⟨1,.var,v,rfl,List.mem_append_right _ ZL,own2,hr2,fun p hp=>List.mem_append_left _ hp⟩)
 refine yI (Lr:=[(0,_),(1,_),(2,_)]) (L0:=[]) (vs:=[.yv 0,.ptr 3 0 133]) (Bs:=[KL (ia P) (ia P) 3 0,.sc .var 133 (ia P),.vs .var [.snil],.sc .var 133 (ia P)]) (List.reverse_perm [_,_,_]) rfl rfl rfl rfl rfl (U0 (rJ (ia P) (ia P) (ia P) P) ?_)
 rintro r n1 L1 ⟨rfl,ho⟩
 rcases ho with ⟨e1,e2⟩ | ⟨b,m,q,F,e1,e2,e3,e4,e5⟩
 ·refine .inl ⟨_,.tup [],_,e2,rfl,rfl,rfl,rfl,6,Jx,_,0,_,.refl _,?_⟩
  refine Xe (.cons _ (.cons_cons _ (.cons _ .slnil))) ?_
  exact fin _ _ .snil [] rfl (.nil e1)
 ·refine .inr ⟨[KL (ia P) (ia P) 3 0,.sc .var 133 (ia P)],[.sc .var 133 (ia P)],b,m,3,q,.var,.grow,ia F,.tup [],_,_,e3,rfl,e1,e2,rfl,rfl,rfl,rfl,rfl,(YE rfl),6,Jx,_,0,_,.swap _ _ _,?_⟩
  refine Xe (.cons_cons _ (.cons _ (.cons_cons _ (.cons _ .slnil)))) ?_
  exact fin _ _ _ [(_,_)] rfl (.row e4 e5)
open Go Go.Am
theorem xE {md:Md} (H:Nat→Int) (ha:0≤H 133∧H 133 < 64) (ht:0≤H 134∧H 134 < 64):WR AM 144 [.ptr 0 0 138] [.sc md 138 (ia H)] (fun v _ L=>v = .s (.int .i64 (H 134 % 8 - H 133 % 8))∧(0,Blk.sc md 138 (ia H))∈L):=by
 refine YI (a:=a144) rfl rfl (YH _) (ZP rfl) (m:=1) rfl (Zd (Yp rfl (Yb (Yd (Yf (Zk rfl (YR rfl (Yc (o':=133) rfl rfl rfl (Yc (o':=134) rfl rfl rfl (Yl rfl rfl ZL rfl (Yt rfl (xc (by omega)) rfl rfl rfl (Zk rfl (YR rfl (Yc (o':=133) rfl rfl rfl (Yc (o':=133) rfl rfl rfl (Yl rfl rfl ZL rfl (Ys rfl (xc (by omega)) rfl rfl rfl (Zs rfl rfl (Zi rfl (Yb (Yh (⟨_,ZK rfl,?_⟩))))))))))))))))))))))
 exact ⟨rfl,ZL⟩
theorem sH {md:Md} (H:Nat→Int) (ha:0≤H 133∧H 133 < 64) (ht:0≤H 134∧H 134 < 64):WR AM 121 [.ptr 0 0 138] [.sc md 138 (ia H)] (fun v _ L=>v = .s (.int .i64 (Y5 H (H 136) (H 133) (H 134)))∧(0,Blk.sc md 138 (ia H))∈L):=by
 refine YI (a:=a121) rfl rfl (YH _) (ZP rfl) (m:=1) rfl (Zd (Yp rfl (Ze (Zk rfl (YR rfl (Yc (o':=133) rfl rfl rfl (Yc (o':=134) rfl rfl rfl (Yl rfl rfl ZL rfl (Zi rfl (Yb (WE (fun f n L=>(f 0 = .ptr 0 0 138)∧(f 3 = .s (.int .i64 (atT H (H 136) (H 133) (H 134))))∧(L = [(0,.sc md 138 (ia H))])∧(n = 1)) ?_ (fun f nb L hI=>?_))))))))))))
 ·refine Zd (Zk rfl (YR rfl (Yc (o':=136) rfl rfl rfl (Yc (o':=136) rfl rfl rfl (Yl rfl rfl ZL rfl (Zq rfl (Zj rfl (Yr (t:=15) rfl (fun h1=>?_) (fun h1=>?_))))))))) <;> simp only [NM] at h1
  ·refine Ya rfl (Zk rfl (Ya rfl (Q9 rfl (Ua (xE H ha ht)) rfl rfl rfl .here (Ya rfl (Zq rfl (Zo rfl (Zj rfl (Yr (t:=20) rfl (fun h2=>?_) (fun h2=>?_))))))))) <;> simp only [NM] at h2
   ·refine Ya rfl (Zi rfl (Ya rfl (Zk rfl (Ya rfl (YR rfl (Ya rfl (Zx rfl (Ya rfl (Yc (o':=130) rfl rfl rfl (Ya rfl (Yl rfl rfl ZL rfl (Ya rfl (Zq rfl (Zo rfl (Zj rfl (Yr (t:=29) rfl (fun h3=>?_) (fun h3=>?_))))))))))))))))) <;> simp only [NM] at h3
    ·refine Ya rfl (Zk rfl (Ya rfl (Zi rfl (Ya rfl (YR rfl (Ya rfl (Zx rfl (Ya rfl (Zx rfl (Ya rfl (Zv rfl rfl rfl (Ya rfl (Yo rfl rfl ZL (Ya rfl (YA rfl .nil (Ya rfl (Yv rfl rfl (Zo rfl (Yb (Yi rfl (fun h4=>?_) (fun h4=>?_))))))))))))))))))))) <;> simp only [NM] at h4
     ·refine Yf (Zi rfl (Yt rfl (xc (by omega)) rfl rfl rfl (Zk rfl (YR rfl (Yc (o':=133) rfl rfl rfl (Yc (o':=133) rfl rfl rfl (Yl rfl rfl ZL rfl (Ys rfl (Rs (by omega)) rfl rfl rfl (Ys rfl (YF (At_run _ _ (by omega) (by omega))) rfl rfl rfl (Zi rfl (Yb (⟨_,(.refl _),rfl,?_,rfl,rfl⟩))))))))))))
      refine ZI ?_
      (rw [atT,if_pos ⟨by omega,by omega,by omega,by assumption⟩,atM,if_pos (by omega)]; done)
     ·refine Yg (⟨_,(.refl _),rfl,?_,rfl,rfl⟩)
      refine ZI ?_
      (rw [atT,if_neg (fun q=>Bool.false_ne_true ((show YP H (H 134) = false from (by assumption)).symm.trans q.2.2.2))]; done)
    ·refine ZE rfl (ZB rfl (Zo rfl (Yb (ZA rfl (Yg (⟨_,(.refl _),rfl,?_,rfl,rfl⟩))))))
     refine ZI ?_
     (rw [atT,if_neg (fun q=>by omega)]; done)
   ·refine ZD rfl (ZC rfl (ZB rfl (Zo rfl (Zj rfl (ZE rfl (ZB rfl (Zo rfl (Yb (ZA rfl (Yg (⟨_,(.refl _),rfl,?_,rfl,rfl⟩)))))))))))
    refine ZI ?_
    (rw [atT,if_neg (fun q=>by omega)]; done)
  ·refine ZC rfl (ZB rfl (Zo rfl (Zj rfl (ZD rfl (ZC rfl (ZB rfl (Zo rfl (Zj rfl (ZE rfl (ZB rfl (Zo rfl (Yb (ZA rfl (Yg (⟨_,(.refl _),rfl,?_,rfl,rfl⟩)))))))))))))))
   refine ZI ?_
   (rw [atT,if_neg (fun q=>by omega)]; done)
 ·obtain ⟨k0,k3,rfl,rfl⟩:=hI
  refine pH 0 k0 (pH 3 k3 ?_)
  have hat:=yl (P:=H) (k:=H 136) ha ht
  refine Yd (Zd (Zk rfl (Zi rfl (YR rfl (Zx rfl (Zx rfl (Zv rfl rfl rfl (Yo rfl rfl ZL (YA rfl .nil (Yv rfl rfl (Yb (Yi rfl (fun h5=>?_) (fun h5=>?_))))))))))))) <;> simp only [NM] at h5
  ·refine Zd (Yp rfl (Yb (Yh (⟨_,ZK rfl,?_⟩))))
   refine ⟨ZI ?_,ZL⟩
   (rw [Y5,show YP H (atT H (H 136) (H 133) (H 134)) = true from (by assumption)]; rfl)
  ·refine Yg (Zd (Zi rfl (Zi rfl (Yb (Yh (⟨_,ZK rfl,?_⟩))))))
   refine ⟨ZI ?_,ZL⟩
   (rw [Y5,show YP H (atT H (H 136) (H 133) (H 134)) = false from (by assumption)]; rfl)
def Js (k a t c C x y:Int) (z:Bool):Prop:=(YW k a t c C = 1∧z = true∧x = a+3∧y = a+1)∨(YW k a t c C = -1∧z = true∧x = a - 4∧y = a - 1)∨(YW k a t c C = 0∧z = false)
theorem EQ {k a t c C x y:Int} (h:¬ (k = 6∧a = 56*c+4∧(t = a+2∨t = a - 2))):Js k a t c C x y false:=by
 refine .inr (.inr ⟨?_,rfl⟩)
 rw [YW,if_neg (fun q=>h ⟨q.1,q.2.1,.inl q.2.2.1⟩),if_neg (fun q=>h ⟨q.1,q.2.1,.inr q.2.2.1⟩)]
theorem wf {c:Int}:YO c = 1∨YO c = 4:=by unfold YO; split <;> omega
theorem ks {C s:Int} (h:0≤C∧C≤15) (hs:s = 1∨s = 2∨s = 4∨s = 8):(Q1 C s != 0) = decide (C / s % 2 = 1):=by
 rw [Bool.eq_iff_iff,decide_eq_true_eq,← wU h hs,bne_iff_ne]
theorem vh {k a t c C:Int} (hC:0≤C∧C≤15) (hk:k = 6) (ha:a = 56*c+4) (ht:t = a+2):Js k a t c C (56*c+4+3) (56*c+4+1) (Q1 C (YO c) != 0):=by
 have hs:=wf (c:=c)
 rw [ks hC (by omega)]
 by_cases h:C / YO c % 2 = 1
 ·refine .inl ⟨?_,decide_eq_true h,by omega,by omega⟩
  rw [YW,if_pos ⟨hk,ha,ht,h⟩]
 ·refine .inr (.inr ⟨?_,decide_eq_false h⟩)
  rw [YW,if_neg (fun q=>h q.2.2.2),if_neg (fun q=>by omega)]
theorem sk {k a t c C:Int} (hC:0≤C∧C≤15) (hk:k = 6) (ha:a = 56*c+4) (ht:t = a - 2):Js k a t c C (56*c+4 - 4) (56*c+4 - 1) (Q1 C (2*YO c) != 0):=by
 have hs:=wf (c:=c)
 rw [ks hC (by omega)]
 by_cases h:C / (2*YO c) % 2 = 1
 ·refine .inr (.inl ⟨?_,decide_eq_true h,by omega,by omega⟩)
  rw [YW,if_neg (fun q=>by omega),if_pos ⟨hk,ha,ht,h⟩]
 ·refine .inr (.inr ⟨?_,decide_eq_false h⟩)
  rw [YW,if_neg (fun q=>by omega),if_neg (fun q=>h q.2.2.2)]
theorem pF {md:Md} (H:Nat→Int) (ha:0≤H 133∧H 133 < 64) (ht:0≤H 134∧H 134 < 64) (hc:H 137 = 0∨H 137 = 1) (hC:0≤H 129∧H 129≤15):WR AM 122 [.ptr 0 0 138] [.sc md 138 (ia H)] (fun v _ L=>(∃ x y z,v = .tup [.s (.int .i64 x),.s (.int .i64 y),.s (.bool z)]∧Js (H 136) (H 133) (H 134) (H 137) (H 129) x y z)∧(0,Blk.sc md 138 (ia H))∈L):=by
 refine YI (a:=a122) rfl rfl (YH _) (ZP rfl) (m:=1) rfl (Zd (Yp rfl (Yp rfl (Yp rfl (Ze (Zk rfl (YR rfl (Yc (o':=136) rfl rfl rfl (Yc (o':=137) rfl rfl rfl (Yl rfl rfl ZL rfl (X9 rfl rfl (by omega) (Zr rfl rfl (Zi rfl (Ze (Zk rfl (YR rfl (Yc (o':=136) rfl rfl rfl (Yc (o':=137) rfl rfl rfl (Yl rfl rfl ZL rfl (X9 rfl rfl (by omega) (Yq rfl rfl (tC hc) (Zi rfl (Yb (Yd (Yj (Zd (Zk rfl (YR rfl (Yc (o':=136) rfl rfl rfl ?_)))))))))))))))))))))))))))))
 refine Yc (o':=136) rfl rfl rfl (Yl rfl rfl ZL rfl (Zq rfl (Zj rfl (Yr (t:=28) rfl (fun h6=>?_) (fun h6=>?_))))) <;> simp only [NM] at h6
 ·refine ZD rfl (ZC rfl (ZB rfl (Zo rfl (Zj rfl (Yb (Zz rfl (Zd (Yp rfl (Yp rfl (Yp rfl (Yb (Yh (⟨_,YK (v:=.s (.int _ _)) rfl (YK (v:=.s (.int _ _)) rfl (ZJ rfl)),?_⟩)))))))))))))
  refine ⟨⟨_,_,_,rfl,?_⟩,ZL⟩
  exact EQ (by omega)
 ·refine Ya rfl (Zk rfl (Ya rfl (YR rfl (Ya rfl (Yc (o':=133) rfl rfl rfl (Ya rfl (Yc (o':=133) rfl rfl rfl (Ya rfl (Yl rfl rfl ZL rfl (Ya rfl (Zi rfl (Ya rfl (Zq rfl (Zo rfl (Zj rfl (Yb (Yi rfl (fun h7=>?_) (fun h7=>?_)))))))))))))))))) <;> simp only [NM] at h7
  ·refine Zd (Yp rfl (Yp rfl (Yp rfl (Yb (Yh (⟨_,YK (v:=.s (.int _ _)) rfl (YK (v:=.s (.int _ _)) rfl (ZJ rfl)),?_⟩))))))
   refine ⟨⟨_,_,_,rfl,?_⟩,ZL⟩
   exact EQ (by omega)
  ·refine Zd (Zk rfl (YR rfl (Yc (o':=133) rfl rfl rfl (Yc (o':=134) rfl rfl rfl (Yl rfl rfl ZL rfl (Zi rfl (Zr rfl rfl (Zq rfl (Zj rfl (Yb (Yi rfl (fun h8=>?_) (fun h8=>?_)))))))))))) <;> simp only [NM] at h8
   ·refine Yd (Yf (Zi rfl (Zr rfl rfl (Zi rfl (Zr rfl rfl (Zk rfl (YR rfl (Zx rfl (Yc (o':=129) rfl rfl rfl (Yl rfl rfl ZL rfl (Zi rfl (Yq (r:=.int .i64 (Q1 (H 129) (YO (H 137)))) rfl rfl rfl (Zq rfl (Zi rfl (Zi rfl (Zj rfl (Yb (Yh (⟨_,YK (v:=.s (.int _ _)) rfl (YK (v:=.s (.int _ _)) rfl (ZJ rfl)),?_⟩)))))))))))))))))))
    refine ⟨⟨_,_,_,rfl,?_⟩,ZL⟩
    exact vh hC (by omega) (by omega) (by omega)
   ·refine Zd (Zk rfl (YR rfl (Yc (o':=133) rfl rfl rfl (Yc (o':=134) rfl rfl rfl (Yl rfl rfl ZL rfl (Zi rfl (Zs rfl rfl (Zq rfl (Zj rfl (Yb (Yi rfl (fun h9=>?_) (fun h9=>?_)))))))))))) <;> simp only [NM] at h9
    ·refine Yd (Yf (Zi rfl (Zs rfl rfl (Zi rfl (Zs rfl rfl (Zk rfl (YR rfl (Zx rfl (Yc (o':=129) rfl rfl rfl (Yl rfl rfl ZL rfl (Zi rfl (Yq rfl rfl (tL hc) (Yq (r:=.int .i64 (Q1 (H 129) (2*YO (H 137)))) rfl rfl rfl (Zq rfl (Zi rfl (Zi rfl (Zj rfl (Yb (Yh (⟨_,YK (v:=.s (.int _ _)) rfl (YK (v:=.s (.int _ _)) rfl (ZJ rfl)),?_⟩))))))))))))))))))))
     refine ⟨⟨_,_,_,rfl,?_⟩,ZL⟩
     exact sk hC (by omega) (by omega) (by omega)
    ·refine Yg (Zd (Yp rfl (Yp rfl (Yp rfl (Yb (Yh (⟨_,YK (v:=.s (.int _ _)) rfl (YK (v:=.s (.int _ _)) rfl (ZJ rfl)),?_⟩)))))))
     refine ⟨⟨_,_,_,rfl,?_⟩,ZL⟩
     exact EQ (by omega)
theorem rn {md:Md} (H:Nat→Int) (ha:0≤H 133∧H 133 < 64) (ht:0≤H 134∧H 134 < 64) (hc:H 137 = 0∨H 137 = 1):WR AM 123 [.ptr 0 0 138] [.sc md 138 (ia H)] (fun v _ L=>v = .s (.bool (WJ (H 136) (H 133) (H 134) (H 137)))∧(0,Blk.sc md 138 (ia H))∈L):=by
 refine YI (a:=a123) rfl rfl (YH _) (ZP rfl) (m:=1) rfl (Zd (Yp rfl (Ze (Zk rfl (YR rfl (Yc (o':=136) rfl rfl rfl (Yc (o':=137) rfl rfl rfl (Yl rfl rfl ZL rfl (X9 rfl rfl (by omega) (Zs rfl rfl (Zi rfl (Yb (Yd (Yf (Zk rfl (YR rfl (Yc (o':=133) rfl rfl rfl (Yc (o':=133) rfl rfl rfl (Yl rfl rfl ZL rfl (Yt rfl (Rs (by omega)) rfl rfl rfl (Zk rfl (YR rfl (Yc (o':=133) rfl rfl rfl (Yc (o':=134) rfl rfl rfl (Yl rfl rfl ZL rfl (Ys rfl (Rs (by omega)) rfl rfl rfl (Zi rfl (Zi rfl (Ze ?_)))))))))))))))))))))))))))))
 refine Zk rfl (YR rfl (Yc (o':=136) rfl rfl rfl (Yc (o':=136) rfl rfl rfl (Yl rfl rfl ZL rfl (Zq rfl (Zj rfl (Yr (t:=31) rfl (fun h10=>?_) (fun h10=>?_)))))))) <;> simp only [NM] at h10
 ·refine Ya rfl (Zk rfl (Ya rfl (Q9 rfl (Ua (xE H ha ht)) rfl rfl rfl .here (Ya rfl (Zq rfl (Zo rfl (Zj rfl (Yr (t:=36) rfl (fun h11=>?_) (fun h11=>?_))))))))) <;> simp only [NM] at h11
  ·refine Ya rfl (Zi rfl (Ya rfl (Zk rfl (Ya rfl (YR rfl (Ya rfl (Yc (o':=136) rfl rfl rfl (Ya rfl (Yc (o':=137) rfl rfl rfl (Ya rfl (Yl rfl rfl ZL rfl (Ya rfl (X9 rfl rfl (by omega) (Ya rfl (Zr rfl rfl (Ya rfl (Zq rfl (Zo rfl (Zj rfl (Yr (t:=47) rfl (fun h12=>?_) (fun h12=>?_))))))))))))))))))))) <;> simp only [NM] at h12
   ·refine Ya rfl (Zi rfl (Ya rfl (Zi rfl (Ya rfl (Zi rfl (Ya rfl (X9 rfl rfl (by omega) (Ya rfl (Zr rfl rfl (Ya rfl (Zq rfl (Zo rfl (Zj rfl (Zf rfl (⟨ZH ?_,ZL⟩)))))))))))))))
    unfold WJ
    rw [Bool.eq_iff_iff]
    simp only [beq_iff_eq,decide_eq_true_eq,Bool.false_eq_true,true_iff,false_iff,iff_true,iff_false]
    omega
   ·refine ZD rfl (ZC rfl (Zo rfl (Zj rfl (Zf rfl (⟨ZH ?_,ZL⟩)))))
    unfold WJ
    rw [Bool.eq_iff_iff]
    simp only [beq_iff_eq,decide_eq_true_eq,Bool.false_eq_true,true_iff,false_iff,iff_true,iff_false]
    omega
  ·refine ZE rfl (ZB rfl (Zo rfl (Zj rfl (ZD rfl (ZC rfl (Zo rfl (Zj rfl (Zf rfl (⟨ZH ?_,ZL⟩)))))))))
   unfold WJ
   rw [Bool.eq_iff_iff]
   simp only [beq_iff_eq,decide_eq_true_eq,Bool.false_eq_true,true_iff,false_iff,iff_true,iff_false]
   omega
 ·refine ZC rfl (ZB rfl (Zo rfl (Zj rfl (ZE rfl (ZB rfl (Zo rfl (Zj rfl (ZD rfl (ZC rfl (Zo rfl (Zj rfl (Zf rfl (⟨ZH ?_,ZL⟩)))))))))))))
  unfold WJ
  rw [Bool.eq_iff_iff]
  simp only [beq_iff_eq,decide_eq_true_eq,Bool.false_eq_true,true_iff,false_iff,iff_true,iff_false]
  omega
def UJ (H X K:Nat→Int):Nat→Nat→Int
 | 0=>H
 | n+1=>if isM (K (0+(n:Int).toNat*1)) = true then ovA (UJ H X K n) (0+(K (0+(n:Int).toNat*1)).toNat*2) 2 X else UJ H X K n
theorem za {H X K:Nat→Int}:∀ (n:Nat) (i:Nat),128≤i→UJ H X K n i = H i
 | 0,_,_=>rfl
 | n+1,i,hi=>by
  have ih:=za (H:=H) (X:=X) (K:=K) n i hi
  unfold UJ
  split
  ·rename_i hs
   simp only [isM,decide_eq_true_eq] at hs
   rw [WA (by omega)]
   exact ih
  ·exact ih
theorem E6 {H X K:Nat→Int} {n:Nat} {s:Int} (hs:K (0+(n:Int).toNat*1) = s) (h:0≤s∧s < 64):UJ H X K (n+1) = ovA (UJ H X K n) (sqI s) 2 X:=by
 rw [UJ,hs,if_pos (show isM s = true from decide_eq_true h)]
theorem kF {H X K:Nat→Int} {n:Nat} {s:Int} (hs:K (0+(n:Int).toNat*1) = s) (h:¬ (0≤s∧s < 64)):UJ H X K (n+1) = UJ H X K n:=by
 rw [UJ,hs,if_neg (by rw [isM,decide_eq_false h]; decide)]
theorem set_run {md md2:Md} (hmd:md.mut = true) {q:Nat} {c:Cp} (H X K:Nat→Int) (n:Nat) (hn:n≤1000):WR AM 124 [.ptr 0 0 138,.agg 2 (ia X),.sl 1 0 n 1 c] [.sc md 138 (ia H),.sc md2 q (ia K)] (fun v _ L=>v = .tup []∧(0,Blk.sc md 138 (ia (UJ H X K n)))∈L∧(1,Blk.sc md2 q (ia K))∈L):=by
 refine YI (a:=a124) rfl rfl (YH _) (ZP rfl) (m:=2) rfl (Zd (YB rfl (Ze (Zm rfl (QR rfl (Yp rfl (Yb (Yj (Xe (L':=[_,_,_]) (.refl _) (Xg (fun m f _ L=>∃ (i:Nat),(i≤n)∧(m = n - i)∧(f 0 = .ptr 0 0 138)∧(f 4 = .ptr 2 0 2)∧(f 8 = .sl 1 0 n 1 c)∧(f 9 = .s (.int .i64 n))∧(f 10 = .s (.int .i64 i))∧(L = [(2,.sc .var 2 (ia X)),(0,.sc md 138 (ia (UJ H X K i))),(1,.sc md2 q (ia K))])) (fun m f nb L hI=>?_) (n) ⟨0,by omega,rfl,rfl,rfl,rfl,rfl,rfl,rfl⟩))))))))))
 obtain ⟨i,hi,hm,k0,k4,k8,k9,k10,rfl⟩:=hI
 refine pH 0 k0 (pH 4 k4 (pH 8 k8 (pH 9 k9 (pH 10 k10 (Zd (Zq rfl (Yb (Yd (Yi rfl (fun h13=>?_) (fun h13=>?_)))))))))) <;> simp only [NM] at h13
 ·refine Yg (Yd (Yj (Zd (Zw rfl rfl (Yl (x:=K (0+(i:Int).toNat*1)) rfl rfl ZN (rfl) (Zi rfl (Ze (Zi rfl (Ys rfl (Ju _) rfl rfl rfl (Yb (Yi rfl (fun h14=>?_) (fun h14=>?_))))))))))))
  ·try simp only [isM,decide_eq_true_eq,decide_eq_false_iff_not] at h14
   refine Yf (Zk rfl (Zi rfl (Yn rfl rfl ZL (YR rfl (Zx rfl (Zx rfl (Zv rfl rfl rfl (Yy rfl rfl rfl hmd (.there .here) (Yb (Ye (Zr rfl rfl (Zi rfl (Yb (⟨n - (i+1),_,by omega,(.refl _),i+1,by omega,rfl,rfl,rfl,rfl,rfl,rfl,?_⟩))))))))))))))
   (rw [E6 (n:=i) (s:=K (0+(i:Int).toNat*1)) rfl (by assumption)]; done)
  ·try simp only [isM,decide_eq_true_eq,decide_eq_false_iff_not] at h14
   refine Yg (Ye (Zr rfl rfl (Zi rfl (Yb (⟨n - (i+1),_,by omega,(.refl _),i+1,by omega,rfl,rfl,rfl,rfl,rfl,rfl,?_⟩)))))
   (rw [kF (n:=i) (s:=K (0+(i:Int).toNat*1)) rfl (by assumption)]; done)
 ·refine YZ (Xc (⟨_,YS,?_⟩))
  obtain rfl:i = n:=by omega
  exact ⟨rfl,ZM,ZN⟩
def vi:List (S × V):=[(.int .i64 4,.s (.int .i64 3)),(.int .i64 7,.s (.int .i64 1)),(.int .i64 0,.s (.int .i64 2)),(.int .i64 60,.s (.int .i64 12)),(.int .i64 63,.s (.int .i64 4)),(.int .i64 56,.s (.int .i64 8))]
theorem uT (s:Int):(Kt (.int .i64 s) vi).getD (Z.v (.one (.s (.int .i64 0)))) = .s (.int .i64 (Xp s)):=by
 simp only [vi,Kt,S.eqB,Xp]
 by_cases h4:4 = s
 ·simp [h4]
 by_cases h7:7 = s
 ·simp [h4,h7]
 by_cases h0:0 = s
 ·simp [h4,h7,h0]
 by_cases h60:60 = s
 ·simp [h4,h7,h0,h60]
 by_cases h63:63 = s
 ·simp [h4,h7,h0,h60,h63]
 by_cases h56:56 = s
 ·simp [h4,h7,h0,h60,h63,h56]
 simp [h4,h7,h0,h60,h63,h56,Z.v]
def zy (K:Nat→Int):Nat→Int
 | 0=>0
 | n+1=>orM (zy K n) (Xp (K (0+(n:Int).toNat*1)))
theorem uk {md:Md} {q:Nat} {c:Cp} (K:Nat→Int) (n:Nat) (hn:n≤1000):WR AM 125 [.sl 0 0 n 1 c] [.sc md q (ia K)] (fun v _ L=>v = .s (.int .i64 (zy K n))∧(0,Blk.sc md q (ia K))∈L):=by
 refine YI (a:=a125) rfl rfl (YH _) (ZP rfl) (m:=1) rfl (Zd (Yp rfl (Ze (rK (KY rfl rfl rfl rfl rfl rfl .here (KY rfl rfl rfl rfl rfl rfl .here (KY rfl rfl rfl rfl rfl rfl .here (KY rfl rfl rfl rfl rfl rfl .here (KY rfl rfl rfl rfl rfl rfl .here (KY rfl rfl rfl rfl rfl rfl .here (Yp (v:=.map _) rfl (Yp (v:=.map _) rfl (Yb (Yd (Zd (Zm rfl (QR rfl (Yp rfl (Yb (Yj (Xe (L':=[_,_]) (.refl _) (Xg (fun m f _ L=>∃ (i:Nat),(i≤n)∧(m = n - i)∧(f 2 = .s (.int .i64 (zy K i)))∧(f 3 = .map 1)∧(f 8 = .sl 0 0 n 1 c)∧(f 9 = .s (.int .i64 n))∧(f 10 = .s (.int .i64 i))∧(L = [(1,.mp .var vi),(0,.sc md q (ia K))])) (fun m f nb L hI=>?_) (n) ⟨0,by omega,rfl,rfl,rfl,rfl,rfl,rfl,rfl⟩))))))))))))))))))))))
 obtain ⟨i,hi,hm,k2,k3,k8,k9,k10,rfl⟩:=hI
 refine pH 2 k2 (pH 3 k3 (pH 8 k8 (pH 9 k9 (pH 10 k10 (Zd (Zq rfl (Yb (Yd (Yi rfl (fun h15=>?_) (fun h15=>?_)))))))))) <;> simp only [NM] at h15
 ·refine Yg (Yd (Yj (Zd (Zw rfl rfl (Yl (x:=K (0+(i:Int).toNat*1)) rfl rfl ZM (rfl) (Zi rfl (Yb (Ye (Zi rfl (Yp (v:=.map _) rfl (Zi rfl (WO_mget rfl rfl ZL rfl (uT _) (Yq (r:=.int .i64 (orM _ _)) rfl rfl rfl (Zi rfl (Yb (Ye (Zr rfl rfl (Zi rfl (Yb ?_)))))))))))))))))))
  exact ⟨n - (i+1),_,by omega,(.refl _),i+1,by omega,rfl,rfl,rfl,rfl,rfl,rfl,rfl⟩
 ·refine YZ (Xc (Zd (Zi rfl (Zi rfl (Yb (Yh (⟨_,ZK rfl,?_⟩)))))))
  obtain rfl:i = n:=by omega
  exact ⟨rfl,ZM⟩
end Go.Proofs.YtlkighkfkdpncaaGreat
