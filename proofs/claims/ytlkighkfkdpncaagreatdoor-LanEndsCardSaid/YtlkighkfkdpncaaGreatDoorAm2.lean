/- Texts of this seat,joined. -/
import Derived.Test.YtlkighkfkdpncaaGreatDoorAm1
set_option linter.defProp false
set_option linter.unusedSimpArgs false
set_option linter.unusedVariables false
set_option linter.unusedSimpArgs false
set_option linter.unusedVariables false
namespace Go.Am
open Go
mutual
def V.loose:V->Bool
 |.ptr _ _ _=>false
 |.sl _ _ _ _ _=>false
 |.map _=>false
 |.aggv l=>V.looseL l
 |.fn _ l=>V.looseL l
 |.tup l=>V.looseL l
 |.iface _ x=>V.loose x
 |.bm _ x=>V.loose x
 |.yv _=>false
 |.pan _=>false
 |_=>true
def V.looseL:List V->Bool
 |[]=>true
 |x::l=>V.loose x&&V.looseL l
end
mutual
def V.loose_refs:∀ (v:V),v.loose=true->v.refs=[]
 |.s _,_=>by simp[V.refs]
 |.agg _ _,_=>by simp[V.refs]
 |.aggv l,h=>by simp only[V.loose]at h;simp only[V.refs];exact V.looseL_refs l h
 |.ptr _ _ _,h=>by simp[V.loose]at h
 |.pnil,_=>by simp[V.refs]
 |.sl _ _ _ _ _,h=>by simp[V.loose]at h
 |.slz,_=>by simp[V.refs]
 |.snil,_=>by simp[V.refs]
 |.map _,h=>by simp[V.loose]at h
 |.mnil,_=>by simp[V.refs]
 |.fn _ l,h=>by simp only[V.loose]at h;simp only[V.refs];exact V.looseL_refs l h
 |.fnil,_=>by simp[V.refs]
 |.iface _ x,h=>by simp only[V.loose]at h;simp only[V.refs];exact V.loose_refs x h
 |.inil,_=>by simp[V.refs]
 |.tup l,h=>by simp only[V.loose]at h;simp only[V.refs];exact V.looseL_refs l h
 |.undef,_=>by simp[V.refs]
 |.bm _ x,h=>by simp only[V.loose]at h;simp only[V.refs];exact V.loose_refs x h
 |.pan _,h=>by simp[V.loose]at h
def V.looseL_refs:∀ (l:List V),V.looseL l=true->V.refsL l=[]
 |[],_=>by simp[V.refsL]
 |x::l,h=>by
  simp only[V.looseL,Zca]at h;simp only[V.refsL,V.loose_refs x h.1,V.looseL_refs l h.2,Zcf]
end
mutual
def V.loose_ren(g:Nat->Option Nat):∀ (v:V),v.loose=true->v.ren g=some v
 |.s _,_=>by simp[V.ren]
 |.agg _ _,_=>by simp[V.ren]
 |.aggv l,h=>by simp only[V.loose]at h;simp only[V.ren,V.looseL_ren g l h,Option.map_some]
 |.ptr _ _ _,h=>by simp[V.loose]at h
 |.pnil,_=>by simp[V.ren]
 |.sl _ _ _ _ _,h=>by simp[V.loose]at h
 |.slz,_=>by simp[V.ren]
 |.snil,_=>by simp[V.ren]
 |.map _,h=>by simp[V.loose]at h
 |.mnil,_=>by simp[V.ren]
 |.fn _ l,h=>by simp only[V.loose]at h;simp only[V.ren,V.looseL_ren g l h,Option.map_some]
 |.fnil,_=>by simp[V.ren]
 |.iface _ x,h=>by simp only[V.loose]at h;simp only[V.ren,V.loose_ren g x h,Option.map_some]
 |.inil,_=>by simp[V.ren]
 |.tup l,h=>by simp only[V.loose]at h;simp only[V.ren,V.looseL_ren g l h,Option.map_some]
 |.undef,_=>by simp[V.ren]
 |.bm _ x,h=>by simp only[V.loose]at h;simp only[V.ren,V.loose_ren g x h,Option.map_some]
 |.pan _,h=>by simp[V.loose]at h
def V.looseL_ren(g:Nat->Option Nat):∀ (l:List V),V.looseL l=true->V.renL g l=some l
 |[],_=>by simp[V.renL]
 |x::l,h=>by
  simp only[V.looseL,Zca]at h;simp only[V.renL,V.loose_ren g x h.1,V.looseL_ren g l h.2]
end
def Ut(σ:Heap)(acc:List Nat):∀ k,YN σ k [] acc=acc
 |0=>rfl
 |_+1=>rfl
def qY{A:AP}{q:Bool}{fid:FuncId}{av:List V}{v:V}(ha:V.looseL av=true)(hv:v.loose=true){σ1:Heap}(hr:Run A fid av []=some (v,σ1))(σ:Heap):Y5 (Run A) q (.fn fid []) av σ=some (v,σ):=by
 have hrefs:V.refsL (av++[])=[]:=by rw[Zcf];exact V.looseL_refs av ha
 have hen:Xq q (av++[]) σ=some ([],av,[]):=by
  unfold Xq;rw[Zcf]at hrefs ⊢;simp only[hrefs,Ut,V.looseL_ren _ av ha,Y6]
 have hns:Xi q 0 v σ1=[]:=by
  unfold Xi
  cases q <;> simp[V.loose_refs v hv,Ut]
 simp only[Y5,target,hen,Option.bind_some,hr,Xn,List.length_nil,hns];have hb0:Nat.ble 0 σ1.length=true:=rfl
 cases q <;> simp[nodup,V.loose_ren _ v hv,Y6,XD,hb0]
def RF(A:AP)(fid:FuncId)(av:List V)(v:V):Prop:=∃ σ1,Run A fid av []=some (v,σ1)
def YP{A:AP}{fid:FuncId}{av:List V}{v:V}(h:WR A fid av [] fun v' _ _=>v'=v):RF A fid av v:=by
 obtain⟨v',σ',n',L',h1,_,h2⟩:=h;subst h2;exact⟨σ',h1⟩
section
variable{A:AP}{N:Nat}{f:FE}{n:Nat}{L:HA}{K:KN}{Zp:V->KN}{l:List I}{d:Nat}
def Zbg{x:O}{xs:List O}{fid:FuncId}{av:List V}{v:V}(hf:x.fv N f=.fn fid [])(hs:RF A fid av v)(ha:xs.map (O.fv N f)=av)(h1:V.looseL av=true)(h2:v.loose=true)
  (k:WO A N l (upd f d v) n L K Zp):WO A N (⟨some d,none,.h (.call x xs)⟩::l) f n L K Zp:=by
 obtain⟨σ1,hs⟩:=hs
 exact Xl (v:=v) (fun σ h=>⟨σ,by simp only[YK,Y2,hf,ha];exact qY h1 h2 hs σ,h⟩) k
def oy{x:O}{xs:List O}{fid:FuncId}{av:List V}{v:V}(hf:x.fv N f=.fn fid [])(hs:RF A fid av v)(ha:xs.map (O.fv N f)=av)(h1:V.looseL av=true)(h2:v.loose=true)
  (k:WO A N l (upd f d v) n L K Zp):WO A N (⟨some d,none,.h (.callq x xs)⟩::l) f n L K Zp:=by
 obtain⟨σ1,hs⟩:=hs
 exact Xl (v:=v) (fun σ h=>⟨σ,by simp only[YK,Y2,hf,ha];exact qY h1 h2 hs σ,h⟩) k
def rnL(rs:List Nat)(av:List V):Option (List V):=V.renL (pos · rs) av
def scs(L:HA):List Nat->List Blk->Prop
 |[],[]=>True
 |b::rs,B::Bs=>(b,B)∈L/\(∃ md m g,B=.sc md m g)/\scs L rs Bs
 |_,_=>False
def We:List Nat->List Nat->List Nat
 |[],acc=>acc
 |b::l,acc=>bif acc.contains b then We l acc else We l (acc++[b])
def zq{σ:Heap}{n:Nat}{L:HA}(h:Hp σ n L):∀ {rs:List Nat} {Bs:List Blk},scs L rs Bs→∀ b∈rs,b<n∧∃ md m g,σ[b]? = some (.sc md m g)
 |b::rs,B::Bs,hs,c,hc=>by
  obtain⟨h1,⟨md,m,g,rfl⟩,h2⟩:=hs;rcases Zco.1 hc with e|hc
  ·subst e;have:=h.2.mem h1;exact⟨this.1,md,m,g,this.2⟩
  exact zq h h2 c hc
def Rf{σ:Heap}:∀ (k:Nat) (w acc:List Nat),(∀ b∈w,∃ md m g,σ[b]? = some (.sc md m g))→w.length<k→YN σ k w acc=We w acc
 |0,_,_,_,h=>by omega
 |k+1,[],acc,_,_=>rfl
 |k+1,b::w,acc,hs,hl=>by
  obtain⟨md,m,g,hb⟩:=hs b (.head _);have hd:σ.getD b .dead=.sc md m g:=by rw[ZbD,hb];rfl
  simp only[YN,We,hd,Blk.refs,List.nil_append];simp only[Zcd]at hl
  cases acc.contains b
  ·simp only[cond_false];exact Rf k w (acc++[b]) (fun c hc=>hs c (.tail _ hc)) (by omega)
  simp only[cond_true];exact Rf k w acc (fun c hc=>hs c (.tail _ hc)) (by omega)
def Qy(q:Bool):Blk->Blk
 |.sc md m g=>.sc (XG q md) m g
 |b=>b
def ET{σ:Heap}{n:Nat}{L:HA}(h:Hp σ n L)(q:Bool)(g:Nat->Option Nat):∀ {rs:List Nat} {Bs:List Blk},scs L rs Bs->Y6 q g σ rs=some (Bs.map (Qy q))
 |[],[],_=>rfl
 |b::rs,B::Bs,hs=>by
  obtain⟨h1,⟨md,m,g',rfl⟩,h2⟩:=hs;simp only[Y6,(h.2.mem h1).2,Option.bind_some,Blk.ren,ET h q g h2,List.map_cons,Qy]
def Ux{rs:List Nat}(h:rs.Nodup):nodup rs=true:=by
 induction rs with
 |nil=>rfl
 |cons b l ih=>
  rw[List.nodup_cons]at h;simp[nodup,ih h.2,h.1]
def Vv:∀ (w acc:List Nat),acc.Nodup->(We w acc).Nodup
 |[],acc,h=>h
 |b::w,acc,h=>by
  unfold We
  cases hc:acc.contains b with
  |true=>exact Vv w acc h
  |false=>
   refine Vv w _ ?_;rw[List.nodup_append];refine⟨h,by simp,fun a ha c hc'=>?_⟩;simp only[List.mem_singleton]at hc';subst hc';intro e;subst e;rw[List.contains_iff_mem.2 ha]at hc
   cases hc
def after(σ1:Heap):Nat->List Blk->Prop
 |_,[]=>True
 |k,B::Bs=>σ1[k]? = some B/\(∃ md m g,B=.sc md m g)/\after σ1 (k+1) Bs
inductive AtL:List Nat->List Blk->List Blk->HA->HA->Prop
 |nil {L:HA}:AtL [] [] [] L L
 |cons {b:Nat} {rs:List Nat} {B B':Blk} {Bs Bs':List Blk} {L L' L'':HA}:At b B B' L L'->AtL rs Bs Bs' L' L''->AtL (b::rs) (B::Bs) (B'::Bs') L L''
def Hp.putL{rs:List Nat}{Bs Bs':List Blk}{L L':HA}(ha:AtL rs Bs Bs' L L'):∀ {σ:Heap} {n:Nat},Hp σ n L->Hp (XD σ rs Bs') n L':=by
 induction ha with
 |nil=>exact fun h=>h
 |cons h1 _ ih=>exact fun h=>ih (h.set h1)
def Kb{σ1:Heap}:∀ {Bs:List Blk} {k:Nat},after σ1 k Bs->k<=σ1.length->k+Bs.length<=σ1.length
 |[],k,_,h=>h
 |B::Bs,k,ha,h=>by
  have h1:k<σ1.length:=by
   rcases Zcr k σ1.length with h|h
   ·exact h
   have h0:=ha.1;rw[ZbQ h]at h0;simp at h0
  have:=Kb ha.2.2 h1;simp only[Zcd];omega
def T2{σ1:Heap}(g:Nat->Option Nat):∀ {Bs:List Blk} {k:Nat},after σ1 k Bs->Y6 false g σ1 (List.range' k Bs.length)=some Bs
 |[],k,_=>rfl
 |B::Bs,k,h=>by
  obtain⟨h1,⟨md,m,g',rfl⟩,h2⟩:=h;simp only[Zcd,List.range'_succ,Y6,h1,Option.bind_some,Blk.ren,XG,cond_false,T2 g h2]
def Db{σ1:Heap}:∀ {Bs:List Blk} {k:Nat},after σ1 k Bs->((σ1.drop k).take Bs.length).flatMap Blk.refs=[]
 |[],k,_=>by simp
 |B::Bs,k,h=>by
  obtain⟨h1,⟨md,m,g',rfl⟩,h2⟩:=h;have hk:k<σ1.length:=by
   rcases Zcr k σ1.length with h|h
   ·exact h
   rw[ZbQ h]at h1;simp at h1
  rw[List.drop_eq_getElem_cons hk,Zcd,List.take_succ_cons,Zb8,Db h2];rw[ZbH hk]at h1;injection h1 with h1
  rw[h1];rfl
def tK{fid:FuncId}{av av':List V}{rs:List Nat}{Bs Bs':List Blk}{v:V}{σ1:Heap}{L':HA}(hrs:We (V.refsL av) []=rs)(hl:(V.refsL av).length<64)(hsub:∀ b∈V.refsL av,b∈rs)(hren:rnL rs av=some av')(hB:scs L rs Bs)(hv:v.loose=true)
  (hr:Run A fid av' (Bs.map (Qy false))=some (v,σ1)) (ha:after σ1 0 Bs') (hlen:Bs'.length=rs.length) (hat:AtL rs Bs Bs' L L') {σ:Heap} (h:Hp σ n L):∃ σ',Y5 (Run A) false (.fn fid []) av σ=some (v,σ')/\Hp σ' n L':=by
 have hre:YN σ 64 (V.refsL av) []=rs:=by
  rw[Rf 64 _ _ (fun b hb=>(zq h hB b (hsub b hb)).2) hl,hrs]
 have hen:Xq false av σ=some (rs,av',Bs.map (Qy false)):=by
  unfold Xq;simp only[hre,ET h false _ hB];unfold rnL at hren;rw[hren]
 have hle:rs.length<=σ1.length:=by have:=Kb ha (Zct _);omega
 have hns:Xi false rs.length v σ1=[]:=by
  unfold Xi;have:=Db ha;rw[List.drop_zero,hlen]at this;simp[V.loose_refs v hv,this,Ut]
 refine⟨XD σ rs Bs',?_,h.putL hat⟩
 have hnd:nodup rs=true:=Ux (by rw[<-hrs];exact Vv _ _ (by simp))
 have hp:Y6 false (Xa rs [] σ.length rs.length) σ1 (List.range rs.length)=some Bs':=by
  rw[<-hlen,List.range_eq_range'];exact T2 _ ha
 have hble:Nat.ble rs.length σ1.length=true:=ZbN hle
 simp only[Y5,target,Zcf,Option.bind_some,hen,hr,Xn,hns,hnd,hble,nodup,Bool.and_self,cond_true,V.loose_ren _ v hv,Y6,cond_false,hp]
def kl{fid:FuncId}{av av':List V}{rs:List Nat}{Bs:List Blk}{v:V}{σ1:Heap}(hrs:We (V.refsL av) []=rs)(hl:(V.refsL av).length<64)(hsub:∀ b∈V.refsL av,b∈rs)(hren:rnL rs av=some av')(hB:scs L rs Bs)(hv:v.loose=true)
  (hr:Run A fid av' (Bs.map (Qy true))=some (v,σ1)) (hle:rs.length<=σ1.length) {σ:Heap} (h:Hp σ n L):∃ σ',Y5 (Run A) true (.fn fid []) av σ=some (v,σ')/\Hp σ' n L:=by
 have hre:YN σ 64 (V.refsL av) []=rs:=by
  rw[Rf 64 _ _ (fun b hb=>(zq h hB b (hsub b hb)).2) hl,hrs]
 have hen:Xq true av σ=some (rs,av',Bs.map (Qy true)):=by
  unfold Xq;simp only[hre,ET h true _ hB];unfold rnL at hren;rw[hren]
 have hns:Xi true rs.length v σ1=[]:=by
  unfold Xi;simp[V.loose_refs v hv,Ut]
 have hnd:nodup rs=true:=Ux (by rw[<-hrs];exact Vv _ _ (by simp))
 have hble:Nat.ble rs.length σ1.length=true:=ZbN hle
 refine⟨σ,?_,h⟩
 simp only[Y5,target,Zcf,Option.bind_some,hen,hr,Xn,hns,hnd,hble,nodup,Bool.and_self,cond_true,V.loose_ren _ v hv,Y6]
end
def RB(A:AP)(fid:FuncId)(av:List V)(Bs:List Blk)(v:V)(Bs':List Blk):Prop:=∃ σ1,Run A fid av Bs=some (v,σ1)/\after σ1 0 Bs'
section
variable{A:AP}{N:Nat}{f:FE}{n:Nat}{L:HA}{K:KN}{Zp:V->KN}{l:List I}{d:Nat}
def V4{fid:FuncId}{av:List V}{B:Blk}{v:V}{md:Md}{m:Nat}{g:Nat->S}(h:WR A fid av [B] fun v' _ L'=>v'=v/\(0,Blk.sc md m g)∈L'):RB A fid av [B] v [.sc md m g]:=by
 obtain⟨v',σ',n',L',h1,h2,rfl,h3⟩:=h;exact⟨σ',h1,(h2.2.mem h3).2,⟨md,m,g,rfl⟩,trivial⟩
def kZ{fid:FuncId}{av:List V}{B C:Blk}{v:V}{md md':Md}{m m':Nat}{g g':Nat->S}(h:WR A fid av [B,C] fun v' _ L'=>v'=v/\(0,Blk.sc md m g)∈L'/\(1,Blk.sc md' m' g')∈L'):RB A fid av [B,C] v [.sc md m g,.sc md' m' g']:=by
 obtain⟨v',σ',n',L',h1,h2,rfl,h3,h4⟩:=h;exact⟨σ',h1,(h2.2.mem h3).2,⟨md,m,g,rfl⟩,(h2.2.mem h4).2,⟨md',m',g',rfl⟩,trivial⟩
def Vy{x:O}{xs:List O}{fid:FuncId}{av av':List V}{rs:List Nat}{Bs Bs':List Blk}{v:V}{L':HA}(hf:x.fv N f=.fn fid [])(hs:RB A fid av' Bs v Bs')(ha:xs.map (O.fv N f)=av)(hrs:We (V.refsL av) []=rs)(hl:(V.refsL av).length<64)(hsub:∀ b∈V.refsL av,b∈rs)
  (hren:rnL rs av=some av') (hB:scs L rs Bs) (hlow:Bs.map (Qy false)=Bs) (hlen:Bs'.length=rs.length) (hv:v.loose=true) (hat:AtL rs Bs Bs' L L') (k:WO A N l (upd f d v) n L' K Zp):WO A N (⟨some d,none,.h (.call x xs)⟩::l) f n L K Zp:=by
 obtain⟨σ1,hs,haf⟩:=hs
 refine Xl (v:=v) (fun σ h=>?_) k
 simp only[YK,Y2,hf,ha]
 exact tK hrs hl hsub hren hB hv (by rw[hlow];exact hs) haf hlen hat h
def Zbh{x:O}{xs:List O}{fid:FuncId}{av av':List V}{rs:List Nat}{Bs Bs0 Bs':List Blk}{v:V}(hf:x.fv N f=.fn fid [])(hs:RB A fid av' Bs0 v Bs')(ha:xs.map (O.fv N f)=av)(hrs:We (V.refsL av) []=rs)(hl:(V.refsL av).length<64)(hsub:∀ b∈V.refsL av,b∈rs)
  (hren:rnL rs av=some av') (hB:scs L rs Bs) (hlow:Bs.map (Qy true)=Bs0) (hlen:Bs'.length=rs.length) (hv:v.loose=true) (k:WO A N l (upd f d v) n L K Zp):WO A N (⟨some d,none,.h (.callq x xs)⟩::l) f n L K Zp:=by
 obtain⟨σ1,hs,haf⟩:=hs
 refine Xl (v:=v) (fun σ h=>?_) k
 simp only[YK,Y2,hf,ha]
 have:=Kb haf (Zct _)
 exact kl hrs hl hsub hren hB hv (by rw[hlow];exact hs) (by omega) h
def V7{x:O}{xs:List O}{fid:FuncId}{b z m m':Nat}{rest:List V}{md md':Md}{g g':Nat->S}{v:V}{L':HA}(hf:x.fv N f=.fn fid [])(hs:RB A fid (.ptr 0 0 z::rest) [.sc md m g] v [.sc md' m' g'])(ha:xs.map (O.fv N f)=.ptr b 0 z::rest)(h1:V.looseL rest=true)(h2:v.loose=true)
  (hat:At b (.sc md m g) (.sc md' m' g') L L') (k:WO A N l (upd f d v) n L' K Zp):WO A N (⟨some d,none,.h (.call x xs)⟩::l) f n L K Zp:=by
 have hr:V.refsL (.ptr b 0 z::rest)=[b]:=by simp only[V.refsL,V.refs,V.looseL_refs rest h1,Zcf]
 refine Vy (rs:=[b]) (Bs:=[.sc md m g]) hf hs ha (by rw[hr];rfl) (by rw[hr];simp) (by rw[hr];exact fun _ h=>h) ?_ ⟨hat.mem,⟨md,m,g,rfl⟩,trivial⟩ rfl rfl h2 (.cons hat .nil) k
 simp only[rnL,V.renL,V.ren,pos,V.looseL_ren _ rest h1,beq_self_eq_true,cond_true,Option.map_some]
end
end Go.Am
namespace Go.Am
open Go
def RN(A:AP)(fid:FuncId)(av:List V)(Bs:List Blk)(mk:Nat->V)(B:Blk)(Bs':List Blk):Prop :=
 ∃ b σ1,Run A fid av Bs=some (mk b,σ1)/\Bs.length<=b/\σ1[b]? = some B/\after σ1 0 Bs'
structure One(mk:Nat->V):Prop where
 refs:∀ b,(mk b).refs=[b]
 ren:∀ g b,(mk b).ren g=(g b).map mk
def vS{o m z:Nat}{c:Cp}:One fun b=>.sl b o m z c:=⟨fun _=>by simp[V.refs],fun _ _=>by simp[V.ren]⟩
def vu{o z:Nat}{x:S}:One fun b=>.tup [.ptr b o z,.s x]:=⟨fun _=>by simp[V.refs,V.refsL],fun g b=>by cases h:g b <;> simp[V.ren,V.renL,h]⟩
section
variable{A:AP}{N:Nat}{f:FE}{n:Nat}{L:HA}{K:KN}{Zp:V->KN}{l:List I}{d:Nat}
def wg{mk:Nat->V}(hmk:One mk){k b:Nat}(hb:k<=b){σ1:Heap}{md:Md}{m:Nat}{g:Nat->S}(h1:σ1[b]? = some (.sc md m g)){W:List Nat}(hW:W=[]) :
  (YN σ1 64 ((mk b).refs++W) []).filter (fun b=>Nat.ble k b)=[b]:=by
 subst hW
 have hd:σ1.getD b .dead=.sc md m g:=by rw[ZbD,h1];rfl
 rw[hmk.refs,Zcf]
 have:YN σ1 64 [b] []=[b]:=by
  show(bif ([]:List Nat).contains b then YN σ1 63 [] [] else YN σ1 63 ((σ1.getD b .dead).refs++[]) ([]++[b]))=[b];rw[hd];rfl
 rw[this]
 simp[hb]
def Q1{rs:List Nat}{b n k:Nat}(hb:k<=b):Xa rs [b] n k b=some n:=by
 have h:Nat.blt b k=false:=by
  cases h:Nat.blt b k with
  |false=>rfl
  |true=>exact absurd (ZbT h) (by omega)
 unfold Xa;rw[h];simp[pos]
def yw{q:Bool}{av av':List V}{rs:List Nat}{Bs:List Blk}(hrs:We (V.refsL av) []=rs)(hl:(V.refsL av).length<64)(hsub:∀ b∈V.refsL av,b∈rs)(hren:rnL rs av=some av')(hB:scs L rs Bs){σ:Heap}(h:Hp σ n L) :
  Xq q av σ=some (rs,av',Bs.map (Qy q)):=by
 have hre:YN σ 64 (V.refsL av) []=rs:=by
  rw[Rf 64 _ _ (fun b hb=>(zq h hB b (hsub b hb)).2) hl,hrs]
 unfold Xq
 simp only[hre,ET h q _ hB]
 unfold rnL at hren
 rw[hren]
def zF:∀ {rs:List Nat} {Bs:List Blk},scs L rs Bs->rs.length=Bs.length
 |[],[],_=>rfl
 |_::_,_::_,h=>by simp[zF h.2.2]
def KS{x:O}{xs:List O}{fid:FuncId}{caps av av':List V}{rs:List Nat}{Bs Bs':List Blk}{mk:Nat→V}{md:Md}{m:Nat}{g:Nat→S}{L':HA}(hmk:One mk)(hf:x.fv N f=.fn fid caps)(hs:RN A fid av' Bs mk (.sc md m g) Bs')(ha:xs.map (O.fv N f)++caps=av)(hrs:We (V.refsL av) []=rs)(hl:(V.refsL av).length<64)(hsub:∀ b∈V.refsL av,b∈rs)
  (hren:rnL rs av=some av') (hB:scs L rs Bs) (hlow:Bs.map (Qy false)=Bs) (hlen:Bs'.length=rs.length) (hat:AtL rs Bs Bs' L L') (k:WO A N l (upd f d (mk n)) (n+1) ((n,.sc md m g)::L') K Zp):WO A N (⟨some d,none,.h (.call x xs)⟩::l) f n L K Zp:=by
 obtain⟨b,σ1,hr,hb,h1,haf⟩:=hs
 refine Xl (v:=mk n) (fun σ h=>?_) k
 have hen:=yw (q:=false) hrs hl hsub hren hB h
 rw[hlow]at hen
 have hk:=zF hB
 have hle:rs.length<=σ1.length:=by have:=Kb haf (Zct _);omega
 have hns:Xi false rs.length (mk b) σ1=[b]:=by
  unfold Xi;have:=Db haf;rw[List.drop_zero,hlen]at this;exact wg hmk (by omega) h1 (by simp[this])
 have hnd:nodup rs=true:=Ux (by rw[<-hrs];exact Vv _ _ (by simp))
 have hp:Y6 false (Xa rs [b] σ.length rs.length) σ1 (List.range rs.length)=some Bs':=by
  rw[<-hlen,List.range_eq_range'];exact T2 _ haf
 have hble:Nat.ble rs.length σ1.length=true:=ZbN hle
 have hre:(mk b).ren (Xa rs [b] σ.length rs.length)=some (mk n):=by
  rw[hmk.ren,Q1 (by omega),h.1];rfl
 refine⟨XD σ rs Bs'++[.sc md m g],?_,(h.putL hat).new _⟩
 simp only[YK,Y2,hf,Y5,target,Option.bind_some,ha,hen,hr,Xn,hns,hnd,hble,nodup,Bool.and_self,cond_true,hre,Y6,h1,Blk.ren,XG,cond_false,hp,List.contains_nil,Bool.not_false]
def pz{x:O}{xs:List O}{fid:FuncId}{caps av av':List V}{rs:List Nat}{Bs Bs0 Bs':List Blk}{mk:Nat→V}{md:Md}{m:Nat}{g:Nat→S}(hmk:One mk)(hf:x.fv N f=.fn fid caps)(hs:RN A fid av' Bs0 mk (.sc md m g) Bs')(ha:xs.map (O.fv N f)++caps=av)(hrs:We (V.refsL av) []=rs)(hl:(V.refsL av).length<64)(hsub:∀ b∈V.refsL av,b∈rs)
  (hren:rnL rs av=some av') (hB:scs L rs Bs) (hlow:Bs.map (Qy true)=Bs0) (hlen:Bs'.length=rs.length) (k:WO A N l (upd f d (mk n)) (n+1) ((n,.sc md m g)::L) K Zp):WO A N (⟨some d,none,.h (.callq x xs)⟩::l) f n L K Zp:=by
 obtain⟨b,σ1,hr,hb,h1,haf⟩:=hs
 refine Xl (v:=mk n) (fun σ h=>?_) k
 have hen:=yw (q:=true) hrs hl hsub hren hB h
 rw[hlow]at hen
 have hk:=zF hB
 have hk0:Bs0.length=Bs.length:=by rw[<-hlow,List.length_map]
 have hle:rs.length<=σ1.length:=by have:=Kb haf (Zct _);omega
 have hns:Xi true rs.length (mk b) σ1=[b]:=by
  unfold Xi;exact wg hmk (by omega) h1 (by simp)
 have hnd:nodup rs=true:=Ux (by rw[<-hrs];exact Vv _ _ (by simp))
 have hble:Nat.ble rs.length σ1.length=true:=ZbN hle
 have hre:(mk b).ren (Xa rs [b] σ.length rs.length)=some (mk n):=by
  rw[hmk.ren,Q1 (by omega),h.1];rfl
 refine⟨σ++[.sc md m g],?_,h.new _⟩
 simp only[YK,Y2,hf,Y5,target,Option.bind_some,ha,hen,hr,Xn,hns,hnd,hble,nodup,Bool.and_self,cond_true,hre,Y6,h1,Blk.ren,XG,cond_false,List.contains_nil,Bool.not_false]
def Wr{x:O}{xs:List O}{fid:FuncId}{caps av av':List V}{rs:List Nat}{Bs Bs':List Blk}{v:V}{L':HA}(hf:x.fv N f=.fn fid caps)(hs:RB A fid av' Bs v Bs')(ha:xs.map (O.fv N f)++caps=av)(hrs:We (V.refsL av) []=rs)(hl:(V.refsL av).length<64)(hsub:∀ b∈V.refsL av,b∈rs)
  (hren:rnL rs av=some av') (hB:scs L rs Bs) (hlow:Bs.map (Qy false)=Bs) (hlen:Bs'.length=rs.length) (hv:v.loose=true) (hat:AtL rs Bs Bs' L L') (k:WO A N l (upd f d v) n L' K Zp):WO A N (⟨some d,none,.h (.call x xs)⟩::l) f n L K Zp:=by
 obtain⟨σ1,hs,haf⟩:=hs
 refine Xl (v:=v) (fun σ h=>?_) k
 have hl':(V.refsL av).length<64:=hl
 have:=tK (A:=A) (fid:=fid) hrs hl' hsub hren hB hv (by rw[hlow];exact hs) haf hlen hat h
 simp only[YK,Y2,hf,Y5,target,Option.bind_some,ha]
 simp only[Y5,target,Option.bind_some,Zcf]at this
 exact this
def pb{x:O}{xs:List O}{fid:FuncId}{caps av av':List V}{rs:List Nat}{Bs Bs0 Bs':List Blk}{v:V}(hf:x.fv N f=.fn fid caps)(hs:RB A fid av' Bs0 v Bs')(ha:xs.map (O.fv N f)++caps=av)(hrs:We (V.refsL av) []=rs)(hl:(V.refsL av).length<64)(hsub:∀ b∈V.refsL av,b∈rs)
  (hren:rnL rs av=some av') (hB:scs L rs Bs) (hlow:Bs.map (Qy true)=Bs0) (hlen:Bs'.length=rs.length) (hv:v.loose=true) (k:WO A N l (upd f d v) n L K Zp):WO A N (⟨some d,none,.h (.callq x xs)⟩::l) f n L K Zp:=by
 obtain⟨σ1,hs,haf⟩:=hs
 refine Xl (v:=v) (fun σ h=>?_) k
 have:=Kb haf (Zct _)
 have:=kl (A:=A) (fid:=fid) hrs hl hsub hren hB hv (by rw[hlow];exact hs) (by omega) h
 simp only[YK,Y2,hf,Y5,target,Option.bind_some,ha]
 simp only[Y5,target,Option.bind_some,Zcf]at this
 exact this
def Wz{a b:AC}{X:Nat->KN}{R:KN}(I:KN)(h1:WP A N a f n L (fun f n L=>∃ L',List.Sublist L' L/\I f n L') X R Zp)(h2:∀ f n L,I f n L->WP A N b f n L K X R Zp):WP A N (.seq a b) f n L K X R Zp :=
 xI (uX h1 (fun f n _ ⟨_,hs,hI⟩=>Xo hs (h2 f n _ hI)) (fun _ _ _ _ h=>h) (fun _ _ _ h=>h))
def YO{b:AC}{X:Nat->KN}{R:KN}(h:WP A N b f n L (fun f n L=>WP A N (.loop b) f n L K X R Zp) X R Zp):WP A N (.loop b) f n L K X R Zp:=fun σ hσ=>by
 obtain⟨x,f',σ',n',L',h1,h2,h3⟩:=h σ hσ;rw[qk]
 cases x with
 |normal=>
  obtain⟨x,f2,σ2,n2,L2,h4,h5,h6⟩:=h3 σ' h2;exact⟨x,f2,σ2,n2,L2,by rw[h1,then_normal,h4],h5,h6⟩
 |exit j=>exact⟨.exit j,f',σ',n',L',by rw[h1,then_exit],h2,h3⟩
 |ret=>exact⟨.ret,f',σ',n',L',by rw[h1,then_ret],h2,h3⟩
 |panic v=>exact⟨.panic v,f',σ',n',L',by rw[h1,then_panic],h2,h3⟩
def Jr{b:AC}{X:Nat->KN}{R:KN}(I:KN)(h1:WP A N b f n L (fun f n L=>∃ L',List.Sublist L' L/\I f n L') X R Zp)(h2:∀ f n L,I f n L->WP A N (.loop b) f n L K X R Zp):WP A N (.loop b) f n L K X R Zp :=
 YO (uX h1 (fun f n _ ⟨_,hs,hI⟩=>Xo hs (h2 f n _ hI)) (fun _ _ _ _ h=>h) (fun _ _ _ h=>h))
def gJ{fid:FuncId}{av:List V}{mk:Nat->V}{md:Md}{m:Nat}{g:Nat->S}(h:WR A fid av [] fun v _ L'=>∃ b,v=mk b/\(b,Blk.sc md m g)∈L'):RN A fid av [] mk (.sc md m g) []:=by
 obtain⟨v,σ',n',L',h1,h2,b,rfl,h3⟩:=h;exact⟨b,σ',h1,Zct _,(h2.2.mem h3).2,trivial⟩
def DF{z bytes m:Nat}{s x:O}{b' o':Nat}{c:Cp}{md':Md}{q':Nat}{R:Nat->Int}(hs:s.fv N f=.snil)(hx:x.fv N f=.sl b' o' m z c)(hb:(b',Blk.sc md' q' (ia R))∈L)(h0:m≠0)(hr:XC m bytes=true)
  (k:WO A N l (upd f d (.sl n 0 m z .whole)) (n+1) ((n,.sc .grow (m*z) (ia fun i=>R (o'+i)))::L) K Zp):WO A N (⟨some d,none,.h (.append z bytes s x)⟩::l) f n L K Zp :=
 Xl (v:=.sl n 0 m z .whole) (fun σ hσ=>⟨σ++[.sc .grow (m*z) (ia fun i=>R (o'+i))],by
  simp only[YK,Y2,hs,hx,WL,Vf,(hσ.2.mem hb).2,if_true];rw[Zcz h0,hr];simp only[cond_true,W5,if_true,Option.map_some,hσ.1],hσ.new _⟩) k
def T3{z bytes m p:Nat}{s x:O}{b o b' o':Nat}{c:Cp}{md':Md}{q q':Nat}{Gq R:Nat->Int}{L':HA}(hs:s.fv N f=.sl b o p z .whole)(hx:x.fv N f=.sl b' o' m z c)(hb:(b',Blk.sc md' q' (ia R))∈L)(hat:At b (.sc .grow q (ia Gq)) .dead L L')(hr:XC (p+m) bytes=true)
  (k:WO A N l (upd f d (.sl n 0 (p+m) z .whole)) (n+1) ((n,.sc .grow (p*z+m*z) (ia fun i=>bif Nat.blt i (p*z) then Gq (o+i) else R (o'+(i-p*z))))::L') K Zp):WO A N (⟨some d,none,.h (.append z bytes s x)⟩::l) f n L K Zp :=
 Xl (v:=.sl n 0 (p+m) z .whole) (fun σ hσ=>⟨wf σ b++[.sc .grow (p*z+m*z) (ia fun i=>bif Nat.blt i (p*z) then Gq (o+i) else R (o'+(i-p*z)))],by
  simp only[YK,Y2,hs,hx,WL,Vf,(hσ.2.mem hb).2,(hσ.2.mem hat.mem).2,if_true,hr,cond_true,W5,Option.map_some,hσ.1];refine congrArg some (Prod.ext rfl ?_);refine congrArg (fun B=>wf σ b++[B]) ?_;refine congrArg (Blk.sc .grow (p*z+m*z)) ?_;funext i;show(bif Nat.blt i (p*z) then S.int .i64 (Gq (o+i)) else S.int .i64 (R (o'+(i-p*z))))=_;show _=S.int .i64 (bif Nat.blt i (p*z) then Gq (o+i) else R (o'+(i-p*z)))
  cases Nat.blt i (p*z) <;> rfl,(hσ.set hat).new _⟩) k
def j5(k:WO A N l (upd f d (.map n)) (n+1) ((n,.mp .var [])::L) K Zp):WO A N (⟨some d,none,.h .mkmap⟩::l) f n L K Zp :=
 Xl (v:=.map n) (fun σ h=>⟨σ++[.mp .var []],by simp only[YK,h.1],h.new _⟩) k
def Us{od:Option Nat}{m k v:O}{b:Nat}{j:S}{x:V}{md:Md}{ps qs:List (S×V)}{L':HA}(hm:m.fv N f=.map b)(hk:k.fv N f=.s j)(hv:v.fv N f=x)(hmd:md.mut=true)(hall:(ps.all (fun p=>p.1.fits j)&&j.fits j)=true)(hq:mput j x ps=qs)
  (hat:At b (.mp md ps) (.mp md qs) L L') (kk:WO A N l (Xc f od .undef) n L' K Zp):WO A N (⟨od,none,.h (.mput m k v)⟩::l) f n L K Zp :=
 Xl (v:=.undef) (fun σ h=>⟨σ.set b (.mp md qs),by simp only[YK,Y2,hm,hk,hv,(h.2.mem hat.mem).2,hmd,if_true,hall,cond_true,hq],h.set hat⟩) kk
def WK{z:Z}{m k:O}{b:Nat}{j:S}{x:V}{md:Md}{ps:List (S×V)}(hm:m.fv N f=.map b)(hk:k.fv N f=.s j)(hat:(b,Blk.mp md ps)∈L)(hall:ps.all (fun p=>p.1.fits j)=true)(hx:(QT j ps).getD z.v=x)
  (kk:WO A N l (upd f d x) n L K Zp):WO A N (⟨some d,none,.h (.mget z false m k)⟩::l) f n L K Zp :=
 Xl (v:=x) (fun σ h=>⟨σ,by
  simp only[YK,Y2,hm,hk,(h.2.mem hat).2,hall,cond_true];subst hx
  cases QT j ps <;> rfl,h⟩) kk
end
section
variable{A:AP}{N:Nat}{f:FE}{n:Nat}{L:HA}{K:KN}{Zp:V->KN}{l:List I}{d:Nat}
def WO_eqaC{neg:Bool}{m:Nat}{x y:O}{P Q:Nat->Int}{b:Bool}(hx:x.fv N f=.agg m (ia P))(hy:y.fv N f=.agg m (ia Q))(h:(bif neg then !(eqI m P Q) else eqI m P Q)=b)(k:WO A N l (upd f d (.s (.bool b))) n L K Zp):WO A N (⟨some d,none,.p (.eqa neg m x y)⟩::l) f n L K Zp:=by
 subst h;exact pq hx hy k
end
end Go.Am
namespace Go.Am
open Go
def Blk.loose:Blk->Bool
 |.sc _ _ _=>true
 |.vs _ l=>V.looseL l
 |.mp _ l=>V.looseL (l.map (·.2))
 |.dead=>true
 |.sit _ _=>false
 |.lp _ _ _ _=>false
def Blk.low(q:Bool):Blk->Blk
 |.sc md m g=>.sc (XG q md) m g
 |.vs md l=>.vs (XG q md) l
 |.mp md l=>.mp (XG q md) l
 |b=>b
def Blk.low_false(B:Blk):B.low false=B:=by cases B <;> rfl
def rb(Bs:List Blk):Bs.map (Blk.low false)=Bs:=by
 induction Bs with
 |nil=>rfl
 |cons B Bs ih=>rw[List.map_cons,ih,Blk.low_false]
def Blk.loose_refs{B:Blk}(h:B.loose=true):B.refs=[]:=by
 cases B with
 |sc _ _ _=>rfl
 |vs md l=>exact V.looseL_refs l h
 |mp md l=>exact V.looseL_refs _ h
 |dead=>rfl
 |sit _ _=>rfl
 |lp _ _ _ _=>cases h
def y9(g:Nat->Option Nat):∀ (l:List (S×V)),V.looseL (l.map (·.2))=true->yB g l=some l
 |[],_=>rfl
 |(k,x)::l,h=>by
  simp only[List.map_cons,V.looseL,Zca]at h;simp only[yB,V.loose_ren g x h.1,y9 g l h.2]
def Blk.loose_ren{B:Blk}(h:B.loose=true)(q:Bool)(g:Nat->Option Nat):Blk.ren q g B=some (B.low q):=by
 cases B with
 |sc _ _ _=>rfl
 |vs md l=>simp only[Blk.ren,V.looseL_ren g l h,Option.map_some,Blk.low]
 |mp md l=>simp only[Blk.ren,y9 g l h,Option.map_some,Blk.low]
 |dead=>rfl
 |sit _ _=>cases h
 |lp _ _ _ _=>cases h
def lss(L:HA):List Nat->List Blk->Prop
 |[],[]=>True
 |b::rs,B::Bs=>(b,B)∈L/\B.loose=true/\lss L rs Bs
 |_,_=>False
def uG{σ:Heap}{n:Nat}{L:HA}(h:Hp σ n L):∀ {rs:List Nat} {Bs:List Blk},lss L rs Bs→∀ b∈rs,b<n∧∃ B,σ[b]? = some B∧B.loose=true
 |b::rs,B::Bs,hs,c,hc=>by
  obtain⟨h1,hl,h2⟩:=hs;rcases Zco.1 hc with e|hc
  ·subst e;have:=h.2.mem h1;exact⟨this.1,B,this.2,hl⟩
  exact uG h h2 c hc
def Dm{σ:Heap}:∀ (k:Nat) (w acc:List Nat),(∀ b∈w,∃ B,σ[b]? = some B∧B.loose=true)→w.length<k→YN σ k w acc=We w acc
 |0,_,_,_,h=>by omega
 |k+1,[],acc,_,_=>rfl
 |k+1,b::w,acc,hs,hl=>by
  obtain⟨B,hb,hBl⟩:=hs b (.head _);have hd:σ.getD b .dead=B:=by rw[ZbD,hb];rfl
  simp only[YN,We,hd,Blk.loose_refs hBl,List.nil_append];simp only[Zcd]at hl
  cases acc.contains b
  ·simp only[cond_false];exact Dm k w (acc++[b]) (fun c hc=>hs c (.tail _ hc)) (by omega)
  simp only[cond_true];exact Dm k w acc (fun c hc=>hs c (.tail _ hc)) (by omega)
def kF{σ:Heap}{n:Nat}{L:HA}(h:Hp σ n L)(q:Bool)(g:Nat->Option Nat):∀ {rs:List Nat} {Bs:List Blk},lss L rs Bs->Y6 q g σ rs=some (Bs.map (Blk.low q))
 |[],[],_=>rfl
 |b::rs,B::Bs,hs=>by
  obtain⟨h1,hl,h2⟩:=hs;simp only[Y6,(h.2.mem h1).2,Option.bind_some,Blk.loose_ren hl,kF h q g h2,List.map_cons]
def RA(σ1:Heap):Nat->List Blk->Prop
 |_,[]=>True
 |k,B::Bs=>σ1[k]? = some B/\B.loose=true/\RA σ1 (k+1) Bs
def EA{σ1:Heap}:∀ {Bs:List Blk} {k:Nat},RA σ1 k Bs->k<=σ1.length->k+Bs.length<=σ1.length
 |[],k,_,h=>h
 |B::Bs,k,ha,h=>by
  have h1:k<σ1.length:=by
   rcases Zcr k σ1.length with h|h
   ·exact h
   have h0:=ha.1;rw[ZbQ h]at h0;simp at h0
  have:=EA ha.2.2 h1;simp only[Zcd];omega
def Tc{σ1:Heap}(g:Nat->Option Nat):∀ {Bs:List Blk} {k:Nat},RA σ1 k Bs->Y6 false g σ1 (List.range' k Bs.length)=some Bs
 |[],k,_=>rfl
 |B::Bs,k,h=>by
  obtain⟨h1,hl,h2⟩:=h;simp only[Zcd,List.range'_succ,Y6,h1,Option.bind_some,Blk.loose_ren hl,Blk.low_false,Tc g h2]
def TZ{σ1:Heap}:∀ {Bs:List Blk} {k:Nat},RA σ1 k Bs->((σ1.drop k).take Bs.length).flatMap Blk.refs=[]
 |[],k,_=>by simp
 |B::Bs,k,h=>by
  obtain⟨h1,hl,h2⟩:=h;have hk:k<σ1.length:=by
   rcases Zcr k σ1.length with h|h
   ·exact h
   rw[ZbQ h]at h1;simp at h1
  rw[List.drop_eq_getElem_cons hk,Zcd,List.take_succ_cons,Zb8,TZ h2];rw[ZbH hk]at h1;injection h1 with h1
  rw[h1,Blk.loose_refs hl];rfl
def RL(A:AP)(fid:FuncId)(av:List V)(Bs:List Blk)(v:V)(Bs':List Blk):Prop:=∃ σ1,Run A fid av Bs=some (v,σ1)/\RA σ1 0 Bs'
section
variable{A:AP}{N:Nat}{f:FE}{n:Nat}{L:HA}{K:KN}{Zp:V->KN}{l:List I}{d:Nat}
def pN{q:Bool}{av av':List V}{rs:List Nat}{Bs:List Blk}(hrs:We (V.refsL av) []=rs)(hl:(V.refsL av).length<64)(hsub:∀ b∈V.refsL av,b∈rs)(hren:rnL rs av=some av')(hB:lss L rs Bs){σ:Heap}(h:Hp σ n L) :
  Xq q av σ=some (rs,av',Bs.map (Blk.low q)):=by
 have hre:YN σ 64 (V.refsL av) []=rs:=by
  rw[Dm 64 _ _ (fun b hb=>(uG h hB b (hsub b hb)).2) hl,hrs]
 unfold Xq
 simp only[hre,kF h q _ hB]
 unfold rnL at hren
 rw[hren]
def o7{av:List V}{rs:List Nat}{Bs Bs':List Blk}{v:V}{σ1:Heap}{L':HA}(hrs:We (V.refsL av) []=rs)(hv:v.loose=true)(ha:RA σ1 0 Bs')(hlen:Bs'.length=rs.length)(hat:AtL rs Bs Bs' L L'){σ:Heap}(h:Hp σ n L) :
  Xn false σ rs v σ1=some (v,XD σ rs Bs')/\Hp (XD σ rs Bs') n L':=by
 have hle:rs.length<=σ1.length:=by have:=EA ha (Zct _);omega
 have hns:Xi false rs.length v σ1=[]:=by
  unfold Xi;have:=TZ ha;rw[List.drop_zero,hlen]at this;simp[V.loose_refs v hv,this,Ut]
 refine⟨?_,h.putL hat⟩
 have hnd:nodup rs=true:=Ux (by rw[<-hrs];exact Vv _ _ (by simp))
 have hp:Y6 false (Xa rs [] σ.length rs.length) σ1 (List.range rs.length)=some Bs':=by
  rw[<-hlen,List.range_eq_range'];exact Tc _ ha
 have hble:Nat.ble rs.length σ1.length=true:=ZbN hle
 simp only[Xn,hns,hnd,hble,nodup,Bool.and_self,cond_true,V.loose_ren _ v hv,Y6,cond_false,hp,Zcf]
def Zbq{x:O}{xs:List O}{fv:V}{fid:FuncId}{args av av':List V}{rs:List Nat}{Bs Bs':List Blk}{v:V}{L':HA}{od:Option Nat}(hf:x.fv N f=fv)(ha:xs.map (O.fv N f)=args)(ht:target fv args=some (fid,av))(hs:RL A fid av' Bs v Bs')(hrs:We (V.refsL av) []=rs)(hl:(V.refsL av).length<64)(hsub:∀ b∈V.refsL av,b∈rs)
  (hren:rnL rs av=some av') (hB:lss L rs Bs) (hlen:Bs'.length=rs.length) (hv:v.loose=true) (hat:AtL rs Bs Bs' L L') (k:WO A N l (Xc f od v) n L' K Zp):WO A N (⟨od,none,.h (.call x xs)⟩::l) f n L K Zp:=by
 obtain⟨σ1,hs,haf⟩:=hs
 refine Xl (v:=v) (fun σ h=>?_) k
 have hen:=pN (q:=false) hrs hl hsub hren hB h
 rw[rb]at hen
 obtain⟨h1,h2⟩:=o7 hrs hv haf hlen hat h
 exact⟨_,by simp only[YK,Y2,hf,Y5,ha,ht,Option.bind_some,hen,hs,h1],h2⟩
end
def KA(own:Bool)(b:Nat):V:=bif own then .ptr b 0 2 else .pnil
def oY(own:Bool)(b:Nat):V.refsL [KA own b,.snil]=[]\/V.refsL [KA own b,.snil]=[b]:=by
 cases own
 ·exact .inl rfl
 exact .inr rfl
def Zaa(own:Bool){g:Nat->Option Nat}{b c:Nat}(h:g b=some c):(KA own b).ren g=some (KA own c):=by
 cases own
 ·rfl
 show(V.ptr b 0 2).ren g=_;simp only[V.ren,h,Option.map_some];rfl
def BN(A:AP)(own:Bool)(fid:FuncId)(rest:List V)(T el:TypeId)(v:V)(m:Nat)(g:Nat->S):Prop :=
 ∃ σ1 k,Run A fid (.ptr 0 0 2::rest) [.vs (.ty T) [KA own 0,.snil]]=some (v,σ1)/\σ1[0]? = some (.vs (.ty T) [.ptr 0 0 2,.sl k 0 m 1 .whole])/\1<=k/\σ1[k]? = some (.sc (.gty el) m g)
def BW(A:AP)(fid:FuncId)(rest:List V)(T el:TypeId)(m:Nat)(g:Nat->S)(v:V)(m':Nat)(g':Nat->S):Prop :=
 ∃ σ1 k,Run A fid (.ptr 0 0 2::rest) [.vs (.ty T) [.ptr 0 0 2,.sl 1 0 m 1 .whole],.sc (.gty el) m g]=some (v,σ1)/\σ1[0]? = some (.vs (.ty T) [.ptr 0 0 2,.sl k 0 m' 1 .whole])/\2<=k/\σ1[1]? = some .dead/\σ1[k]? = some (.sc (.gty el) m' g')
def BC(A:AP)(own:Bool)(fid:FuncId)(rest:List V)(T:TypeId)(v:V):Prop :=
 ∃ σ1,Run A fid (.ptr 0 0 2::rest) [.vs (.ty T) [KA own 0,.snil]]=some (v,σ1)/\σ1[0]? = some (.vs (.ty T) [.ptr 0 0 2,.snil])
def BU(A:AP)(fid:FuncId)(rest:List V)(T el:TypeId)(m:Nat)(g:Nat->S)(v:V):Prop :=
 ∃ σ1,Run A fid (.ptr 0 0 2::rest) [.vs (.ty T) [.ptr 0 0 2,.sl 1 0 m 1 .whole],.sc (.gty el) m g]=some (v,σ1)/\σ1[0]? = some (.vs (.ty T) [.ptr 0 0 2,.sl 1 0 m 1 .whole])/\σ1[1]? = some (.sc (.gty el) m g)
def BE(A:AP)(fid:FuncId)(rest:List V)(T el:TypeId)(m:Nat)(g:Nat->S)(v:V):Prop :=
 ∃ σ1,Run A fid (.ptr 0 0 2::rest) [.vs (.ty T) [.ptr 0 0 2,.sl 1 0 m 1 .whole],.sc (.gty el) m g]=some (v,σ1)/\σ1[0]? = some (.vs (.ty T) [.ptr 0 0 2,.sl 1 0 m 1 .whole])/\σ1[1]? = some .dead
section
variable{A:AP}{N:Nat}{f:FE}{n:Nat}{L:HA}{K:KN}{Zp:V->KN}{l:List I}
def kP{b:Nat}{rest:List V}(h:V.looseL rest=true):V.refsL (.ptr b 0 2::rest)=[b]:=by
 simp only[V.refsL,V.refs,V.looseL_refs rest h,Zcf]
def X4{σ:Heap}{b:Nat}{B:Blk}(h:σ[b]? = some B):σ.getD b .dead=B:=by rw[ZbD,h];rfl
def QV{σ:Heap}{b:Nat}{B:Blk}(h:σ[b]? = some B):b<σ.length:=by
 rcases Zcr b σ.length with q|q
 ·exact q
 rw[ZbQ q]at h;cases h
def tQ{σ:Heap}{B:Blk}(h:σ[0]? = some B):σ.take 1=[B]:=by
 cases σ with
 |nil=>cases h
 |cons x l=>simp only[List.getElem?_cons_zero,Zb4]at h;subst h;rfl
def jx{σ:Heap}{B C:Blk}(h:σ[0]? = some B)(h2:σ[1]? = some C):σ.take 2=[B,C]:=by
 cases σ with
 |nil=>cases h
 |cons x l=>
  simp only[List.getElem?_cons_zero,Zb4]at h;subst h;simp only[List.getElem?_cons_succ]at h2;rw[List.take_succ_cons,tQ h2]
def rX{σ:Heap}{b k:Nat}{c:List V}{md:Md}{B:Blk}(hb:σ[b]? = some (.vs md [.ptr b 0 2,.sl k 0 c.length 1 .whole]))(hk:σ[k]? = some B)(hl:B.refs=[])(hne:k≠b):YN σ 64 [b] []=[b,k]:=by
 have e1:([b]:List Nat).contains b=true:=by simp
 have e2:([b]:List Nat).contains k=false:=by simp[hne]
 have h1:YN σ 64 [b] []=YN σ 63 ([b,k]++[]) ([]++[b]):=by
  show(bif ([]:List Nat).contains b then YN σ 63 [] [] else YN σ 63 ((σ.getD b .dead).refs++[]) ([]++[b]))=_;rw[X4 hb];rfl
 have h2:YN σ 63 ([b,k]++[]) ([]++[b])=YN σ 62 [k] [b]:=by
  show(bif ([b]:List Nat).contains b then YN σ 62 [k] [b] else YN σ 62 ((σ.getD b .dead).refs++[k]) ([b]++[b]))=_;rw[e1];rfl
 have h3:YN σ 62 [k] [b]=[b,k]:=by
  show(bif ([b]:List Nat).contains k then YN σ 61 [] [b] else YN σ 61 ((σ.getD k .dead).refs++[]) ([b]++[k]))=_;rw[e2,X4 hk,hl];rfl
 rw[h1,h2,h3]
def Dl{b k m:Nat}{rest:List V}{T el:TypeId}{g:Nat->S}(hr:V.looseL rest=true)(hb:(b,Blk.vs (.ty T) [.ptr b 0 2,.sl k 0 m 1 .whole])∈L)(hk:(k,Blk.sc (.gty el) m g)∈L){σ:Heap}(h:Hp σ n L) :
  k≠b/\Xq false (.ptr b 0 2::rest) σ=some ([b,k],.ptr 0 0 2::rest,[.vs (.ty T) [.ptr 0 0 2,.sl 1 0 m 1 .whole],.sc (.gty el) m g]):=by
 have hb':=(h.2.mem hb).2
 have hk':=(h.2.mem hk).2
 have hne:k≠b:=fun e=>by subst e;rw[hb']at hk';cases hk'
 refine⟨hne,?_⟩
 have hre:YN σ 64 (V.refsL (.ptr b 0 2::rest)) []=[b,k]:=by
  rw[kP hr];exact rX (c:=List.replicate m .undef) (by simpa using hb') hk' rfl hne
 have p0:pos b [b,k]=some 0:=by simp[pos]
 have p1:pos k [b,k]=some 1:=by
  have e1:(b==k)=false:=by simpa using Ne.symm hne
  simp[pos,e1]
 unfold Xq
 rw[hre]
 simp only[V.renL,V.ren,p0,Option.map_some,V.looseL_ren _ rest hr,Y6,hb',hk',Option.bind_some,Blk.ren,p1,XG,cond_false]
def R2{k j:Nat}(h:k<=j):([j]:List Nat).filter (fun b=>Nat.ble k b)=[j]:=by
 have:Nat.ble k j=true:=ZbN h;simp[h]
def xp{own:Bool}{b:Nat}{rest:List V}{T:TypeId}(hr:V.looseL rest=true){σ:Heap}(hb:σ[b]? = some (.vs (.ty T) [KA own b,.snil])):Xq false (.ptr b 0 2::rest) σ=some ([b],.ptr 0 0 2::rest,[.vs (.ty T) [KA own 0,.snil]]):=by
 have hre:YN σ 64 (V.refsL (.ptr b 0 2::rest)) []=[b]:=by
  rw[kP hr];show(bif ([]:List Nat).contains b then YN σ 63 [] [] else YN σ 63 ((σ.getD b .dead).refs++[]) ([]++[b]))=_;rw[X4 hb];show YN σ 63 (V.refsL [KA own b,.snil]++[]) [b]=[b];rcases oY own b with h|h
  ·rw[h];rfl
  rw[h];have e1:([b]:List Nat).contains b=true:=by simp
  show(bif ([b]:List Nat).contains b then YN σ 62 [] [b] else _)=[b];rw[e1];rfl
 have p0:pos b [b]=some 0:=by simp[pos]
 unfold Xq;rw[hre];simp only[V.renL,V.ren,p0,Option.map_some,V.looseL_ren _ rest hr,Y6,hb,Option.bind_some,Blk.ren,XG,cond_false,Zaa own (g:=fun x=>pos x [b]) p0]
def zE{x:O}{xs:List O}{fid:FuncId}{b m:Nat}{rest:List V}{T el:TypeId}{g:Nat->S}{v:V}{L':HA}{od:Option Nat}{own:Bool}(hs:BN A own fid rest T el v m g)(hf:x.fv N f=.fn fid [])(ha:xs.map (O.fv N f)=.ptr b 0 2::rest)(hr:V.looseL rest=true)(hv:v.loose=true)
  (hat:At b (.vs (.ty T) [KA own b,.snil]) (.vs (.ty T) [.ptr b 0 2,.sl n 0 m 1 .whole]) L L') (k:WO A N l (Xc f od v) (n+1) ((n,.sc (.gty el) m g)::L') K Zp):WO A N (⟨od,none,.h (.call x xs)⟩::l) f n L K Zp:=by
 obtain⟨σ1,j,hrun,h0,hj,h1⟩:=hs
 refine Xl (v:=v) (fun σ h=>?_) k
 have hb:=(h.2.mem hat.mem).2
 have hen:=xp (own:=own) hr hb
 have hns:Xi false 1 v σ1=[j]:=by
  unfold Xi;have ht:(σ1.take 1).flatMap Blk.refs=[0,j]:=by rw[tQ h0];rfl
  have hre:YN σ1 64 [0,j] []=[0,j]:=by
   show YN σ1 63 ((σ1.getD 0 .dead).refs++[j]) [0]=_;rw[X4 h0];show YN σ1 62 [j,j] [0]=_;have e2:([0]:List Nat).contains j=false:=by simp;omega
   have e3:([0,j]:List Nat).contains j=true:=by simp
   show(bif ([0]:List Nat).contains j then YN σ1 61 [j] [0] else YN σ1 61 ((σ1.getD j .dead).refs++[j]) ([0]++[j]))=_;rw[e2,X4 h1];show(bif ([0,j]:List Nat).contains j then YN σ1 60 [] [0,j] else YN σ1 60 ((σ1.getD j .dead).refs++[]) ([0,j]++[j]))=_;rw[e3];rfl
  rw[V.loose_refs v hv,List.nil_append,cond_false,ht,hre];show List.filter (fun b=>Nat.ble 1 b) ([0]++[j])=[j];rw[List.filter_append,R2 hj];rfl
 have hlt:=QV h1
 have hble:Nat.ble 1 σ1.length=true:=ZbN (by omega)
 have hjb:Nat.blt j 1=false:=by
  cases hq:Nat.blt j 1 with
  |false=>rfl
  |true=>exact absurd (ZbT hq) (by omega)
 have bk:Xa [b] [j] σ.length 1 j=some n:=by unfold Xa;rw[hjb];simp[pos,h.1]
 have b0:Xa [b] [j] σ.length 1 0=some b:=rfl
 refine⟨XD σ [b] [.vs (.ty T) [.ptr b 0 2,.sl n 0 m 1 .whole]]++[.sc (.gty el) m g],?_,(h.set hat).new _⟩
 simp only[YK,Y2,hf,Y5,target,Zcf,Option.bind_some,ha,hen,hrun,Xn,Zcd,List.length_nil,Zcp,hns,nodup,List.contains_nil,Bool.not_false,hble,Bool.and_self,cond_true,V.loose_ren _ v hv,Y6,h1,Blk.ren,XG,cond_false,List.range_one,h0,V.renL,V.ren,b0,bk,Option.map_some]
def Vx{x:O}{xs:List O}{fid:FuncId}{b k m m':Nat}{rest:List V}{T el:TypeId}{g g':Nat->S}{v:V}{L' L'':HA}{od:Option Nat}(hs:BW A fid rest T el m g v m' g')(hf:x.fv N f=.fn fid [])(ha:xs.map (O.fv N f)=.ptr b 0 2::rest)(hr:V.looseL rest=true)(hv:v.loose=true)
  (hat:At b (.vs (.ty T) [.ptr b 0 2,.sl k 0 m 1 .whole]) (.vs (.ty T) [.ptr b 0 2,.sl n 0 m' 1 .whole]) L L') (hk:(k,Blk.sc (.gty el) m g)∈L) (hat2:At k (.sc (.gty el) m g) .dead L' L'') (kk:WO A N l (Xc f od v) (n+1) ((n,.sc (.gty el) m' g')::L'') K Zp):WO A N (⟨od,none,.h (.call x xs)⟩::l) f n L K Zp:=by
 obtain⟨σ1,j,hrun,h0,hj,h1,h2⟩:=hs
 refine Xl (v:=v) (fun σ h=>?_) kk
 obtain⟨hne,hen⟩:=Dl hr hat.mem hk h
 have hns:Xi false 2 v σ1=[j]:=by
  unfold Xi;have ht:(σ1.take 2).flatMap Blk.refs=[0,j]:=by rw[jx h0 h1];rfl
  have hre:YN σ1 64 [0,j] []=[0,j]:=by
   show YN σ1 63 ((σ1.getD 0 .dead).refs++[j]) [0]=_;rw[X4 h0];show YN σ1 62 [j,j] [0]=_;have e2:([0]:List Nat).contains j=false:=by simp;omega
   have e3:([0,j]:List Nat).contains j=true:=by simp
   show(bif ([0]:List Nat).contains j then YN σ1 61 [j] [0] else YN σ1 61 ((σ1.getD j .dead).refs++[j]) ([0]++[j]))=_;rw[e2,X4 h2];show(bif ([0,j]:List Nat).contains j then YN σ1 60 [] [0,j] else YN σ1 60 ((σ1.getD j .dead).refs++[]) ([0,j]++[j]))=_;rw[e3];rfl
  rw[V.loose_refs v hv,List.nil_append,cond_false,ht,hre];show List.filter (fun b=>Nat.ble 2 b) ([0]++[j])=[j];rw[List.filter_append,R2 hj];rfl
 have hlt:=QV h2
 have hble:Nat.ble 2 σ1.length=true:=ZbN (by omega)
 have hjb:Nat.blt j 2=false:=by
  cases hq:Nat.blt j 2 with
  |false=>rfl
  |true=>exact absurd (ZbT hq) (by omega)
 have bk:Xa [b,k] [j] σ.length 2 j=some n:=by unfold Xa;rw[hjb];simp[pos,h.1]
 have b0:Xa [b,k] [j] σ.length 2 0=some b:=rfl
 have hnd:([k]:List Nat).contains b=false:=by simp[Ne.symm hne]
 have hrg:List.range 2=[0,1]:=rfl
 refine⟨XD σ [b,k] [.vs (.ty T) [.ptr b 0 2,.sl n 0 m' 1 .whole],.dead]++[.sc (.gty el) m' g'],?_,((h.set hat).set hat2).new _⟩
 simp only[YK,Y2,hf,Y5,target,Zcf,Option.bind_some,ha,hen,hrun,Xn,Zcd,List.length_nil,Zcp,Nat.reduceAdd,hns,hnd,nodup,List.contains_nil,Bool.not_false,hble,Bool.and_self,cond_true,V.loose_ren _ v hv,Y6,h2,Blk.ren,XG,cond_false,hrg,h0,h1,V.renL,V.ren,b0,bk,Option.map_some]
def TL{x:O}{xs:List O}{fid:FuncId}{b k m:Nat}{rest:List V}{T el:TypeId}{g:Nat->S}{v:V}{L':HA}{od:Option Nat}(hs:BE A fid rest T el m g v)(hf:x.fv N f=.fn fid [])(ha:xs.map (O.fv N f)=.ptr b 0 2::rest)(hr:V.looseL rest=true)(hv:v.loose=true)
  (hb:(b,Blk.vs (.ty T) [.ptr b 0 2,.sl k 0 m 1 .whole])∈L) (hat:At k (.sc (.gty el) m g) .dead L L') (kk:WO A N l (Xc f od v) n L' K Zp):WO A N (⟨od,none,.h (.call x xs)⟩::l) f n L K Zp:=by
 obtain⟨σ1,hrun,h0,h1⟩:=hs
 refine Xl (v:=v) (fun σ h=>?_) kk
 obtain⟨hne,hen⟩:=Dl hr hb hat.mem h
 have hns:Xi false 2 v σ1=[]:=by
  unfold Xi;have ht:(σ1.take 2).flatMap Blk.refs=[0,1]:=by rw[jx h0 h1];rfl
  have hre:YN σ1 64 [0,1] []=[0,1]:=by
   show YN σ1 63 ((σ1.getD 0 .dead).refs++[1]) [0]=_;rw[X4 h0];show YN σ1 61 ((σ1.getD 1 .dead).refs++[1]) [0,1]=_;rw[X4 h1];rfl
  rw[V.loose_refs v hv,List.nil_append,cond_false,ht,hre];rfl
 have hlt:=QV h1
 have hble:Nat.ble 2 σ1.length=true:=ZbN (by omega)
 have b0:Xa [b,k] [] σ.length 2 0=some b:=rfl
 have b1:Xa [b,k] [] σ.length 2 1=some k:=rfl
 have hnd:([k]:List Nat).contains b=false:=by simp[Ne.symm hne]
 have hrg:List.range 2=[0,1]:=rfl
 have hb':=(h.2.mem hb).2
 have hself:σ.set b (.vs (.ty T) [.ptr b 0 2,.sl k 0 m 1 .whole])=σ:=by
  refine List.ext_getElem? fun i=>?_
  by_cases e:b=i
  ·subst e;rw[ZbL (QV hb'),hb']
  rw[ZbX e]
 refine⟨σ.set k .dead,?_,h.set hat⟩
 simp only[YK,Y2,hf,Y5,target,Zcf,Option.bind_some,ha,hen,hrun,Xn,Zcd,List.length_nil,Zcp,Nat.reduceAdd,hns,hnd,nodup,List.contains_nil,Bool.not_false,hble,Bool.and_self,cond_true,V.loose_ren _ v hv,Y6,Blk.ren,XG,cond_false,hrg,h0,h1,V.renL,V.ren,b0,b1,Option.map_some,XD,hself]
def wZ{x:O}{xs:List O}{fid:FuncId}{b:Nat}{rest:List V}{T:TypeId}{v:V}{L':HA}{od:Option Nat}{own:Bool}(hs:BC A own fid rest T v)(hf:x.fv N f=.fn fid [])(ha:xs.map (O.fv N f)=.ptr b 0 2::rest)(hr:V.looseL rest=true)(hv:v.loose=true)
  (hat:At b (.vs (.ty T) [KA own b,.snil]) (.vs (.ty T) [.ptr b 0 2,.snil]) L L') (k:WO A N l (Xc f od v) n L' K Zp):WO A N (⟨od,none,.h (.call x xs)⟩::l) f n L K Zp:=by
 obtain⟨σ1,hrun,h0⟩:=hs
 refine Xl (v:=v) (fun σ h=>?_) k
 have hb:=(h.2.mem hat.mem).2
 have hen:=xp (own:=own) hr hb
 have hns:Xi false 1 v σ1=[]:=by
  unfold Xi;have ht:(σ1.take 1).flatMap Blk.refs=[0]:=by rw[tQ h0];rfl
  have hre:YN σ1 64 [0] []=[0]:=by
   show YN σ1 63 ((σ1.getD 0 .dead).refs++[]) [0]=_;rw[X4 h0];rfl
  rw[V.loose_refs v hv,List.nil_append,cond_false,ht,hre];rfl
 have hlt:=QV h0
 have hble:Nat.ble 1 σ1.length=true:=ZbN (by omega)
 have b0:Xa [b] [] σ.length 1 0=some b:=rfl
 refine⟨XD σ [b] [.vs (.ty T) [.ptr b 0 2,.snil]],?_,h.set hat⟩
 simp only[YK,Y2,hf,Y5,target,Zcf,Option.bind_some,ha,hen,hrun,Xn,Zcd,List.length_nil,Zcp,hns,nodup,List.contains_nil,Bool.not_false,hble,Bool.and_self,cond_true,V.loose_ren _ v hv,Y6,Blk.ren,XG,cond_false,List.range_one,h0,V.renL,V.ren,b0,Option.map_some]
def WO_bldU{x:O}{xs:List O}{fid:FuncId}{b k m:Nat}{rest:List V}{T el:TypeId}{g:Nat->S}{v:V}{od:Option Nat}(hs:BU A fid rest T el m g v)(hf:x.fv N f=.fn fid [])(ha:xs.map (O.fv N f)=.ptr b 0 2::rest)(hr:V.looseL rest=true)(hv:v.loose=true)
  (hb:(b,Blk.vs (.ty T) [.ptr b 0 2,.sl k 0 m 1 .whole])∈L) (hk:(k,Blk.sc (.gty el) m g)∈L) (kk:WO A N l (Xc f od v) n L K Zp):WO A N (⟨od,none,.h (.call x xs)⟩::l) f n L K Zp:=by
 obtain⟨σ1,hrun,h0,h1⟩:=hs
 refine Xl (v:=v) (fun σ h=>?_) kk
 obtain⟨hne,hen⟩:=Dl hr hb hk h
 have hns:Xi false 2 v σ1=[]:=by
  unfold Xi;have ht:(σ1.take 2).flatMap Blk.refs=[0,1]:=by rw[jx h0 h1];rfl
  have hre:YN σ1 64 [0,1] []=[0,1]:=by
   show YN σ1 63 ((σ1.getD 0 .dead).refs++[1]) [0]=_;rw[X4 h0];show YN σ1 61 ((σ1.getD 1 .dead).refs++[1]) [0,1]=_;rw[X4 h1];rfl
  rw[V.loose_refs v hv,List.nil_append,cond_false,ht,hre];rfl
 have hlt:=QV h1
 have hble:Nat.ble 2 σ1.length=true:=ZbN (by omega)
 have b0:Xa [b,k] [] σ.length 2 0=some b:=rfl
 have b1:Xa [b,k] [] σ.length 2 1=some k:=rfl
 have hnd:([k]:List Nat).contains b=false:=by simp[Ne.symm hne]
 have hrg:List.range 2=[0,1]:=rfl
 have hself:∀ (i:Nat) B,σ[i]? = some B->σ.set i B=σ:=fun i B hB=>by
  refine List.ext_getElem? fun j=>?_
  by_cases e:i=j
  ·subst e;rw[ZbL (QV hB),hB]
  rw[ZbX e]
 refine⟨σ,?_,h⟩
 simp only[YK,Y2,hf,Y5,target,Zcf,Option.bind_some,ha,hen,hrun,Xn,Zcd,List.length_nil,Zcp,Nat.reduceAdd,hns,hnd,nodup,List.contains_nil,Bool.not_false,hble,Bool.and_self,cond_true,V.loose_ren _ v hv,Y6,Blk.ren,XG,cond_false,hrg,h0,h1,V.renL,V.ren,b0,b1,Option.map_some,XD,hself b _ (h.2.mem hb).2,hself k _ (h.2.mem hk).2]
def kz{el:TypeId}{bytes:Nat}{s x:O}{t:ByteArray}{d:Nat}(hs:s.fv N f=.snil)(hx:x.fv N f=.s (.str t))(h0:t.size≠0)(hr:XC t.size bytes=true)(k:WO A N l (upd f d (.sl n 0 t.size 1 .whole)) (n+1) ((n,.sc (.gty el) t.size (Xv t))::L) K Zp):WO A N (⟨some d,none,.h (.appendb el bytes s x)⟩::l) f n L K Zp :=
 Xl (v:=.sl n 0 t.size 1 .whole) (fun σ h=>⟨σ++[.sc (.gty el) t.size (Xv t)],by
  simp only[YK,Y2,hs,hx,Q4,Zcz h0,hr,cond_true,h.1],h.new _⟩) k
def Zax{el:TypeId}{bytes:Nat}{s x:O}{t:ByteArray}{d b m q:Nat}{g:Nat->S}{L':HA}(hs:s.fv N f=.sl b 0 m 1 .whole)(hx:x.fv N f=.s (.str t))(hr:XC (m+t.size) bytes=true)(hat:At b (.sc (.gty el) q g) .dead L L')(k:WO A N l (upd f d (.sl n 0 (m+t.size) 1 .whole)) (n+1) ((n,.sc (.gty el) (m+t.size) (fun i=>bif Nat.blt i m then g i else Xv t (i-m)))::L') K Zp):WO A N (⟨some d,none,.h (.appendb el bytes s x)⟩::l) f n L K Zp :=
 Xl (v:=.sl n 0 (m+t.size) 1 .whole) (fun σ h=>⟨wf σ b++[.sc (.gty el) (m+t.size) (fun i=>bif Nat.blt i m then g i else Xv t (i-m))],by
  simp only[YK,Y2,hs,hx,Q4,(h.2.mem hat.mem).2,if_true,hr,cond_true,h.1],(h.set hat).new _⟩) k
def uv{a b:Array UInt8}(i:Nat):(a++b).getD i 0=bif Nat.blt i a.size then a.getD i 0 else b.getD (i-a.size) 0:=by
 rw[ZbC,Array.getElem?_append];by_cases h:i<a.size
 ·rw[ZcA h,show Nat.blt i a.size=true from ZbN h,cond_true,ZbC]
 rw[Zcz h,show Nat.blt i a.size=false from Bool.eq_false_iff.2 fun e=>h (ZbT e),cond_false,ZbC]
def Tp(s t:ByteArray):(fun i=>bif Nat.blt i s.size then Xv s i else Xv t (i-s.size))=Xv (s++t):=by
 funext i;unfold Xv;have e:(s++t).data=s.data++t.data:=by simp
 rw[e,uv];show _=S.int .u8 ((bif Nat.blt i s.size then s.data.getD i 0 else t.data.getD (i-s.size) 0).toNat)
 cases Nat.blt i s.size <;> rfl
end
end Go.Am
namespace Go.Am
open Go
section
variable{A:AP}{N:Nat}{f:FE}{n:Nat}{L:HA}{K:KN}{Zp:V->KN}{l:List I}{d:Nat}
def Vj{L':HA}(hs:List.Sublist L' L)(k:WO A N l f n L' K Zp):WO A N l f n L K Zp:=fun σ hσ=>k σ (hσ.sub hs)
inductive FillG(N:Nat)(f:FE):List (Nat×Nat×O)->(Nat->S)->(Nat->S)->Prop
 |nil {g:Nat->S}:FillG N f [] g g
 |one {off:Nat} {x:O} {a:S} {r:List (Nat×Nat×O)} {g h:Nat->S} (hx:x.fv N f=.s a) (hr:FillG N f r (WE g off 1 fun _=>a) h):FillG N f ((off,1,x)::r) g h
def vY{ps:List (Nat×Nat×O)}{g h:Nat->S}(hf:FillG N f ps g h):WJ (E N f) ps g=some h:=by
 induction hf with
 |nil=>rfl
 |one hx _ ih=>simp only[WJ,Y2,hx,V.scells,if_true,ih]
def yy{len:Nat}{z:S}{ps:List (Nat×O)}{g:Nat->S}(hi:QH len (ps.map fun p=>(p.1*1,1,p.2))=true)(h:FillG N f (ps.map fun p=>(p.1*1,1,p.2)) (fun _=>z) g)
  (k:WO A N l (upd f d (.sl n 0 len 1 (.ex len))) (n+1) ((n,.sc .var len g)::L) K Zp):WO A N (⟨some d,none,.h (.mksl len 1 (.one (.s z)) ps)⟩::l) f n L K Zp :=
 Xl (v:=.sl n 0 len 1 (.ex len)) (fun σ hσ=>⟨σ++[.sc .var len g],by
  simp only[YK,Z.row,Ws,hi,if_true,vY h,Option.map_some,hσ.1],hσ.new _⟩) k
end
end Go.Am
namespace Go.Am
open Go
section
variable{A:AP}{N:Nat}{f:FE}{n:Nat}{L:HA}{K:KN}{Zp:V->KN}{l:List I}
end
end Go.Am
namespace Go.Am
open Go
def T1(r:Res):UV r r:=by
 match r with
 |none=>rfl
 |some (.panic x,e,σ)=>exact⟨rfl,rfl⟩
 |some (.normal,e,σ)=>rfl
 |some (.exit _,e,σ)=>rfl
 |some (.ret,e,σ)=>rfl
section
variable{A:AP}{n:Nat}{L:HA}
end
def Moves(run:Runner)(b:I)(d:Nat):Prop :=
 ∀ (e:Env) (x:V) (σ:Heap),XO run b (e.set d x) σ=(XO run b e σ).map (fun r=>(r.1.set d x,r.2))/\WZ run b (e.set d x) σ=WZ run b e σ
def qL{A:AP}{N:Nat}{f:FE}{n:Nat}{L:HA}{K:KN}{Zp:V->KN}{l:List I}{d:Nat}{x:O}{fid:FuncId}{mk:Nat->V}{B:Blk}(hmk:One mk)(hl:B.loose=true)(hf:x.fv N f=.fn fid [])(hs:RN A fid [] [] mk B [])
  (k:WO A N l (upd f d (mk n)) (n+1) ((n,B)::L) K Zp):WO A N (⟨some d,none,.h (.call x [])⟩::l) f n L K Zp:=by
 obtain⟨b,σ1,hr,_,h1,_⟩:=hs
 refine Xl (v:=mk n) (fun σ h=>?_) k
 have hns:Xi false 0 (mk b) σ1=[b]:=by
  unfold Xi;have hre:YN σ1 64 ((mk b).refs++[]) []=[b]:=by
   rw[hmk.refs];show(bif ([]:List Nat).contains b then YN σ1 63 [] [] else YN σ1 63 ((σ1.getD b .dead).refs++[]) ([]++[b]))=[b];rw[X4 h1,Blk.loose_refs hl];rfl
  show List.filter (fun b=>Nat.ble 0 b) (YN σ1 64 ((mk b).refs++(σ1.take 0).flatMap Blk.refs) [])=[b];rw[List.take_zero,List.flatMap_nil,hre,R2 (Zct b)]
 have hre:(mk b).ren (Xa [] [b] σ.length 0)=some (mk n):=by
  rw[hmk.ren,Q1 (Zct b),h.1];rfl
 have hble:Nat.ble 0 σ1.length=true:=rfl
 refine⟨σ++[B],?_,h.new _⟩
 simp only[YK,Y2,hf,Y5,target,List.map_nil,Zcf,Option.bind_some,Xq,V.refsL,Ut,V.renL,Y6,hr,Xn,List.length_nil,hns,nodup,List.contains_nil,Bool.not_false,Bool.and_self,hble,cond_true,hre,h1,Blk.loose_ren hl,Blk.low_false,cond_false,List.range_zero,XD]
end Go.Am
namespace Go.Am
open Go
section
variable{A:AP}{N:Nat}{f:FE}{n:Nat}{L:HA}{K:KN}{Zp:V->KN}{l:List I}{d:Nat}
def w4{T:TypeId}{x:O}{vs:List V}{m:Nat}(hx:x.fv N f=.aggv vs)(hm:vs.length=m)(k:WO A N l (upd f d (.ptr n 0 m)) (n+1) ((n,.vs (.ty T) vs)::L) K Zp):WO A N (⟨some d,none,.h (.boxt T x)⟩::l) f n L K Zp:=by
 subst hm;exact Xl (v:=.ptr n 0 vs.length) (fun σ hσ=>⟨σ++[.vs (.ty T) vs],by simp only[YK,Y2,hx,hσ.1],hσ.new _⟩) k
end
end Go.Am
namespace Go.Am
open Go
section
variable{A:AP}{N:Nat}{f:FE}{n:Nat}{L:HA}{K:KN}{Zp:V->KN}
def WOx(A:AP)(N:Nat)(l:List I)(f:FE)(n:Nat)(L:HA)(K:KN)(Zp:V->KN):Prop :=
 ∀ σ,Hp σ n L->∃ x f' σ' n' L',YX (Run A) l (E N f) σ=some (x,E N f',σ')/\Hp σ' n' L'/\outO x f' n' L' K Zp
def JJ{X:Nat->KN}{R:KN}{l:List I}(h:WOx A N l f n L K Zp):WP A N (.ops l) f n L K X R Zp:=fun σ hσ=>by
 obtain⟨x,f',σ',n',L',h1,h2,h3⟩:=h σ hσ;refine⟨x,f',σ',n',L',by rw[kW,h1],h2,?_⟩
 cases x with
 |normal=>exact h3
 |panic v=>exact h3
 |exit j=>exact h3.elim
 |ret=>exact h3.elim
def Vd{l:List I}(h:WO A N l f n L K Zp):WOx A N l f n L K Zp:=fun σ hσ=>by
 obtain⟨x,f',σ',n',L',h1,h2,h3⟩:=h σ hσ;exact⟨x,f',σ',n',L',U8 h1,h2,h3⟩
def UB{r:Runner}{l2:List I}:∀ {l:List I} {e e':Env} {σ σ':Heap},YX r l e σ=some (.normal,e',σ')->YX r (l++l2) e σ=YX r l2 e' σ'
 |[],e,e',σ,σ',h=>by
  simp only[YX,Zb4,Zcn,true_and]at h;obtain⟨rfl,rfl⟩:=h;rfl
 |o::l,e,e',σ,σ',h=>by
  simp only[YX]at h;simp only[List.cons_append,YX];split at h
  ·exact UB h
  split at h
  ·exact UB h
  simp only[ZbK,Zcn]at h;obtain⟨y,_,h1,_⟩:=h
  cases h1
def KE{l1 l2:List I}(h:WO A N l1 f n L (fun f n L=>WOx A N l2 f n L K Zp) (fun _ _ _ _=>False)):WOx A N (l1++l2) f n L K Zp:=fun σ hσ=>by
 obtain⟨x,f',σ',n',L',h1,h2,h3⟩:=h σ hσ
 cases x with
 |normal=>
  obtain⟨y,f2,σ2,n2,L2,k1,k2,k3⟩:=h3 σ' h2;exact⟨y,f2,σ2,n2,L2,(UB (U8 h1)).trans k1,k2,k3⟩
 |panic v=>exact h3.elim
 |exit j=>exact h3.elim
 |ret=>exact h3.elim
def vj{X:Nat→KN}{R:KN}{ps:List (List Nat)}{l:List I}(h:∀ σ,Hp σ n L→∃ x f' σ' n' L',YX (Run A) l (E N f) σ=some (x,E N f',σ')∧(∀ p∈ps,UV (YX (Run A) (Xy l p) (E N f) σ) (some (x,E N f',σ')))∧Hp σ' n' L'∧outO x f' n' L' K Zp):WP A N (.parc ps l) f n L K X R Zp:=fun σ hσ=>by
 obtain⟨x,f',σ',n',L',h1,h0,h2,h3⟩:=h σ hσ;refine⟨x,f',σ',n',L',oa h1 h0,h2,?_⟩
 cases x with
 |normal=>exact h3
 |panic v=>exact h3
 |exit j=>exact h3.elim
 |ret=>exact h3.elim
def uJ{o:I}{l:List I}{b k:Nat}{rd:RD}{caps:List V}{st:Nat}{x:O}{xs:List O}(ho:o.ins=.h (.call x xs))(hg:XY o (E N f)=true)(hf:x.fv N f=.yv b)(hm:(b,Blk.lp k rd caps st)∈L)
  (h:∀ σ,Hp σ n L->∃ v σ' n' L',Qr (Run A) k (.yv b::xs.map (O.fv N f)) σ=some (v,σ')/\Hp σ' n' L'/\WOx A N l (Xc f o.dst v) n' L' K Zp):WOx A N (o::l) f n L K Zp:=fun σ hσ=>by
 obtain⟨v,σ',n',L',h1,h2,h3⟩:=h σ hσ
 have hy:VL (Run A) o (E N f) σ=some (E N (Xc f o.dst v),σ'):=by
  unfold VL;rw[hg,cond_true,ho];simp only[Y2,hf,(hσ.2.mem hm).2];have:xs.map (fun x=>x.ev (E N f))=xs.map (O.fv N f):=List.map_congr_left fun y _=>Y2 N f y
  rw[h1];simp only[Option.map_some,R0]
 obtain⟨y,f2,σ2,n2,L2,k1,k2,k3⟩:=h3 σ' h2
 refine⟨y,f2,σ2,n2,L2,?_,k2,k3⟩
 simp only[YX,zf hy,hy]
 exact k1
end
def vh{A:AP}(g:O)(k:Nat)(rd:RD)(e:Env)(σ:Heap):Ve A (.rfn g k rd) e σ=Qb (Run A) g k rd e σ:=by
 refine Qt fun r=>⟨fun h=>?_,fun h=>?_⟩
 ·obtain⟨n,h⟩:=Wl h;simp only[Xh]at h;exact qF (sZ n) h
 have h0:=h;unfold Qb at h;split at h
 ·rename_i gf caps hg;split at h
  ·rename_i y hy;obtain⟨n,hn⟩:=oA hy;refine X5 (n:=n) ?_;simp only[Xh];unfold Qb at h0 ⊢;rw[hg]at h0 ⊢;simp only at h0 ⊢;rw[hy]at h0;rw[hn];exact h0
  cases h
 cases h
end Go.Am
namespace Go.Am
open Go
def J9:HA->Nat->Option Blk
 |[],_=>none
 |(c,B)::L,b=>bif Nat.beq c b then some B else J9 L b
def kE:∀ {L:HA} {b:Nat} {B:Blk},J9 L b=some B->(b,B)∈L
 |[],_,_,h=>by cases h
 |(c,C)::L,b,B,h=>by
  unfold J9 at h
  cases hb:Nat.beq c b with
  |true=>
   rw[hb,cond_true]at h;injection h with h
   subst h;rw[ZbR hb];exact .head _
  |false=>
   rw[hb,cond_false]at h;exact .tail _ (kE h)
def JM{σ:Heap}{n:Nat}{L:HA}(hσ:Hp σ n L){b:Nat}{B:Blk}(h:J9 L b=some B):σ[b]? = some B:=(hσ.2.mem (kE h)).2
def TA(L:HA):Nat->List Nat->List Nat->Option (List Nat)
 |0,_,acc=>some acc
 |_+1,[],acc=>some acc
 |n+1,b::w,acc=>bif acc.contains b then TA L n w acc else match J9 L b with
  |some B=>TA L n (B.refs++w) (acc++[b])
  |none=>none
def RZ{σ:Heap}{n:Nat}{L:HA}(hσ:Hp σ n L):∀ (m:Nat) (w acc rs:List Nat),TA L m w acc=some rs->YN σ m w acc=rs
 |0,_,_,_,h=>by injection h
 |_+1,[],_,_,h=>by injection h
 |m+1,b::w,acc,rs,h=>by
  unfold TA at h;unfold YN
  cases hc:acc.contains b with
  |true=>
   rw[hc,cond_true]at h;rw[cond_true];exact RZ hσ m w acc rs h
  |false=>
   rw[hc,cond_false]at h;rw[cond_false];split at h
   ·rename_i B hB;have:σ.getD b .dead=B:=by rw[ZbD,JM hσ hB];rfl
    rw[this];exact RZ hσ m _ _ rs h
   cases h
def zB(q:Bool)(f:Nat->Option Nat)(L:HA):List Nat->Option (List Blk)
 |[]=>some []
 |b::l=>match (J9 L b).bind (Blk.ren q f),zB q f L l with
  |some x,some r=>some (x::r)
  |_,_=>none
def Eo{σ:Heap}{n:Nat}{L:HA}(hσ:Hp σ n L){q:Bool}{f:Nat->Option Nat}:∀ {l:List Nat} {Bs:List Blk},zB q f L l=some Bs->Y6 q f σ l=some Bs
 |[],_,h=>h
 |b::l,Bs,h=>by
  unfold zB at h;split at h
  ·rename_i x r h1 h2;injection h with h
   subst h;simp only[ZbI]at h1;obtain⟨B,hB,h1⟩:=h1;simp only[Y6,JM hσ hB,Option.bind_some,h1,Eo hσ h2]
  cases h
def xM(q:Bool)(all:List V)(L:HA):Option (List Nat×List V×List Blk) :=
 match TA L 64 (V.refsL all) [] with
 |some rs=>match V.renL (pos · rs) all,zB q (pos · rs) L rs with
  |some vs,some Bs=>some (rs,vs,Bs)
  |_,_=>none
 |none=>none
def ou{σ:Heap}{n:Nat}{L:HA}(hσ:Hp σ n L){q:Bool}{all:List V}{rs:List Nat}{vs:List V}{Bs:List Blk}(h:xM q all L=some (rs,vs,Bs)):Xq q all σ=some (rs,vs,Bs):=by
 unfold xM at h;split at h
 ·rename_i rs' hr;split at h
  ·rename_i vs' Bs' h1 h2;injection h with h
   simp only[Zcn]at h;obtain⟨rfl,rfl,rfl⟩:=h;unfold Xq;dsimp only;rw[RZ hσ _ _ _ _ hr,h1,Eo hσ h2]
  cases h
 cases h
def jC(L:HA):List Nat->Option (List Blk)
 |[]=>some []
 |b::l=>match J9 L b,jC L l with
  |some x,some r=>some (x::r)
  |_,_=>none
def xD{σ:Heap}{n:Nat}{L:HA}(hσ:Hp σ n L):∀ (m i:Nat) (Bs:List Blk),jC L (List.range' i m)=some Bs->(σ.drop i).take m=Bs
 |0,_,Bs,h=>by injection h
 |m+1,i,Bs,h=>by
  rw[List.range'_succ]at h;unfold jC at h;split at h
  ·rename_i x r h1 h2;injection h with h
   subst h;have hx:=JM hσ h1;have hi:i<σ.length:=by
    rcases Zcr i σ.length with h|h
    ·exact h
    rw[ZbQ h]at hx;cases hx
   rw[List.drop_eq_getElem_cons hi,List.take_succ_cons,xD hσ m (i+1) r h2];rw[ZbH hi]at hx;injection hx with hx
   rw[hx]
  cases h
def j0(q:Bool)(n:Nat)(rs:List Nat)(r:V)(L1:HA)(n1:Nat):Option (V×List Blk×List Blk) :=
 match jC L1 (List.range' 0 (bif q then 0 else rs.length)) with
 |some ws=>match TA L1 64 (r.refs++ws.flatMap Blk.refs) [] with
  |some all=> bif nodup rs&&nodup (all.filter (fun b=> Nat.ble rs.length b))&&Nat.ble rs.length n1 then
    match V.ren (Xa rs (all.filter (fun b=>Nat.ble rs.length b)) n rs.length) r,zB false (Xa rs (all.filter (fun b=>Nat.ble rs.length b)) n rs.length) L1 (all.filter (fun b=>Nat.ble rs.length b)),zB false (Xa rs (all.filter (fun b=>Nat.ble rs.length b)) n rs.length) L1 (List.range (bif q then 0 else rs.length)) with
    |some r',some new,some old=>some (r',old,new)
    |_,_,_=>none
   else none
  |none=>none
 |none=>none
def oL{σ1:Heap}{n1:Nat}{L1:HA}(hσ:Hp σ1 n1 L1){q:Bool}{n:Nat}{rs:List Nat}{r r':V}{old new:List Blk}{σ:Heap}(hn:σ.length=n)(h:j0 q n rs r L1 n1=some (r',old,new)):Xn q σ rs r σ1=some (r',XD σ rs old++new):=by
 unfold j0 at h;split at h
 ·rename_i ws hw;split at h
  ·rename_i all ha;have hns:Xi q rs.length r σ1=all.filter (fun b=>Nat.ble rs.length b):=by
    unfold Xi;have ht:(bif q then [] else (σ1.take rs.length).flatMap Blk.refs)=ws.flatMap Blk.refs:=by
     have:=xD hσ _ _ _ hw
     cases q with
     |true=>rw[cond_true,List.take_zero]at this;rw[cond_true,<-this];rfl
     |false=>rw[cond_false,List.drop_zero]at this;rw[cond_false,this]
    rw[ht,RZ hσ _ _ _ _ ha]
   generalize all.filter (fun b=>Nat.ble rs.length b)=ns at h hns
   cases hc:(nodup rs&&nodup ns&&Nat.ble rs.length n1) with
   |false=>rw[hc,cond_false]at h;cases h
   |true=>
    rw[hc,cond_true]at h;split at h
    ·rename_i v nw od h1 h2 h3;injection h with h
     simp only[Zcn]at h;obtain⟨rfl,rfl,rfl⟩:=h;unfold Xn;simp only[hns,hσ.1,hn,hc,cond_true,h1,Eo hσ h2]
     cases q with
     |true=>
      rw[cond_true]at h3 ⊢;injection h3 with h3
      subst h3
      cases rs <;> rfl
     |false=>
      rw[cond_false]at h3 ⊢;rw[Eo hσ h3]
    cases h
  cases h
 cases h
def kV{b:Nat}{B:Blk}:∀ {L:HA},∀ q∈setL b B L,∃ p∈L,p.1=q.1
 |(c,C)::L,q,hq=>by
  rcases Zco.1 hq with he|hq
  ·exact⟨_,.head _,by rw[he]⟩
  obtain⟨p,hp,e⟩:=kV q hq;exact⟨p,.tail _ hp,e⟩
def HL.setL{σ:Heap}{n b:Nat}{B:Blk}:∀ {L:HA},HL σ n L->σ.length=n->HL (σ.set b B) n (setL b B L)
 |[],_,_=>trivial
 |(c,C)::L,h,hl=>by
  refine⟨h.1,?_,fun q hq=>?_,h.2.2.2.setL hl⟩
  ·cases hb:Nat.beq c b with
   |true=>
    have:=ZbR hb;subst this;rw[cond_true,ZbL (by rw[hl];exact h.1)]
   |false=>
    have hne:b≠c:=fun e=>by
     subst e;rw[Nat.beq_refl]at hb;cases hb
    rw[cond_false,ZbX hne];exact h.2.1
  obtain⟨p,hp,e⟩:=kV q hq;rw[<-e];exact h.2.2.1 p hp
def Hp.setL{σ:Heap}{n b:Nat}{B:Blk}{L:HA}(h:Hp σ n L):Hp (σ.set b B) n (setL b B L):=⟨by simp[h.1],h.2.setL h.1⟩
def putA:List Nat->List Blk->HA->HA
 |b::l,B::r,L=>putA l r (setL b B L)
 |_,_,L=>L
def Hp.putA:∀ {rs:List Nat} {Bs:List Blk} {L:HA} {σ:Heap} {n:Nat},Hp σ n L->Hp (XD σ rs Bs) n (putA rs Bs L)
 |_::l,_::r,_,_,_,h=>Hp.putA (rs:=l) (Bs:=r) h.setL
 |[],[],_,_,_,h=>h
 |[],_::_,_,_,_,h=>h
 |_::_,[],_,_,_,h=>h
def newA:Nat->List Blk->HA->HA
 |_,[],L=>L
 |n,B::l,L=>newA (n+1) l ((n,B)::L)
def Hp.newA:∀ {Bs:List Blk} {L:HA} {σ:Heap} {n:Nat},Hp σ n L->Hp (σ++Bs) (n+Bs.length) (newA n Bs L)
 |[],_,_,_,h=>by rw[Zcf];exact h
 |B::l,L,σ,n,h=>by
  have:=Hp.newA (Bs:=l) (h.new B);rw[Zb5]at this;rw[Zcd,show n+(l.length+1)=n+1+l.length by omega];exact this
section
variable{A:AP}{N:Nat}{f:FE}{n:Nat}{L:HA}{K:KN}{Zp:V->KN}
def back(q:Bool)(n:Nat)(L:HA)(rs:List Nat)(K:KR):KR:=fun r n1 L1=>∃ r' old new,j0 q n rs r L1 n1=some (r',old,new)/\K r' (n+new.length) (newA n new (putA rs old L))
def back_ok{q:Bool}{rs:List Nat}{K:KR}{σ σ1:Heap}{r:V}{n1:Nat}{L1:HA}(hσ:Hp σ n L)(h1:Hp σ1 n1 L1)(h:back q n L rs K r n1 L1):∃ v σ' n' L',Xn q σ rs r σ1=some (v,σ')/\Hp σ' n' L'/\K v n' L':=by
 obtain⟨r',old,new,hl,hk⟩:=h;exact⟨r',_,_,_,oL h1 hσ.1 hl,hσ.putA.newA,hk⟩
def sj{q:Bool}{fv:V}{args:List V}{fid:FuncId}{av:List V}{rs:List Nat}{vs:List V}{Bs:List Blk}{K:KR}(ht:target fv args=some (fid,av))(he:xM q av L=some (rs,vs,Bs))(hr:WR A fid vs Bs (back q n L rs K)){σ:Heap}(hσ:Hp σ n L):∃ v σ' n' L',Y5 (Run A) q fv args σ=some (v,σ')/\Hp σ' n' L'/\K v n' L':=by
 obtain⟨r,σ1,n1,L1,h1,h2,h3⟩:=hr;obtain⟨v,σ',n',L',k1,k2,k3⟩:=back_ok hσ h2 h3;refine⟨v,σ',n',L',?_,k2,k3⟩;unfold Y5;rw[ht,Option.bind_some];dsimp only;rw[ou hσ he,Option.bind_some,h1,Option.bind_some,k1]
def vm{x:O}{xs:List O}{fv:V}{args av:List V}{fid:FuncId}{rs:List Nat}{vs:List V}{Bs:List Blk}{l:List I}{od:Option Nat}(hf:x.fv N f=fv)(ha:xs.map (O.fv N f)=args)(ht:target fv args=some (fid,av))(he:xM false av L=some (rs,vs,Bs))
  (hr:WR A fid vs Bs (back false n L rs fun v n' L'=>WO A N l (Xc f od v) n' L' K Zp)):WO A N (⟨od,none,.h (.call x xs)⟩::l) f n L K Zp:=fun σ hσ=>by
 obtain⟨v,σ1,n1,L1,h1,h2,h3⟩:=sj ht he hr hσ
 obtain⟨y,f',σ',n',L',k1,k2,k3⟩:=h3 σ1 h2
 refine⟨y,f',σ',n',L',?_,k2,k3⟩
 rw[<-k1]
 simp only[WF,XO,Xr,YK,Y2,hf,ha,h1,Option.map_some,R0]
def endK(b st:Nat)(x:Bool)(K:KR):KN:=fun _ n L=>∃ k rd caps,J9 L b=some (.lp k rd caps 1)/\K (.s (.bool x)) n (setL b (.lp k rd caps st) L)
def TF{k:Nat}{B:BF}{b:Nat}{xs caps:List V}{Bs:List Blk}{K:KR}(hB:A.bods k=some B)(hb:J9 (YZ 0 Bs) b=some (.lp k B.rd caps 0))(hl:xs.length=B.ps.length)(hf:EH caps B.ps xs=E N f){m:Nat}(hm:Bs.length=m)
  (h:WP A N B.asg f m (YZ 0 Bs) (fun f n L=>∃ k1 rd1 caps1,J9 L b=some (.lp k1 rd1 caps1 0)/\WP A N B.body f n (setL b (.lp k1 rd1 caps1 1) L) (endK b 0 true K) (fun j=>endK b (j+3) false K) (endK b 2 false K) (fun _ _ _ _=>False)) (fun _ _ _ _=>False) (fun _ _ _=>False) (fun _ _ _ _=>False)):WR A k (.pan .undef::.yv b::xs) Bs K:=by
 subst hm
 obtain⟨x,f1,σ1,n1,L1,h1,h2,h3⟩:=h Bs (EE Bs)
 cases x with
 |panic v=>exact h3.elim
 |exit j=>exact h3.elim
 |ret=>exact h3.elim
 |normal=>
  obtain⟨k1,rd1,caps1,h4,h5⟩:=h3
  obtain⟨y,f2,σ2,n2,L2,h6,h7,h8⟩:=h5 _ h2.setL
  obtain⟨i,hi⟩:=Wl h1
  obtain⟨j,hj⟩:=Wl h6
  have hi':=XW (XS A (Nat.le_max_left i j)) (Nat.le_max_left i j) _ hi
  have hj':=XW (XS A (Nat.le_max_right i j)) (Nat.le_max_right i j) _ hj
  have hrun:∀ r,yO σ2 b y=some r->Run A k (.pan .undef::.yv b::xs) Bs=some r:=fun r hr=>by
   refine xn (n:=max i j+1) ?_;rw[XQ];simp only[U9,cond_true,List.tail_cons];unfold wH;simp only[hB,JM (EE Bs) hb,hl,hf,and_self,if_true,hi',JM h2 h4,hj',hr]
  have fin:∀ st x,endK b st x K f2 n2 L2->(∀ kk rd caps,σ2[b]? = some (.lp kk rd caps 1)->yO σ2 b y=some (.s (.bool x),σ2.set b (.lp kk rd caps st)))->∃ v σ' n' L',Run A k (.pan .undef::.yv b::xs) Bs=some (v,σ')/\Hp σ' n' L'/\K v n' L':=fun st x ⟨kk,rd,caps,e1,e2⟩ he=>⟨_,_,_,_,hrun _ (he _ _ _ (JM h7 e1)),h7.setL,e2⟩
  cases y with
  |panic v=>exact h8.elim
  |exit j=>exact fin _ _ h8 fun kk rd caps e=>by unfold yO;simp only[e]
  |ret=>exact fin _ _ h8 fun kk rd caps e=>by unfold yO;simp only[e]
  |normal=>exact fin _ _ h8 fun kk rd caps e=>by unfold yO;simp only[e]
end
end Go.Am
namespace Go.Am
open Go
inductive Rw(z:Nat)(l:List Int):V->HA->Prop
 |nil (h:l=[]):Rw z l .snil []
 |row {b m q:Nat} {F:Nat->Int} (hl:l.length=m*z) (hF:∀ i,i<l.length->F i=l.getD i 0):Rw z l (.sl b 0 m z .whole) [(b,.sc .grow q (ia F))]
inductive Rx(z:Nat)(l:List Int):V->HA->Prop
 |nil (h:l=[]):Rx z l .snil []
 |row {b m q:Nat} {md:Md} {c:Cp} {F:Nat->Int} (hl:l.length=m*z) (hF:∀ i,i<l.length->F i=l.getD i 0):Rx z l (.sl b 0 m z c) [(b,.sc md q (ia F))]
inductive Rc(z:Nat)(l:List Int):V->List Blk->Prop
 |nil (h:l=[]):Rc z l .snil []
 |row {m q:Nat} {md:Md} {c:Cp} {F:Nat->Int} (hl:l.length=m*z) (hF:∀ i,i<l.length->F i=l.getD i 0):Rc z l (.sl 0 0 m z c) [.sc md q (ia F)]
def Rw.rx{z:Nat}{l:List Int}{v:V}{own:HA}(h:Rw z l v own):Rx z l v own:=by
 cases h with
 |nil h=>exact .nil h
 |row hl hF=>exact .row hl hF
def Rc.rx{z:Nat}{l:List Int}{v:V}{Bs:List Blk}(h:Rc z l v Bs):Rx z l v (YZ 0 Bs):=by
 cases h with
 |nil h=>exact .nil h
 |row hl hF=>exact .row hl hF
inductive Dr(own:HA):HA->HA->Prop
 |here {R:HA}:Dr own (own++R) R
 |there {p:Nat×Blk} {L L0:HA}:Dr own L L0->Dr own (p::L) (p::L0)
def Dr.sub{own L L0:HA}(h:Dr own L L0):List.Sublist L0 L:=by
 induction h with
 |here=>exact List.sublist_append_right _ _
 |there _ ih=>exact ih.cons_cons _
def Dr.mem{own L L0:HA}(h:Dr own L L0):∀ p∈own,p∈L:=by
 induction h with
 |here=>exact fun p hp=>ZbV _ hp
 |there _ ih=>exact fun p hp=>.tail _ (ih p hp)
def Dr.at{b:Nat}{B B':Blk}{L L0:HA}(h:Dr [(b,B)] L L0):∃ L1,At b B B' L L1/\List.Perm L1 ((b,B')::L0):=by
 induction h with
 |here=>exact⟨_,.here,.refl _⟩
 |@there p L L0 _ ih=>
  obtain⟨L1,h1,h2⟩:=ih;exact⟨p::L1,.there h1,(h2.cons p).trans (.swap _ _ _)⟩
def Dr.all{own L L0:HA}(h:Dr own L L0):List.Perm L (own++L0):=by
 induction h with
 |here=>exact .refl _
 |@there p L L0 _ ih=>exact(ih.cons p).trans (List.perm_middle.symm)
def HL_iff{σ:Heap}{n:Nat}:∀ {L:HA},HL σ n L↔(∀ p∈L,p.1<n∧σ[p.1]? = some p.2)∧L.Pairwise (fun a b=>a.1≠b.1)
 |[]=>by simp[HL]
 |(c,C)::L=>by
  simp only[HL,HL_iff (L:=L),Zco,List.pairwise_cons,forall_eq_or_imp];constructor
  ·rintro⟨h1,h2,h3,h4,h5⟩;exact⟨⟨⟨h1,h2⟩,h4⟩,fun p hp=>(h3 p hp).symm,h5⟩
  rintro⟨⟨⟨h1,h2⟩,h4⟩,h3,h5⟩;exact⟨h1,h2,fun p hp=>(h3 p hp).symm,h4,h5⟩
def Hp.perm{σ:Heap}{n:Nat}{L L':HA}(h:List.Perm L L')(hσ:Hp σ n L):Hp σ n L':=by
 refine⟨hσ.1,HL_iff.2 ?_⟩;obtain⟨h1,h2⟩:=HL_iff.1 hσ.2;exact⟨fun p hp=>h1 p (h.mem_iff.2 hp),(h.pairwise_iff (fun h=>Ne.symm h)).1 h2⟩
def At.appR{b:Nat}{B B':Blk}{L L':HA}(own:HA)(h:At b B B' L L'):At b B B' (own++L) (own++L'):=by
 induction own with
 |nil=>exact h
 |cons p own ih=>exact .there ih
section
variable{A:AP}{N:Nat}{f:FE}{n:Nat}{L:HA}{K:KN}{Zp:V->KN}{rest:List I}{d:Nat}
def VA{L':HA}(h:List.Perm L L')(k:WO A N rest f n L' K Zp):WO A N rest f n L K Zp:=fun σ hσ=>k σ (hσ.perm h)
def wQ{X:Nat->KN}{R:KN}{c:AC}{L':HA}(h:List.Perm L L')(k:WP A N c f n L' K X R Zp):WP A N c f n L K X R Zp:=fun σ hσ=>k σ (hσ.perm h)
def Xk{x:O}{z m:Nat}{l:List Int}{v:V}{own:HA}(hx:x.fv N f=v)(hr:Rx z l v own)(hz:0<z)(hl:l.length=m*z)(k:WO A N rest (upd f d (.s (.int .i64 (m:Int)))) n L K Zp):WO A N (⟨some d,none,.p (.len x)⟩::rest) f n L K Zp:=by
 cases hr with
 |nil h=>
  subst h;obtain rfl:m=0:=by
   rcases Nat.eq_zero_or_pos m with h|h
   ·exact h
   have:=Nat.mul_pos h hz;simp at hl;omega
  exact tI hx k
 |row hl' hF=>
  obtain rfl:=Nat.eq_of_mul_eq_mul_right hz (hl.symm.trans hl');exact WX hx k
def Ua{k bytes:Nat}(h:k*bytes<=140737488355328):XC k bytes=true:=ZbN h
def Zav{l c:List Int}{i:Nat}:(l++c).getD i 0=if i<l.length then l.getD i 0 else c.getD (i-l.length) 0:=by
 simp only[ZbD,List.getElem?_append];split <;> rfl
def tv{l c:List Int}{m z:Nat}{F R:Nat->Int}{o o':Nat}(hl:l.length=m*z)(ho:o=0)(hF:∀ i,i<l.length->F i=l.getD i 0)(hR:∀ i,i<c.length->R (o'+i)=c.getD i 0):∀ i,i<(l++c).length->(bif Nat.blt i (m*z) then F (o+i) else R (o'+(i-m*z)))=(l++c).getD i 0:=by
 subst ho;intro i hi;rw[Zb2]at hi;rw[Zav];by_cases h:i<l.length
 ·rw[ZcA h,show Nat.blt i (m*z)=true from ZbN (by omega),cond_true,Zcp,hF i h]
 have:Nat.blt i (m*z)=false:=by
  cases hb:Nat.blt i (m*z) with
  |false=>rfl
  |true=>have:=ZbT hb;omega
 rw[Zcz h,this,cond_false,<-hl,hR _ (by omega)]
def XZ{z bytes m':Nat}{s x:O}{l c:List Int}{v:V}{own L0:HA}{b' o':Nat}{cp:Cp}{md':Md}{q':Nat}{R:Nat->Int}(hs:s.fv N f=v)(hr:Rw z l v own)(hx:x.fv N f=.sl b' o' m' z cp)(hb:(b',Blk.sc md' q' (ia R))∈L)(hd:Dr own L L0)(hz:0<z)(hm':0<m')(hc:c.length=m'*z)(hR:∀ i,i<c.length->R (o'+i)=c.getD i 0)
  (hroom:(l.length+m')*bytes<=140737488355328) (k:∀ v' own' n',Rw z (l++c) v' own'->WO A N rest (upd f d v') n' (own'++L0) K Zp):WO A N (⟨some d,none,.h (.append z bytes s x)⟩::rest) f n L K Zp:=by
 cases hr with
 |nil h=>
  subst h
  refine Vj hd.sub ?_
  have hb0:(b',Blk.sc md' q' (ia R))∈L0:=by
   have:=hd.all.mem_iff.1 hb;simpa using this
  refine DF hs hx hb0 (by omega) (Ua (by simpa using hroom)) ?_
  exact k _ [(n,_)] _ (.row (by simpa using hc) fun i hi=>by simpa using hR i (by simpa using hi))
 |@row b m q F hl hF=>
  obtain⟨L1,h1,h2⟩:=hd.at (B':=.dead)
  have hm1:m<=l.length:=by rw[hl];exact Nat.le_mul_of_pos_right _ hz
  refine T3 hs hx hb h1 (Ua (Zcq (ZbW _ (by omega)) hroom)) ?_
  refine VA (L':=(n,_)::(b,.dead)::L0) (h2.cons _) ?_
  refine Vj (L':=(n,_)::L0) ((List.sublist_cons_self _ _).cons_cons _) ?_
  exact k _ [(n,_)] _ (.row (by rw[Zb2,hl,hc,Nat.add_mul]) (tv hl rfl hF hR))
def Zab{z bytes m':Nat}{s x:O}{l c:List Int}{v:V}{own L0:HA}{b' o':Nat}{cp:Cp}{md':Md}{q':Nat}{R:Nat->Int}(hs:s.fv N f=v)(hr:Rw z l v own)(hx:x.fv N f=.sl b' o' m' z cp)(hb:(b',Blk.sc md' q' (ia R))∈L)(hd:Dr own L L0)(hz:0<z)(hm':m'=0)(hc:c.length=0)
  (hroom:(l.length+0)*bytes<=140737488355328) (k:∀ v' own' n',Rw z (l++c) v' own'->WO A N rest (upd f d v') n' (own'++L0) K Zp):WO A N (⟨some d,none,.h (.append z bytes s x)⟩::rest) f n L K Zp:=by
 subst hm'
 obtain rfl:=List.eq_nil_of_length_eq_zero hc
 cases hr with
 |nil h=>
  subst h
  refine Vj hd.sub ?_
  have hb0:(b',Blk.sc md' q' (ia R))∈L0:=by
   have:=hd.all.mem_iff.1 hb;simpa using this
  refine Xl (v:=.snil) (fun σ hσ=>⟨σ,?_,hσ⟩) (k .snil [] n (.nil rfl))
  simp only[YK,Y2,hs,hx,WL,Vf,(hσ.2.mem hb0).2,if_true]
 |@row b m q F hl hF=>
  obtain⟨L1,h1,h2⟩:=hd.at (B':=.dead)
  have hm1:m<=l.length:=by rw[hl];exact Nat.le_mul_of_pos_right _ hz
  have hroom':XC (m+0) bytes=true:=Ua (Zcq (ZbW _ (by simp;omega)) hroom)
  refine T3 hs hx hb h1 hroom' ?_
  refine VA (L':=(n,_)::(b,.dead)::L0) (h2.cons _) ?_
  refine Vj (L':=(n,_)::L0) ((List.sublist_cons_self _ _).cons_cons _) ?_
  exact k _ [(n,_)] _ (.row (by rw[Zcf];exact hl) fun i hi=>by
   rw[Zcf]at hi ⊢;rw[show Nat.blt i (m*z)=true from ZbN (by omega),cond_true,Zcp];exact hF i hi)
def yN{z bytes:Nat}{s x:O}{l c:List Int}{v w:V}{own L0 ownx:HA}(hs:s.fv N f=v)(hr:Rw z l v own)(hx:x.fv N f=w)(hrx:Rx z c w ownx)(hb:∀ p∈ownx,p∈L)(hd:Dr own L L0)(hz:0<z)
  (hroom:(l.length+c.length)*bytes<=140737488355328) (k:∀ v' own' n',Rw z (l++c) v' own'->WO A N rest (upd f d v') n' (own'++L0) K Zp):WO A N (⟨some d,none,.h (.append z bytes s x)⟩::rest) f n L K Zp:=by
 cases hrx with
 |@row b' m' q' md' cp R hl' hR=>
  have hm1:m'<=c.length:=by rw[hl'];exact Nat.le_mul_of_pos_right _ hz
  rcases Nat.eq_zero_or_pos m' with hm'|hm'
  ·exact Zab hs hr hx (hb _ (.head _)) hd hz hm' (by rw[hl',hm',Nat.zero_mul]) (Zcq (ZbW _ (by omega)) hroom) k
  exact XZ hs hr hx (hb _ (.head _)) hd hz hm' hl' (fun i hi=>by rw[Zcp];exact hR i hi) (Zcq (ZbW _ (by omega)) hroom) k
 |nil h=>
  subst h
  cases hr with
  |nil h=>
   subst h
   have e:L0=L:=by
    have:=hd.all.length_eq;exact(hd.sub.eq_of_length (by simpa using this.symm))
   subst e
   refine Xl (v:=.snil) (fun σ hσ=>⟨σ,?_,hσ⟩) (k .snil [] n (.nil rfl))
   simp only[YK,Y2,hs,hx,WL,Vf,if_true]
  |@row b m q F hl hF=>
   obtain⟨L1,h1,h2⟩:=hd.at (B':=.dead)
   have hm1:m<=l.length:=by rw[hl];exact Nat.le_mul_of_pos_right _ hz
   have hroom':XC (m+0) bytes=true:=Ua (Zcq (ZbW _ (by simp;omega)) hroom)
   refine Xl (v:=.sl n 0 (m+0) z .whole) (n':=n+1) (L':=(n,.sc .grow (m*z+0) (ia fun i=>bif Nat.blt i (m*z) then F (0+i) else 0))::L0) (fun σ hσ=>⟨wf σ b++[.sc .grow (m*z+0) (ia fun i=>bif Nat.blt i (m*z) then F (0+i) else 0)],?_,?_⟩) (k _ [(n,_)] _ (.row (by rw[Zcf];exact hl) fun i hi=>by
    rw[Zcf]at hi ⊢;rw[show Nat.blt i (m*z)=true from ZbN (by omega),cond_true,Zcp];exact hF i hi))
   ·simp only[YK,Y2,hs,hx,WL,Vf,(hσ.2.mem h1.mem).2,if_true,hroom',cond_true,W5,Nat.zero_mul,Option.map_some,hσ.1];refine congrArg some (Prod.ext rfl ?_);refine congrArg (fun B=>wf σ b++[B]) ?_;refine congrArg (Blk.sc .grow (m*z+0)) ?_;funext i;show(bif Nat.blt i (m*z) then S.int .i64 (F (0+i)) else S.zero)=S.int .i64 (bif Nat.blt i (m*z) then F (0+i) else 0)
    cases Nat.blt i (m*z) <;> rfl
   exact((hσ.set h1).perm h2).drop.new _
def RtR(A:AP)(fid:FuncId)(z:Nat)(av:List V)(Bs:List Blk)(l:List Int)(Bs':List Blk):Prop :=
 (l=[]/\RB A fid av Bs .snil Bs')\/∃ m q F,l.length=m*z/\(∀ i,i<l.length->F i=l.getD i 0)/\RN A fid av Bs (fun b=>.sl b 0 m z .whole) (.sc .grow q (ia F)) Bs'
def RdR(A:AP)(fid:FuncId)(z:Nat)(pre post:List V)(l:List Int)(r:V):Prop:=∀ v Bs,Rc z l v Bs->RB A fid (pre++v::post) Bs r Bs
def wS(A:AP)(fid:FuncId)(z z':Nat)(pre post:List V)(l l':List Int):Prop:=∀ v Bs,Rc z l v Bs->RtR A fid z' (pre++v::post) Bs l' Bs
def StR(A:AP)(fid:FuncId)(z:Nat)(pre post:List V)(l l':List Int):Prop :=
 l'.length=l.length/\(l=[]->RB A fid (pre++.snil::post) [] (.tup []) [])/\∀ m q F,l.length=m*z->(∀ i,i<l.length->F i=l.getD i 0)->∃ F',(∀ i,i<l'.length->F' i=l'.getD i 0)/\RB A fid (pre++.sl 0 0 m z .whole::post) [.sc .grow q (ia F)] (.tup []) [.sc .grow q (ia F')]
def DX{x:O}{xs:List O}{fid:FuncId}{z:Nat}{caps av av':List V}{rs:List Nat}{Bs Bs':List Blk}{l:List Int}{L':HA}(hf:x.fv N f=.fn fid caps)(hs:RtR A fid z av' Bs l Bs')(ha:xs.map (O.fv N f)++caps=av)(hrs:We (V.refsL av) []=rs)(hl:(V.refsL av).length<64)(hsub:∀ b∈V.refsL av,b∈rs)
  (hren:rnL rs av=some av') (hB:scs L rs Bs) (hlow:Bs.map (Qy false)=Bs) (hlen:Bs'.length=rs.length) (hat:AtL rs Bs Bs' L L') (k:∀ v own n',Rw z l v own->WO A N rest (upd f d v) n' (own++L') K Zp):WO A N (⟨some d,none,.h (.call x xs)⟩::rest) f n L K Zp:=by
 rcases hs with⟨h,hs⟩|⟨m,q,F,h1,h3,hs⟩
 ·exact Wr hf hs ha hrs hl hsub hren hB hlow hlen rfl hat (k .snil [] n (.nil h))
 exact KS (mk:=fun b=>.sl b 0 m z .whole) vS hf hs ha hrs hl hsub hren hB hlow hlen hat (k _ [(n,_)] _ (.row h1 h3))
def EC{x:O}{xs:List O}{fid:FuncId}{z:Nat}{caps av av':List V}{rs:List Nat}{Bs Bs0 Bs':List Blk}{l:List Int}(hf:x.fv N f=.fn fid caps)(hs:RtR A fid z av' Bs0 l Bs')(ha:xs.map (O.fv N f)++caps=av)(hrs:We (V.refsL av) []=rs)(hl:(V.refsL av).length<64)(hsub:∀ b∈V.refsL av,b∈rs)
  (hren:rnL rs av=some av') (hB:scs L rs Bs) (hlow:Bs.map (Qy true)=Bs0) (hlen:Bs'.length=rs.length) (k:∀ v own n',Rw z l v own->WO A N rest (upd f d v) n' (own++L) K Zp):WO A N (⟨some d,none,.h (.callq x xs)⟩::rest) f n L K Zp:=by
 rcases hs with⟨h,hs⟩|⟨m,q,F,h1,h3,hs⟩
 ·exact pb hf hs ha hrs hl hsub hren hB hlow hlen rfl (k .snil [] n (.nil h))
 exact pz (mk:=fun b=>.sl b 0 m z .whole) vS hf hs ha hrs hl hsub hren hB hlow hlen (k _ [(n,_)] _ (.row h1 h3))
def sY{x:O}{xs:List O}{fid:FuncId}{z:Nat}{av:List V}{l:List Int}(hf:x.fv N f=.fn fid [])(hs:RtR A fid z av [] l [])(ha:xs.map (O.fv N f)=av)(h1:V.looseL av=true)(k:∀ v own n',Rw z l v own->WO A N rest (upd f d v) n' (own++L) K Zp):WO A N (⟨some d,none,.h (.call x xs)⟩::rest) f n L K Zp:=by
 have hr:=V.looseL_refs av h1;exact DX (caps:=[]) (av:=av) (rs:=[]) (Bs:=[]) hf hs (by rw[Zcf];exact ha) (by rw[hr];rfl) (by rw[hr];simp) (by rw[hr];intro _ h;cases h) (V.looseL_ren _ av h1) trivial rfl rfl .nil k
def QC{x:O}{xs:List O}{fid:FuncId}{z:Nat}{av:List V}{l:List Int}(hf:x.fv N f=.fn fid [])(hs:RtR A fid z av [] l [])(ha:xs.map (O.fv N f)=av)(h1:V.looseL av=true)(k:∀ v own n',Rw z l v own->WO A N rest (upd f d v) n' (own++L) K Zp):WO A N (⟨some d,none,.h (.callq x xs)⟩::rest) f n L K Zp:=by
 have hr:=V.looseL_refs av h1;exact EC (caps:=[]) (av:=av) (rs:=[]) (Bs:=[]) hf hs (by rw[Zcf];exact ha) (by rw[hr];rfl) (by rw[hr];simp) (by rw[hr];intro _ h;cases h) (V.looseL_ren _ av h1) trivial rfl rfl k
def Qe{pre post:List V}{v:V}(h1:V.looseL pre=true)(h2:V.looseL post=true):V.refsL (pre++v::post)=v.refs:=by
 induction pre with
 |nil=>simp only[List.nil_append,V.refsL,V.looseL_refs post h2,Zcf]
 |cons x pre ih=>
  simp only[V.looseL,Zca]at h1;simp only[List.cons_append,V.refsL,V.loose_refs x h1.1,List.nil_append,ih h1.2]
def Q9{pre post:List V}{v v':V}{g:Nat->Option Nat}(h1:V.looseL pre=true)(h2:V.looseL post=true)(h:v.ren g=some v'):V.renL g (pre++v::post)=some (pre++v'::post):=by
 induction pre with
 |nil=>simp only[List.nil_append,V.renL,V.looseL_ren g post h2,h]
 |cons x pre ih=>
  simp only[V.looseL,Zca]at h1;simp only[List.cons_append,V.renL,V.loose_ren g x h1.1,ih h1.2]
def XX{x:O}{xs:List O}{fid:FuncId}{z:Nat}{caps pre post:List V}{l:List Int}{v r:V}{own:HA}(hf:x.fv N f=.fn fid caps)(hs:RdR A fid z pre post l r)(ha:xs.map (O.fv N f)++caps=pre++v::post)(hr:Rx z l v own)(ho:∀ p∈own,p∈L)(h1:V.looseL pre=true)(h2:V.looseL post=true)(h3:r.loose=true)
  (k:WO A N rest (upd f d r) n L K Zp):WO A N (⟨some d,none,.h (.call x xs)⟩::rest) f n L K Zp:=by
 cases hr with
 |nil h=>
  have hre:V.refsL (pre++.snil::post)=[]:=Qe h1 h2
  exact Wr (rs:=[]) hf (hs .snil [] (.nil h)) ha (by rw[hre];rfl) (by rw[hre];simp) (by rw[hre];intro _ h;cases h) (Q9 h1 h2 rfl) trivial rfl rfl h3 .nil k
 |@row b m q md c F hl hF=>
  have hre:V.refsL (pre++.sl b 0 m z c::post)=[b]:=Qe h1 h2
  have hb:=ho _ (.head _)
  exact Wr (rs:=[b]) hf (hs (.sl 0 0 m z c) [.sc md q (ia F)] (.row hl hF)) ha (by rw[hre];rfl) (by rw[hre];simp) (by rw[hre];exact fun _ h=>h) (Q9 h1 h2 (by simp only[V.ren,pos,beq_self_eq_true,cond_true,Option.map_some])) ⟨hb,⟨_,_,_,rfl⟩,trivial⟩ rfl rfl h3 (.cons (UO hb) .nil) k
def UP{x:O}{xs:List O}{fid:FuncId}{z z':Nat}{caps pre post:List V}{l l':List Int}{v:V}{own:HA}(hf:x.fv N f=.fn fid caps)(hs:wS A fid z z' pre post l l')(ha:xs.map (O.fv N f)++caps=pre++v::post)(hr:Rx z l v own)(ho:∀ p∈own,p∈L)(h1:V.looseL pre=true)(h2:V.looseL post=true)
  (k:∀ v' own' n',Rw z' l' v' own'->WO A N rest (upd f d v') n' (own'++L) K Zp):WO A N (⟨some d,none,.h (.call x xs)⟩::rest) f n L K Zp:=by
 cases hr with
 |nil h=>
  have hre:V.refsL (pre++.snil::post)=[]:=Qe h1 h2
  exact DX (rs:=[]) hf (hs .snil [] (.nil h)) ha (by rw[hre];rfl) (by rw[hre];simp) (by rw[hre];intro _ h;cases h) (Q9 h1 h2 rfl) trivial rfl rfl .nil k
 |@row b m q md c F hl hF=>
  have hre:V.refsL (pre++.sl b 0 m z c::post)=[b]:=Qe h1 h2
  have hb:=ho _ (.head _)
  exact DX (rs:=[b]) hf (hs (.sl 0 0 m z c) [.sc md q (ia F)] (.row hl hF)) ha (by rw[hre];rfl) (by rw[hre];simp) (by rw[hre];exact fun _ h=>h) (Q9 h1 h2 (by simp only[V.ren,pos,beq_self_eq_true,cond_true,Option.map_some])) ⟨hb,⟨_,_,_,rfl⟩,trivial⟩ rfl rfl (.cons (UO hb) .nil) k
def DW{x:O}{xs:List O}{fid:FuncId}{z z':Nat}{caps pre post:List V}{l l':List Int}{v:V}{own:HA}(hf:x.fv N f=.fn fid caps)(hs:wS A fid z z' pre post l l')(ha:xs.map (O.fv N f)++caps=pre++v::post)(hr:Rx z l v own)(ho:∀ p∈own,p∈L)(h1:V.looseL pre=true)(h2:V.looseL post=true)
  (k:∀ v' own' n',Rw z' l' v' own'->WO A N rest (upd f d v') n' (own'++L) K Zp):WO A N (⟨some d,none,.h (.callq x xs)⟩::rest) f n L K Zp:=by
 cases hr with
 |nil h=>
  have hre:V.refsL (pre++.snil::post)=[]:=Qe h1 h2
  exact EC (rs:=[]) (Bs:=[]) hf (hs .snil [] (.nil h)) ha (by rw[hre];rfl) (by rw[hre];simp) (by rw[hre];intro _ h;cases h) (Q9 h1 h2 rfl) trivial rfl rfl k
 |@row b m q md c F hl hF=>
  have hre:V.refsL (pre++.sl b 0 m z c::post)=[b]:=Qe h1 h2
  have hb:=ho _ (.head _)
  exact EC (rs:=[b]) (Bs:=[.sc md q (ia F)]) hf (hs (.sl 0 0 m z c) [.sc .ro q (ia F)] (.row hl hF)) ha (by rw[hre];rfl) (by rw[hre];simp) (by rw[hre];exact fun _ h=>h) (Q9 h1 h2 (by simp only[V.ren,pos,beq_self_eq_true,cond_true,Option.map_some])) ⟨hb,⟨_,_,_,rfl⟩,trivial⟩ rfl rfl k
def qq{x:O}{xs:List O}{fid:FuncId}{z:Nat}{caps pre post:List V}{l l':List Int}{v:V}{own L0:HA}(hf:x.fv N f=.fn fid caps)(hs:StR A fid z pre post l l')(ha:xs.map (O.fv N f)++caps=pre++v::post)(hr:Rw z l v own)(hd:Dr own L L0)(h1:V.looseL pre=true)(h2:V.looseL post=true)
  (k:∀ own',Rw z l' v own'->WO A N rest (upd f d (.tup [])) n (own'++L0) K Zp):WO A N (⟨some d,none,.h (.call x xs)⟩::rest) f n L K Zp:=by
 obtain⟨hlen,hn,hs⟩:=hs
 cases hr with
 |nil h=>
  have hre:V.refsL (pre++.snil::post)=[]:=Qe h1 h2
  refine Wr (rs:=[]) hf (hn h) ha (by rw[hre];rfl) (by rw[hre];simp) (by rw[hre];intro _ h;cases h) (Q9 h1 h2 rfl) trivial rfl rfl rfl .nil ?_
  refine Vj hd.sub (k [] (.nil ?_))
  subst h
  exact List.eq_nil_of_length_eq_zero hlen
 |@row b m q F hl hF=>
  obtain⟨F',hF',hs⟩:=hs m q F hl hF
  have hre:V.refsL (pre++.sl b 0 m z .whole::post)=[b]:=Qe h1 h2
  have hb:=hd.mem _ (.head _)
  obtain⟨L1,e1,e2⟩:=hd.at (B':=.sc .grow q (ia F'))
  refine Wr (rs:=[b]) hf hs ha (by rw[hre];rfl) (by rw[hre];simp) (by rw[hre];exact fun _ h=>h) (Q9 h1 h2 (by simp only[V.ren,pos,beq_self_eq_true,cond_true,Option.map_some])) ⟨hb,⟨_,_,_,rfl⟩,trivial⟩ rfl rfl rfl (.cons e1 .nil) ?_
  exact VA e2 (k [(b,_)] (.row (hlen.trans hl) hF'))
end
def Rx.known_rc{z:Nat}{l:List Int}{v:V}{Bs:List Blk}(h:Rc z l v Bs):∀ p∈YZ 0 Bs,∃ md m g,p.2=Blk.sc md m g:=by
 cases h with
 |nil _=>intro p hp;cases hp
 |row _ _=>
  intro p hp;rcases Zco.1 hp with rfl|hp
  ·exact⟨_,_,_,rfl⟩
  cases hp
def K0{σ:Heap}{n:Nat}{L:HA}(h:Hp σ n L):∀ {Bs:List Blk} {k:Nat},(∀ p∈YZ k Bs,p∈L∧∃ md m g,p.2=Blk.sc md m g)→after σ k Bs
 |[],_,_=>trivial
 |B::Bs,k,hm=>by
  obtain⟨h1,h2⟩:=hm (k,B) (.head _);exact⟨(h.2.mem h1).2,h2,K0 h fun p hp=>hm p (.tail _ hp)⟩
def WV{A:AP}{fid:FuncId}{z:Nat}{pre post:List V}{l:List Int}{r:V}(h:∀ v Bs,Rc z l v Bs→WR A fid (pre++v::post) Bs fun v' _ L'=>v'=r∧∀ p∈YZ 0 Bs,p∈L'):RdR A fid z pre post l r:=fun v Bs hc=>by
 obtain⟨v',σ',n',L',h1,h2,rfl,h3⟩:=h v Bs hc;exact⟨σ',h1,K0 h2 fun p hp=>⟨h3 p hp,Rx.known_rc hc p hp⟩⟩
def pA{A:AP}{fid:FuncId}{z:Nat}{av:List V}{Bs:List Blk}{l:List Int}(hsc:∀ p∈YZ 0 Bs,∃ md m g,p.2=Blk.sc md m g)(h:WR A fid av Bs fun v' _ L'=>∃ own,Rw z l v' own∧(∀ p∈own,p∈L'∧Bs.length≤p.1)∧∀ p∈YZ 0 Bs,p∈L'):RtR A fid z av Bs l Bs:=by
 obtain⟨v',σ',n',L',h1,h2,own,hr,ho,h3⟩:=h;have ha:after σ' 0 Bs:=K0 h2 fun p hp=>⟨h3 p hp,hsc p hp⟩
 cases hr with
 |nil h=>exact .inl ⟨h,σ',h1,ha⟩
 |row hl hF=>
  obtain⟨e1,e2⟩:=ho _ (.head _);exact .inr ⟨_,_,_,hl,hF,_,σ',h1,e2,(h2.2.mem e1).2,ha⟩
def Qq{A:AP}{fid:FuncId}{z:Nat}{av:List V}{l:List Int}(h:WR A fid av [] fun v' _ L'=>∃ own,Rw z l v' own∧∀ p∈own,p∈L'):RtR A fid z av [] l [] :=
 pA (fun _ h=>by cases h) (by
  obtain⟨v',σ',n',L',h1,h2,own,hr,ho⟩:=h;exact⟨v',σ',n',L',h1,h2,own,hr,fun p hp=>⟨ho p hp,Zct _⟩,fun _ h=>by cases h⟩)
def vd:∀ {Bs:List Blk} {k i:Nat} {B:Blk},Bs[i]? = some B->(k+i,B)∈YZ k Bs
 |C::Bs,k,0,B,h=>by
  injection h with h
  subst h;exact .head _
 |C::Bs,k,i+1,B,h=>by
  have:=vd (k:=k+1) (i:=i) (Bs:=Bs) (B:=B) h;rw[show k+1+i=k+(i+1) by omega]at this;exact .tail _ this
def Dr.ge{σ:Heap}{n:Nat}{own L L0:HA}(h:Dr own L L0)(hσ:Hp σ n L){Bs:List Blk}(hk:∀ p∈YZ 0 Bs,p∈L0):∀ p∈own,Bs.length≤p.1:=fun p hp=>by
 rcases Zcr p.1 Bs.length with hl|hl
 ·exfalso;have hm:=hk _ (vd (k:=0) (ZbH hl));have hpw:=(HL_iff.1 (hσ.perm h.all).2).2;rw[List.pairwise_append]at hpw;exact hpw.2.2 p hp _ hm (Zcp _).symm
 exact hl
def RtR_ofF{A:AP}{fid:FuncId}{z:Nat}{av:List V}{Bs:List Blk}{l:List Int}(hsc:∀ p∈YZ 0 Bs,∃ md m g,p.2=Blk.sc md m g)(h:WR A fid av Bs fun v' _ L'=>∃ own L0,Rw z l v' own∧Dr own L' L0∧∀ p∈YZ 0 Bs,p∈L0):RtR A fid z av Bs l Bs:=by
 refine pA hsc ?_;obtain⟨v',σ',n',L',h1,h2,own,L0,hr,hd,h3⟩:=h;exact⟨v',σ',n',L',h1,h2,own,hr,fun p hp=>⟨hd.mem p hp,hd.ge h2 h3 p hp⟩,fun p hp=>hd.sub.subset (h3 p hp)⟩
def yk{A:AP}{fid:FuncId}{z z':Nat}{pre post:List V}{l l':List Int}(h:∀ v Bs,Rc z l v Bs→WR A fid (pre++v::post) Bs fun v' _ L'=>∃ own L0,Rw z' l' v' own∧Dr own L' L0∧∀ p∈YZ 0 Bs,p∈L0):wS A fid z z' pre post l l':=fun v Bs hc=>RtR_ofF (Rx.known_rc hc) (h v Bs hc)
def yi:Code->List RD
 |.seq a b=>yi a++yi b
 |.cond _ a b=>yi a++yi b
 |.block _ b=>yi b
 |.loop b=>yi b
 |.rangeFunc _ ps a b=>[⟨ps,a,b⟩]
 |_=>[]
def rdOf(f:Func):RD :=
 match f.body with
 |some c=>(yi c).headD ⟨#[],.skip,.skip⟩
 |none=>⟨#[],.skip,.skip⟩
end Go.Am
namespace Go.Am
open Go
def Ins.still:Ins->Bool
 |.p _=>true
 |.h (.load _ _ _)=>true
 |_=>false
def vb(a b:I):Bool:=a.ins.still&&b.ins.still&&Wx a b
def EG{run:Runner}{o:I}(h:o.ins.still=true){e:Env}{σ:Heap}{x:V}{σ':Heap}(hs:Y8 run o e σ=some (x,σ')):σ'=σ:=by
 have hi:∀ r,Xr run o.ins e σ=some r->r.2=σ:=by
  intro r hr
  cases ho:o.ins with
  |p i=>
   rw[ho]at hr;simp only[Xr,ZbK]at hr;obtain⟨y,_,rfl⟩:=hr;rfl
  |h i=>
   rw[ho]at hr h
   cases i <;> simp only[Ins.still,Zb1]at h
   simp only[Xr,YK]at hr;split at hr
   ·split at hr
    ·simp only[ZbK]at hr;obtain⟨y,_,rfl⟩:=hr;rfl
    cases hr
   cases hr
 unfold Y8 at hs;split at hs
 ·exact hi _ hs
 split at hs
 ·rename_i b _
  cases hb:(b==_) <;> rw[hb]at hs
  ·simp only[cond_false,Zb4,Zcn]at hs;exact hs.2.symm
  simp only[cond_true]at hs;exact hi _ hs
 ·simp only[Zb4,Zcn]at hs;exact hs.2.symm
 cases hs
def yZ{run:Runner}{o:I}(h:o.ins.still=true)(e:Env)(σ:Heap):VL run o e σ=none/\WZ run o e σ=none:=by
 unfold VL WZ
 cases hg:XY o e with
 |false=>exact⟨rfl,rfl⟩
 |true=>
  simp only[cond_true]
  cases ho:o.ins with
  |p i=>exact⟨rfl,rfl⟩
  |h i=>
   rw[ho]at h
   cases i <;> first|exact⟨rfl,rfl⟩|cases h
def K7{run:Runner}{o:I}(h:o.ins.still=true){e:Env}{σ:Heap}(hs:XO run o e σ=none)(l:List I):YX run (o::l) e σ=none:=by
 simp only[YX,hs,(yZ h e σ).1,(yZ h e σ).2,Option.map_none]
def Qs{run:Runner}{o:I}{e e':Env}{σ σ':Heap}(hs:XO run o e σ=some (e',σ'))(l:List I):YX run (o::l) e σ=YX run l e' σ':=by
 simp only[YX,hs]
def R7{o:I}{e:Env}{d:Option Nat}{v:V}(h:∀ x,d=some x->o.reads.contains x=false):Agree o.reads (XK e d v) e:=fun t ht=>by
 cases d with
 |none=>rfl
 |some x=>
  have hx:=h x rfl;have hne:x≠t:=fun e=>by
   subst e;rw[List.contains_iff_mem.2 ht]at hx
   cases hx
  show(e.set x v).getD t .undef=_;rw[ZbD,ZbD,ZbX hne]
def qx{run:Runner}{a b:I}(h:vb a b=true)(l:List I)(e:Env)(σ:Heap):YX run (a::b::l) e σ=YX run (b::a::l) e σ:=by
 unfold vb Wx at h;simp only[Zca]at h;obtain⟨⟨h1,h2⟩,h3,h4⟩:=h;have ga:∀ v,Y8 run a (XK e b.dst v) σ=Y8 run a e σ:=fun v=>UR σ (R7 fun x hx=>by rw[hx]at h4;simpa using h4)
 have gb:∀ v,Y8 run b (XK e a.dst v) σ=Y8 run b e σ:=fun v=>UR σ (R7 fun x hx=>by
  rw[hx]at h3;simp only[Zca]at h3;simpa using h3.1)
 cases ha:Y8 run a e σ with
 |none=>
  have h0:XO run a e σ=none:=by rw[Xs,ha];rfl
  rw[K7 h1 h0]
  cases hb:Y8 run b e σ with
  |none=>exact(K7 h2 (by rw[Xs,hb];rfl) _).symm
  |some r=>
   obtain⟨y,σ'⟩:=r;obtain rfl:=EG h2 hb;rw[Qs (e':=XK e b.dst y) (σ':=σ') (by rw[Xs,hb];rfl)];exact(K7 h1 (by rw[Xs,ga,ha];rfl) _).symm
 |some r=>
  obtain⟨x,σ1⟩:=r;obtain rfl:=EG h1 ha;rw[Qs (e':=XK e a.dst x) (σ':=σ1) (by rw[Xs,ha];rfl)]
  cases hb:Y8 run b e σ1 with
  |none=>
   rw[K7 h2 (by rw[Xs,gb,hb];rfl)];exact(K7 h2 (by rw[Xs,hb];rfl) _).symm
  |some r=>
   obtain⟨y,σ2⟩:=r;obtain rfl:=EG h2 hb;rw[Qs (e':=XK (XK e a.dst x) b.dst y) (σ':=σ2) (by rw[Xs,gb,hb];rfl)];rw[Qs (e':=XK e b.dst y) (σ':=σ2) (by rw[Xs,hb];rfl)];rw[Qs (e':=XK (XK e b.dst y) a.dst x) (σ':=σ2) (by rw[Xs,ga,ha];rfl)];refine congrArg (fun e=>YX run l e σ2) ?_
   cases hda:a.dst with
   |none=>rfl
   |some da=>
    cases hdb:b.dst with
    |none=>rfl
    |some db=>
     rw[hda,hdb]at h3;simp only[Zca,Zb6,beq_eq_false_iff_ne,ne_eq,Zb4]at h3;exact List.set_comm _ _ (fun e=>h3.2 e.symm)
def vI(l:List I)(i j:Nat):Bool :=
 match l[i]?,l[j]? with
 |some a,some b=>vb a b
 |_,_=>false
def insP(l:List I)(i:Nat):List Nat->List Nat
 |[]=>[i]
 |j::r=>bif Nat.blt j i&&vI l i j then j::insP l i r else i::j::r
def RP(l:List I):List Nat->List Nat
 |[]=>[]
 |i::r=>insP l i (RP l r)
def x7{run:Runner}{o:I}{l l':List I}(h:∀ e σ,YX run l e σ=YX run l' e σ)(e:Env)(σ:Heap):YX run (o::l) e σ=YX run (o::l') e σ:=by
 simp only[YX];split
 ·exact h _ _
 split
 ·exact h _ _
 rfl
def tk{run:Runner}{l:List I}{i:Nat}:∀ (r:List Nat) (e:Env) (σ:Heap),YX run (Xy l (insP l i r)) e σ=YX run (Xy l (i::r)) e σ
 |[],_,_=>rfl
 |j::r,e,σ=>by
  unfold insP
  cases hc:(Nat.blt j i&&vI l i j) with
  |false=>rfl
  |true=>
   rw[cond_true];simp only[Zca]at hc;have hc:=hc.2;unfold vI at hc;split at hc
   ·rename_i a b ha hb;have ih:=tk (run:=run) (l:=l) (i:=i) r;simp only[Xy,ha,hb]at ih ⊢;rw[x7 ih,qx hc]
   cases hc
def yu{run:Runner}{l:List I}:∀ (p:List Nat) (e:Env) (σ:Heap),YX run (Xy l (RP l p)) e σ=YX run (Xy l p) e σ
 |[],_,_=>rfl
 |i::r,e,σ=>by
  unfold RP;rw[tk];have ih:=yu (run:=run) (l:=l) r;unfold Xy;split
  ·exact x7 ih e σ
  exact ih e σ
def DL:List Nat->List Nat->Bool
 |[],[]=>true
 |x::l,y::r=>Nat.beq x y&&DL l r
 |_,_=>false
def zI:∀ {l r:List Nat},DL l r=true->l=r
 |[],[],_=>rfl
 |x::l,y::r,h=>by
  simp only[DL,Zca]at h;rw[ZbR h.1,zI h.2]
 |[],_::_,h=>by cases h
 |_::_,[],h=>by cases h
def Dr.appR{own L L0:HA}(o:HA)(h:Dr own L L0):Dr own (o++L) (o++L0):=by
 induction o with
 |nil=>exact h
 |cons p o ih=>exact .there ih
def Rx.at{z m:Nat}{l:List Int}{v:V}{own:HA}(h:Rx z l v own)(hz:0<z)(hl:l.length=m*z)(hm:0<m):∃ b q md c F,v=.sl b 0 m z c/\own=[(b,.sc md q (ia F))]/\∀ i,i<l.length->F i=l.getD i 0:=by
 cases h with
 |nil h=>
  subst h;have:=Nat.mul_pos hm hz;simp at hl;omega
 |row hl' hF=>
  obtain rfl:=Nat.eq_of_mul_eq_mul_right hz (hl.symm.trans hl');exact⟨_,_,_,_,_,rfl,rfl,hF⟩
def UY{x:Nat×Blk}{L:HA}(h:x∈L):∀ p∈[x],p∈L:=fun p hp=>by
 rcases Zco.1 hp with rfl|hp
 ·exact h
 cases hp
def jv{x:Int}:∀ i,i < [x].length->ov (fun _=>0) (0*1) x i=[x].getD i 0
 |0,_=>rfl
 |i+1,h=>absurd (show i+1<1 from h) (by omega)
def sP{x y:Int}:∀ i,i < [x,y].length->ov (ov (fun _=>0) (0*1) x) (1*1) y i=[x,y].getD i 0
 |0,_=>rfl
 |1,_=>rfl
 |i+2,h=>absurd (show i+2<2 from h) (by omega)
def lit3r{x y z:Int}:∀ i,i < [x,y,z].length->ov (ov (ov (fun _=>0) (0*1) x) (1*1) y) (2*1) z i=[x,y,z].getD i 0
 |0,_=>rfl
 |1,_=>rfl
 |2,_=>rfl
 |i+3,h=>absurd (show i+3<3 from h) (by omega)
def Jn{x:Int}:∀ i,i < [x].length->ov (fun _=>0) (0*1) x (0+i)=[x].getD i 0:=fun i h=>by rw[Zcp];exact jv i h
end Go.Am
namespace Go.Am
open Go
abbrev ixo(rs:List Nat):Nat->Option Nat:=fun i=>rs[i]?
def ixn(rs:List Nat)(i:Nat):Nat:=rs.getD i 0
def Dp:∀ {rs:List Nat} {i b:Nat},rs.Nodup->rs[i]? = some b->pos b rs=some i
 |[],i,b,_,h=>by cases h
 |c::rs,0,b,_,h=>by
  injection h with h
  subst h;simp[pos]
 |c::rs,i+1,b,hn,h=>by
  rw[List.nodup_cons]at hn;have h:rs[i]? = some b:=h;have hne:(c==b)=false:=by
   simp only[beq_eq_false_iff_ne,ne_eq];rintro rfl;exact hn.1 (List.mem_of_getElem? h)
  simp[pos,hne,Dp hn.2 h]
mutual
def V.ren_back{rs:List Nat}(hn:rs.Nodup):∀ (v w:V),V.ren (ixo rs) v=some w->V.ren (pos · rs) w=some v
 |.s _,w,h=>by simp only[V.ren]at h;injection h with h;subst h;rfl
 |.agg _ _,w,h=>by simp only[V.ren]at h;injection h with h;subst h;rfl
 |.pnil,w,h=>by simp only[V.ren]at h;injection h with h;subst h;rfl
 |.slz,w,h=>by simp only[V.ren]at h;injection h with h;subst h;rfl
 |.snil,w,h=>by simp only[V.ren]at h;injection h with h;subst h;rfl
 |.mnil,w,h=>by simp only[V.ren]at h;injection h with h;subst h;rfl
 |.fnil,w,h=>by simp only[V.ren]at h;injection h with h;subst h;rfl
 |.inil,w,h=>by simp only[V.ren]at h;injection h with h;subst h;rfl
 |.undef,w,h=>by simp only[V.ren]at h;injection h with h;subst h;rfl
 |.pan _,w,h=>by simp only[V.ren]at h;cases h
 |.ptr b o z,w,h=>by
  simp only[V.ren,ZbK]at h;obtain⟨c,h,rfl⟩:=h;simp only[V.ren,Dp hn h,Option.map_some]
 |.yv b,w,h=>by
  simp only[V.ren,ZbK]at h;obtain⟨c,h,rfl⟩:=h;simp only[V.ren,Dp hn h,Option.map_some]
 |.sl b o n z m,w,h=>by
  simp only[V.ren,ZbK]at h;obtain⟨c,h,rfl⟩:=h;simp only[V.ren,Dp hn h,Option.map_some]
 |.map b,w,h=>by
  simp only[V.ren,ZbK]at h;obtain⟨c,h,rfl⟩:=h;simp only[V.ren,Dp hn h,Option.map_some]
 |.aggv l,w,h=>by
  simp only[V.ren,ZbK]at h;obtain⟨c,h,rfl⟩:=h;simp only[V.ren,V.renL_back hn l c h,Option.map_some]
 |.fn g l,w,h=>by
  simp only[V.ren,ZbK]at h;obtain⟨c,h,rfl⟩:=h;simp only[V.ren,V.renL_back hn l c h,Option.map_some]
 |.tup l,w,h=>by
  simp only[V.ren,ZbK]at h;obtain⟨c,h,rfl⟩:=h;simp only[V.ren,V.renL_back hn l c h,Option.map_some]
 |.iface t x,w,h=>by
  simp only[V.ren,ZbK]at h;obtain⟨c,h,rfl⟩:=h;simp only[V.ren,V.ren_back hn x c h,Option.map_some]
 |.bm t x,w,h=>by
  simp only[V.ren,ZbK]at h;obtain⟨c,h,rfl⟩:=h;simp only[V.ren,V.ren_back hn x c h,Option.map_some]
def V.renL_back{rs:List Nat}(hn:rs.Nodup):∀ (l r:List V),V.renL (ixo rs) l=some r->V.renL (pos · rs) r=some l
 |[],r,h=>by simp only[V.renL]at h;injection h with h;subst h;rfl
 |x::l,r,h=>by
  simp only[V.renL]at h;split at h
  ·rename_i y q h1 h2;injection h with h
   subst h;simp only[V.renL,V.ren_back hn x y h1,V.renL_back hn l q h2]
  cases h
end
mutual
def V.ren_refs{rs:List Nat}:∀ (v w:V),V.ren (ixo rs) v=some w→w.refs=v.refs.map (ixn rs)∧∀ i∈v.refs,i<rs.length
 |.s _,w,h=>by simp only[V.ren]at h;injection h with h;subst h;simp[V.refs]
 |.agg _ _,w,h=>by simp only[V.ren]at h;injection h with h;subst h;simp[V.refs]
 |.pnil,w,h=>by simp only[V.ren]at h;injection h with h;subst h;simp[V.refs]
 |.slz,w,h=>by simp only[V.ren]at h;injection h with h;subst h;simp[V.refs]
 |.snil,w,h=>by simp only[V.ren]at h;injection h with h;subst h;simp[V.refs]
 |.mnil,w,h=>by simp only[V.ren]at h;injection h with h;subst h;simp[V.refs]
 |.fnil,w,h=>by simp only[V.ren]at h;injection h with h;subst h;simp[V.refs]
 |.inil,w,h=>by simp only[V.ren]at h;injection h with h;subst h;simp[V.refs]
 |.undef,w,h=>by simp only[V.ren]at h;injection h with h;subst h;simp[V.refs]
 |.pan _,w,h=>by simp only[V.ren]at h;cases h
 |.ptr b o z,w,h=>by
  simp only[V.ren,ZbK]at h;obtain⟨c,h,rfl⟩:=h;obtain⟨h1,rfl⟩:=List.getElem?_eq_some_iff.1 h;simp[V.refs,ixn,h1]
 |.yv b,w,h=>by
  simp only[V.ren,ZbK]at h;obtain⟨c,h,rfl⟩:=h;obtain⟨h1,rfl⟩:=List.getElem?_eq_some_iff.1 h;simp[V.refs,ixn,h1]
 |.sl b o n z m,w,h=>by
  simp only[V.ren,ZbK]at h;obtain⟨c,h,rfl⟩:=h;obtain⟨h1,rfl⟩:=List.getElem?_eq_some_iff.1 h;simp[V.refs,ixn,h1]
 |.map b,w,h=>by
  simp only[V.ren,ZbK]at h;obtain⟨c,h,rfl⟩:=h;obtain⟨h1,rfl⟩:=List.getElem?_eq_some_iff.1 h;simp[V.refs,ixn,h1]
 |.aggv l,w,h=>by
  simp only[V.ren,ZbK]at h;obtain⟨c,h,rfl⟩:=h;simp only[V.refs];exact V.renL_refs l c h
 |.fn g l,w,h=>by
  simp only[V.ren,ZbK]at h;obtain⟨c,h,rfl⟩:=h;simp only[V.refs];exact V.renL_refs l c h
 |.tup l,w,h=>by
  simp only[V.ren,ZbK]at h;obtain⟨c,h,rfl⟩:=h;simp only[V.refs];exact V.renL_refs l c h
 |.iface t x,w,h=>by
  simp only[V.ren,ZbK]at h;obtain⟨c,h,rfl⟩:=h;simp only[V.refs];exact V.ren_refs x c h
 |.bm t x,w,h=>by
  simp only[V.ren,ZbK]at h;obtain⟨c,h,rfl⟩:=h;simp only[V.refs];exact V.ren_refs x c h
def V.renL_refs{rs:List Nat}:∀ (l r:List V),V.renL (ixo rs) l=some r→V.refsL r=(V.refsL l).map (ixn rs)∧∀ i∈V.refsL l,i<rs.length
 |[],r,h=>by simp only[V.renL]at h;injection h with h;subst h;simp[V.refsL]
 |x::l,r,h=>by
  simp only[V.renL]at h;split at h
  ·rename_i y q h1 h2;injection h with h
   subst h;obtain⟨a1,a2⟩:=V.ren_refs x y h1;obtain⟨b1,b2⟩:=V.renL_refs l q h2;simp only[V.refsL,a1,b1,List.map_append,true_and];intro i hi;rcases Zcg.1 hi with hi|hi
   ·exact a2 i hi
   exact b2 i hi
  cases h
end
def ixn_inj{rs:List Nat}(hn:rs.Nodup){i j:Nat}(hi:i<rs.length)(hj:j<rs.length)(h:ixn rs i=ixn rs j):i=j:=by
 have e:∀ {k},(hk:k<rs.length)->ixn rs k=rs[k]:=fun hk=>by unfold ixn;rw[ZbD,ZbH hk];rfl
 rw[e hi,e hj]at h;exact(List.getElem_inj hn).1 h
def Ri{rs:List Nat}(hn:rs.Nodup){b:Nat}(hb:b<rs.length):∀ {l:List Nat},(∀ i∈l,i<rs.length)→(l.map (ixn rs)).contains (ixn rs b)=l.contains b
 |[],_=>rfl
 |c::l,h=>by
  have ih:=Ri hn hb (l:=l) fun i hi=>h i (.tail _ hi)
  simp only[List.map_cons,List.contains_cons,ih];congr 1;rw[Zce,Zcu,Zcu];exact⟨fun e=>ixn_inj hn hb (h c (.head _)) e,fun e=>by rw[e]⟩
def wF:∀ {l:List Nat},∀ i∈ddp l,i∈l
 |[],i,h=>h
 |b::l,i,h=>by
  unfold ddp at h
  cases hc:l.contains b with
  |true=>rw[hc,cond_true]at h;exact .tail _ (wF i h)
  |false=>
   rw[hc,cond_false]at h;rcases Zco.1 h with rfl|h
   ·exact .head _
   exact .tail _ (wF i h)
def uF{rs:List Nat}(hn:rs.Nodup):∀ {l:List Nat},(∀ i∈l,i<rs.length)→ddp (l.map (ixn rs))=(ddp l).map (ixn rs)
 |[],_=>rfl
 |b::l,h=>by
  have ih:=uF hn (l:=l) fun i hi=>h i (.tail _ hi)
  simp only[List.map_cons,ddp,Ri hn (h b (.head _)) (fun i hi=>h i (.tail _ hi)),ih]
  cases l.contains b <;> rfl
def Blk.plain:Blk->Bool
 |.sc _ _ _|.vs _ _|.dead|.lp _ _ _ _=>true
 |_=>false
def Blk.ren_back{rs:List Nat}(hn:rs.Nodup){B C:Blk}(hp:B.plain=true)(h:Blk.ren false (ixo rs) B=some C):Blk.ren false (pos · rs) C=some B∧C.refs=B.refs.map (ixn rs)∧∀ i∈B.refs,i<rs.length:=by
 cases B with
 |sc m n g=>simp only[Blk.ren]at h;injection h with h;subst h;exact⟨rfl,rfl,fun i hi=>by cases hi⟩
 |vs m l=>
  simp only[Blk.ren,ZbK]at h;obtain⟨r,h,rfl⟩:=h;obtain⟨e1,e2⟩:=V.renL_refs l r h;exact⟨by simp only[Blk.ren,V.renL_back hn l r h,Option.map_some];rfl,e1,e2⟩
 |mp m l=>cases hp
 |dead=>simp only[Blk.ren]at h;injection h with h;subst h;exact⟨rfl,rfl,fun i hi=>by cases hi⟩
 |sit s p=>cases hp
 |lp k rd l st=>
  simp only[Blk.ren,cond_false,ZbK]at h;obtain⟨r,h,rfl⟩:=h;obtain⟨e1,e2⟩:=V.renL_refs l r h;refine⟨by simp only[Blk.ren,cond_false,V.renL_back hn l r h,Option.map_some],?_,fun i hi=>e2 i (wF i hi)⟩;show ddp (V.refsL r)=(ddp (V.refsL l)).map (ixn rs);rw[e1,uF hn e2]
inductive Canon(rs:List Nat)(σ:Heap):List Nat->List Blk->Prop
 |nil:Canon rs σ [] []
 |cons {b:Nat} {B C:Blk} {r:List Nat} {Bs:List Blk} (h:σ[b]? = some C) (hp:B.plain=true) (hr:Blk.ren false (ixo rs) B=some C) (hs:Canon rs σ r Bs):Canon rs σ (b::r) (B::Bs)
def Canon.at{rs:List Nat}{σ:Heap}{r:List Nat}{Bs:List Blk}(h:Canon rs σ r Bs):∀ {i:Nat} {B:Blk},Bs[i]? = some B->∃ b C,r[i]? = some b/\σ[b]? = some C/\B.plain=true/\Blk.ren false (ixo rs) B=some C:=by
 induction h with
 |nil=>intro i B h;cases h
 |cons h1 h2 h3 _ ih=>
  intro i B h
  cases i with
  |zero=>injection h with h;subst h;exact⟨_,_,rfl,h1,h2,h3⟩
  |succ i=>exact ih h
def Canon.len{rs:List Nat}{σ:Heap}{r:List Nat}{Bs:List Blk}(h:Canon rs σ r Bs):r.length=Bs.length:=by
 induction h with
 |nil=>rfl
 |cons _ _ _ _ ih=>simp[ih]
def Canon.pick{rs:List Nat}(hn:rs.Nodup){σ:Heap}{r:List Nat}{Bs:List Blk}(h:Canon rs σ r Bs):Y6 false (pos · rs) σ r=some Bs:=by
 induction h with
 |nil=>rfl
 |cons h1 h2 h3 _ ih=>simp only[Y6,h1,Option.bind_some,(Blk.ren_back hn h2 h3).1,ih]
def De{rs:List Nat}(hn:rs.Nodup){σ:Heap}{Bs:List Blk}(hc:Canon rs σ rs Bs):∀ (m:Nat) (w acc:List Nat),(∀ i∈w,i<rs.length)→(∀ i∈acc,i<rs.length)→YN σ m (w.map (ixn rs)) (acc.map (ixn rs))=(YN Bs m w acc).map (ixn rs)
 |0,_,_,_,_=>rfl
 |m+1,[],acc,_,_=>rfl
 |m+1,b::w,acc,hw,ha=>by
  have hb:=hw b (.head _);have hBl:b<Bs.length:=by rw[<-hc.len];exact hb
  obtain⟨c,C,e1,e2,e3,e4⟩:=hc.at (ZbH hBl);have hix:ixn rs b=c:=by unfold ixn;rw[ZbD,e1];rfl
  obtain⟨_,f2,f3⟩:=Blk.ren_back hn e3 e4;have hd:σ.getD (ixn rs b) .dead=C:=by rw[hix,ZbD,e2];rfl
  have hd':Bs.getD b .dead=Bs[b]:=by rw[ZbD,ZbH hBl];rfl
  simp only[List.map_cons,YN,Ri hn hb ha,hd,hd',f2]
  cases acc.contains b with
  |true=>exact De hn hc m w acc (fun i hi=>hw i (.tail _ hi)) ha
  |false=>
   simp only[cond_false];have:=De hn hc m (Bs[b].refs++w) (acc++[b]) (fun i hi=>by
    rcases Zcg.1 hi with hi|hi
    ·exact f3 i hi
    ·exact hw i (.tail _ hi)) (fun i hi=>by
    rcases Zcg.1 hi with hi|hi
    ·exact ha i hi
    rcases Zco.1 hi with rfl|hi
    ·exact hb
    cases hi)
   rw[List.map_append,List.map_append]at this;exact this
def jI(rs:List Nat):(List.range rs.length).map (ixn rs)=rs:=by
 refine List.ext_getElem (by simp) fun i h1 h2=>?_
 simp[ixn,h2]
def Td{rs:List Nat}(hn:rs.Nodup){σ:Heap}{all vs:List V}{Bs:List Blk}(hc:Canon rs σ rs Bs)(hv:V.renL (ixo rs) vs=some all)(hr:YN Bs 64 (V.refsL vs) []=List.range Bs.length):Xq false all σ=some (rs,vs,Bs):=by
 obtain⟨e1,e2⟩:=V.renL_refs vs all hv;have:YN σ 64 (V.refsL all) []=rs:=by
  have:=De hn hc 64 (V.refsL vs) [] e2 (fun i hi=>by cases hi);rw[e1];rw[List.map_nil]at this;rw[this,hr,<-hc.len,jI]
 unfold Xq;dsimp only;rw[this,V.renL_back hn vs all hv,hc.pick hn]
def QF(σ1:Heap):Nat->List Blk->Prop
 |_,[]=>True
 |k,B::Bs=>σ1[k]? = some B/\QF σ1 (k+1) Bs
def Xt(rs:List Nat):List Blk->Option (List Blk)
 |[]=>some []
 |B::Bs=>match Blk.ren false (ixo rs) B,Xt rs Bs with
  |some C,some r=>some (C::r)
  |_,_=>none
def K1{σ1:Heap}:∀ {Bs:List Blk} {k:Nat},QF σ1 k Bs->(σ1.drop k).take Bs.length=Bs
 |[],k,_=>by simp
 |B::Bs,k,h=>by
  have hk:=QV h.1;rw[List.drop_eq_getElem_cons hk,Zcd,List.take_succ_cons,K1 h.2];have h1:=h.1;rw[ZbH hk]at h1;injection h1 with h1
  rw[h1]
def JE{σ1:Heap}:∀ {Bs:List Blk} {k:Nat},QF σ1 k Bs->k<=σ1.length->k+Bs.length<=σ1.length
 |[],k,_,h=>h
 |B::Bs,k,ha,h=>by
  have:=JE ha.2 (QV ha.1);simp only[Zcd];omega
def RI{rs ns:List Nat}{n i:Nat}(h:i<rs.length):Xa rs ns n rs.length i=ixo rs i:=by
 unfold Xa;rw[show Nat.blt i rs.length=true from ZbN h];rfl
mutual
def V.ren_lo{rs ns:List Nat}{n:Nat}:∀ (v w:V),V.ren (ixo rs) v=some w->V.ren (Xa rs ns n rs.length) v=some w
 |.s _,w,h=>h
 |.agg _ _,w,h=>h
 |.pnil,w,h=>h
 |.slz,w,h=>h
 |.snil,w,h=>h
 |.mnil,w,h=>h
 |.fnil,w,h=>h
 |.inil,w,h=>h
 |.undef,w,h=>h
 |.pan _,w,h=>h
 |.ptr b o z,w,h=>by
  have h0:=h;simp only[V.ren,ZbK]at h0;obtain⟨c,h0,_⟩:=h0;simp only[V.ren]at h ⊢;rw[RI (List.getElem?_eq_some_iff.1 h0).1];exact h
 |.yv b,w,h=>by
  have h0:=h;simp only[V.ren,ZbK]at h0;obtain⟨c,h0,_⟩:=h0;simp only[V.ren]at h ⊢;rw[RI (List.getElem?_eq_some_iff.1 h0).1];exact h
 |.sl b o m z c,w,h=>by
  have h0:=h;simp only[V.ren,ZbK]at h0;obtain⟨c,h0,_⟩:=h0;simp only[V.ren]at h ⊢;rw[RI (List.getElem?_eq_some_iff.1 h0).1];exact h
 |.map b,w,h=>by
  have h0:=h;simp only[V.ren,ZbK]at h0;obtain⟨c,h0,_⟩:=h0;simp only[V.ren]at h ⊢;rw[RI (List.getElem?_eq_some_iff.1 h0).1];exact h
 |.aggv l,w,h=>by
  simp only[V.ren,ZbK]at h ⊢;obtain⟨c,h,rfl⟩:=h;exact⟨c,V.renL_lo l c h,rfl⟩
 |.fn g l,w,h=>by
  simp only[V.ren,ZbK]at h ⊢;obtain⟨c,h,rfl⟩:=h;exact⟨c,V.renL_lo l c h,rfl⟩
 |.tup l,w,h=>by
  simp only[V.ren,ZbK]at h ⊢;obtain⟨c,h,rfl⟩:=h;exact⟨c,V.renL_lo l c h,rfl⟩
 |.iface t x,w,h=>by
  simp only[V.ren,ZbK]at h ⊢;obtain⟨c,h,rfl⟩:=h;exact⟨c,V.ren_lo x c h,rfl⟩
 |.bm t x,w,h=>by
  simp only[V.ren,ZbK]at h ⊢;obtain⟨c,h,rfl⟩:=h;exact⟨c,V.ren_lo x c h,rfl⟩
def V.renL_lo{rs ns:List Nat}{n:Nat}:∀ (l r:List V),V.renL (ixo rs) l=some r->V.renL (Xa rs ns n rs.length) l=some r
 |[],r,h=>h
 |x::l,r,h=>by
  simp only[V.renL]at h ⊢;split at h
  ·rename_i y q h1 h2;rw[V.ren_lo x y h1,V.renL_lo l q h2];exact h
  cases h
end
def Blk.ren_lo{rs ns:List Nat}{n:Nat}{B C:Blk}(hp:B.plain=true)(h:Blk.ren false (ixo rs) B=some C):Blk.ren false (Xa rs ns n rs.length) B=some C:=by
 cases B with
 |sc m k g=>exact h
 |vs m l=>
  simp only[Blk.ren,ZbK]at h ⊢;obtain⟨r,h,rfl⟩:=h;exact⟨r,V.renL_lo l r h,rfl⟩
 |mp m l=>cases hp
 |dead=>exact h
 |sit s p=>cases hp
 |lp k rd l st=>
  simp only[Blk.ren,cond_false,ZbK]at h ⊢;obtain⟨r,h,rfl⟩:=h;exact⟨r,V.renL_lo l r h,rfl⟩
def u6{rs ns:List Nat}{n:Nat}{σ1:Heap}:∀ {Bs Cs:List Blk} {k:Nat},QF σ1 k Bs→(∀ B∈Bs,B.plain=true)→Xt rs Bs=some Cs→Y6 false (Xa rs ns n rs.length) σ1 (List.range' k Bs.length)=some Cs
 |[],Cs,k,_,_,h=>by injection h with h;subst h;rfl
 |B::Bs,Cs,k,hf,hp,h=>by
  simp only[Xt]at h;split at h
  ·rename_i C r h1 h2;injection h with h
   subst h;rw[Zcd,List.range'_succ];simp only[Y6,hf.1,Option.bind_some,Blk.ren_lo (hp B (.head _)) h1,u6 hf.2 (fun B hB=>hp B (.tail _ hB)) h2]
  cases h
def JF{rs:List Nat}(hn:rs.Nodup):∀ {Bs Cs:List Blk},(∀ B∈Bs,B.plain=true)→Xt rs Bs=some Cs→∀ i∈Bs.flatMap Blk.refs,i<rs.length
 |[],_,_,_,i,hi=>by cases hi
 |B::Bs,Cs,hp,h,i,hi=>by
  simp only[Xt]at h;split at h
  ·rename_i C r h1 h2;rw[Zb8]at hi;rcases Zcg.1 hi with hi|hi
   ·exact(Blk.ren_back hn (hp B (.head _)) h1).2.2 i hi
   exact JF hn (fun B hB=>hp B (.tail _ hB)) h2 i hi
  cases h
def yn{σ1:Heap}{Bs:List Blk}(hf:∀ i,i<Bs.length→σ1[i]? = Bs[i]?)(hr:∀ i,i<Bs.length→∀ j∈(σ1.getD i .dead).refs,j<Bs.length):∀ (m:Nat) (w acc:List Nat),(∀ i∈w,i<Bs.length)→(∀ i∈acc,i<Bs.length)→∀ i∈YN σ1 m w acc,i<Bs.length
 |0,_,acc,_,ha=>ha
 |m+1,[],acc,_,ha=>ha
 |m+1,b::w,acc,hw,ha=>by
  unfold YN
  cases acc.contains b with
  |true=>exact yn hf hr m w acc (fun i hi=>hw i (.tail _ hi)) ha
  |false=>
   refine yn hf hr m _ _ (fun i hi=>?_) fun i hi=>?_
   ·rcases Zcg.1 hi with hi|hi
    ·exact hr b (hw b (.head _)) i hi
    exact hw i (.tail _ hi)
   rcases Zcg.1 hi with hi|hi
   ·exact ha i hi
   rcases Zco.1 hi with rfl|hi
   ·exact hw i (.head _)
   cases hi
def DZ{σ1:Heap}:∀ {Bs:List Blk} {k i:Nat},QF σ1 k Bs->i<Bs.length->σ1[k+i]? = Bs[i]?
 |B::Bs,k,0,h,_=>h.1
 |B::Bs,k,i+1,h,hi=>by
  have:=DZ (i:=i) h.2 (by simpa using hi);rw[show k+1+i=k+(i+1) by omega]at this;simpa using this
def yb{rs:List Nat}(hn:rs.Nodup){σ σ1:Heap}{r r':V}{Bs Cs:List Blk}(hl:Bs.length=rs.length)(hf:QF σ1 0 Bs)(hp:∀ B∈Bs,B.plain=true)(hr:V.ren (ixo rs) r=some r')(hB:Xt rs Bs=some Cs):Xn false σ rs r σ1=some (r',XD σ rs Cs):=by
 have hat:∀ i,i<Bs.length->σ1[i]? = Bs[i]?:=fun i hi=>by have:=DZ hf hi;simpa using this
 have htake:σ1.take rs.length=Bs:=by have:=K1 hf;rw[List.drop_zero,hl]at this;exact this
 have hrefs:=JF hn hp hB;have hns:Xi false rs.length r σ1=[]:=by
  unfold Xi;rw[cond_false,htake,List.filter_eq_nil_iff];intro i hi;have:=yn (σ1:=σ1) (Bs:=Bs) hat (fun i hi j hj=>by
   have e:σ1.getD i .dead=Bs[i]:=by rw[ZbD,hat i hi,ZbH hi];rfl
   rw[e]at hj;rw[hl];exact hrefs j (List.mem_flatMap.2 ⟨Bs[i],List.getElem_mem hi,hj⟩)) 64 _ [] (fun i hi=>by
   rw[hl];rcases Zcg.1 hi with hi|hi
   ·exact(V.ren_refs r r' hr).2 i hi
   exact hrefs i hi) (fun i hi=>by cases hi) i hi
  simp only[Bool.not_eq_true]
  cases hb:Nat.ble rs.length i with
  |false=>rfl
  |true=>have:=ZbT hb;omega
 have hnd:=Ux hn;have hble:Nat.ble rs.length σ1.length=true:=ZbN (by have:=JE hf (Zct _);omega);unfold Xn;have hpk:=u6 (ns:=[]) (n:=σ.length) hf hp hB;rw[hl]at hpk;have hn0:nodup []=true:=rfl;simp only[hns,hnd,hn0,hble,Bool.and_self,cond_true,V.ren_lo r r' hr,Y6,cond_false,Zcf];rw[List.range_eq_range',hpk]
def UF(L:HA):Nat->List Blk->Prop
 |_,[]=>True
 |k,B::Bs=>(k,B)∈L/\UF L (k+1) Bs
def Jf{σ:Heap}{n:Nat}{L:HA}(h:Hp σ n L):∀ {Bs:List Blk} {k:Nat},UF L k Bs->QF σ k Bs
 |[],_,_=>trivial
 |B::Bs,k,hf=>⟨(h.2.mem hf.1).2,Jf h hf.2⟩
def Eh{rs:List Nat}{σ:Heap}{n:Nat}{L:HA}(h:Hp σ n L):∀ {Lr:HA} {Bs:List Blk},(∀ p∈Lr,p∈L)→Bs.all Blk.plain=true→Xt rs Bs=some (Lr.map (·.2))→Canon rs σ (Lr.map (·.1)) Bs
 |[],[],_,_,_=>.nil
 |[],B::Bs,_,_,hr=>by
  simp only[Xt]at hr;split at hr
  ·injection hr with hr;cases hr
  cases hr
 |p::Lr,[],_,_,hr=>by simp only[Xt]at hr;injection hr with hr;cases hr
 |p::Lr,B::Bs,hm,hp,hr=>by
  simp only[Xt]at hr;split at hr
  ·rename_i C r h1 h2;injection hr with hr
   simp only[List.map_cons,List.cons.injEq]at hr;obtain⟨rfl,rfl⟩:=hr;simp only[List.all_cons,Zca]at hp;exact .cons (h.2.mem (hm p (.head _))).2 hp.1 h1 (Eh h (fun q hq=>hm q (.tail _ hq)) hp.2 h2)
  cases hr
def DO{σ:Heap}{n:Nat}{Lr L0:HA}(h:Hp σ n (Lr++L0)):(Lr.map (·.1)).Nodup:=by
 have:=(HL_iff.1 h.2).2;rw[List.pairwise_append]at this;unfold List.Nodup;rw[List.pairwise_map];exact this.1
def Hp.putZ:∀ {Lr:HA} {Cs:List Blk} {L0:HA} {σ:Heap} {n:Nat},Cs.length=Lr.length->Hp σ n (Lr++L0)->Hp (XD σ (Lr.map (·.1)) Cs) n ((Lr.map (·.1)).zip Cs++L0)
 |[],[],_,_,_,_,h=>h
 |p::Lr,C::Cs,L0,σ,n,hl,h=>by
  obtain⟨b,B⟩:=p;have h1:Hp (σ.set b C) n ((b,C)::(Lr++L0)):=h.set .here;have h2:Hp (σ.set b C) n (Lr++(b,C)::L0):=h1.perm List.perm_middle.symm;have h3:=Hp.putZ (Lr:=Lr) (Cs:=Cs) (by simpa using hl) h2;exact h3.perm List.perm_middle
 |[],_::_,_,_,_,hl,_=>by cases hl
 |_::_,[],_,_,_,hl,_=>by cases hl
def Jk{rs:List Nat}:∀ {Bs Cs:List Blk},Xt rs Bs=some Cs->Cs.length=Bs.length
 |[],Cs,h=>by injection h with h;subst h;rfl
 |B::Bs,Cs,h=>by
  simp only[Xt]at h;split at h
  ·rename_i C r h1 h2;injection h with h
   subst h;simp[Jk h2]
  cases h
section
variable{A:AP}{N:Nat}{f:FE}{n:Nat}{L:HA}{K:KN}{Zp:V->KN}
def sA(Lr L0:HA)(k:Nat)(n:Nat)(K:V->List Blk->Prop):KR:=fun r _ L1=>∃ Bs r' Cs,UF L1 0 Bs/\Bs.length=k/\Bs.all Blk.plain=true/\V.ren (ixo (Lr.map (·.1))) r=some r'/\Xt (Lr.map (·.1)) Bs=some Cs/\K r' Cs
def runC{fid:FuncId}{all vs mk:List V}{Bs:List Blk}{Lr L0:HA}{K:V->List Blk->Prop}(hv:V.renL (ixo (Lr.map (·.1))) vs=some all)(hB:Xt (Lr.map (·.1)) Bs=some (Lr.map (·.2)))(hp:Bs.all Blk.plain=true)(hr:YN Bs 64 (V.refsL vs) []=List.range Bs.length)
  (h:WR A fid (mk++vs) Bs (sA Lr L0 Bs.length n K)) {σ:Heap} (hσ:Hp σ n (Lr++L0)) :
  ∃ y r' Cs,Xq false all σ=some (Lr.map (·.1),vs,Bs)/\Run A fid (mk++vs) Bs=some y/\Xn false σ (Lr.map (·.1)) y.1 y.2=some (r',XD σ (Lr.map (·.1)) Cs)/\Hp (XD σ (Lr.map (·.1)) Cs) n ((Lr.map (·.1)).zip Cs++L0)/\K r' Cs:=by
 obtain⟨r,σ1,n1,L1,h1,h2,Bs1,r',Cs,e1,e2,e3,e4,e5,e6⟩:=h
 have hn:=DO hσ
 have hc:=Eh hσ (fun p hp=>ZbV _ hp) hp hB
 have hen:=Td hn hc hv hr
 have hlen:Bs.length=(Lr.map (·.1)).length:=hc.len.symm
 have hlv:=yb (σ:=σ) hn (e2.trans hlen) (Jf h2 e1) (Zcc.1 e3) e4 e5
 exact⟨(r,σ1),r',Cs,hen,h1,hlv,hσ.putZ (by rw[Jk e5,e2,hlen,List.length_map]),e6⟩
def WP_rfnC{X:Nat->KN}{R:KN}{g:O}{k:Nat}{rd:RD}{gf:FuncId}{gcaps vs:List V}{Bs:List Blk}{Lr L0:HA}(hL:List.Perm L (Lr++L0))(hg:g.fv N f=.fn gf gcaps)
  (hv:V.renL (ixo (n::Lr.map (·.1))) vs=some (.yv n::gcaps)) (hB:Xt (n::Lr.map (·.1)) Bs=some (.lp k rd (E N f) 0::Lr.map (·.2))) (hp:Bs.all Blk.plain=true) (hr:YN Bs 64 (V.refsL vs) []=List.range Bs.length)
  (h:WR A gf vs Bs (sA ((n,.lp k rd (E N f) 0)::Lr) L0 Bs.length (n+1) fun _ Cs=>∃ k' rd' caps st Cr,Cs=.lp k' rd' caps st::Cr/\(match st with
   |0=>K f (n+1) ((Lr.map (·.1)).zip Cr++L0)
   |1=>False
   |2=>R f (n+1) ((Lr.map (·.1)).zip Cr++L0)
   |j+3=>X j f (n+1) ((Lr.map (·.1)).zip Cr++L0)))):WP A N (.rfn g k rd) f n L K X R Zp:=fun σ hσ=>by
 have hσ1:=(hσ.perm hL).new (.lp k rd (E N f) 0)
 obtain⟨y,r',Cs,e1,e2,e3,e4,k',rd',caps,st,Cr,rfl,e5⟩:=runC (Lr:=(n,.lp k rd (E N f) 0)::Lr) (mk:=[]) hv hB hp hr h hσ1
 rw[List.nil_append]at e2
 have hcall:V1 (Run A) gf (.yv n::gcaps) (σ++[.lp k rd (E N f) 0])=some (r',XD (σ++[.lp k rd (E N f) 0]) (n::Lr.map (·.1)) (.lp k' rd' caps st::Cr)):=by
  unfold V1;rw[e1,Option.bind_some];dsimp only;rw[e2,Option.bind_some];exact e3
 have e4:Hp (XD (σ++[.lp k rd (E N f) 0]) (n::Lr.map (·.1)) (.lp k' rd' caps st::Cr)) (n+1) ((n,.lp k' rd' caps st)::((Lr.map (·.1)).zip Cr++L0)):=e4
 clear e3
 generalize XD (σ++[.lp k rd (E N f) 0]) (n::Lr.map (·.1)) (.lp k' rd' caps st::Cr)=τ at hcall e4
 have hl:τ[n]? = some (.lp k' rd' caps st):=(e4.2.mem (.head _)).2
 have hend:Hp (wf τ n) (n+1) ((Lr.map (·.1)).zip Cr++L0):=(e4.set (B':=.dead) .here).drop
 have hx:∀ x,Qb (Run A) g k rd (E N f) σ=some (x,E N f,wf τ n)->Ve A (.rfn g k rd) (E N f) σ=some (x,E N f,wf τ n):=fun x h=>by rw[vh];exact h
 match st,e5,hl with
 |0,e5,hl=>
  refine⟨.normal,f,_,n+1,_,hx _ ?_,hend,e5⟩
  unfold Qb
  rw[Y2,hg]
  simp only[hσ.1,hcall,hl]
 |2,e5,hl=>
  refine⟨.ret,f,_,n+1,_,hx _ ?_,hend,e5⟩
  unfold Qb
  rw[Y2,hg]
  simp only[hσ.1,hcall,hl]
 |j+3,e5,hl=>
  refine⟨.exit j,f,_,n+1,_,hx _ ?_,hend,e5⟩
  unfold Qb
  rw[Y2,hg]
  simp only[hσ.1,hcall,hl]
def Zbw{x:O}{xs:List O}{args vs:List V}{b k:Nat}{rd:RD}{caps:List V}{st:Nat}{Bs:List Blk}{l:List I}{od:Option Nat}{Lr L0:HA}(hL:List.Perm L (Lr++L0))(hf:x.fv N f=.yv b)(ha:xs.map (O.fv N f)=args)(hm:(b,Blk.lp k rd caps st)∈L)
  (hv:V.renL (ixo (Lr.map (·.1))) vs=some (.yv b::args)) (hB:Xt (Lr.map (·.1)) Bs=some (Lr.map (·.2))) (hp:Bs.all Blk.plain=true) (hr:YN Bs 64 (V.refsL vs) []=List.range Bs.length)
  (h:WR A k (.pan .undef::vs) Bs (sA Lr L0 Bs.length n fun v Cs=>WOx A N l (Xc f od v) n ((Lr.map (·.1)).zip Cs++L0) K Zp)):WOx A N (⟨od,none,.h (.call x xs)⟩::l) f n L K Zp :=
 uJ rfl rfl hf hm fun σ hσ=>by
  rw[ha];obtain⟨y,r',Cs,e1,e2,e3,e4,e5⟩:=runC (mk:=[.pan .undef]) hv hB hp hr h (hσ.perm hL);refine⟨r',_,n,_,?_,e4,e5⟩;unfold Qr;rw[e1,Option.bind_some];have e2:Run A k (.pan .undef::vs) Bs=some y:=e2;dsimp only;rw[e2,Option.bind_some];exact e3
end
def Dn{l:List V}{N:Nat}(h:l.length=N):l=E N (YI l):=by
 subst h;unfold E YI;refine List.ext_getElem (by simp) fun i h1 h2=>?_
 rw[List.getElem_map,List.getElem_range,ZbD,ZbH h1];rfl
def DB{A:AP}{N:Nat}{f:FE}{n:Nat}{L:HA}{K:KN}{Zp:V->KN}{l:List I}{d:Option Nat}{t:Nat}{want:Bool}{i:Ins}(h:rd N f t=.s (.bool want))(k:WOx A N (⟨d,none,i⟩::l) f n L K Zp):WOx A N (⟨d,some (t,want),i⟩::l) f n L K Zp:=fun σ hσ=>by
 obtain⟨x,f',σ',n',L',h1,h2,h3⟩:=k σ hσ;refine⟨x,f',σ',n',L',?_,h2,h3⟩;rw[<-h1];have e1:XY ⟨d,some (t,want),i⟩ (E N f)=true:=by simp only[XY,UH,h,beq_self_eq_true]
 have e2:XY ⟨d,none,i⟩ (E N f)=true:=rfl;have hp:WZ (Run A) ⟨d,some (t,want),i⟩ (E N f) σ=WZ (Run A) ⟨d,none,i⟩ (E N f) σ:=by simp only[WZ,e1,e2]
 have hy:VL (Run A) ⟨d,some (t,want),i⟩ (E N f) σ=VL (Run A) ⟨d,none,i⟩ (E N f) σ:=by simp only[VL,e1,e2]
 simp only[YX,XO,UH,h,beq_self_eq_true,cond_true,hp,hy]
def EB{run:Runner}{a c:I}(ha:a.ins.still=true)(ht:Wx a c=true){e:Env}{σ σ':Heap}{v w:V}(h1:Y8 run a e σ=some (v,σ))(h2:Y8 run a e σ'=some (v,σ'))(h3:Y8 run c e σ=some (w,σ'))(l:List I):YX run (a::c::l) e σ=YX run (c::a::l) e σ:=by
 unfold Wx at ht;simp only[Zca]at ht;obtain⟨h4,h5⟩:=ht;have ga:∀ x τ,Y8 run a (XK e c.dst x) τ=Y8 run a e τ:=fun x τ=>UR τ (R7 fun y hy=>by rw[hy]at h5;simpa using h5)
 have gc:∀ x τ,Y8 run c (XK e a.dst x) τ=Y8 run c e τ:=fun x τ=>UR τ (R7 fun y hy=>by
  rw[hy]at h4;simp only[Zca]at h4;simpa using h4.1)
 rw[Qs (e':=XK e a.dst v) (σ':=σ) (by rw[Xs,h1];rfl),Qs (e':=XK (XK e a.dst v) c.dst w) (σ':=σ') (by rw[Xs,gc,h3];rfl),
  Qs (e':=XK e c.dst w) (σ':=σ') (by rw[Xs,h3];rfl),Qs (e':=XK (XK e c.dst w) a.dst v) (σ':=σ') (by rw[Xs,ga,h2];rfl)]
 refine congrArg (fun e=>YX run l e σ') ?_
 cases hda:a.dst with
 |none=>rfl
 |some da=>
  cases hdc:c.dst with
  |none=>rfl
  |some dc=>
   rw[hda,hdc]at h4;simp only[Zca,Zb6,beq_eq_false_iff_ne,ne_eq,Zb4]at h4;exact List.set_comm _ _ (fun e=>h4.2 e.symm)
def EF{run:Runner}{o:I}{t:Nat}{want b:Bool}(hg:o.g=some (t,want)){e:Env}(ht:e.getD t .undef=.s (.bool b))(hb:(b==want)=false)(σ:Heap):Y8 run o e σ=some (.tup [],σ):=by
 unfold Y8;simp only[hg,ht,hb,cond_false]
def yI{run:Runner}{d:Option Nat}{t:Nat}{want:Bool}{i:Ins}{e:Env}(ht:e.getD t .undef=.s (.bool want))(σ:Heap):Y8 run ⟨d,some (t,want),i⟩ e σ=Xr run i e σ:=by
 unfold Y8;simp only[ht,beq_self_eq_true,cond_true]
def se{run:Runner}{fid:FuncId}{av:List V}{σ σ':Heap}{v:V}(ha:V.looseL av=true)(h:Y5 run false (.fn fid []) av σ=some (v,σ')):∃ new,σ'=σ++new:=by
 have hrefs:V.refsL (av++[])=[]:=by rw[Zcf];exact V.looseL_refs av ha
 have hen:Xq false (av++[]) σ=some ([],av,[]):=by
  unfold Xq;rw[Zcf]at hrefs ⊢;simp only[hrefs,Ut,V.looseL_ren _ av ha,Y6]
 simp only[Y5,target,hen,Option.bind_some]at h
 cases hr:run fid av [] with
 |none=>rw[hr]at h;cases h
 |some y=>
  rw[hr,Option.bind_some]at h;unfold Xn at h;simp only[List.length_nil]at h
  cases hc:(nodup ([]:List Nat)&&nodup (Xi false 0 y.1 y.2)&&Nat.ble 0 y.2.length) with
  |false=>rw[hc]at h;cases h
  |true=>
   rw[hc,cond_true]at h;split at h
   ·simp only[cond_false,List.range_zero,Y6,XD]at h;injection h with h
    injection h with h1 h2
    exact⟨_,h2.symm⟩
   cases h
section
variable{A:AP}{N:Nat}{f:FE}{n:Nat}{L:HA}{K:KN}{Zp:V->KN}
def WP_parcO2{X:Nat->KN}{R:KN}{ps:List (List Nat)}{l pre r1 r2:List I}{q1 q2:List Nat}(h1:Xy l q1=pre++r1)(h2:Xy l q2=pre++r2)(hl:l=pre++r1)(hp:(ps.all fun p=>DL (RP l p) q1||DL (RP l p) q2)=true)
  (h:WO A N pre f n L (fun f1 n1 L1=>(∀ σ,Hp σ n1 L1->YX (Run A) r2 (E N f1) σ=YX (Run A) r1 (E N f1) σ)/\WOx A N r1 f1 n1 L1 K Zp) fun _ _ _ _=>False):WP A N (.parc ps l) f n L K X R Zp :=
 vj fun σ hσ=>by
  obtain⟨x,f1,σ1,n1,L1,e1,e2,e3⟩:=h σ hσ
  cases x with
  |panic v=>exact e3.elim
  |exit j=>exact e3.elim
  |ret=>exact e3.elim
  |normal=>
   obtain⟨e4,e5⟩:=e3;obtain⟨y,f2,σ2,n2,L2,k1,k2,k3⟩:=e5 σ1 e2;have e1:=U8 e1;have hr1:YX (Run A) (pre++r1) (E N f) σ=some (y,E N f2,σ2):=(UB e1).trans k1;refine⟨y,f2,σ2,n2,L2,by rw[hl];exact hr1,fun p hm=>?_,k2,k3⟩;have hb:=Zcc.1 hp p hm;rw[Bool.or_eq_true]at hb;rw[<-yu p];rcases hb with hb|hb
   ·rw[zI hb,h1,hr1];exact T1 _
   rw[zI hb,h2,UB e1,e4 σ1 e2,k1];exact T1 _
def je{t d1 d2 m:Nat}{agg want:Bool}{a:O}{fid:FuncId}{xs:List O}{av:List V}{b o z:Nat}{B:Blk}{l:List I}(hg:rd N f t=.s (.bool want))(ht:Wx ⟨some d1,some (t,want),.h (.load agg m a)⟩ ⟨some d2,some (t,want),.h (.call (.k (.fn fid [])) xs)⟩=true)
  (ha:a.fv N f=.ptr b o z) (hz:Nat.ble m z=true) (hm:(b,B)∈L) (hrd:∃ v,∀ σ:Heap,σ[b]? = some B->rdV σ b o m agg=some v) (hav:xs.map (O.fv N f)=av) (hl:V.looseL av=true) (hc:∀ σ,Hp σ n L->∃ r,Y5 (Run A) false (.fn fid []) av σ=some r) :
  ∀ σ,Hp σ n L->YX (Run A) (⟨some d1,some (t,want),.h (.load agg m a)⟩::⟨some d2,some (t,want),.h (.call (.k (.fn fid [])) xs)⟩::l) (E N f) σ=YX (Run A) (⟨some d2,some (t,want),.h (.call (.k (.fn fid [])) xs)⟩::⟨some d1,some (t,want),.h (.load agg m a)⟩::l) (E N f) σ:=fun σ hσ=>by
 obtain⟨v,hv⟩:=hrd
 obtain⟨⟨w,σ'⟩,hw⟩:=hc σ hσ
 have hb:=hσ.2.mem hm
 obtain⟨new,rfl⟩:=se hl hw
 have ht':(E N f).getD t .undef=.s (.bool want):=by rw[UH];exact hg
 have hld:∀ τ:Heap,τ[b]? = some B->YK (Run A) (.load agg m a) (E N f) τ=some (v,τ):=fun τ h=>by
  simp only[YK,Y2,ha,ZcA (ZbT hz),hv τ h,Option.map_some]
 refine EB (v:=v) (w:=w) (σ':=σ++new) rfl ht ?_ ?_ ?_ l
 ·rw[yI ht'];exact hld σ hb.2
 ·rw[yI ht'];exact hld _ (by rw[ZbF (QV hb.2)];exact hb.2)
 rw[yI ht'];show YK (Run A) (.call (.k (.fn fid [])) xs) (E N f) σ=_;simp only[YK,Y2,hav];exact hw
def p5{t:Nat}{want b:Bool}{o1 o2:I}{l:List I}(h1:o1.g=some (t,want))(h2:o2.g=some (t,want))(hs:o1.ins.still=true)(ht:Wx o1 o2=true)(hg:rd N f t=.s (.bool b))(hb:(b==want)=false) :
  ∀ σ,Hp σ n L->YX (Run A) (o1::o2::l) (E N f) σ=YX (Run A) (o2::o1::l) (E N f) σ:=fun σ _=>by
 have ht':(E N f).getD t .undef=.s (.bool b):=by rw[UH];exact hg
 exact EB (v:=.tup []) (w:=.tup []) (σ':=σ) hs ht (EF h1 ht' hb σ) (EF h1 ht' hb σ) (EF h2 ht' hb σ) l
end
def Qm{A:AP}{fid:FuncId}{as':List V}{Bs:List Blk}{K K':KR}(h:WR A fid as' Bs K)(hk:∀ v n L,K v n L->K' v n L):WR A fid as' Bs K':=by
 obtain⟨v,σ',n',L',h1,h2,h3⟩:=h;exact⟨v,σ',n',L',h1,h2,hk _ _ _ h3⟩
def Q2{A:AP}{N:Nat}{f:FE}{n:Nat}{L L':HA}{K:KN}{Zp:V->KN}{l:List I}(h:List.Sublist L' L)(k:WOx A N l f n L' K Zp):WOx A N l f n L K Zp:=fun σ hσ=>k σ (hσ.sub h)
def Ke(l:List I):∀ (a b:List Nat),Xy l (a++b)=Xy l a++Xy l b
 |[],_=>rfl
 |i::a,b=>by
  simp only[List.cons_append,Xy,Ke l a b]
  cases l[i]? <;> rfl
def WP_parcO2'{A:AP}{N:Nat}{f:FE}{n:Nat}{L:HA}{K:KN}{Zp:V->KN}{X:Nat->KN}{R:KN}{ps:List (List Nat)}{l:List I}(q0 qa qb:List Nat)(hl:Xy l (q0++qa)=l)(hp:(ps.all fun p=>DL (RP l p) (q0++qa)||DL (RP l p) (q0++qb))=true)
  (h:WO A N (Xy l q0) f n L (fun f1 n1 L1=>(∀ σ,Hp σ n1 L1->YX (Run A) (Xy l qb) (E N f1) σ=YX (Run A) (Xy l qa) (E N f1) σ)/\WOx A N (Xy l qa) f1 n1 L1 K Zp) fun _ _ _ _=>False):WP A N (.parc ps l) f n L K X R Zp :=
 WP_parcO2 (q1:=q0++qa) (q2:=q0++qb) (Ke l q0 qa) (Ke l q0 qb) (by rw[<-Ke,hl]) hp h
def WP_rfnD{A:AP}{N:Nat}{f:FE}{n:Nat}{L:HA}{K:KN}{Zp:V->KN}{X:Nat->KN}{R:KN}{g:O}{k:Nat}{rd:RD}{gf:FuncId}{gcaps vs caps:List V}{Br:List Blk}{Lr L0:HA}(hL:List.Perm L (Lr++L0))(hg:g.fv N f=.fn gf gcaps)
  (hv:V.renL (ixo (n::Lr.map (·.1))) vs=some (.yv n::gcaps)) (hc:V.renL (ixo (n::Lr.map (·.1))) caps=some (E N f)) (hB:Xt (n::Lr.map (·.1)) Br=some (Lr.map (·.2))) (hp:Br.all Blk.plain=true) (hr:YN (.lp k rd caps 0::Br) 64 (V.refsL vs) []=List.range (Br.length+1))
  (h:WR A gf vs (.lp k rd caps 0::Br) (fun r _ L1=>∃ Br1 r' Cr st,UF L1 0 (.lp k rd caps st::Br1)/\Br1.length=Br.length/\Br1.all Blk.plain=true/\V.ren (ixo (n::Lr.map (·.1))) r=some r'/\Xt (n::Lr.map (·.1)) Br1=some Cr/\(match st with
   |0=>K f (n+1) ((Lr.map (·.1)).zip Cr++L0)
   |1=>False
   |2=>R f (n+1) ((Lr.map (·.1)).zip Cr++L0)
   |j+3=>X j f (n+1) ((Lr.map (·.1)).zip Cr++L0)))):WP A N (.rfn g k rd) f n L K X R Zp:=by
 have hlp:∀ st Br1 Cr,Xt (n::Lr.map (·.1)) Br1=some Cr->Xt (n::Lr.map (·.1)) (.lp k rd caps st::Br1)=some (.lp k rd (E N f) st::Cr):=fun st Br1 Cr h=>by
  simp only[Xt,Blk.ren,cond_false,hc,Option.map_some,h]
 refine WP_rfnC hL hg hv (hlp 0 _ _ hB) (by simp only[List.all_cons,Blk.plain,hp,Bool.and_self]) hr (Qm h ?_)
 rintro r n1 L1 ⟨Br1,r',Cr,st,h1,h2,h3,h4,h5,h6⟩
 exact⟨_,r',_,h1,by simp[h2],by simp only[List.all_cons,Blk.plain,h3,Bool.and_self],h4,hlp st _ _ h5,k,rd,_,st,Cr,rfl,h6⟩
end Go.Am
namespace Go.Am
open Go
section
variable{A:AP}{N:Nat}{f:FE}{n:Nat}{L:HA}{K:KN}{Zp:V->KN}
def rL{run:Runner}{c:I}{e e':Env}{σ σ':Heap}(h:WF run [c] e σ=some (.normal,e',σ')):∃ w,Y8 run c e σ=some (w,σ'):=by
 unfold WF at h
 cases hs:XO run c e σ with
 |none=>
  rw[hs]at h
  cases hp:WZ run c e σ with
  |none=>rw[hp]at h;cases h
  |some r=>rw[hp]at h;cases h
 |some r=>
  rw[hs]at h;simp only[WF,Zb4,Zcn,true_and]at h;rw[Xs]at hs
  cases hv:Y8 run c e σ with
  |none=>rw[hv]at hs;cases hs
  |some p=>
   rw[hv]at hs;simp only[Option.map_some,Zb4]at hs;refine⟨p.1,?_⟩;rw[<-h.2,<-hs]
def TS{a c:I}{b:Nat}{B:Blk}{v:V}(ha:a.ins.still=true)(ht:Wx a c=true)(hm:(b,B)∈L)(hv:∀ σ:Heap,σ[b]? = some B->Y8 (Run A) a (E N f) σ=some (v,σ))(hw:WO A N [c] f n L (fun _ _ L1=>(b,B)∈L1) fun _ _ _ _=>False)(l:List I) :
  ∀ σ,Hp σ n L->YX (Run A) (a::c::l) (E N f) σ=YX (Run A) (c::a::l) (E N f) σ:=fun σ hσ=>by
 obtain⟨x,f1,σ1,n1,L1,e1,e2,e3⟩:=hw σ hσ
 cases x with
 |panic v=>exact e3.elim
 |exit j=>exact e3.elim
 |ret=>exact e3.elim
 |normal=>
  obtain⟨w,hc⟩:=rL e1
  exact EB (v:=v) (w:=w) (σ':=σ1) ha ht (hv σ (hσ.2.mem hm).2) (hv σ1 (e2.2.mem e3).2) hc l
def yQ{pre r1 r2:List I}(h:WO A N pre f n L (fun f1 n1 L1=>∀ σ,Hp σ n1 L1->YX (Run A) r2 (E N f1) σ=YX (Run A) r1 (E N f1) σ) fun _ _ _ _=>False):∀ σ,Hp σ n L->YX (Run A) (pre++r2) (E N f) σ=YX (Run A) (pre++r1) (E N f) σ:=fun σ hσ=>by
 obtain⟨x,f1,σ1,n1,L1,e1,e2,e3⟩:=h σ hσ
 cases x with
 |panic v=>exact e3.elim
 |exit j=>exact e3.elim
 |ret=>exact e3.elim
 |normal=>
  have e1:=U8 e1;rw[UB e1,UB e1,e3 σ1 e2]
def Zbb{X:Nat->KN}{R:KN}{ps:List (List Nat)}{l:List I}(q0 qa:List Nat)(qs:List (List Nat))(hl:Xy l (q0++qa)=l)(hp:(ps.all fun p=>qs.any fun q=>DL (RP l p) (q0++q))=true)
  (h:WO A N (Xy l q0) f n L (fun f1 n1 L1=>(∀ q∈qs,∀ σ,Hp σ n1 L1→YX (Run A) (Xy l q) (E N f1) σ=YX (Run A) (Xy l qa) (E N f1) σ)∧WOx A N (Xy l qa) f1 n1 L1 K Zp) fun _ _ _ _=>False):WP A N (.parc ps l) f n L K X R Zp :=
 vj fun σ hσ=>by
  obtain⟨x,f1,σ1,n1,L1,e1,e2,e3⟩:=h σ hσ
  cases x with
  |panic v=>exact e3.elim
  |exit j=>exact e3.elim
  |ret=>exact e3.elim
  |normal=>
   obtain⟨e4,e5⟩:=e3;obtain⟨y,f2,σ2,n2,L2,k1,k2,k3⟩:=e5 σ1 e2;have e1:=U8 e1;have hr1:YX (Run A) l (E N f) σ=some (y,E N f2,σ2):=by
    rw[<-hl,Ke];exact(UB e1).trans k1
   refine⟨y,f2,σ2,n2,L2,hr1,fun p hm=>?_,k2,k3⟩;obtain⟨q,hq,hb⟩:=List.any_eq_true.1 (Zcc.1 hp p hm);rw[<-yu p,zI hb,Ke,UB e1,e4 q hq σ1 e2,k1];exact T1 _
def yp{K':KN}{l:List I}(h:WO A N l f n L K Zp)(hk:∀ f n L,K f n L->K' f n L):WO A N l f n L K' Zp:=fun σ hσ=>by
 obtain⟨x,f',σ',n',L',h1,h2,h3⟩:=h σ hσ;refine⟨x,f',σ',n',L',h1,h2,?_⟩
 cases x with
 |normal=>exact hk _ _ _ h3
 |panic v=>exact h3
 |exit j=>exact h3
 |ret=>exact h3
def DV{run:Runner}{d m b o z:Nat}{agg:Bool}{a:O}{σ:Heap}{v:V}(ha:a.fv N f=.ptr b o z)(hz:Nat.ble m z=true)(hv:rdV σ b o m agg=some v):Y8 run ⟨some d,none,.h (.load agg m a)⟩ (E N f) σ=some (v,σ):=by
 show YK run (.load agg m a) (E N f) σ=_;simp only[YK,Y2,ha,ZcA (ZbT hz),hv,Option.map_some]
def vV{P:List Nat→Prop}{a b c d e g:List Nat}(h1:P a)(h2:P b)(h3:P c)(h4:P d)(h5:P e)(h6:P g):∀ q∈[a,b,c,d,e,g],P q:=fun q hq=>by
 simp only[Zco,List.not_mem_nil,or_false]at hq;rcases hq with rfl|rfl|rfl|rfl|rfl|rfl <;> assumption
def orders6{c4 a5 c6 a7:I}{r:List I}(h54:∀ l σ,Hp σ n L->YX (Run A) (a5::c4::l) (E N f) σ=YX (Run A) (c4::a5::l) (E N f) σ)(h74:∀ l σ,Hp σ n L->YX (Run A) (a7::c4::l) (E N f) σ=YX (Run A) (c4::a7::l) (E N f) σ)(hc:vb a7 a5=true)
  (h4:WO A N [c4] f n L (fun _ _ _=>True) fun _ _ _ _=>False) (h5:WO A N [a5] f n L (fun f1 n1 L1=>∀ l σ,Hp σ n1 L1->YX (Run A) (a7::c4::l) (E N f1) σ=YX (Run A) (c4::a7::l) (E N f1) σ) fun _ _ _ _=>False)
  (h45:WO A N [c4,a5] f n L (fun f1 n1 L1=>∀ l σ,Hp σ n1 L1->YX (Run A) (a7::c6::l) (E N f1) σ=YX (Run A) (c6::a7::l) (E N f1) σ) fun _ _ _ _=>False) :
  (∀ σ,Hp σ n L->YX (Run A) (c4::a5::a7::c6::r) (E N f) σ=YX (Run A) (c4::a5::c6::a7::r) (E N f) σ)/\(∀ σ,Hp σ n L->YX (Run A) (a5::c4::c6::a7::r) (E N f) σ=YX (Run A) (c4::a5::c6::a7::r) (E N f) σ) /\
  (∀ σ,Hp σ n L->YX (Run A) (a5::c4::a7::c6::r) (E N f) σ=YX (Run A) (c4::a5::c6::a7::r) (E N f) σ)/\(∀ σ,Hp σ n L->YX (Run A) (a7::c4::a5::c6::r) (E N f) σ=YX (Run A) (c4::a5::c6::a7::r) (E N f) σ) /\
  (∀ σ,Hp σ n L->YX (Run A) (a5::a7::c4::c6::r) (E N f) σ=YX (Run A) (c4::a5::c6::a7::r) (E N f) σ):=by
 have hB:∀ σ,Hp σ n L->YX (Run A) (c4::a5::a7::c6::r) (E N f) σ=YX (Run A) (c4::a5::c6::a7::r) (E N f) σ:=yQ (pre:=[c4,a5]) (yp h45 fun _ _ _ h=>h r)
 have hE:∀ σ,Hp σ n L->YX (Run A) (a5::c4::a7::c6::r) (E N f) σ=YX (Run A) (c4::a5::c6::a7::r) (E N f) σ:=fun σ hσ=>(h54 _ σ hσ).trans (hB σ hσ)
 refine⟨hB,fun σ hσ=>h54 _ σ hσ,hE,fun σ hσ=>?_,fun σ hσ=>?_⟩
 ·refine((h74 _ σ hσ).trans ?_).trans (hB σ hσ);exact yQ (pre:=[c4]) (r1:=a5::a7::c6::r) (r2:=a7::a5::c6::r) (yp h4 fun _ _ _ _ σ _=>qx hc _ _ σ) σ hσ
 exact(yQ (pre:=[a5]) (r1:=c4::a7::c6::r) (r2:=a7::c4::c6::r) (yp h5 fun _ _ _ h=>h _) σ hσ).trans (hE σ hσ)
def Zay{p0 p1 p2 p3 c4 a5 c6 a7 r8 r9 r10:I}(h54:∀ l σ,Hp σ n L->YX (Run A) (a5::c4::l) (E N f) σ=YX (Run A) (c4::a5::l) (E N f) σ)(h74:∀ l σ,Hp σ n L->YX (Run A) (a7::c4::l) (E N f) σ=YX (Run A) (c4::a7::l) (E N f) σ)(hc:vb a7 a5=true)
  (h4:WO A N [c4] f n L (fun _ _ _=>True) fun _ _ _ _=>False) (h5:WO A N [a5] f n L (fun f1 n1 L1=>∀ l σ,Hp σ n1 L1->YX (Run A) (a7::c4::l) (E N f1) σ=YX (Run A) (c4::a7::l) (E N f1) σ) fun _ _ _ _=>False)
  (h45:WO A N [c4,a5] f n L (fun f1 n1 L1=>∀ l σ,Hp σ n1 L1->YX (Run A) (a7::c6::l) (E N f1) σ=YX (Run A) (c6::a7::l) (E N f1) σ) fun _ _ _ _=>False) :
  ∀ q∈[[4,5,6,7,8,9,10],[4,5,7,6,8,9,10],[5,4,6,7,8,9,10],[5,4,7,6,8,9,10],[7,4,5,6,8,9,10],[5,7,4,6,8,9,10]],∀ σ,Hp σ n L →
   YX (Run A) (Xy [p0,p1,p2,p3,c4,a5,c6,a7,r8,r9,r10] q) (E N f) σ=YX (Run A) [c4,a5,c6,a7,r8,r9,r10] (E N f) σ:=by
 obtain⟨o1,o2,o3,o4,o5⟩:=orders6 (r:=[r8,r9,r10]) h54 h74 hc h4 h5 h45
 exact vV (fun _ _=>rfl) o1 o2 o3 o4 o5
def RNd(A:AP)(fid:FuncId)(av:List V)(Bs:List Blk)(mk:Nat->V)(B:Blk)(Bs':List Blk):Prop :=
 ∃ b σ1,Run A fid av Bs=some (mk b,σ1)/\Bs.length<=b/\σ1[b]? = some B/\RA σ1 0 Bs'
def gj{x:O}{xs:List O}{fid:FuncId}{caps av av':List V}{rs:List Nat}{Bs Bs':List Blk}{mk:Nat→V}{md:Md}{m:Nat}{g:Nat→S}{L':HA}{l:List I}{d:Nat}(hmk:One mk)(hf:x.fv N f=.fn fid caps)(hs:RNd A fid av' Bs mk (.sc md m g) Bs')(ha:xs.map (O.fv N f)++caps=av)(hrs:We (V.refsL av) []=rs)(hl:(V.refsL av).length<64)(hsub:∀ b∈V.refsL av,b∈rs)
  (hren:rnL rs av=some av') (hB:scs L rs Bs) (hlow:Bs.map (Qy false)=Bs) (hlen:Bs'.length=rs.length) (hat:AtL rs Bs Bs' L L') (k:WO A N l (upd f d (mk n)) (n+1) ((n,.sc md m g)::L') K Zp):WO A N (⟨some d,none,.h (.call x xs)⟩::l) f n L K Zp:=by
 obtain⟨b,σ1,hr,hb,h1,haf⟩:=hs
 refine Xl (v:=mk n) (fun σ h=>?_) k
 have hen:=yw (q:=false) hrs hl hsub hren hB h
 rw[hlow]at hen
 have hk:=zF hB
 have hle:rs.length<=σ1.length:=by have:=EA haf (Zct _);omega
 have hns:Xi false rs.length (mk b) σ1=[b]:=by
  unfold Xi;have:=TZ haf;rw[List.drop_zero,hlen]at this;exact wg hmk (by omega) h1 (by simp[this])
 have hnd:nodup rs=true:=Ux (by rw[<-hrs];exact Vv _ _ (by simp))
 have hp:Y6 false (Xa rs [b] σ.length rs.length) σ1 (List.range rs.length)=some Bs':=by
  rw[<-hlen,List.range_eq_range'];exact Tc _ haf
 have hble:Nat.ble rs.length σ1.length=true:=ZbN hle
 have hre:(mk b).ren (Xa rs [b] σ.length rs.length)=some (mk n):=by
  rw[hmk.ren,Q1 (by omega),h.1];rfl
 refine⟨XD σ rs Bs'++[.sc md m g],?_,(h.putL hat).new _⟩
 simp only[YK,Y2,hf,Y5,target,Option.bind_some,ha,hen,hr,Xn,hns,hnd,hble,nodup,Bool.and_self,cond_true,hre,Y6,h1,Blk.ren,XG,cond_false,hp,List.contains_nil,Bool.not_false]
def Hp.neD{σ:Heap}{n:Nat}{L L0:HA}{b c:Nat}{B C:Blk}(h:Hp σ n L)(hd:Dr [(b,B)] L L0)(hc:(c,C)∈L0):b≠c:=by
 have hpw:=(HL_iff.1 (h.perm hd.all).2).2;rw[List.pairwise_append]at hpw;exact hpw.2.2 (b,B) (.head _) _ hc
def xm{x:O}{xs:List O}{fid g0:FuncId}{m0:Nat}{v:V}{own L0:HA}{l l':List Int}{c:Nat}{B:Blk}{rest:List I}{d:Nat}(hf:x.fv N f=.fn fid [])(ha:xs.map (O.fv N f)=[v,.fn g0 [.ptr c 0 m0]])(hr:Rw 1 l v own)(hd:Dr own L L0)(hc:(c,B)∈L0)(hsc:∃ md q g,B=.sc md q g)
  (h0:l=[]->l'=[]/\RB A fid [.snil,.fn g0 [.ptr 0 0 m0]] [B] .snil [B])
  (h1:∀ m q F,l.length=m->(∀ i,i<l.length->F i=l.getD i 0)->∃ q' F',(∀ i,i<l'.length->F' i=l'.getD i 0)/\RNd A fid [.sl 0 0 m 1 .whole,.fn g0 [.ptr 1 0 m0]] [.sc .grow q (ia F),B] (fun b=>.sl b 0 l'.length 1 .whole) (.sc .grow q' (ia F')) [.dead,B])
  (k:∀ v' own' n',Rw 1 l' v' own'->WO A N rest (upd f d v') n' (own'++L0) K Zp):WO A N (⟨some d,none,.h (.call x xs)⟩::rest) f n L K Zp:=by
 obtain⟨md,q0,g,rfl⟩:=hsc
 cases hr with
 |nil h=>
  obtain⟨e,hs⟩:=h0 h
  have hm:(c,Blk.sc md q0 g)∈L:=hd.sub.subset hc
  refine Wr (caps:=[]) (av:=[.snil,.fn g0 [.ptr c 0 m0]]) (rs:=[c]) (Bs:=[_]) hf hs (by rw[Zcf];exact ha) (by simp[V.refsL,V.refs,We]) (by simp[V.refsL,V.refs]) (by simp[V.refsL,V.refs]) (by simp[rnL,V.renL,V.ren,pos]) ⟨hm,⟨_,_,_,rfl⟩,trivial⟩ rfl rfl rfl (.cons (UO hm) .nil) ?_
  exact Vj hd.sub (k .snil [] n (.nil e))
 |@row b m q F hl hF=>
  obtain⟨q',F',hF',hs⟩:=h1 m q F (by rw[hl,Nat.mul_one]) hF
  intro σ hσ
  have hne:=hσ.neD hd hc
  obtain⟨L1,e1,e2⟩:=hd.at (B':=.dead)
  have hb:=hd.mem _ (.head _)
  have hm:(c,Blk.sc md q0 g)∈L:=hd.sub.subset hc
  have hm1:(c,Blk.sc md q0 g)∈L1:=e2.symm.subset (.tail _ hc)
  have hne':(b==c)=false:=by rw[beq_eq_false_iff_ne];exact hne
  refine gj (caps:=[]) (av:=[.sl b 0 m 1 .whole,.fn g0 [.ptr c 0 m0]]) (rs:=[b,c]) (Bs:=[_,_]) vS hf hs (by rw[Zcf];exact ha) (by simp[V.refsL,V.refs,We,hne,hne.symm]) (by simp[V.refsL,V.refs]) (by simp[V.refsL,V.refs]) (by simp[rnL,V.renL,V.ren,pos,hne,hne']) ⟨hb,⟨_,_,_,rfl⟩,hm,⟨_,_,_,rfl⟩,trivial⟩ rfl rfl (.cons e1 (.cons (UO hm1) .nil)) ?_ σ hσ
  refine VA (e2.cons _) (Vj (.cons_cons _ (.cons _ (.refl _))) ?_)
  exact k _ [(n,_)] _ (.row (by rw[Nat.mul_one]) hF')
end
end Go.Am
namespace Go.Am
open Go
abbrev VS(σ:Heap)(i:Nat):List Nat:=(σ.getD i .dead).refs
def JB{σ:Heap}:∀ (m:Nat) (w acc:List Nat),∀ i∈acc,i∈YN σ m w acc
 |0,_,_,i,h=>h
 |m+1,[],_,i,h=>h
 |m+1,b::w,acc,i,h=>by
  unfold YN
  cases acc.contains b with
  |true=>exact JB m w acc i h
  |false=>exact JB m _ _ i (ZbV _ h)
def R4{σ:Heap}:∀ (m:Nat) (w acc U:List Nat),(∀ i∈w,i∈acc∨i∈U)→(∀ i∈U,∀ j∈VS σ i,j∈acc∨j∈U)→w.length+(U.flatMap (VS σ)).length<m→∀ x∈w,x∈YN σ m w acc
 |0,_,_,_,_,_,h,_,_=>absurd h (by omega)
 |m+1,[],_,_,_,_,_,x,hx=>by cases hx
 |m+1,b::w,acc,U,h1,h2,h3,x,hx=>by
  unfold YN;rw[Zcd]at h3
  cases hc:acc.contains b with
  |true=>
   rw[cond_true];rcases Zco.1 hx with rfl|hx
   ·exact JB _ _ _ _ (List.contains_iff_mem.1 hc)
   exact R4 m w acc U (fun i hi=>h1 i (.tail _ hi)) h2 (by omega) x hx
  |false=>
   rw[cond_false];have hb:b∈U:=by
    rcases h1 b (.head _) with h|h
    ·rw[List.contains_iff_mem.2 h]at hc;cases hc
    exact h
   have hp:List.Perm U (b::U.erase b):=List.perm_cons_erase hb;have hl:(U.flatMap (VS σ)).length=(VS σ b).length+((U.erase b).flatMap (VS σ)).length:=by
    rw[(hp.flatMap_right (VS σ)).length_eq,Zb8,Zb2]
   have hmv:∀ j,(j∈acc\/j∈U)->j∈acc++[b]\/j∈U.erase b:=fun j hj=>by
    by_cases e:j=b
    ·subst e;exact .inl (ZbM _ (.head _))
    rcases hj with hj|hj
    ·exact .inl (ZbV _ hj)
    exact .inr ((List.mem_erase_of_ne e).2 hj)
   have ih:=R4 m (VS σ b++w) (acc++[b]) (U.erase b) (fun i hi=>by
    rcases Zcg.1 hi with hi|hi
    ·exact hmv i (h2 b hb i hi)
    exact hmv i (h1 i (.tail _ hi))) (fun i hi j hj=>hmv j (h2 i (List.mem_of_mem_erase hi) j hj)) (by rw[Zb2];omega)
   rcases Zco.1 hx with rfl|hx
   ·exact JB _ _ _ _ (ZbM _ (.head _))
   exact ih x (ZbM _ hx)
def T8{σ:Heap}{P:Nat→Prop}(hP:∀ i,P i→∀ j∈VS σ i,P j):∀ (m:Nat) (w acc:List Nat),(∀ i∈w,P i)→(∀ i∈acc,P i)→∀ i∈YN σ m w acc,P i
 |0,_,_,_,h,i,hi=>h i hi
 |m+1,[],_,_,h,i,hi=>h i hi
 |m+1,b::w,acc,hw,h,i,hi=>by
  unfold YN at hi
  cases hc:acc.contains b with
  |true=>rw[hc,cond_true]at hi;exact T8 hP m w acc (fun i hi=>hw i (.tail _ hi)) h i hi
  |false=>
   rw[hc,cond_false]at hi;refine T8 hP m _ _ (fun i hi=>?_) (fun i hi=>?_) i hi
   ·rcases Zcg.1 hi with hi|hi
    ·exact hP b (hw b (.head _)) i hi
    exact hw i (.tail _ hi)
   rcases Zcg.1 hi with hi|hi
   ·exact h i hi
   rcases Zco.1 hi with rfl|hi
   ·exact hw _ (.head _)
   cases hi
def K3{σ:Heap}:∀ (m:Nat) (w acc:List Nat),acc.Nodup->(YN σ m w acc).Nodup
 |0,_,_,h=>h
 |m+1,[],_,h=>h
 |m+1,b::w,acc,h=>by
  unfold YN
  cases hc:acc.contains b with
  |true=>exact K3 m w acc h
  |false=>
   refine K3 m _ _ ?_;rw[List.nodup_append];refine⟨h,List.nodup_cons.2 ⟨(fun h=>by cases h),List.nodup_nil⟩,fun x hx y hy=>?_⟩;rcases Zco.1 hy with rfl|hy
   ·intro e;subst e;rw[List.contains_iff_mem.2 hx]at hc;cases hc
   cases hy
def Ec{k b:Nat}(hb:k≤b):∀ {R:List Nat},R.Nodup→(∀ i∈R,i<k∨i=b)→b∈R→R.filter (fun i=>Nat.ble k i)=[b]
 |[],_,_,h=>by cases h
 |x::R,hn,h1,h2=>by
  obtain⟨hx,hn⟩:=List.nodup_cons.1 hn;by_cases e:x=b
  ·subst e;have:R.filter (fun i=>Nat.ble k i)=[]:=by
    rw[List.filter_eq_nil_iff];intro i hi;rcases h1 i (.tail _ hi) with h|h
    ·simp only[Bool.not_eq_true]
     cases hb:Nat.ble k i with
     |false=>rfl
     |true=>have:=ZbT hb;omega
    subst h;exact absurd hi hx
   rw[List.filter_cons,ZbN hb,ZcA rfl,this]
  have hlt:x<k:=by
   rcases h1 x (.head _) with h|h
   ·exact h
   exact absurd h e
  have hf:Nat.ble k x=false:=by
   cases hb:Nat.ble k x with
   |false=>rfl
   |true=>have:=ZbT hb;omega
  rw[List.filter_cons,hf,Zcz (by decide)];refine Ec hb hn (fun i hi=>h1 i (.tail _ hi)) ?_;rcases Zco.1 h2 with h|h
  ·exact absurd h.symm e
  exact h
def Q3(g:Nat->Option Nat):List Blk->Option (List Blk)
 |[]=>some []
 |B::Bs=>match Blk.ren false g B,Q3 g Bs with
  |some C,some r=>some (C::r)
  |_,_=>none
def jM{g:Nat->Option Nat}{σ1:Heap}:∀ {Bs Cs:List Blk} {k:Nat},QF σ1 k Bs->Q3 g Bs=some Cs->Y6 false g σ1 (List.range' k Bs.length)=some Cs
 |[],Cs,k,_,h=>by injection h with h;subst h;rfl
 |B::Bs,Cs,k,hf,h=>by
  simp only[Q3]at h;split at h
  ·rename_i C r h1 h2;injection h with h
   subst h;rw[Zcd,List.range'_succ];simp only[Y6,hf.1,Option.bind_some,h1,jM hf.2 h2]
  cases h
def wT{rs ns:List Nat}{n:Nat}:∀ {Bs Cs:List Blk},(∀ B∈Bs,B.plain=true)→Xt rs Bs=some Cs→Q3 (Xa rs ns n rs.length) Bs=some Cs
 |[],Cs,_,h=>h
 |B::Bs,Cs,hp,h=>by
  simp only[Xt]at h;split at h
  ·rename_i C r h1 h2;injection h with h
   subst h;simp only[Q3,Blk.ren_lo (hp B (.head _)) h1,wT (fun B hB=>hp B (.tail _ hB)) h2]
  cases h
def jX{g:Nat->Option Nat}:∀ {a b ca cb:List Blk},Q3 g a=some ca->Q3 g b=some cb->Q3 g (a++b)=some (ca++cb)
 |[],b,ca,cb,h1,h2=>by injection h1 with h1;subst h1;exact h2
 |B::a,b,ca,cb,h1,h2=>by
  simp only[Q3]at h1;split at h1
  ·rename_i C r h3 h4;injection h1 with h1
   subst h1;simp only[List.cons_append,Q3,h3,jX h4 h2]
  cases h1
abbrev Vk(md:Md)(b m z:Nat):Blk:=.vs md [.sl b 0 m z .whole]
def pe{rs:List Nat}(hn:rs.Nodup){σ σ1:Heap}{r r':V}{pre post Cpre Cpost:List Blk}{b m z q:Nat}{mo md:Md}{g:Nat->S}(hl:(pre++Vk mo b m z::post).length=rs.length)(hf:QF σ1 0 (pre++Vk mo b m z::post))(hb:rs.length<=b)(hbl:σ1[b]? = some (.sc md q g))
  (hp:∀ B∈pre,B.plain=true) (hp2:∀ B∈post,B.plain=true) (hr:V.ren (ixo rs) r=some r') (hB:Xt rs pre=some Cpre) (hB2:Xt rs post=some Cpost) (hfu:(r.refs++(pre++Vk mo b m z::post).flatMap Blk.refs).length+((pre++Vk mo b m z::post).flatMap Blk.refs).length<64) :
  Xn false σ rs r σ1=some (r',XD σ rs (Cpre++Vk mo σ.length m z::Cpost)++[.sc md q g]):=by
 generalize hBs:pre++Vk mo b m z::post=Bs at *
 have hat:∀ i,i<Bs.length->σ1[i]? = Bs[i]?:=fun i hi=>by have:=DZ hf hi;simpa using this
 have htake:σ1.take rs.length=Bs:=by have:=K1 hf;rw[List.drop_zero,hl]at this;exact this
 have hrefs:∀ i∈Bs.flatMap Blk.refs,i<rs.length∨i=b:=fun i hi=>by
  rw[<-hBs,List.flatMap_append,Zb8]at hi;rcases Zcg.1 hi with hi|hi
  ·exact .inl (JF hn hp hB i hi)
  rcases Zcg.1 hi with hi|hi
  ·have:i∈[b]:=by simpa[Blk.refs,V.refsL,V.refs] using hi
   exact .inr (List.mem_singleton.1 this)
  exact .inl (JF hn hp2 hB2 i hi)
 have hbin:b∈Bs.flatMap Blk.refs:=by
  rw[<-hBs,List.flatMap_append,Zb8];exact ZbM _ (ZbV _ (by simp[Blk.refs,V.refsL,V.refs]))
 have hgd:∀ i,i<Bs.length->VS σ1 i=(Bs.getD i .dead).refs:=fun i hi=>by
  show(σ1.getD i .dead).refs=_;rw[ZbD,hat i hi,ZbD]
 have hgb:VS σ1 b=[]:=by
  show(σ1.getD b .dead).refs=[];rw[ZbD,hbl];rfl
 have hmem:∀ i,i<Bs.length→∀ j∈VS σ1 i,j∈Bs.flatMap Blk.refs:=fun i hi j hj=>by
  rw[hgd i hi,ZbD,ZbH hi]at hj;exact List.mem_flatMap.2 ⟨Bs[i],List.getElem_mem hi,hj⟩
 have hw:∀ i∈r.refs++Bs.flatMap Blk.refs,i<rs.length∨i=b:=fun i hi=>by
  rcases Zcg.1 hi with hi|hi
  ·exact .inl ((V.ren_refs r r' hr).2 i hi)
  exact hrefs i hi
 have hU:(List.range Bs.length++[b]).flatMap (VS σ1)=Bs.flatMap Blk.refs:=by
  rw[List.flatMap_append,Zb8,hgb];simp only[List.flatMap_nil,Zcf];have:Bs=(List.range Bs.length).map (fun i=>Bs.getD i .dead):=by
   refine List.ext_getElem (by simp) fun i h1 h2=>?_
   rw[List.getElem_map,List.getElem_range,ZbD,ZbH h1];rfl
  conv=>rhs;rw[this]
  rw[List.flatMap_map];rw[List.flatMap_def,List.flatMap_def];refine congrArg List.flatten (List.map_congr_left fun i hi=>hgd i (Zck.1 hi))
 have hns:Xi false rs.length r σ1=[b]:=by
  unfold Xi;rw[cond_false,htake];refine Ec hb (K3 _ _ _ List.nodup_nil) (T8 (P:=fun i=>i<rs.length\/i=b) (fun i hi j hj=>?_) _ _ _ hw (fun i hi=>by cases hi)) ?_
  ·rcases hi with hi|hi
   ·exact hrefs j (hmem i (by omega) j hj)
   subst hi;rw[hgb]at hj;cases hj
  refine R4 64 _ [] (List.range Bs.length++[b]) (fun i hi=>.inr ?_) (fun i hi j hj=>.inr ?_) ?_ b (ZbM _ hbin)
  ·rcases hw i hi with h|h
   ·exact ZbV _ (Zck.2 (by omega))
   subst h;exact ZbM _ (.head _)
  ·have:j<rs.length\/j=b:=by
    rcases Zcg.1 hi with hi|hi
    ·exact hrefs j (hmem i (Zck.1 hi) j hj)
    rw[List.mem_singleton.1 hi,hgb]at hj;cases hj
   rcases this with h|h
   ·exact ZbV _ (Zck.2 (by omega))
   subst h;exact ZbM _ (.head _)
  rw[hU];exact hfu
 have hnd:=Ux hn
 have hble:Nat.ble rs.length σ1.length=true:=ZbN (by have:=JE hf (Zct _);omega)
 have hpk:Y6 false (Xa rs [b] σ.length rs.length) σ1 (List.range rs.length)=some (Cpre++Vk mo σ.length m z::Cpost):=by
  rw[List.range_eq_range',<-hl];refine jM hf ?_;rw[<-hBs];refine jX (by rw[hBs,hl];exact wT hp hB) ?_;have h2:Q3 (Xa rs [b] σ.length rs.length) post=some Cpost:=wT hp2 hB2;have hv:Blk.ren false (Xa rs [b] σ.length rs.length) (Vk mo b m z)=some (Vk mo σ.length m z):=by
   simp only[Vk,Blk.ren,V.renL,V.ren,Q1 hb,Option.map_some,XG,cond_false]
  rw[hBs,hl];simp only[Q3,hv,h2]
 unfold Xn
 have hpb:Y6 false (Xa rs [b] σ.length rs.length) σ1 [b]=some [.sc md q g]:=by
  simp only[Y6,hbl,Option.bind_some,Blk.ren,XG,cond_false]
 have hn1:nodup [b]=true:=rfl
 simp only[hns,hnd,hn1,hble,Bool.and_self,cond_true,V.ren_lo r r' hr,hpb,cond_false,hpk]
section
variable{A:AP}{N:Nat}{f:FE}{n:Nat}{L:HA}{K:KN}{Zp:V->KN}
def rq(Lr L0:HA)(k:Nat)(n:Nat)(K:V->Nat->HA->Prop):KR:=fun r _ L1=>
 (∃ Bs r' Cs,UF L1 0 Bs/\Bs.length=k/\Bs.all Blk.plain=true/\V.ren (ixo (Lr.map (·.1))) r=some r'/\Xt (Lr.map (·.1)) Bs=some Cs/\K r' n ((Lr.map (·.1)).zip Cs++L0)) \/
 (∃ pre post b m z q mo md g r' Cpre Cpost,UF L1 0 (pre++Vk mo b m z::post)/\(pre++Vk mo b m z::post).length=k/\k<=b/\(b,Blk.sc md q g)∈L1/\pre.all Blk.plain=true/\post.all Blk.plain=true/\V.ren (ixo (Lr.map (·.1))) r=some r' /\
  Xt (Lr.map (·.1)) pre=some Cpre/\Xt (Lr.map (·.1)) post=some Cpost/\(r.refs++(pre++Vk mo b m z::post).flatMap Blk.refs).length+((pre++Vk mo b m z::post).flatMap Blk.refs).length<64 /\
  K r' (n+1) ((n,.sc md q g)::((Lr.map (·.1)).zip (Cpre++Vk mo n m z::Cpost)++L0)))
def runN{fid:FuncId}{all vs mk:List V}{Bs:List Blk}{Lr L0:HA}{K:V->Nat->HA->Prop}(hv:V.renL (ixo (Lr.map (·.1))) vs=some all)(hB:Xt (Lr.map (·.1)) Bs=some (Lr.map (·.2)))(hp:Bs.all Blk.plain=true)(hr:YN Bs 64 (V.refsL vs) []=List.range Bs.length)
  (h:WR A fid (mk++vs) Bs (rq Lr L0 Bs.length n K)) {σ:Heap} (hσ:Hp σ n (Lr++L0)) :
  ∃ y r' σ' n' L',Xq false all σ=some (Lr.map (·.1),vs,Bs)/\Run A fid (mk++vs) Bs=some y/\Xn false σ (Lr.map (·.1)) y.1 y.2=some (r',σ')/\Hp σ' n' L'/\K r' n' L':=by
 obtain⟨r,σ1,n1,L1,h1,h2,h3⟩:=h
 have hn:=DO hσ
 have hc:=Eh hσ (fun p hp=>ZbV _ hp) hp hB
 have hen:=Td hn hc hv hr
 have hlen:Bs.length=(Lr.map (·.1)).length:=hc.len.symm
 rcases h3 with⟨Bs1,r',Cs,e1,e2,e3,e4,e5,e6⟩|⟨pre,post,b,m,z,q,mo,md,g,r',Cpre,Cpost,e1,e2,e3,e4,e5,e6,e7,e8,e9,e10,e11⟩
 ·have hlv:=yb (σ:=σ) hn (e2.trans hlen) (Jf h2 e1) (Zcc.1 e3) e4 e5;exact⟨(r,σ1),r',_,n,_,hen,h1,hlv,hσ.putZ (by rw[Jk e5,e2,hlen,List.length_map]),e6⟩
 have hlv:=pe (σ:=σ) hn (e2.trans hlen) (Jf h2 e1) (by omega) (h2.2.mem e4).2 (Zcc.1 e5) (Zcc.1 e6) e7 e8 e9 e10;rw[hσ.1]at hlv;have hcl:(Cpre++Vk mo n m z::Cpost).length=Lr.length:=by
  rw[Zb2,Zcd,Jk e8,Jk e9];rw[Zb2,Zcd,hlen,List.length_map]at e2;exact e2
 exact⟨(r,σ1),r',_,n+1,_,hen,h1,hlv,(hσ.putZ hcl).new _,e11⟩
def jH{x:O}{xs:List O}{args vs:List V}{b k:Nat}{rd:RD}{caps:List V}{st:Nat}{Bs:List Blk}{l:List I}{od:Option Nat}{Lr L0:HA}(hL:List.Perm L (Lr++L0))(hf:x.fv N f=.yv b)(ha:xs.map (O.fv N f)=args)(hm:(b,Blk.lp k rd caps st)∈L)
  (hv:V.renL (ixo (Lr.map (·.1))) vs=some (.yv b::args)) (hB:Xt (Lr.map (·.1)) Bs=some (Lr.map (·.2))) (hp:Bs.all Blk.plain=true) (hr:YN Bs 64 (V.refsL vs) []=List.range Bs.length)
  (h:WR A k (.pan .undef::vs) Bs (rq Lr L0 Bs.length n fun v n' L'=>WOx A N l (Xc f od v) n' L' K Zp)):WOx A N (⟨od,none,.h (.call x xs)⟩::l) f n L K Zp :=
 uJ rfl rfl hf hm fun σ hσ=>by
  rw[ha];obtain⟨y,r',σ',n',L',e1,e2,e3,e4,e5⟩:=runN (mk:=[.pan .undef]) hv hB hp hr h (hσ.perm hL);refine⟨r',_,n',_,?_,e4,e5⟩;unfold Qr;rw[e1,Option.bind_some];have e2:Run A k (.pan .undef::vs) Bs=some y:=e2;dsimp only;rw[e2,Option.bind_some];exact e3
def wI{X:Nat->KN}{R:KN}{g:O}{k:Nat}{rd:RD}{gf:FuncId}{gcaps vs:List V}{Bs:List Blk}{Lr L0:HA}(hL:List.Perm L (Lr++L0))(hg:g.fv N f=.fn gf gcaps)
  (hv:V.renL (ixo (n::Lr.map (·.1))) vs=some (.yv n::gcaps)) (hB:Xt (n::Lr.map (·.1)) Bs=some (.lp k rd (E N f) 0::Lr.map (·.2))) (hp:Bs.all Blk.plain=true) (hr:YN Bs 64 (V.refsL vs) []=List.range Bs.length)
  (h:WR A gf vs Bs (rq ((n,.lp k rd (E N f) 0)::Lr) L0 Bs.length (n+1) fun _ n' L'=>∃ k' rd' caps st L1,List.Perm L' ((n,.lp k' rd' caps st)::L1)/\(match st with
   |0=>K f n' L1
   |1=>False
   |2=>R f n' L1
   |j+3=>X j f n' L1))):WP A N (.rfn g k rd) f n L K X R Zp:=fun σ hσ=>by
 have hσ1:=(hσ.perm hL).new (.lp k rd (E N f) 0)
 obtain⟨y,r',τ,n',L',e1,e2,e3,e4,k',rd',caps,st,L1,eL,e5⟩:=runN (Lr:=(n,.lp k rd (E N f) 0)::Lr) (mk:=[]) hv hB hp hr h hσ1
 rw[List.nil_append]at e2
 have hcall:V1 (Run A) gf (.yv n::gcaps) (σ++[.lp k rd (E N f) 0])=some (r',τ):=by
  unfold V1;rw[e1,Option.bind_some];dsimp only;rw[e2,Option.bind_some];exact e3
 have e4:=e4.perm eL
 have hl:τ[n]? = some (.lp k' rd' caps st):=(e4.2.mem (.head _)).2
 have hend:Hp (wf τ n) n' L1:=(e4.set (B':=.dead) .here).drop
 have hx:∀ x,Qb (Run A) g k rd (E N f) σ=some (x,E N f,wf τ n)->Ve A (.rfn g k rd) (E N f) σ=some (x,E N f,wf τ n):=fun x h=>by rw[vh];exact h
 match st,e5,hl with
 |0,e5,hl=>
  refine⟨.normal,f,_,n',_,hx _ ?_,hend,e5⟩
  unfold Qb
  rw[Y2,hg]
  simp only[hσ.1,hcall,hl]
 |2,e5,hl=>
  refine⟨.ret,f,_,n',_,hx _ ?_,hend,e5⟩
  unfold Qb
  rw[Y2,hg]
  simp only[hσ.1,hcall,hl]
 |j+3,e5,hl=>
  refine⟨.exit j,f,_,n',_,hx _ ?_,hend,e5⟩
  unfold Qb
  rw[Y2,hg]
  simp only[hσ.1,hcall,hl]
def Zbp{z bytes d:Nat}{s x:O}{l c:List Int}{v w:V}{own L0 ownx:HA}{rest:List I}(hs:s.fv N f=v)(hr:Rw z l v own)(hx:x.fv N f=w)(hrx:Rx z c w ownx)(hb:∀ p∈ownx,p∈L)(hd:Dr own L L0)(hz:0<z)(hroom:(l.length+c.length)*bytes≤140737488355328)
  (k:∀ v' own' n',Rw z (l++c) v' own'→(∀ p∈own',n≤p.1)→WO A N rest (upd f d v') n' (own'++(own.map (fun p=>(p.1,Blk.dead))++L0)) K Zp):WO A N (⟨some d,none,.h (.append z bytes s x)⟩::rest) f n L K Zp:=by
 cases hr with
 |nil h=>
  subst h
  have e:L0=L:=by
   have:=hd.all.length_eq;exact(hd.sub.eq_of_length (by simpa using this.symm))
  subst e
  cases hrx with
  |nil h=>
   subst h
   refine Xl (v:=.snil) (fun σ hσ=>⟨σ,?_,hσ⟩) (k .snil [] n (.nil rfl) (fun p hp=>by cases hp))
   simp only[YK,Y2,hs,hx,WL,Vf,if_true]
  |@row b' m' q' md' cp R hl' hR=>
   have hb0:=hb _ (.head _)
   rcases Nat.eq_zero_or_pos m' with hm'|hm'
   ·subst hm';obtain rfl:c=[]:=List.eq_nil_of_length_eq_zero (by rw[hl',Nat.zero_mul]);refine Xl (v:=.snil) (fun σ hσ=>⟨σ,?_,hσ⟩) (k .snil [] n (.nil rfl) (fun p hp=>by cases hp));simp only[YK,Y2,hs,hx,WL,Vf,(hσ.2.mem hb0).2,if_true]
   have hm1:m'<=c.length:=by rw[hl'];exact Nat.le_mul_of_pos_right _ hz
   refine DF hs hx hb0 (by omega) (Ua (Zcq (ZbW _ (by simpa using hm1)) hroom)) ?_
   exact k _ [(n,_)] _ (.row (by simpa using hl') fun i hi=>by simpa using hR i (by simpa using hi)) (fun p hp=>by rw[List.mem_singleton.1 hp];exact Zcs _)
 |@row b m q F hl hF=>
  obtain⟨L1,h1,h2⟩:=hd.at (B':=.dead)
  have hm1:m<=l.length:=by rw[hl];exact Nat.le_mul_of_pos_right _ hz
  cases hrx with
  |@row b' m' q' md' cp R hl' hR=>
   have hm2:m'<=c.length:=by rw[hl'];exact Nat.le_mul_of_pos_right _ hz
   refine T3 hs hx (hb _ (.head _)) h1 (Ua (Zcq (ZbW _ (by omega)) hroom)) ?_
   refine VA (L':=(n,_)::(b,.dead)::L0) (h2.cons _) ?_
   exact k _ [(n,_)] _ (.row (by rw[Zb2,hl,hl',Nat.add_mul]) (tv hl rfl hF (fun i hi=>by rw[Zcp];exact hR i hi))) (fun p hp=>by rw[List.mem_singleton.1 hp];exact Zcs _)
  |nil h=>
   subst h
   have hroom':XC (m+0) bytes=true:=Ua (Zcq (ZbW _ (by simp;omega)) hroom)
   refine Xl (v:=.sl n 0 (m+0) z .whole) (n':=n+1) (L':=(n,.sc .grow (m*z+0) (ia fun i=>bif Nat.blt i (m*z) then F (0+i) else 0))::(b,.dead)::L0) (fun σ hσ=>⟨wf σ b++[.sc .grow (m*z+0) (ia fun i=>bif Nat.blt i (m*z) then F (0+i) else 0)],?_,?_⟩) (k _ [(n,_)] _ (.row (by rw[Zcf];exact hl) fun i hi=>by
    rw[Zcf]at hi ⊢;rw[show Nat.blt i (m*z)=true from ZbN (by omega),cond_true,Zcp];exact hF i hi) (fun p hp=>by rw[List.mem_singleton.1 hp];exact Zcs _))
   ·simp only[YK,Y2,hs,hx,WL,Vf,(hσ.2.mem h1.mem).2,if_true,hroom',cond_true,W5,Nat.zero_mul,Option.map_some,hσ.1];refine congrArg some (Prod.ext rfl ?_);refine congrArg (fun B=>wf σ b++[B]) ?_;refine congrArg (Blk.sc .grow (m*z+0)) ?_;funext i;show(bif Nat.blt i (m*z) then S.int .i64 (F (0+i)) else S.zero)=S.int .i64 (bif Nat.blt i (m*z) then F (0+i) else 0)
    cases Nat.blt i (m*z) <;> rfl
   exact((hσ.set h1).perm h2).new _
def Et{z bytes d:Nat}{s x:O}{l c:List Int}{v w:V}{own L0 ownx:HA}{rest:List I}(hs:s.fv N f=v)(hr:Rw z l v own)(hx:x.fv N f=w)(hrx:Rx z c w ownx)(hb:∀ p∈ownx,p∈L)(hd:Dr own L L0)(hz:0<z)(hroom:(l.length+c.length)*bytes≤140737488355328)
  (k:∀ v' own' n',Rw z (l++c) v' own'→(∀ p∈own',∀ q∈L,q.1<p.1)→WO A N rest (upd f d v') n' (own'++(own.map (fun p=>(p.1,Blk.dead))++L0)) K Zp):WO A N (⟨some d,none,.h (.append z bytes s x)⟩::rest) f n L K Zp:=fun σ hσ=>
 Zbp hs hr hx hrx hb hd hz hroom (fun v' own' n' hr' hn=>k v' own' n' hr' (fun p hp _ hq=>Zb3 (hσ.2.mem hq).1 (hn p hp))) σ hσ
def V.row:V->Bool
 |.snil=>true
 |.sl _ _ _ _ .whole=>true
 |_=>false
def Rw.isrow{z:Nat}{l:List Int}{v:V}{own:HA}(h:Rw z l v own):v.row=true:=by cases h <;> rfl
def TK{a x:O}{b:Nat}{u v:V}{l:List I}{L':HA}(ha:a.fv N f=.ptr b 0 1)(hx:x.fv N f=v)(hv:v.row=true)(hm:At b (.vs .var [u]) (.vs .var [v]) L L')(k:WO A N l f n L' K Zp):WO A N (⟨none,none,.h (.store 1 a x)⟩::l) f n L K Zp :=
 Xl (v:=.undef) (d:=none) (fun σ hσ=>⟨σ.set b (.vs .var [v]),by
  have h:=(hσ.2.mem hm.mem).2;have hc:v.vcells 1=some [v]/\v.one=true:=by
   cases v <;> first|exact⟨rfl,rfl⟩|cases hv
  simp only[YK,Y2,ha,hx,wrV,h,hc.1,hc.2,Md.mut,if_true,Option.bind_some,Zcd,List.length_nil,List.all_cons,List.all_nil,Bool.and_self,Zcp,Zcs,and_self,List.take_zero,List.nil_append,Zcf,List.drop_succ_cons,List.drop_zero,Option.map_some],hσ.set hm⟩) k
def gx{fid:FuncId}{a:AF}{as:List V}{Bs:List Blk}{K:KR}(hp:A.prims fid=none)(ha:A.fns fid=some a)(f:FE)(hf:K4 a as=E a.nt f){m c0:Nat}(hm:Bs.length=m)(hres:a.res=[.cell c0 false 1])
  (h:WP A a.nt a.body f m (YZ 0 Bs) (fun _ _ _=>False) (fun _ _ _ _=>False) (fun f n L=>∃ b md v,rd a.nt f c0=.ptr b 0 1/\(b,Blk.vs md [v])∈L/\K v n L) (fun _ _ _ _=>False)) (hmk:U9 as=false:=by rfl):WR A fid as Bs K:=by
 subst hm
 obtain⟨x,f',σ',n',L',h1,h2,h3⟩:=h Bs (EE Bs)
 cases x with
 |normal=>exact h3.elim
 |exit j=>exact h3.elim
 |panic v=>exact h3.elim
 |ret=>
  obtain⟨b,md,v,e1,e2,hK⟩:=h3
  have hr:Eg (E a.nt f') σ' a.res=some v:=by
   unfold Eg;rw[hres];simp only[Ru,wD,UH,e1,Zcs,if_true,rdV,(h2.2.mem e2).2,cond_false,List.getElem?_cons_zero]
  exact⟨v,σ',n',L',by rw[y0 hp ha as Bs hmk,hf,h1];simp[QB,hr],h2,hK⟩
def ED(L:HA)(pre post:List Blk)(l:List Int):Prop:=(l=[]/\UF L 0 (pre++.vs .var [.snil]::post))\/∃ b m q F,pre.length+(post.length+1)<=b/\(b,Blk.sc .grow q (ia F))∈L/\UF L 0 (pre++Vk .var b m 3::post)/\l.length=m*3/\∀ i,i<l.length->F i=l.getD i 0
def JI{L own:HA}{pre post:List Blk}{l:List Int}{v:V}(h:Rw 3 l v own)(hf:UF L 0 (pre++.vs .var [v]::post))(ho:∀ p∈own,p∈L∧pre.length+(post.length+1)≤p.1):ED L pre post l:=by
 cases h with
 |nil h=>exact .inl ⟨h,hf⟩
 |row hl hF=>exact .inr ⟨_,_,_,_,(ho _ (.head _)).2,(ho _ (.head _)).1,hf,hl,hF⟩
def TR{k:Nat}{rd:RD}{caps:Nat->List V}{xa:List V}{g1 gq:Nat->S}{x:O}{xs:List O}{l:List I}{od:Option Nat}{acc acc':List Int}{v:V}{own L0:HA}(h33:V.renL (ixo [0,1,2,3]) (caps 3)=some (caps 3))(h43:∀ b,V.renL (ixo [0,1,2,b,3]) (caps 4)=some (caps 3))(has:V.looseL xa=true)
  (hr3:YN [.lp k rd (caps 3) 0,.sc .var 133 g1,.vs .var [.snil],.sc .var 133 gq] 64 (V.refsL (.yv 0::xa)) []=List.range 4) (hr4:∀ m q F,YN [.lp k rd (caps 4) 0,.sc .var 133 g1,Vk .var 3 m 3,.sc .grow q (ia F),.sc .var 133 gq] 64 (V.refsL (.yv 0::xa)) []=List.range 5)
  (hn3:(ddp (V.refsL (caps 3))).length<=20) (hn4:(ddp (V.refsL (caps 4))).length<=20) (hf:x.fv N f=.yv 0) (ha:xs.map (O.fv N f)=xa) (hr:Rw 3 acc v own) (hL:List.Perm L (own++([(0,.lp k rd (caps 3) 0),(1,.sc .var 133 g1),(2,.vs .var [v]),(3,.sc .var 133 gq)]++L0)))
  (hnil:acc=[]->WR A k (.pan .undef::.yv 0::xa) [.lp k rd (caps 3) 0,.sc .var 133 g1,.vs .var [.snil],.sc .var 133 gq] (fun v _ L=>v=.s (.bool true)/\ED L [.lp k rd (caps 3) 0,.sc .var 133 g1] [.sc .var 133 gq] acc'))
  (hrow:∀ m q F,acc.length=m*3->(∀ i,i<acc.length->F i=acc.getD i 0)->WR A k (.pan .undef::.yv 0::xa) [.lp k rd (caps 4) 0,.sc .var 133 g1,Vk .var 3 m 3,.sc .grow q (ia F),.sc .var 133 gq] (fun v _ L=>v=.s (.bool true)/\ED L [.lp k rd (caps 4) 0,.sc .var 133 g1] [.dead,.sc .var 133 gq] acc'))
  (kk:∀ v' own' n',Rw 3 acc' v' own'→(∀ p∈own',4≤p.1)→WOx A N l (Xc f od (.s (.bool true))) n' (own'++([(0,.lp k rd (caps 3) 0),(1,.sc .var 133 g1),(2,.vs .var [v']),(3,.sc .var 133 gq)]++L0)) K Zp):WOx A N (⟨od,none,.h (.call x xs)⟩::l) f n L K Zp:=by
 intro σ hσ
 have h3n:3<n:=(hσ.2.mem (hL.symm.subset (ZbM _ (.tail _ (.tail _ (.tail _ (.head _))))))).1
 have hnn:∀ (B:Blk),∀ p∈[(n,B)],4≤p.1:=fun B p hp=>by rw[List.mem_singleton.1 hp];exact h3n
 have hno:∀ p∈([]:HA),4≤p.1:=fun p hp=>by cases hp
 have hmem:(0,Blk.lp k rd (caps 3) 0)∈L:=hL.symm.subset (ZbM _ (.head _))
 have hargs:∀ rs:List Nat,rs[0]? = some 0->V.renL (ixo rs) (.yv 0::xa)=some (.yv 0::xa):=fun rs h=>by
  have h2:=V.looseL_ren (ixo rs) xa has;have h1:V.ren (ixo rs) (.yv 0)=some (.yv 0):=by
   show(ixo rs 0).map V.yv=_;rw[show ixo rs 0=some 0 from h];rfl
  simp only[V.renL,h1,h2]
 have hnl:∀ (a b:List Nat),a.length<=20->b.length<=1->(([]:List Nat)++(a++b)).length+(a++b).length<64:=fun a b h1 h2=>by
  simp only[Zb2,List.nil_append];omega
 have hrefs:∀ (c b m z:Nat) (post:List Blk),post.flatMap Blk.refs=[]->([Blk.lp k rd (caps c) 0,.sc .var 133 g1]++Vk .var b m z::post).flatMap Blk.refs=ddp (V.refsL (caps c))++[b]:=fun c b m z post h=>by
  simp only[List.cons_append,List.nil_append,Zb8,h,Zcf];simp only[Blk.refs,V.refsL,V.refs,List.nil_append,Zcf]
 cases hr with
 |nil h=>
  have hB3:Xt [0,1,2,3] [.lp k rd (caps 3) 0,.sc .var 133 g1,.vs .var [.snil],.sc .var 133 gq]=some [.lp k rd (caps 3) 0,.sc .var 133 g1,.vs .var [.snil],.sc .var 133 gq]:=by
   simp only[Xt,Blk.ren,cond_false,h33,V.renL,V.ren,Option.map_some,XG]
  refine jH (Lr:=[(0,_),(1,_),(2,_),(3,_)]) (L0:=L0) (vs:=.yv 0::xa) hL hf ha hmem (hargs [0,1,2,3] rfl) hB3 rfl hr3 (Qm (hnil h) ?_) σ hσ
  rintro r n1 L1 ⟨rfl,ho⟩
  rcases ho with⟨e1,e2⟩|⟨b,m,q,F,e1,e2,e3,e4,e5⟩
  ·exact .inl ⟨_,.s (.bool true),_,e2,rfl,rfl,rfl,hB3,kk .snil [] _ (.nil e1) hno⟩
  refine .inr ⟨[.lp k rd (caps 3) 0,.sc .var 133 g1],[.sc .var 133 gq],b,m,3,q,.var,.grow,ia F,.s (.bool true),[.lp k rd (caps 3) 0,.sc .var 133 g1],[.sc .var 133 gq],e3,rfl,e1,e2,rfl,rfl,rfl,?_,rfl,?_,kk _ [(n,_)] _ (.row e4 e5) (hnn _)⟩
  ·show Xt [0,1,2,3] _=_;simp only[Xt,Blk.ren,cond_false,h33,Option.map_some,XG]
  rw[hrefs 3 b m 3 _ rfl]
  exact hnl _ _ hn3 (Zcs _)
 |@row b0 m0 q0 F0 hl hF=>
  have hL':List.Perm L ([(0,.lp k rd (caps 3) 0),(1,.sc .var 133 g1),(2,Vk .var b0 m0 3),(b0,.sc .grow q0 (ia F0)),(3,.sc .var 133 gq)]++L0):=hL.trans (List.perm_middle (l₁:=[_,_,_]) (l₂:=_::L0)).symm
  have hB4:Xt [0,1,2,b0,3] [.lp k rd (caps 4) 0,.sc .var 133 g1,Vk .var 3 m0 3,.sc .grow q0 (ia F0),.sc .var 133 gq]=some [.lp k rd (caps 3) 0,.sc .var 133 g1,Vk .var b0 m0 3,.sc .grow q0 (ia F0),.sc .var 133 gq]:=by
   have e:ixo [0,1,2,b0,3] 3=some b0:=rfl;simp only[Xt,Blk.ren,cond_false,h43 b0,V.renL,V.ren,Option.map_some,XG,e]
  refine jH (Lr:=[(0,_),(1,_),(2,_),(b0,_),(3,_)]) (L0:=L0) (vs:=.yv 0::xa) hL' hf ha hmem (hargs [0,1,2,b0,3] rfl) hB4 rfl (hr4 m0 q0 F0) (Qm (hrow m0 q0 F0 hl hF) ?_) σ hσ
  rintro r n1 L1 ⟨rfl,ho⟩
  rcases ho with⟨e1,e2⟩|⟨b,m,q,F,e1,e2,e3,e4,e5⟩
  ·refine .inl ⟨_,.s (.bool true),[.lp k rd (caps 3) 0,.sc .var 133 g1,.vs .var [.snil],.dead,.sc .var 133 gq],e2,rfl,rfl,rfl,?_,Q2 (.cons_cons _ (.cons_cons _ (.cons_cons _ (.cons _ (.refl _))))) (kk .snil [] _ (.nil e1) hno)⟩;show Xt [0,1,2,b0,3] _=_;simp only[List.cons_append,List.nil_append,Xt,Blk.ren,cond_false,h43 b0,V.renL,V.ren,Option.map_some,XG]
  refine .inr ⟨[.lp k rd (caps 4) 0,.sc .var 133 g1],[.dead,.sc .var 133 gq],b,m,3,q,.var,.grow,ia F,.s (.bool true),[.lp k rd (caps 3) 0,.sc .var 133 g1],[.dead,.sc .var 133 gq],e3,rfl,e1,e2,rfl,rfl,rfl,?_,rfl,?_,?_⟩
  ·show Xt [0,1,2,b0,3] _=_;simp only[Xt,Blk.ren,cond_false,h43 b0,Option.map_some,XG]
  ·rw[hrefs 4 b m 3 _ rfl];exact hnl _ _ hn4 (Zcs _)
  exact Q2 (.cons_cons _ (.cons_cons _ (.cons_cons _ (.cons_cons _ (.cons _ (.refl _)))))) (kk _ [(n,_)] _ (.row e4 e5) (hnn _))
end
end Go.Am
namespace Go.Am
open Go
def Df:∀ {Bs:List Blk},Bs.all Blk.loose=true->Bs.flatMap Blk.refs=[]
 |[],_=>rfl
 |B::Bs,h=>by
  simp only[List.all_cons,Zca]at h;rw[Zb8,Blk.loose_refs h.1,Df h.2];rfl
def xB{g:Nat->Option Nat}:∀ {Bs:List Blk},Bs.all Blk.loose=true->Q3 g Bs=some Bs
 |[],_=>rfl
 |B::Bs,h=>by
  simp only[List.all_cons,Zca]at h;simp only[Q3,Blk.loose_ren h.1,Blk.low_false,xB h.2]
abbrev UU(T:TypeId)(b k m:Nat):Blk:=.vs (.ty T) [.ptr b 0 2,.sl k 0 m 1 .whole]
def oH{b0:Nat}{rs0:List Nat}(hn:(b0::rs0).Nodup){σ σ1:Heap}{r:V}{T:TypeId}{post:List Blk}{b m q:Nat}{md:Md}{g:Nat->S}(hl:post.length=rs0.length)(hf:QF σ1 0 (UU T 0 b m::post))(hb:rs0.length+1<=b)(hbl:σ1[b]? = some (.sc md q g))
  (hp:post.all Blk.loose=true) (hr:r.loose=true):Xn false σ (b0::rs0) r σ1=some (r,XD σ (b0::rs0) (UU T b0 σ.length m::post)++[.sc md q g]):=by
 have h0:σ1[0]? = some (UU T 0 b m):=hf.1
 have htake:σ1.take (rs0.length+1)=UU T 0 b m::post:=by have:=K1 hf;rw[List.drop_zero,Zcd,hl]at this;exact this
 have hrefs:(UU T 0 b m::post).flatMap Blk.refs=[0,b]:=by rw[Zb8,Df hp];rfl
 have hg0:VS σ1 0=[0,b]:=by
  show(σ1.getD 0 .dead).refs=_;rw[X4 h0];rfl
 have hgb:VS σ1 b=[]:=by
  show(σ1.getD b .dead).refs=[];rw[X4 hbl];rfl
 have hns:Xi false (rs0.length+1) r σ1=[b]:=by
  unfold Xi;rw[cond_false,htake,hrefs,V.loose_refs r hr,List.nil_append];have hin:∀ i∈YN σ1 64 [0,b] [],i=0∨i=b:=T8 (P:=fun i=>i=0∨i=b) (fun i hi j hj=>by
   rcases hi with hi|hi
   ·subst hi;rw[hg0]at hj;simpa using hj
   subst hi;rw[hgb]at hj;cases hj) _ _ _ (fun i hi=>by simpa using hi) (fun i hi=>by cases hi)
  refine Ec hb (K3 _ _ _ List.nodup_nil) (fun i hi=>(hin i hi).imp (fun h=>by omega) id) ?_;refine R4 64 _ [] [0,b] (fun i hi=>.inr hi) (fun i hi j hj=>.inr ?_) ?_ b (.tail _ (.head _))
  ·rcases Zco.1 hi with hi|hi
   ·subst hi;rw[hg0]at hj;exact hj
   rw[List.mem_singleton.1 hi,hgb]at hj;cases hj
  simp only[Zb8,hg0,hgb,List.flatMap_nil,Zcd,List.length_nil,Zcf];decide
 have hnd:=Ux hn
 have hble:Nat.ble (rs0.length+1) σ1.length=true:=ZbN (by have:=JE hf (Zct _);rw[Zcd]at this;omega)
 have b1:Xa (b0::rs0) [b] σ.length (rs0.length+1) b=some σ.length:=Q1 (rs:=b0::rs0) hb
 have b2:Xa (b0::rs0) [b] σ.length (rs0.length+1) 0=some b0:=(RI (rs:=b0::rs0) (Nat.succ_pos _)).trans rfl
 have hpk:Y6 false (Xa (b0::rs0) [b] σ.length (rs0.length+1)) σ1 (List.range (rs0.length+1))=some (UU T b0 σ.length m::post):=by
  rw[List.range_eq_range',<-hl];refine jM (Bs:=UU T 0 b m::post) hf ?_;rw[hl];have hv:Blk.ren false (Xa (b0::rs0) [b] σ.length (rs0.length+1)) (UU T 0 b m)=some (UU T b0 σ.length m):=by
   simp only[UU,Blk.ren,V.renL,V.ren,b1,b2,Option.map_some,XG,cond_false]
  simp only[Q3,hv,xB hp]
 unfold Xn
 have hpb:Y6 false (Xa (b0::rs0) [b] σ.length (rs0.length+1)) σ1 [b]=some [.sc md q g]:=by
  simp only[Y6,hbl,Option.bind_some,Blk.ren,XG,cond_false]
 have hn1:nodup [b]=true:=rfl
 simp only[Zcd,hns,hnd,hn1,hble,Bool.and_self,cond_true,V.loose_ren _ r hr,hpb,cond_false,hpk]
def D0(A:AP)(fid:FuncId)(vs:List V)(Bs:List Blk)(T el:TypeId)(r:V)(m:Nat)(g:Nat->S)(post:List Blk):Prop :=
 WR A fid vs Bs fun v _ L1=>v=r/\∃ j,Bs.length<=j/\UF L1 0 (UU T 0 j m::post)/\(j,Blk.sc (.gty el) m g)∈L1
section
variable{A:AP}{N:Nat}{f:FE}{n:Nat}{L:HA}{K:KN}{Zp:V->KN}{l:List I}
def sL{x:O}{fid:FuncId}{mk:Nat->V}{B:Blk}{d:Nat}(hmk:One mk)(hl:B.loose=true)(hf:x.fv N f=.fn fid [])(hs:RN A fid [] [] mk B [])
  (k:WO A N l (upd f d (mk n)) (n+1) ((n,B)::L) K Zp):WO A N (⟨some d,none,.h (.callq x [])⟩::l) f n L K Zp:=by
 obtain⟨b,σ1,hr,_,h1,_⟩:=hs
 refine Xl (v:=mk n) (fun σ h=>?_) k
 have hns:Xi true 0 (mk b) σ1=[b]:=by
  unfold Xi;have hre:YN σ1 64 ((mk b).refs++[]) []=[b]:=by
   rw[hmk.refs];show(bif ([]:List Nat).contains b then YN σ1 63 [] [] else YN σ1 63 ((σ1.getD b .dead).refs++[]) ([]++[b]))=[b];rw[X4 h1,Blk.loose_refs hl];rfl
  show List.filter (fun b=>Nat.ble 0 b) (YN σ1 64 ((mk b).refs++[]) [])=[b];rw[hre,R2 (Zct b)]
 have hre:(mk b).ren (Xa [] [b] σ.length 0)=some (mk n):=by
  rw[hmk.ren,Q1 (Zct b),h.1];rfl
 have hble:Nat.ble 0 σ1.length=true:=rfl
 refine⟨σ++[B],?_,h.new _⟩
 simp only[YK,Y2,hf,Y5,target,List.map_nil,Zcf,Option.bind_some,Xq,V.refsL,Ut,V.renL,Y6,hr,Xn,List.length_nil,hns,nodup,List.contains_nil,Bool.not_false,Bool.and_self,hble,cond_true,hre,h1,Blk.loose_ren hl,Blk.low_false]
def gS0:Nat->S:=fun _=>.str ⟨#[]⟩
def gS1(a:ByteArray):Nat->S:=WE gS0 (0*1) 1 fun _=>.str a
def gS2(a b:ByteArray):Nat->S:=WE (gS1 a) (1*1) 1 fun _=>.str b
def gS3(a b c:ByteArray):Nat->S:=WE (gS2 a b) (2*1) 1 fun _=>.str c
def gS4(a b c d:ByteArray):Nat->S:=WE (gS3 a b c) (3*1) 1 fun _=>.str d
def Rq{w:O}{a:ByteArray}{e:Nat}(hw:w.fv N f=.s (.str a))(k:WO A N l (upd f e (.sl n 0 1 1 (.ex 1))) (n+1) ((n,.sc .var 1 (gS1 a))::L) K Zp):WO A N (⟨some e,none,.h (.mksl 1 1 (.one (.s (.str ⟨#[]⟩))) [(0,w)])⟩::l) f n L K Zp :=
 Xl (v:=.sl n 0 1 1 (.ex 1)) (fun σ hσ=>⟨σ++[.sc .var 1 (gS1 a)],by
  simp only[YK,Z.row,Ws,List.map_cons,List.map_nil,WJ,Y2,hw,V.scells,if_true,hσ.1];rfl,hσ.new _⟩) k
def Qc{w x:O}{a b:ByteArray}{e:Nat}(hw:w.fv N f=.s (.str a))(hx:x.fv N f=.s (.str b))(k:WO A N l (upd f e (.sl n 0 2 1 (.ex 2))) (n+1) ((n,.sc .var 2 (gS2 a b))::L) K Zp):WO A N (⟨some e,none,.h (.mksl 2 1 (.one (.s (.str ⟨#[]⟩))) [(0,w),(1,x)])⟩::l) f n L K Zp :=
 Xl (v:=.sl n 0 2 1 (.ex 2)) (fun σ hσ=>⟨σ++[.sc .var 2 (gS2 a b)],by
  simp only[YK,Z.row,Ws,List.map_cons,List.map_nil,WJ,Y2,hw,hx,V.scells,if_true,hσ.1];rfl,hσ.new _⟩) k
def yx{w x y:O}{a b c:ByteArray}{e:Nat}(hw:w.fv N f=.s (.str a))(hx:x.fv N f=.s (.str b))(hy:y.fv N f=.s (.str c))(k:WO A N l (upd f e (.sl n 0 3 1 (.ex 3))) (n+1) ((n,.sc .var 3 (gS3 a b c))::L) K Zp):WO A N (⟨some e,none,.h (.mksl 3 1 (.one (.s (.str ⟨#[]⟩))) [(0,w),(1,x),(2,y)])⟩::l) f n L K Zp :=
 Xl (v:=.sl n 0 3 1 (.ex 3)) (fun σ hσ=>⟨σ++[.sc .var 3 (gS3 a b c)],by
  simp only[YK,Z.row,Ws,List.map_cons,List.map_nil,WJ,Y2,hw,hx,hy,V.scells,if_true,hσ.1];rfl,hσ.new _⟩) k
def EP{w x y z:O}{a b c d:ByteArray}{e:Nat}(hw:w.fv N f=.s (.str a))(hx:x.fv N f=.s (.str b))(hy:y.fv N f=.s (.str c))(hz:z.fv N f=.s (.str d))(k:WO A N l (upd f e (.sl n 0 4 1 (.ex 4))) (n+1) ((n,.sc .var 4 (gS4 a b c d))::L) K Zp):WO A N (⟨some e,none,.h (.mksl 4 1 (.one (.s (.str ⟨#[]⟩))) [(0,w),(1,x),(2,y),(3,z)])⟩::l) f n L K Zp :=
 Xl (v:=.sl n 0 4 1 (.ex 4)) (fun σ hσ=>⟨σ++[.sc .var 4 (gS4 a b c d)],by
  simp only[YK,Z.row,Ws,List.map_cons,List.map_nil,WJ,Y2,hw,hx,hy,hz,V.scells,if_true,hσ.1];rfl,hσ.new _⟩) k
def w5:One fun b=>.map b:=⟨fun _=>by simp[V.refs],fun g b=>by cases h:g b <;> simp[V.ren,h]⟩
def jS{el:TypeId}{bytes:Nat}{s x:O}{t:ByteArray}{d:Nat}(hs:s.fv N f=.snil)(hx:x.fv N f=.s (.str t))(h0:t.size=0)(k:WO A N l (upd f d .snil) n L K Zp):WO A N (⟨some d,none,.h (.appendb el bytes s x)⟩::l) f n L K Zp :=
 Xl (v:=.snil) (fun σ hσ=>⟨σ,by simp only[YK,Y2,hs,hx,Q4,ZcA h0],hσ⟩) k
def XH{x:O}{xs:List O}{fid:FuncId}{args vs:List V}{Bs post:List Blk}{b0:Nat}{B0:Blk}{Lr L0:HA}{T el:TypeId}{r:V}{m:Nat}{g:Nat->S}{od:Option Nat}(h:D0 A fid vs Bs T el r m g post)(hf:x.fv N f=.fn fid [])(ha:xs.map (O.fv N f)=args)(hL:List.Perm L ((b0,B0)::Lr++L0))
  (hv:V.renL (ixo (b0::Lr.map (·.1))) vs=some args) (hB:Xt (b0::Lr.map (·.1)) Bs=some (B0::Lr.map (·.2))) (hp:Bs.all Blk.plain=true) (hr:YN Bs 64 (V.refsL vs) []=List.range Bs.length) (hlen:post.length=Lr.length) (hl:post.all Blk.loose=true) (hrl:r.loose=true)
  (k:WO A N l (Xc f od r) (n+1) ((n,.sc (.gty el) m g)::((b0,UU T b0 n m)::((Lr.map (·.1)).zip post++L0))) K Zp):WO A N (⟨od,none,.h (.call x xs)⟩::l) f n L K Zp:=by
 refine Xl (v:=r) (fun σ hσ=>?_) k
 have hσ:=hσ.perm hL
 obtain⟨v,σ1,n1,L1,h1,h2,rfl,j,hj,hfa,hm⟩:=h
 have hn:(b0::Lr.map (·.1)).Nodup:=DO (Lr:=(b0,B0)::Lr) hσ
 have hc:=Eh (Lr:=(b0,B0)::Lr) hσ (fun p hp=>ZbV _ hp) hp hB
 have hen:=Td hn hc hv hr
 have hlen2:Bs.length=(Lr.map (·.1)).length+1:=hc.len.symm
 have hlv:=oH (σ:=σ) (b0:=b0) (rs0:=Lr.map (·.1)) hn (by rw[List.length_map];exact hlen) (Jf h2 hfa) (by omega) (h2.2.mem hm).2 hl hrl
 rw[hσ.1]at hlv
 refine⟨_,?_,((hσ.putZ (Cs:=UU T b0 n m::post) (by simp[hlen])).new _)⟩
 have hen:Xq false args σ=some (b0::Lr.map (·.1),vs,Bs):=hen
 simp only[YK,Y2,hf,Y5,target,Zcf,Option.bind_some,ha,hen,h1]
 exact hlv
end
end Go.Am
namespace Go.Am
open Go
def One_slT{o m z:Nat}{c:Cp}{x y:S}:One fun b=>.tup [.sl b o m z c,.s x,.s y]:=⟨fun _=>by simp[V.refs,V.refsL],fun g b=>by cases h:g b <;> simp[V.ren,V.renL,h]⟩
def RtT(A:AP)(fid:FuncId)(z:Nat)(av:List V)(l:List Int)(x y:S):Prop :=
 (l=[]/\RB A fid av [] (.tup [.snil,.s x,.s y]) [])\/∃ m q F,l.length=m*z/\(∀ i,i<l.length->F i=l.getD i 0)/\RN A fid av [] (fun b=>.tup [.sl b 0 m z .whole,.s x,.s y]) (.sc .grow q (ia F)) []
def D3{A:AP}{fid:FuncId}{z:Nat}{av:List V}{l:List Int}{x y:S}(h:WR A fid av [] fun v' _ L'=>∃ v own,v'=.tup [v,.s x,.s y]∧Rw z l v own∧∀ p∈own,p∈L'):RtT A fid z av l x y:=by
 obtain⟨v',σ',n',L',h1,h2,v,own,rfl,hr,ho⟩:=h
 cases hr with
 |nil h=>exact .inl ⟨h,σ',h1,trivial⟩
 |row hl hF=>exact .inr ⟨_,_,_,hl,hF,_,σ',h1,Zct _,(h2.2.mem (ho _ (.head _))).2,trivial⟩
section
variable{A:AP}{N:Nat}{f:FE}{n:Nat}{L:HA}{K:KN}{Zp:V->KN}{rest:List I}{d:Nat}
def xh{x:O}{xs:List O}{fid:FuncId}{z:Nat}{av:List V}{l:List Int}{a b:S}(hf:x.fv N f=.fn fid [])(hs:RtT A fid z av l a b)(ha:xs.map (O.fv N f)=av)(h1:V.looseL av=true)(k:∀ v own n',Rw z l v own->WO A N rest (upd f d (.tup [v,.s a,.s b])) n' (own++L) K Zp):WO A N (⟨some d,none,.h (.call x xs)⟩::rest) f n L K Zp:=by
 have hr:=V.looseL_refs av h1;rcases hs with⟨h,hs⟩|⟨m,q,F,h3,h4,hs⟩
 ·exact Wr (caps:=[]) (av:=av) (rs:=[]) (Bs:=[]) hf hs (by rw[Zcf];exact ha) (by rw[hr];rfl) (by rw[hr];simp) (by rw[hr];intro _ h;cases h) (V.looseL_ren _ av h1) trivial rfl rfl rfl .nil (k .snil [] n (.nil h))
 exact KS (caps:=[]) (av:=av) (rs:=[]) (Bs:=[]) One_slT hf hs (by rw[Zcf];exact ha) (by rw[hr];rfl) (by rw[hr];simp) (by rw[hr];intro _ h;cases h) (V.looseL_ren _ av h1) trivial rfl rfl .nil (k _ [(n,_)] _ (.row h3 h4))
end
inductive Rc2(z:Nat)(l r:List Int):V->V->List Blk->Prop
 |nn (h:l=[]) (h':r=[]):Rc2 z l r .snil .snil []
 |rn {m q:Nat} {md:Md} {c:Cp} {F:Nat->Int} (h':r=[]) (hl:l.length=m*z) (hF:∀ i,i<l.length->F i=l.getD i 0):Rc2 z l r (.sl 0 0 m z c) .snil [.sc md q (ia F)]
 |nr {m q:Nat} {md:Md} {c:Cp} {F:Nat->Int} (h:l=[]) (hl:r.length=m*z) (hF:∀ i,i<r.length->F i=r.getD i 0):Rc2 z l r .snil (.sl 0 0 m z c) [.sc md q (ia F)]
 |rr {m q m' q':Nat} {md md':Md} {c c':Cp} {F F':Nat->Int} (hl:l.length=m*z) (hF:∀ i,i<l.length->F i=l.getD i 0) (hl':r.length=m'*z) (hF':∀ i,i<r.length->F' i=r.getD i 0):Rc2 z l r (.sl 0 0 m z c) (.sl 1 0 m' z c') [.sc md q (ia F),.sc md' q' (ia F')]
def Rc2.rx{z:Nat}{l r:List Int}{v w:V}{Bs:List Blk}(h:Rc2 z l r v w Bs):∃ own own',YZ 0 Bs=own++(own'++[])/\Rx z l v own/\Rx z r w own':=by
 cases h with
 |nn h h'=>exact⟨[],[],rfl,.nil h,.nil h'⟩
 |rn h' hl hF=>exact⟨[_],[],rfl,.row hl hF,.nil h'⟩
 |nr h hl hF=>exact⟨[],[_],rfl,.nil h,.row hl hF⟩
 |rr hl hF hl' hF'=>exact⟨[_],[_],rfl,.row hl hF,.row hl' hF'⟩
def Rd2(A:AP)(fid:FuncId)(z:Nat)(l r:List Int)(x:V):Prop:=∀ v w Bs,Rc2 z l r v w Bs->RB A fid [v,w] Bs x Bs
def Rc2.sc{z:Nat}{l r:List Int}{v w:V}{Bs:List Blk}(h:Rc2 z l r v w Bs):∀ p∈YZ 0 Bs,∃ md m g,p.2=Blk.sc md m g:=by
 cases h <;> intro p hp <;> simp[YZ]at hp
 ·exact hp ▸ ⟨_,_,_,rfl⟩
 ·exact hp ▸ ⟨_,_,_,rfl⟩
 rcases hp with rfl|rfl <;> exact⟨_,_,_,rfl⟩
def Rd2_of{A:AP}{fid:FuncId}{z:Nat}{l r:List Int}{x:V}(h:∀ v w Bs,Rc2 z l r v w Bs→WR A fid [v,w] Bs fun v' _ L'=>v'=x∧∀ p∈YZ 0 Bs,p∈L'):Rd2 A fid z l r x:=fun v w Bs hc=>by
 obtain⟨v',σ',n',L',h1,h2,rfl,h3⟩:=h v w Bs hc;exact⟨σ',h1,K0 h2 fun p hp=>⟨h3 p hp,hc.sc p hp⟩⟩
section
variable{A:AP}{N:Nat}{f:FE}{n:Nat}{L:HA}{K:KN}{Zp:V->KN}{rest:List I}{d:Nat}
def own_ne{σ:Heap}{b b':Nat}{B B':Blk}{L0:HA}(h:Hp σ n ((b,B)::(b',B')::L0)):b≠b':=by
 have hpw:=(HL_iff.1 h.2).2;rw[List.pairwise_cons]at hpw;exact hpw.1 _ (.head _)
def WO_ne{l:List I}{b b':Nat}{B B':Blk}{L1:HA}(hp:List.Perm L ((b,B)::(b',B')::L1))(k:b≠b'->WO A N l f n L K Zp):WO A N l f n L K Zp:=fun σ hσ=>k (own_ne (hσ.perm hp)) σ hσ
def xW{x x1 x2:O}{fid:FuncId}{z:Nat}{l r:List Int}{v w a:V}{own own' L0:HA}(hf:x.fv N f=.fn fid [])(hs:Rd2 A fid z l r a)(ha:[x1,x2].map (O.fv N f)=[v,w])(hr:Rx z l v own)(hr':Rx z r w own')(hp:List.Perm L (own++(own'++L0)))(h3:a.loose=true)
  (k:WO A N rest (upd f d a) n L K Zp):WO A N (⟨some d,none,.h (.call x [x1,x2])⟩::rest) f n L K Zp:=by
 have hm:∀ p∈own,p∈L:=fun p h=>hp.mem_iff.2 (ZbV _ h)
 have hm':∀ p∈own',p∈L:=fun p h=>hp.mem_iff.2 (ZbM _ (ZbV _ h))
 cases hr with
 |nil h=>
  cases hr' with
  |nil h'=>exact Wr (caps:=[]) (av:=[.snil,.snil]) (rs:=[]) hf (hs _ _ [] (.nn h h')) ha rfl (by simp[V.refsL,V.refs]) (by simp[V.refsL,V.refs]) rfl trivial rfl rfl h3 .nil k
  |@row b m q md c F hl hF=>
   have hb:=hm' _ (.head _)
   exact Wr (caps:=[]) (av:=[.snil,.sl b 0 m z c]) (rs:=[b]) hf (hs _ (.sl 0 0 m z c) [.sc md q (ia F)] (.nr h hl hF)) ha (by simp[V.refsL,V.refs,We]) (by simp[V.refsL,V.refs]) (by simp[V.refsL,V.refs]) (by simp[rnL,V.renL,V.ren,pos]) ⟨hb,⟨_,_,_,rfl⟩,trivial⟩ rfl rfl h3 (.cons (UO hb) .nil) k
 |@row b m q md c F hl hF=>
  have hb:=hm _ (.head _)
  cases hr' with
  |nil h'=>exact Wr (caps:=[]) (av:=[.sl b 0 m z c,.snil]) (rs:=[b]) hf (hs (.sl 0 0 m z c) _ [.sc md q (ia F)] (.rn h' hl hF)) ha (by simp[V.refsL,V.refs,We]) (by simp[V.refsL,V.refs]) (by simp[V.refsL,V.refs]) (by simp[rnL,V.renL,V.ren,pos]) ⟨hb,⟨_,_,_,rfl⟩,trivial⟩ rfl rfl h3 (.cons (UO hb) .nil) k
  |@row b' m' q' md' c' F' hl' hF'=>
   have hb':=hm' _ (.head _)
   refine WO_ne (b:=b) (b':=b') hp fun hne=>?_
   have hbe:(b==b')=false:=beq_eq_false_iff_ne.2 hne
   exact Wr (caps:=[]) (av:=[.sl b 0 m z c,.sl b' 0 m' z c']) (rs:=[b,b']) hf (hs (.sl 0 0 m z c) (.sl 1 0 m' z c') [.sc md q (ia F),.sc md' q' (ia F')] (.rr hl hF hl' hF')) ha (by simp[V.refsL,V.refs,We,hne.symm]) (by simp[V.refsL,V.refs]) (by simp[V.refsL,V.refs]) (by simp[rnL,V.renL,V.ren,pos,hbe]) ⟨hb,⟨_,_,_,rfl⟩,hb',⟨_,_,_,rfl⟩,trivial⟩ rfl rfl h3 (.cons (UO hb) (.cons (UO hb') .nil)) k
end
section
variable{A:AP}{N:Nat}{f:FE}{n:Nat}{K:KN}{Zp:V->KN}{rest:List I}{d:Nat}
end
inductive Bw(el:TypeId)(s:ByteArray):V->HA->Prop
 |nil (h:s.size=0):Bw el s .snil []
 |row {b q:Nat} {md:Md} {g:Nat->S} (hmd:md=.grow\/md=.gty el) (hF:∀ i,i<s.size->g i=Xv s i):Bw el s (.sl b 0 s.size 1 .whole) [(b,.sc md q g)]
def va{s t:ByteArray}{g h:Nat->S}(hF:∀ i,i<s.size->g i=Xv s i)(hG:∀ i,i<t.size->h i=Xv t i){i:Nat}(hi:i<(s++t).size):(bif Nat.blt i s.size then g i else h (i-s.size))=Xv (s++t) i:=by
 rw[ZbP]at hi;rw[<-Tp];by_cases hlt:i<s.size
 ·simp only[show Nat.blt i s.size=true from ZbN hlt,cond_true];exact hF i hlt
 simp only[show Nat.blt i s.size=false from Bool.eq_false_iff.2 fun e=>hlt (ZbT e),cond_false];exact hG _ (by omega)
def rG(s:ByteArray){g:Nat->S}(hF:∀ i,i<s.size->g i=Xv s i):(⟨((List.range s.size).map fun i=>UInt8.ofNat (byteOf (g (0+i)))).toArray⟩:ByteArray)=s:=by
 refine ByteArray.ext (Array.toList_inj.1 (List.ext_getElem (by simp) fun i h1 h2=>?_));have hi:i<s.data.size:=by simpa using h2
 simp only[List.getElem_map,List.getElem_range,Zcp,hF i hi,Xv,byteOf,Array.getElem_toList];rw[ZbC,ZbG hi,Option.getD_some];simp
section
variable{A:AP}{N:Nat}{f:FE}{n:Nat}{L:HA}{K:KN}{Zp:V->KN}{rest:List I}{d:Nat}
def T5{el:TypeId}{bytes:Nat}{s x:O}{s0 t:ByteArray}{v:V}{own L0:HA}(hs:s.fv N f=v)(hr:Bw el s0 v own)(hx:x.fv N f=.s (.str t))(hd:Dr own L L0)(hroom:(s0.size+t.size)*bytes<=140737488355328)
  (k:∀ v' own' n',Bw el (s0++t) v' own'->WO A N rest (upd f d v') n' (own'++L0) K Zp):WO A N (⟨some d,none,.h (.appendb el bytes s x)⟩::rest) f n L K Zp:=by
 have hro:XC (s0.size+t.size) bytes=true:=Ua hroom
 cases hr with
 |nil h=>
  have e:L0=L:=hd.sub.eq_of_length (by simpa using hd.all.length_eq.symm)
  subst e
  rw[h,Zcp]at hro
  by_cases h0:t.size=0
  ·exact jS hs hx h0 (k .snil [] n (.nil (by rw[ZbP,h,h0])))
  refine kz hs hx h0 hro ?_
  have:=k (.sl n 0 (s0++t).size 1 .whole) [(n,.sc (.gty el) t.size (Xv t))] (n+1) (.row (.inr rfl) fun i hi=>?_)
  ·rw[ZbP,h,Zcp]at this;exact this
  rw[<-Tp,h];rfl
 |@row b q md g hmd hF=>
  obtain⟨L1,h1,h2⟩:=hd.at (B':=.dead)
  have fin:∀ q',WO A N rest (upd f d (.sl n 0 (s0.size+t.size) 1 .whole)) (n+1) ((n,.sc md q' (fun i=>bif Nat.blt i s0.size then g i else Xv t (i-s0.size)))::L1) K Zp:=fun q'=>by
   refine VA (L':=(n,_)::(b,.dead)::L0) (h2.cons _) ?_;refine Vj (L':=(n,_)::L0) ((List.sublist_cons_self _ _).cons_cons _) ?_;have:=k (.sl n 0 (s0++t).size 1 .whole) [(n,.sc md q' (fun i=>bif Nat.blt i s0.size then g i else Xv t (i-s0.size)))] (n+1) (.row hmd fun i hi=>va hF (fun _ _=>rfl) hi);rw[ZbP]at this;exact this
  rcases hmd with rfl|rfl
  ·refine Xl (v:=.sl n 0 (s0.size+t.size) 1 .whole) (fun σ h=>⟨wf σ b++[.sc .grow (s0.size+t.size) (fun i=>bif Nat.blt i s0.size then g i else Xv t (i-s0.size))],?_,(h.set h1).new _⟩) (fin _);simp only[YK,Y2,hs,hx,Q4,(h.2.mem h1.mem).2,hro,cond_true,h.1]
  refine Xl (v:=.sl n 0 (s0.size+t.size) 1 .whole) (fun σ h=>⟨wf σ b++[.sc (.gty el) (s0.size+t.size) (fun i=>bif Nat.blt i s0.size then g i else Xv t (i-s0.size))],?_,(h.set h1).new _⟩) (fin _)
  simp only[YK,Y2,hs,hx,Q4,(h.2.mem h1.mem).2,if_true,hro,cond_true,h.1]
def yE{el:TypeId}{bytes:Nat}{s x:O}{s0:ByteArray}{u:UInt8}{v:V}{own L0:HA}{b' q':Nat}{md':Md}{cp:Cp}{R:Nat->S}(hs:s.fv N f=v)(hr:Bw el s0 v own)(hx:x.fv N f=.sl b' 0 1 1 cp)(hb:(b',Blk.sc md' q' R)∈L)(hR:R 0=.int .u8 u.toNat)(hd:Dr own L L0)(h0:s0.size≠0)(hroom:(s0.size+1)*bytes<=140737488355328)
  (k:∀ v' own' n',Bw el (s0++⟨#[u]⟩) v' own'->WO A N rest (upd f d v') n' (own'++L0) K Zp):WO A N (⟨some d,none,.h (.append 1 bytes s x)⟩::rest) f n L K Zp:=by
 have hro:XC (s0.size+1) bytes=true:=Ua hroom
 cases hr with
 |nil h=>exact absurd h h0
 |@row b q md g hmd hF=>
  obtain⟨L1,h1,h2⟩:=hd.at (B':=.dead)
  have hG:∀ i,i<(⟨#[u]⟩:ByteArray).size->(fun i=>R (0+i)) i=Xv ⟨#[u]⟩ i:=fun i hi=>by
   have:i=0:=by have:i<1:=hi;omega
   subst this;exact hR
  have hadd:(s0++⟨#[u]⟩).size=s0.size+1:=by rw[ZbP];rfl
  have fin:WO A N rest (upd f d (.sl n 0 (s0.size+1) 1 .whole)) (n+1) ((n,.sc .grow (s0.size*1+1*1) (fun i=>bif Nat.blt i (s0.size*1) then g (0+i) else R (0+(i-s0.size*1))))::L1) K Zp:=by
   refine VA (L':=(n,_)::(b,.dead)::L0) (h2.cons _) ?_;refine Vj (L':=(n,_)::L0) ((List.sublist_cons_self _ _).cons_cons _) ?_;have:=k (.sl n 0 (s0++⟨#[u]⟩).size 1 .whole) [(n,.sc .grow (s0.size*1+1*1) (fun i=>bif Nat.blt i (s0.size*1) then g (0+i) else R (0+(i-s0.size*1))))] (n+1) (.row (.inl rfl) fun i hi=>?_)
   ·rw[hadd]at this;exact this
   have e:=va (s:=s0) (t:=⟨#[u]⟩) (g:=g) (h:=fun i=>R (0+i)) hF hG hi;simp only[Nat.mul_one,Zcp]at e ⊢;exact e
  rcases hmd with rfl|rfl
  ·refine Xl (v:=.sl n 0 (s0.size+1) 1 .whole) (fun σ h=>⟨wf σ b++[.sc .grow (s0.size*1+1*1) (fun i=>bif Nat.blt i (s0.size*1) then g (0+i) else R (0+(i-s0.size*1)))],?_,(h.set h1).new _⟩) fin;simp only[YK,Y2,hs,hx,WL,Vf,(h.2.mem hb).2,(h.2.mem h1.mem).2,if_true,hro,cond_true,W5,Option.map_some,h.1]
  refine Xl (v:=.sl n 0 (s0.size+1) 1 .whole) (fun σ h=>⟨wf σ b++[.sc .grow (s0.size*1+1*1) (fun i=>bif Nat.blt i (s0.size*1) then g (0+i) else R (0+(i-s0.size*1)))],?_,(h.set h1).new _⟩) fin
  simp only[YK,Y2,hs,hx,WL,Vf,(h.2.mem hb).2,(h.2.mem h1.mem).2,if_true,hro,cond_true,W5,Option.map_some,h.1]
def WO_b2sB{el:TypeId}{x:O}{s:ByteArray}{v:V}{own:HA}(hx:x.fv N f=v)(hr:Bw el s v own)(ho:∀ p∈own,p∈L)(k:WO A N rest (upd f d (.s (.str s))) n L K Zp):WO A N (⟨some d,none,.h (.b2s x)⟩::rest) f n L K Zp:=by
 cases hr with
 |nil h=>
  have e:s=⟨#[]⟩:=ByteArray.ext (Array.eq_empty_of_size_eq_zero h);subst e;exact Xl (v:=.s (.str ⟨#[]⟩)) (fun σ h=>⟨σ,by simp only[YK,Y2,hx],h⟩) k
 |@row b q md g hmd hF=>
  refine Xl (v:=.s (.str s)) (fun σ h=>⟨σ,?_,h⟩) k;have hall:Xp s.size (fun i=>Jh (g (0+i)))=true:=allB_iff.2 fun i hi=>by
   rw[Zcp,hF i hi];rfl
  simp only[YK,Y2,hx,(h.2.mem (ho _ (.head _))).2,if_true,hall,cond_true,rG s hF]
end
end Go.Am
