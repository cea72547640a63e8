/- Texts of this seat, joined. -/
import Derived.Test.YtlkighkfkdpncaaGreatDoorAm2
set_option linter.unusedSimpArgs false
set_option linter.unusedVariables false
namespace Go.Am
open Go
abbrev V7 (σ:Heap) (i:Nat):List Nat:=(σ.getD i .dead).refs
theorem JC {σ:Heap}:∀ (m:Nat) (w acc:List Nat),∀ i∈acc,i∈YO σ m w acc
 | 0,_,_,i,h=>h
 | m+1,[],_,i,h=>h
 | m+1,b::w,acc,i,h=>by
  unfold YO
  cases acc.contains b with
  | true=>exact JC m w acc i h
  | false=>exact JC m _ _ i (ZaC _ h)
theorem RH {σ:Heap}:∀ (m:Nat) (w acc U:List Nat),(∀ i∈w,i∈acc∨i∈U)→(∀ i∈U,∀ j∈V7 σ i,j∈acc∨j∈U)→w.length+(U.flatMap (V7 σ)).length < m→∀ x∈w,x∈YO σ m w acc
 | 0,_,_,_,_,_,h,_,_=>absurd h (by omega)
 | m+1,[],_,_,_,_,_,x,hx=>by cases hx
 | m+1,b::w,acc,U,h1,h2,h3,x,hx=>by
  unfold YO
  rw [Zbq] at h3
  cases hc:acc.contains b with
  | true =>
   rw [cond_true]
   rcases ZaX.1 hx with rfl | hx
   ·exact JC _ _ _ _ (List.contains_iff_mem.1 hc)
   exact RH m w acc U (fun i hi=>h1 i (.tail _ hi)) h2 (by omega) x hx
  | false =>
   rw [cond_false]
   have hb:b∈U:=by
    rcases h1 b (.head _) with h | h
    ·rw [List.contains_iff_mem.2 h] at hc; cases hc
    exact h
   have hp:List.Perm U (b::U.erase b):=List.perm_cons_erase hb
   have hl:(U.flatMap (V7 σ)).length=(V7 σ b).length+((U.erase b).flatMap (V7 σ)).length:=by
    rw [(hp.flatMap_right (V7 σ)).length_eq,Zbo,ZaG]
   have hmv:∀ j,(j∈acc\/j∈U)->j∈acc++[b]\/j∈U.erase b:=fun j hj=>by
    by_cases e:j=b
    ·subst e; exact .inl (Zaz _ (.head _))
    rcases hj with hj | hj
    ·exact .inl (ZaC _ hj)
    exact .inr ((List.mem_erase_of_ne e).2 hj)
   have ih:=RH m (V7 σ b++w) (acc++[b]) (U.erase b) (fun i hi=>by
    rcases ZaR.1 hi with hi | hi
    ·exact hmv i (h2 b hb i hi)
    exact hmv i (h1 i (.tail _ hi))) (fun i hi j hj=>hmv j (h2 i (List.mem_of_mem_erase hi) j hj)) (by rw [ZaG]; omega)
   rcases ZaX.1 hx with rfl | hx
   ·exact JC _ _ _ _ (Zaz _ (.head _))
   exact ih x (Zaz _ hx)
theorem Ep {σ:Heap} {P:Nat→Prop} (hP:∀ i,P i→∀ j∈V7 σ i,P j):∀ (m:Nat) (w acc:List Nat),(∀ i∈w,P i)→(∀ i∈acc,P i)→∀ i∈YO σ m w acc,P i
 | 0,_,_,_,h,i,hi=>h i hi
 | m+1,[],_,_,h,i,hi=>h i hi
 | m+1,b::w,acc,hw,h,i,hi=>by
  unfold YO at hi
  cases hc:acc.contains b with
  | true=>rw [hc,cond_true] at hi; exact Ep hP m w acc (fun i hi=>hw i (.tail _ hi)) h i hi
  | false =>
   rw [hc,cond_false] at hi
   refine Ep hP m _ _ (fun i hi=>?_) (fun i hi=>?_) i hi
   ·rcases ZaR.1 hi with hi | hi
    ·exact hP b (hw b (.head _)) i hi
    exact hw i (.tail _ hi)
   rcases ZaR.1 hi with hi | hi
   ·exact h i hi
   rcases ZaX.1 hi with rfl | hi
   ·exact hw _ (.head _)
   cases hi
theorem Jh {σ:Heap}:∀ (m:Nat) (w acc:List Nat),acc.Nodup->(YO σ m w acc).Nodup
 | 0,_,_,h=>h
 | m+1,[],_,h=>h
 | m+1,b::w,acc,h=>by
  unfold YO
  cases hc:acc.contains b with
  | true=>exact Jh m w acc h
  | false =>
   refine Jh m _ _ ?_
   rw [List.nodup_append]
   refine ⟨h,List.nodup_cons.2 ⟨(fun h=>by cases h),List.nodup_nil⟩,fun x hx y hy=>?_⟩
   rcases ZaX.1 hy with rfl | hy
   ·intro e; subst e
    rw [List.contains_iff_mem.2 hx] at hc; cases hc
   cases hy
theorem TJ {k b:Nat} (hb:k≤b):∀ {R:List Nat},R.Nodup→(∀ i∈R,i < k∨i=b)→b∈R→R.filter (fun i=>Nat.ble k i)=[b]
 | [],_,_,h=>by cases h
 | x::R,hn,h1,h2=>by
  obtain ⟨hx,hn⟩:=List.nodup_cons.1 hn
  by_cases e:x=b
  ·subst e
   have:R.filter (fun i=>Nat.ble k i)=[]:=by
    rw [List.filter_eq_nil_iff]
    intro i hi
    rcases h1 i (.tail _ hi) with h | h
    ·simp only [Bool.not_eq_true]
     cases hb:Nat.ble k i with
     | false=>rfl
     | true=>have:=Zbj hb; omega
    subst h; exact absurd hi hx
   rw [List.filter_cons,ZaA hb,Za8 rfl,this]
  have hlt:x < k:=by
   rcases h1 x (.head _) with h | h
   ·exact h
   exact absurd h e
  have hf:Nat.ble k x=false:=by
   cases hb:Nat.ble k x with
   | false=>rfl
   | true=>have:=Zbj hb; omega
  rw [List.filter_cons,hf,Za7 (by decide)]
  refine TJ hb hn (fun i hi=>h1 i (.tail _ hi)) ?_
  rcases ZaX.1 h2 with h | h
  ·exact absurd h.symm e
  exact h
def Q3 (g:Nat->Option Nat):List Blk->Option (List Blk)
 | []=>some []
 | B::Bs=>match Blk.ren false g B,Q3 g Bs with
  | some C,some r=>some (C::r)
  | _,_=>none
theorem jB {g:Nat->Option Nat} {σ1:Heap}:∀ {Bs Cs:List Blk} {k:Nat},QR σ1 k Bs->Q3 g Bs=some Cs->Xa false g σ1 (List.range' k Bs.length)=some Cs
 | [],Cs,k,_,h=>by injection h with h; subst h; rfl
 | B::Bs,Cs,k,hf,h=>by
  simp only [Q3] at h
  split at h
  ·rename_i C r h1 h2
   injection h with h
   subst h
   rw [Zbq,List.range'_succ]
   simp only [Xa,hf.1,Option.bind_some,h1,jB hf.2 h2]
  cases h
theorem xS {rs ns:List Nat} {n:Nat}:∀ {Bs Cs:List Blk},(∀ B∈Bs,B.plain=true)→Xx rs Bs=some Cs→Q3 (Xf rs ns n rs.length) Bs=some Cs
 | [],Cs,_,h=>h
 | B::Bs,Cs,hp,h=>by
  simp only [Xx] at h
  split at h
  ·rename_i C r h1 h2
   injection h with h
   subst h
   simp only [Q3,Blk.ren_lo (hp B (.head _)) h1,xS (fun B hB=>hp B (.tail _ hB)) h2]
  cases h
theorem ve {g:Nat->Option Nat}:∀ {a b ca cb:List Blk},Q3 g a=some ca->Q3 g b=some cb->Q3 g (a++b)=some (ca++cb)
 | [],b,ca,cb,h1,h2=>by injection h1 with h1; subst h1; exact h2
 | B::a,b,ca,cb,h1,h2=>by
  simp only [Q3] at h1
  split at h1
  ·rename_i C r h3 h4
   injection h1 with h1
   subst h1
   simp only [List.cons_append,Q3,h3,ve h4 h2]
  cases h1
abbrev Vw (md:Md) (b m z:Nat):Blk:=.vs md [.sl b 0 m z .whole]
theorem oe {rs:List Nat} (hn:rs.Nodup) {σ σ1:Heap} {r r':V} {pre post Cpre Cpost:List Blk} {b m z q:Nat} {mo md:Md} {g:Nat->S} (hl:(pre++Vw mo b m z::post).length=rs.length) (hf:QR σ1 0 (pre++Vw mo b m z::post)) (hb:rs.length<=b) (hbl:σ1[b]? = some (.sc md q g))
  (hp:∀ B∈pre,B.plain=true) (hp2:∀ B∈post,B.plain=true) (hr:V.ren (ixo rs) r=some r') (hB:Xx rs pre=some Cpre) (hB2:Xx rs post=some Cpost) (hfu:(r.refs++(pre++Vw mo b m z::post).flatMap Blk.refs).length+((pre++Vw mo b m z::post).flatMap Blk.refs).length < 64) :
  Xn false σ rs r σ1=some (r',XL σ rs (Cpre++Vw mo σ.length m z::Cpost)++[.sc md q g]):=by
 generalize hBs:pre++Vw mo b m z::post=Bs at *
 have hat:∀ i,i < Bs.length->σ1[i]? = Bs[i]?:=fun i hi=>by have:=DL hf hi; simpa using this
 have htake:σ1.take rs.length=Bs:=by have:=Jg hf; rw [List.drop_zero,hl] at this; exact this
 have hrefs:∀ i∈Bs.flatMap Blk.refs,i < rs.length∨i=b:=fun i hi=>by
  rw [<- hBs,List.flatMap_append,Zbo] at hi
  rcases ZaR.1 hi with hi | hi
  ·exact .inl (JG hn hp hB i hi)
  rcases ZaR.1 hi with hi | hi
  ·have:i∈[b]:=by simpa [Blk.refs,V.refsL,V.refs] using hi
   exact .inr (List.mem_singleton.1 this)
  exact .inl (JG hn hp2 hB2 i hi)
 have hbin:b∈Bs.flatMap Blk.refs:=by
  rw [<- hBs,List.flatMap_append,Zbo]
  exact Zaz _ (ZaC _ (by simp [Blk.refs,V.refsL,V.refs]))
 have hgd:∀ i,i < Bs.length->V7 σ1 i=(Bs.getD i .dead).refs:=fun i hi=>by
  show (σ1.getD i .dead).refs=_
  rw [Zau,hat i hi,Zau]
 have hgb:V7 σ1 b=[]:=by
  show (σ1.getD b .dead).refs=[]
  rw [Zau,hbl]; rfl
 have hmem:∀ i,i < Bs.length→∀ j∈V7 σ1 i,j∈Bs.flatMap Blk.refs:=fun i hi j hj=>by
  rw [hgd i hi,Zau,Zav hi] at hj
  exact List.mem_flatMap.2 ⟨Bs[i],List.getElem_mem hi,hj⟩
 have hw:∀ i∈r.refs++Bs.flatMap Blk.refs,i < rs.length∨i=b:=fun i hi=>by
  rcases ZaR.1 hi with hi | hi
  ·exact .inl ((V.ren_refs r r' hr).2 i hi)
  exact hrefs i hi
 have hU:(List.range Bs.length++[b]).flatMap (V7 σ1)=Bs.flatMap Blk.refs:=by
  rw [List.flatMap_append,Zbo,hgb]
  simp only [List.flatMap_nil,ZaQ]
  have:Bs=(List.range Bs.length).map (fun i=>Bs.getD i .dead):=by
   refine List.ext_getElem (by simp) fun i h1 h2=>?_
   rw [List.getElem_map,List.getElem_range,Zau,Zav h1]; rfl
  conv=>rhs; rw [this]
  rw [List.flatMap_map]
  rw [List.flatMap_def,List.flatMap_def]
  refine congrArg List.flatten (List.map_congr_left fun i hi=>hgd i (ZaU.1 hi))
 have hns:Xl false rs.length r σ1=[b]:=by
  unfold Xl
  rw [cond_false,htake]
  refine TJ hb (Jh _ _ _ List.nodup_nil) (Ep (P:=fun i=>i < rs.length\/i=b) (fun i hi j hj=>?_) _ _ _ hw (fun i hi=>by cases hi)) ?_
  ·rcases hi with hi | hi
   ·exact hrefs j (hmem i (by omega) j hj)
   subst hi; rw [hgb] at hj; cases hj
  refine RH 64 _ [] (List.range Bs.length++[b]) (fun i hi=>.inr ?_) (fun i hi j hj=>.inr ?_) ?_ b (Zaz _ hbin)
  ·rcases hw i hi with h | h
   ·exact ZaC _ (ZaU.2 (by omega))
   subst h; exact Zaz _ (.head _)
  ·have:j < rs.length\/j=b:=by
    rcases ZaR.1 hi with hi | hi
    ·exact hrefs j (hmem i (ZaU.1 hi) j hj)
    rw [List.mem_singleton.1 hi,hgb] at hj; cases hj
   rcases this with h | h
   ·exact ZaC _ (ZaU.2 (by omega))
   subst h; exact Zaz _ (.head _)
  rw [hU]; exact hfu
 have hnd:=Qv hn
 have hble:Nat.ble rs.length σ1.length=true:=ZaA (by have:=JM hf (Zbt _); omega)
 have hpk:Xa false (Xf rs [b] σ.length rs.length) σ1 (List.range rs.length)=some (Cpre++Vw mo σ.length m z::Cpost):=by
  rw [List.range_eq_range',<- hl]
  refine jB hf ?_
  rw [<- hBs]
  refine ve (by rw [hBs,hl]; exact xS hp hB) ?_
  have h2:Q3 (Xf rs [b] σ.length rs.length) post=some Cpost:=xS hp2 hB2
  have hv:Blk.ren false (Xf rs [b] σ.length rs.length) (Vw mo b m z)=some (Vw mo σ.length m z):=by
   simp only [Vw,Blk.ren,V.renL,V.ren,Q5 hb,Option.map_some,XI,cond_false]
  rw [hBs,hl]
  simp only [Q3,hv,h2]
 unfold Xn
 have hpb:Xa false (Xf rs [b] σ.length rs.length) σ1 [b]=some [.sc md q g]:=by
  simp only [Xa,hbl,Option.bind_some,Blk.ren,XI,cond_false]
 have hn1:nodup [b]=true:=rfl
 simp only [hns,hnd,hn1,hble,Bool.and_self,cond_true,V.ren_lo r r' hr,hpb,cond_false,hpk]
section
variable {A:AP} {N:Nat} {f:FE} {n:Nat} {L:HA} {K:KN} {Zp:V->KN}
def tZ (Lr L0:HA) (k:Nat) (n:Nat) (K:V->Nat->HA->Prop):KR:=fun r _ L1 =>
 (∃ Bs r' Cs,UZ L1 0 Bs/\Bs.length=k/\Bs.all Blk.plain=true/\V.ren (ixo (Lr.map (·.1))) r=some r'/\Xx (Lr.map (·.1)) Bs=some Cs/\K r' n ((Lr.map (·.1)).zip Cs++L0)) \/
 (∃ pre post b m z q mo md g r' Cpre Cpost,UZ L1 0 (pre++Vw mo b m z::post)/\(pre++Vw mo b m z::post).length=k/\k<=b/\(b,Blk.sc md q g)∈L1/\pre.all Blk.plain=true/\post.all Blk.plain=true/\V.ren (ixo (Lr.map (·.1))) r=some r' /\
  Xx (Lr.map (·.1)) pre=some Cpre/\Xx (Lr.map (·.1)) post=some Cpost/\(r.refs++(pre++Vw mo b m z::post).flatMap Blk.refs).length+((pre++Vw mo b m z::post).flatMap Blk.refs).length < 64 /\
  K r' (n+1) ((n,.sc md q g)::((Lr.map (·.1)).zip (Cpre++Vw mo n m z::Cpost)++L0)))
theorem runN {fid:FuncId} {all vs mk:List V} {Bs:List Blk} {Lr L0:HA} {K:V->Nat->HA->Prop} (hv:V.renL (ixo (Lr.map (·.1))) vs=some all) (hB:Xx (Lr.map (·.1)) Bs=some (Lr.map (·.2))) (hp:Bs.all Blk.plain=true) (hr:YO Bs 64 (V.refsL vs) []=List.range Bs.length)
  (h:WR A fid (mk++vs) Bs (tZ Lr L0 Bs.length n K)) {σ:Heap} (hσ:Hp σ n (Lr++L0)) :
  ∃ y r' σ' n' L',XB false all σ=some (Lr.map (·.1),vs,Bs)/\Run A fid (mk++vs) Bs=some y/\Xn false σ (Lr.map (·.1)) y.1 y.2=some (r',σ')/\Hp σ' n' L'/\K r' n' L':=by
 obtain ⟨r,σ1,n1,L1,h1,h2,h3⟩:=h
 have hn:=E0 hσ
 have hc:=EE hσ (fun p hp=>ZaC _ hp) hp hB
 have hen:=Tf hn hc hv hr
 have hlen:Bs.length=(Lr.map (·.1)).length:=hc.len.symm
 rcases h3 with ⟨Bs1,r',Cs,e1,e2,e3,e4,e5,e6⟩ | ⟨pre,post,b,m,z,q,mo,md,g,r',Cpre,Cpost,e1,e2,e3,e4,e5,e6,e7,e8,e9,e10,e11⟩
 ·have hlv:=zx (σ:=σ) hn (e2.trans hlen) (Js h2 e1) (ZaO.1 e3) e4 e5
  exact ⟨(r,σ1),r',_,n,_,hen,h1,hlv,hσ.putZ (by rw [Jm e5,e2,hlen,List.length_map]),e6⟩
 have hlv:=oe (σ:=σ) hn (e2.trans hlen) (Js h2 e1) (by omega) (h2.2.mem e4).2 (ZaO.1 e5) (ZaO.1 e6) e7 e8 e9 e10
 rw [hσ.1] at hlv
 have hcl:(Cpre++Vw mo n m z::Cpost).length=Lr.length:=by
  rw [ZaG,Zbq,Jm e8,Jm e9]
  rw [ZaG,Zbq,hlen,List.length_map] at e2
  exact e2
 exact ⟨(r,σ1),r',_,n+1,_,hen,h1,hlv,(hσ.putZ hcl).new _,e11⟩
theorem kw {x:O} {xs:List O} {args vs:List V} {b k:Nat} {rd:RD} {caps:List V} {st:Nat} {Bs:List Blk} {l:List I} {od:Option Nat} {Lr L0:HA} (hL:List.Perm L (Lr++L0)) (hf:x.fv N f=.yv b) (ha:xs.map (O.fv N f)=args) (hm:(b,Blk.lp k rd caps st)∈L)
  (hv:V.renL (ixo (Lr.map (·.1))) vs=some (.yv b::args)) (hB:Xx (Lr.map (·.1)) Bs=some (Lr.map (·.2))) (hp:Bs.all Blk.plain=true) (hr:YO Bs 64 (V.refsL vs) []=List.range Bs.length)
  (h:WR A k (.pan .undef::vs) Bs (tZ Lr L0 Bs.length n fun v n' L'=>WOx A N l (Xg f od v) n' L' K Zp)):WOx A N (⟨od,none,.h (.call x xs)⟩::l) f n L K Zp :=
 ud rfl rfl hf hm fun σ hσ=>by
  rw [ha]
  obtain ⟨y,r',σ',n',L',e1,e2,e3,e4,e5⟩:=runN (mk:=[.pan .undef]) hv hB hp hr h (hσ.perm hL)
  refine ⟨r',_,n',_,?_,e4,e5⟩
  unfold Qz
  rw [e1,Option.bind_some]
  have e2:Run A k (.pan .undef::vs) Bs=some y:=e2
  dsimp only
  rw [e2,Option.bind_some]
  exact e3
theorem xV {X:Nat->KN} {R:KN} {g:O} {k:Nat} {rd:RD} {gf:FuncId} {gcaps vs:List V} {Bs:List Blk} {Lr L0:HA} (hL:List.Perm L (Lr++L0)) (hg:g.fv N f=.fn gf gcaps)
  (hv:V.renL (ixo (n::Lr.map (·.1))) vs=some (.yv n::gcaps)) (hB:Xx (n::Lr.map (·.1)) Bs=some (.lp k rd (E N f) 0::Lr.map (·.2))) (hp:Bs.all Blk.plain=true) (hr:YO Bs 64 (V.refsL vs) []=List.range Bs.length)
  (h:WR A gf vs Bs (tZ ((n,.lp k rd (E N f) 0)::Lr) L0 Bs.length (n+1) fun _ n' L'=>∃ k' rd' caps st L1,List.Perm L' ((n,.lp k' rd' caps st)::L1)/\(match st with
   | 0=>K f n' L1
   | 1=>False
   | 2=>R f n' L1
   | j+3=>X j f n' L1))):WP A N (.rfn g k rd) f n L K X R Zp:=fun σ hσ=>by
 have hσ1:=(hσ.perm hL).new (.lp k rd (E N f) 0)
 obtain ⟨y,r',τ,n',L',e1,e2,e3,e4,k',rd',caps,st,L1,eL,e5⟩:=runN (Lr:=(n,.lp k rd (E N f) 0)::Lr) (mk:=[]) hv hB hp hr h hσ1
 rw [List.nil_append] at e2
 have hcall:V9 (Run A) gf (.yv n::gcaps) (σ++[.lp k rd (E N f) 0])=some (r',τ):=by
  unfold V9
  rw [e1,Option.bind_some]
  dsimp only
  rw [e2,Option.bind_some]
  exact e3
 have e4:=e4.perm eL
 have hl:τ[n]? = some (.lp k' rd' caps st):=(e4.2.mem (.head _)).2
 have hend:Hp (kill τ n) n' L1:=(e4.set (B':=.dead) .here).drop
 have hx:∀ x,Qc (Run A) g k rd (E N f) σ=some (x,E N f,kill τ n)->Vl A (.rfn g k rd) (E N f) σ=some (x,E N f,kill τ n):=fun x h=>by rw [kP]; exact h
 match st,e5,hl with
 | 0,e5,hl =>
  refine ⟨.normal,f,_,n',_,hx _ ?_,hend,e5⟩
  unfold Qc
  rw [Y6,hg]
  simp only [hσ.1,hcall,hl]
 | 2,e5,hl =>
  refine ⟨.ret,f,_,n',_,hx _ ?_,hend,e5⟩
  unfold Qc
  rw [Y6,hg]
  simp only [hσ.1,hcall,hl]
 | j+3,e5,hl =>
  refine ⟨.exit j,f,_,n',_,hx _ ?_,hend,e5⟩
  unfold Qc
  rw [Y6,hg]
  simp only [hσ.1,hcall,hl]
theorem gt {z bytes d:Nat} {s x:O} {l c:List Int} {v w:V} {own L0 ownx:HA} {rest:List I} (hs:s.fv N f=v) (hr:Rw z l v own) (hx:x.fv N f=w) (hrx:Rx z c w ownx) (hb:∀ p∈ownx,p∈L) (hd:Dr own L L0) (hz:0 < z) (hroom:(l.length+c.length)*bytes≤140737488355328)
  (k:∀ v' own' n',Rw z (l++c) v' own'→(∀ p∈own',n≤p.1)→WO A N rest (upd f d v') n' (own'++(own.map (fun p=>(p.1,Blk.dead))++L0)) K Zp):WO A N (⟨some d,none,.h (.append z bytes s x)⟩::rest) f n L K Zp:=by
 cases hr with
 | nil h =>
  subst h
  have e:L0=L:=by
   have:=hd.all.length_eq
   exact (hd.sub.eq_of_length (by simpa using this.symm))
  subst e
  cases hrx with
  | nil h =>
   subst h
   refine XF (v:=.snil) (fun σ hσ=>⟨σ,?_,hσ⟩) (k .snil [] n (.nil rfl) (fun p hp=>by cases hp))
   simp only [YL,Y6,hs,hx,Uy,UR,if_true]
  | @row b' m' q' md' cp R hl' hR =>
   have hb0:=hb _ (.head _)
   rcases Nat.eq_zero_or_pos m' with hm' | hm'
   ·subst hm'
    obtain rfl:c=[]:=List.eq_nil_of_length_eq_zero (by rw [hl',Nat.zero_mul])
    refine XF (v:=.snil) (fun σ hσ=>⟨σ,?_,hσ⟩) (k .snil [] n (.nil rfl) (fun p hp=>by cases hp))
    simp only [YL,Y6,hs,hx,Uy,UR,(hσ.2.mem hb0).2,if_true]
   have hm1:m'<=c.length:=by rw [hl']; exact Nat.le_mul_of_pos_right _ hz
   refine DX hs hx hb0 (by omega) (Q4 (ZaZ (ZaD _ (by simpa using hm1)) hroom)) ?_
   exact k _ [(n,_)] _ (.row (by simpa using hl') fun i hi=>by simpa using hR i (by simpa using hi)) (fun p hp=>by rw [List.mem_singleton.1 hp]; exact Za1 _)
 | @row b m q F hl hF =>
  obtain ⟨L1,h1,h2⟩:=hd.at (B':=.dead)
  have hm1:m<=l.length:=by rw [hl]; exact Nat.le_mul_of_pos_right _ hz
  cases hrx with
  | @row b' m' q' md' cp R hl' hR =>
   have hm2:m'<=c.length:=by rw [hl']; exact Nat.le_mul_of_pos_right _ hz
   refine TN hs hx (hb _ (.head _)) h1 (Q4 (ZaZ (ZaD _ (by omega)) hroom)) ?_
   refine UD (L':=(n,_)::(b,.dead)::L0) (h2.cons _) ?_
   exact k _ [(n,_)] _ (.row (by rw [ZaG,hl,hl',Nat.add_mul]) (Zb5 hl rfl hF (fun i hi=>by rw [ZaY]; exact hR i hi))) (fun p hp=>by rw [List.mem_singleton.1 hp]; exact Za1 _)
  | nil h =>
   subst h
   have hroom':XV (m+0) bytes=true:=Q4 (ZaZ (ZaD _ (by simp; omega)) hroom)
   refine XF (v:=.sl n 0 (m+0) z .whole) (n':=n+1) (L':=(n,.sc .grow (m*z+0) (ia fun i=>bif Nat.blt i (m*z) then F (0+i) else 0))::(b,.dead)::L0) (fun σ hσ=>⟨kill σ b++[.sc .grow (m*z+0) (ia fun i=>bif Nat.blt i (m*z) then F (0+i) else 0)],?_,?_⟩) (k _ [(n,_)] _ (.row (by rw [ZaQ]; exact hl) fun i hi=>by
    rw [ZaQ] at hi ⊢
    rw [show Nat.blt i (m*z)=true from ZaA (by omega),cond_true,ZaY]; exact hF i hi) (fun p hp=>by rw [List.mem_singleton.1 hp]; exact Za1 _))
   ·simp only [YL,Y6,hs,hx,Uy,UR,(hσ.2.mem h1.mem).2,if_true,hroom',cond_true,Uz,Nat.zero_mul,Option.map_some,hσ.1]
    refine congrArg some (Prod.ext rfl ?_)
    refine congrArg (fun B=>kill σ b++[B]) ?_
    refine congrArg (Blk.sc .grow (m*z+0)) ?_
    funext i
    show (bif Nat.blt i (m*z) then S.int .i64 (F (0+i)) else S.zero)=S.int .i64 (bif Nat.blt i (m*z) then F (0+i) else 0)
    cases Nat.blt i (m*z) <;> rfl
   exact ((hσ.set h1).perm h2).new _
theorem EL {z bytes d:Nat} {s x:O} {l c:List Int} {v w:V} {own L0 ownx:HA} {rest:List I} (hs:s.fv N f=v) (hr:Rw z l v own) (hx:x.fv N f=w) (hrx:Rx z c w ownx) (hb:∀ p∈ownx,p∈L) (hd:Dr own L L0) (hz:0 < z) (hroom:(l.length+c.length)*bytes≤140737488355328)
  (k:∀ v' own' n',Rw z (l++c) v' own'→(∀ p∈own',∀ q∈L,q.1 < p.1)→WO A N rest (upd f d v') n' (own'++(own.map (fun p=>(p.1,Blk.dead))++L0)) K Zp):WO A N (⟨some d,none,.h (.append z bytes s x)⟩::rest) f n L K Zp:=fun σ hσ =>
 gt hs hr hx hrx hb hd hz hroom (fun v' own' n' hr' hn=>k v' own' n' hr' (fun p hp _ hq=>ZaH (hσ.2.mem hq).1 (hn p hp))) σ hσ
def V.row:V->Bool
 | .snil=>true
 | .sl _ _ _ _ .whole=>true
 | _=>false
theorem Rw.isrow {z:Nat} {l:List Int} {v:V} {own:HA} (h:Rw z l v own):v.row=true:=by cases h <;> rfl
theorem Tn {a x:O} {b:Nat} {u v:V} {l:List I} {L':HA} (ha:a.fv N f=.ptr b 0 1) (hx:x.fv N f=v) (hv:v.row=true) (hm:At b (.vs .var [u]) (.vs .var [v]) L L') (k:WO A N l f n L' K Zp):WO A N (⟨none,none,.h (.store 1 a x)⟩::l) f n L K Zp :=
 XF (v:=.undef) (d:=none) (fun σ hσ=>⟨σ.set b (.vs .var [v]),by
  have h:=(hσ.2.mem hm.mem).2
  have hc:v.vcells 1=some [v]/\v.one=true:=by
   cases v <;> first | exact ⟨rfl,rfl⟩ | cases hv
  simp only [YL,Y6,ha,hx,wrV,h,hc.1,hc.2,Md.mut,if_true,Option.bind_some,Zbq,List.length_nil,List.all_cons,List.all_nil,Bool.and_self,ZaY,Za1,and_self,List.take_zero,List.nil_append,ZaQ,List.drop_succ_cons,List.drop_zero,Option.map_some],hσ.set hm⟩) k
theorem sK {fid:FuncId} {a:AF} {as:List V} {Bs:List Blk} {K:KR} (hp:A.prims fid=none) (ha:A.fns fid=some a) (f:FE) (hf:Jf a as=E a.nt f) {m c0:Nat} (hm:Bs.length=m) (hres:a.res=[.cell c0 false 1])
  (h:WP A a.nt a.body f m (Xb 0 Bs) (fun _ _ _=>False) (fun _ _ _ _=>False) (fun f n L=>∃ b md v,rd a.nt f c0=.ptr b 0 1/\(b,Blk.vs md [v])∈L/\K v n L) (fun _ _ _ _=>False)) (hmk:Qg as=false:=by rfl):WR A fid as Bs K:=by
 subst hm
 obtain ⟨x,f',σ',n',L',h1,h2,h3⟩:=h Bs (T5 Bs)
 cases x with
 | normal=>exact h3.elim
 | exit j=>exact h3.elim
 | panic v=>exact h3.elim
 | ret =>
  obtain ⟨b,md,v,e1,e2,hK⟩:=h3
  have hr:T3 (E a.nt f') σ' a.res=some v:=by
   unfold T3
   rw [hres]
   simp only [Rb,xU,US,e1,Za1,if_true,rdV,(h2.2.mem e2).2,cond_false,List.getElem?_cons_zero]
  exact ⟨v,σ',n',L',by rw [xJ hp ha as Bs hmk,hf,h1]; simp [QP,hr],h2,hK⟩
def EN (L:HA) (pre post:List Blk) (l:List Int):Prop:=(l=[]/\UZ L 0 (pre++.vs .var [.snil]::post))\/∃ b m q F,pre.length+(post.length+1)<=b/\(b,Blk.sc .grow q (ia F))∈L/\UZ L 0 (pre++Vw .var b m 3::post)/\l.length=m*3/\∀ i,i < l.length->F i=l.getD i 0
theorem JV {L own:HA} {pre post:List Blk} {l:List Int} {v:V} (h:Rw 3 l v own) (hf:UZ L 0 (pre++.vs .var [v]::post)) (ho:∀ p∈own,p∈L∧pre.length+(post.length+1)≤p.1):EN L pre post l:=by
 cases h with
 | nil h=>exact .inl ⟨h,hf⟩
 | row hl hF=>exact .inr ⟨_,_,_,_,(ho _ (.head _)).2,(ho _ (.head _)).1,hf,hl,hF⟩
theorem TZ {k:Nat} {rd:RD} {caps:Nat->List V} {xa:List V} {g1 gq:Nat->S} {x:O} {xs:List O} {l:List I} {od:Option Nat} {acc acc':List Int} {v:V} {own L0:HA} (h33:V.renL (ixo [0,1,2,3]) (caps 3)=some (caps 3)) (h43:∀ b,V.renL (ixo [0,1,2,b,3]) (caps 4)=some (caps 3)) (has:V.looseL xa=true)
  (hr3:YO [.lp k rd (caps 3) 0,.sc .var 133 g1,.vs .var [.snil],.sc .var 133 gq] 64 (V.refsL (.yv 0::xa)) []=List.range 4) (hr4:∀ m q F,YO [.lp k rd (caps 4) 0,.sc .var 133 g1,Vw .var 3 m 3,.sc .grow q (ia F),.sc .var 133 gq] 64 (V.refsL (.yv 0::xa)) []=List.range 5)
  (hn3:(ddp (V.refsL (caps 3))).length<=20) (hn4:(ddp (V.refsL (caps 4))).length<=20) (hf:x.fv N f=.yv 0) (ha:xs.map (O.fv N f)=xa) (hr:Rw 3 acc v own) (hL:List.Perm L (own++([(0,.lp k rd (caps 3) 0),(1,.sc .var 133 g1),(2,.vs .var [v]),(3,.sc .var 133 gq)]++L0)))
  (hnil:acc=[]->WR A k (.pan .undef::.yv 0::xa) [.lp k rd (caps 3) 0,.sc .var 133 g1,.vs .var [.snil],.sc .var 133 gq] (fun v _ L=>v=.s (.bool true)/\EN L [.lp k rd (caps 3) 0,.sc .var 133 g1] [.sc .var 133 gq] acc'))
  (hrow:∀ m q F,acc.length=m*3->(∀ i,i < acc.length->F i=acc.getD i 0)->WR A k (.pan .undef::.yv 0::xa) [.lp k rd (caps 4) 0,.sc .var 133 g1,Vw .var 3 m 3,.sc .grow q (ia F),.sc .var 133 gq] (fun v _ L=>v=.s (.bool true)/\EN L [.lp k rd (caps 4) 0,.sc .var 133 g1] [.dead,.sc .var 133 gq] acc'))
  (kk:∀ v' own' n',Rw 3 acc' v' own'→(∀ p∈own',4≤p.1)→WOx A N l (Xg f od (.s (.bool true))) n' (own'++([(0,.lp k rd (caps 3) 0),(1,.sc .var 133 g1),(2,.vs .var [v']),(3,.sc .var 133 gq)]++L0)) K Zp):WOx A N (⟨od,none,.h (.call x xs)⟩::l) f n L K Zp:=by
 intro σ hσ
 have h3n:3 < n:=(hσ.2.mem (hL.symm.subset (Zaz _ (.tail _ (.tail _ (.tail _ (.head _))))))).1
 have hnn:∀ (B:Blk),∀ p∈[(n,B)],4≤p.1:=fun B p hp=>by rw [List.mem_singleton.1 hp]; exact h3n
 have hno:∀ p∈([]:HA),4≤p.1:=fun p hp=>by cases hp
 have hmem:(0,Blk.lp k rd (caps 3) 0)∈L:=hL.symm.subset (Zaz _ (.head _))
 have hargs:∀ rs:List Nat,rs[0]? = some 0->V.renL (ixo rs) (.yv 0::xa)=some (.yv 0::xa):=fun rs h=>by
  have h2:=V.looseL_ren (ixo rs) xa has
  have h1:V.ren (ixo rs) (.yv 0)=some (.yv 0):=by
   show (ixo rs 0).map V.yv=_
   rw [show ixo rs 0=some 0 from h]; rfl
  simp only [V.renL,h1,h2]
 have hnl:∀ (a b:List Nat),a.length<=20->b.length<=1->(([]:List Nat)++(a++b)).length+(a++b).length < 64:=fun a b h1 h2=>by
  simp only [ZaG,List.nil_append]; omega
 have hrefs:∀ (c b m z:Nat) (post:List Blk),post.flatMap Blk.refs=[]->([Blk.lp k rd (caps c) 0,.sc .var 133 g1]++Vw .var b m z::post).flatMap Blk.refs=ddp (V.refsL (caps c))++[b]:=fun c b m z post h=>by
  simp only [List.cons_append,List.nil_append,Zbo,h,ZaQ]
  simp only [Blk.refs,V.refsL,V.refs,List.nil_append,ZaQ]
 cases hr with
 | nil h =>
  have hB3:Xx [0,1,2,3] [.lp k rd (caps 3) 0,.sc .var 133 g1,.vs .var [.snil],.sc .var 133 gq]=some [.lp k rd (caps 3) 0,.sc .var 133 g1,.vs .var [.snil],.sc .var 133 gq]:=by
   simp only [Xx,Blk.ren,cond_false,h33,V.renL,V.ren,Option.map_some,XI]
  refine kw (Lr:=[(0,_),(1,_),(2,_),(3,_)]) (L0:=L0) (vs:=.yv 0::xa) hL hf ha hmem (hargs [0,1,2,3] rfl) hB3 rfl hr3 (QL (hnil h) ?_) σ hσ
  rintro r n1 L1 ⟨rfl,ho⟩
  rcases ho with ⟨e1,e2⟩ | ⟨b,m,q,F,e1,e2,e3,e4,e5⟩
  ·exact .inl ⟨_,.s (.bool true),_,e2,rfl,rfl,rfl,hB3,kk .snil [] _ (.nil e1) hno⟩
  refine .inr ⟨[.lp k rd (caps 3) 0,.sc .var 133 g1],[.sc .var 133 gq],b,m,3,q,.var,.grow,ia F,.s (.bool true),[.lp k rd (caps 3) 0,.sc .var 133 g1],[.sc .var 133 gq],e3,rfl,e1,e2,rfl,rfl,rfl,?_,rfl,?_,kk _ [(n,_)] _ (.row e4 e5) (hnn _)⟩
  ·show Xx [0,1,2,3] _=_
   simp only [Xx,Blk.ren,cond_false,h33,Option.map_some,XI]
  rw [hrefs 3 b m 3 _ rfl]
  exact hnl _ _ hn3 (Za1 _)
 | @row b0 m0 q0 F0 hl hF =>
  have hL':List.Perm L ([(0,.lp k rd (caps 3) 0),(1,.sc .var 133 g1),(2,Vw .var b0 m0 3),(b0,.sc .grow q0 (ia F0)),(3,.sc .var 133 gq)]++L0):=hL.trans (List.perm_middle (l₁:=[_,_,_]) (l₂:=_::L0)).symm
  have hB4:Xx [0,1,2,b0,3] [.lp k rd (caps 4) 0,.sc .var 133 g1,Vw .var 3 m0 3,.sc .grow q0 (ia F0),.sc .var 133 gq]=some [.lp k rd (caps 3) 0,.sc .var 133 g1,Vw .var b0 m0 3,.sc .grow q0 (ia F0),.sc .var 133 gq]:=by
   have e:ixo [0,1,2,b0,3] 3=some b0:=rfl
   simp only [Xx,Blk.ren,cond_false,h43 b0,V.renL,V.ren,Option.map_some,XI,e]
  refine kw (Lr:=[(0,_),(1,_),(2,_),(b0,_),(3,_)]) (L0:=L0) (vs:=.yv 0::xa) hL' hf ha hmem (hargs [0,1,2,b0,3] rfl) hB4 rfl (hr4 m0 q0 F0) (QL (hrow m0 q0 F0 hl hF) ?_) σ hσ
  rintro r n1 L1 ⟨rfl,ho⟩
  rcases ho with ⟨e1,e2⟩ | ⟨b,m,q,F,e1,e2,e3,e4,e5⟩
  ·refine .inl ⟨_,.s (.bool true),[.lp k rd (caps 3) 0,.sc .var 133 g1,.vs .var [.snil],.dead,.sc .var 133 gq],e2,rfl,rfl,rfl,?_,Ka (.cons_cons _ (.cons_cons _ (.cons_cons _ (.cons _ (.refl _))))) (kk .snil [] _ (.nil e1) hno)⟩
   show Xx [0,1,2,b0,3] _=_
   simp only [List.cons_append,List.nil_append,Xx,Blk.ren,cond_false,h43 b0,V.renL,V.ren,Option.map_some,XI]
  refine .inr ⟨[.lp k rd (caps 4) 0,.sc .var 133 g1],[.dead,.sc .var 133 gq],b,m,3,q,.var,.grow,ia F,.s (.bool true),[.lp k rd (caps 3) 0,.sc .var 133 g1],[.dead,.sc .var 133 gq],e3,rfl,e1,e2,rfl,rfl,rfl,?_,rfl,?_,?_⟩
  ·show Xx [0,1,2,b0,3] _=_
   simp only [Xx,Blk.ren,cond_false,h43 b0,Option.map_some,XI]
  ·rw [hrefs 4 b m 3 _ rfl]
   exact hnl _ _ hn4 (Za1 _)
  exact Ka (.cons_cons _ (.cons_cons _ (.cons_cons _ (.cons_cons _ (.cons _ (.refl _)))))) (kk _ [(n,_)] _ (.row e4 e5) (hnn _))
end
end Go.Am
namespace Go.Am
open Go
theorem E4:∀ {Bs:List Blk},Bs.all Blk.loose=true->Bs.flatMap Blk.refs=[]
 | [],_=>rfl
 | B::Bs,h=>by
  simp only [List.all_cons,ZaM] at h
  rw [Zbo,Blk.loose_refs h.1,E4 h.2]; rfl
theorem xP {g:Nat->Option Nat}:∀ {Bs:List Blk},Bs.all Blk.loose=true->Q3 g Bs=some Bs
 | [],_=>rfl
 | B::Bs,h=>by
  simp only [List.all_cons,ZaM] at h
  simp only [Q3,Blk.loose_ren h.1,Blk.low_false,xP h.2]
abbrev QM (T:TypeId) (b k m:Nat):Blk:=.vs (.ty T) [.ptr b 0 2,.sl k 0 m 1 .whole]
theorem px {b0:Nat} {rs0:List Nat} (hn:(b0::rs0).Nodup) {σ σ1:Heap} {r:V} {T:TypeId} {post:List Blk} {b m q:Nat} {md:Md} {g:Nat->S} (hl:post.length=rs0.length) (hf:QR σ1 0 (QM T 0 b m::post)) (hb:rs0.length+1<=b) (hbl:σ1[b]? = some (.sc md q g))
  (hp:post.all Blk.loose=true) (hr:r.loose=true):Xn false σ (b0::rs0) r σ1=some (r,XL σ (b0::rs0) (QM T b0 σ.length m::post)++[.sc md q g]):=by
 have h0:σ1[0]? = some (QM T 0 b m):=hf.1
 have htake:σ1.take (rs0.length+1)=QM T 0 b m::post:=by have:=Jg hf; rw [List.drop_zero,Zbq,hl] at this; exact this
 have hrefs:(QM T 0 b m::post).flatMap Blk.refs=[0,b]:=by rw [Zbo,E4 hp]; rfl
 have hg0:V7 σ1 0=[0,b]:=by
  show (σ1.getD 0 .dead).refs=_
  rw [X3 h0]; rfl
 have hgb:V7 σ1 b=[]:=by
  show (σ1.getD b .dead).refs=[]
  rw [X3 hbl]; rfl
 have hns:Xl false (rs0.length+1) r σ1=[b]:=by
  unfold Xl
  rw [cond_false,htake,hrefs,V.loose_refs r hr,List.nil_append]
  have hin:∀ i∈YO σ1 64 [0,b] [],i=0∨i=b:=Ep (P:=fun i=>i=0∨i=b) (fun i hi j hj=>by
   rcases hi with hi | hi
   ·subst hi; rw [hg0] at hj; simpa using hj
   subst hi; rw [hgb] at hj; cases hj) _ _ _ (fun i hi=>by simpa using hi) (fun i hi=>by cases hi)
  refine TJ hb (Jh _ _ _ List.nodup_nil) (fun i hi=>(hin i hi).imp (fun h=>by omega) id) ?_
  refine RH 64 _ [] [0,b] (fun i hi=>.inr hi) (fun i hi j hj=>.inr ?_) ?_ b (.tail _ (.head _))
  ·rcases ZaX.1 hi with hi | hi
   ·subst hi; rw [hg0] at hj; exact hj
   rw [List.mem_singleton.1 hi,hgb] at hj; cases hj
  simp only [Zbo,hg0,hgb,List.flatMap_nil,Zbq,List.length_nil,ZaQ]; decide
 have hnd:=Qv hn
 have hble:Nat.ble (rs0.length+1) σ1.length=true:=ZaA (by have:=JM hf (Zbt _); rw [Zbq] at this; omega)
 have b1:Xf (b0::rs0) [b] σ.length (rs0.length+1) b=some σ.length:=Q5 (rs:=b0::rs0) hb
 have b2:Xf (b0::rs0) [b] σ.length (rs0.length+1) 0=some b0:=(Rr (rs:=b0::rs0) (Nat.succ_pos _)).trans rfl
 have hpk:Xa false (Xf (b0::rs0) [b] σ.length (rs0.length+1)) σ1 (List.range (rs0.length+1))=some (QM T b0 σ.length m::post):=by
  rw [List.range_eq_range',<- hl]
  refine jB (Bs:=QM T 0 b m::post) hf ?_
  rw [hl]
  have hv:Blk.ren false (Xf (b0::rs0) [b] σ.length (rs0.length+1)) (QM T 0 b m)=some (QM T b0 σ.length m):=by
   simp only [QM,Blk.ren,V.renL,V.ren,b1,b2,Option.map_some,XI,cond_false]
  simp only [Q3,hv,xP hp]
 unfold Xn
 have hpb:Xa false (Xf (b0::rs0) [b] σ.length (rs0.length+1)) σ1 [b]=some [.sc md q g]:=by
  simp only [Xa,hbl,Option.bind_some,Blk.ren,XI,cond_false]
 have hn1:nodup [b]=true:=rfl
 simp only [Zbq,hns,hnd,hn1,hble,Bool.and_self,cond_true,V.loose_ren _ r hr,hpb,cond_false,hpk]
def yt (A:AP) (fid:FuncId) (vs:List V) (Bs:List Blk) (T el:TypeId) (r:V) (m:Nat) (g:Nat->S) (post:List Blk):Prop :=
 WR A fid vs Bs fun v _ L1=>v=r/\∃ j,Bs.length<=j/\UZ L1 0 (QM T 0 j m::post)/\(j,Blk.sc (.gty el) m g)∈L1
section
variable {A:AP} {N:Nat} {f:FE} {n:Nat} {L:HA} {K:KN} {Zp:V->KN} {l:List I}
theorem tU {x:O} {fid:FuncId} {mk:Nat->V} {B:Blk} {d:Nat} (hmk:One mk) (hl:B.loose=true) (hf:x.fv N f=.fn fid []) (hs:RN A fid [] [] mk B [])
  (k:WO A N l (upd f d (mk n)) (n+1) ((n,B)::L) K Zp):WO A N (⟨some d,none,.h (.callq x [])⟩::l) f n L K Zp:=by
 obtain ⟨b,σ1,hr,_,h1,_⟩:=hs
 refine XF (v:=mk n) (fun σ h=>?_) k
 have hns:Xl true 0 (mk b) σ1=[b]:=by
  unfold Xl
  have hre:YO σ1 64 ((mk b).refs++[]) []=[b]:=by
   rw [hmk.refs]
   show (bif ([]:List Nat).contains b then YO σ1 63 [] [] else YO σ1 63 ((σ1.getD b .dead).refs++[]) ([]++[b]))=[b]
   rw [X3 h1,Blk.loose_refs hl]; rfl
  show List.filter (fun b=>Nat.ble 0 b) (YO σ1 64 ((mk b).refs++[]) [])=[b]
  rw [hre,R2 (Zbt b)]
 have hre:(mk b).ren (Xf [] [b] σ.length 0)=some (mk n):=by
  rw [hmk.ren,Q5 (Zbt b),h.1]; rfl
 have hble:Nat.ble 0 σ1.length=true:=rfl
 refine ⟨σ++[B],?_,h.new _⟩
 simp only [YL,Y6,hf,Y3,target,List.map_nil,ZaQ,Option.bind_some,XB,V.refsL,Qm,V.renL,Xa,hr,Xn,List.length_nil,hns,nodup,List.contains_nil,Bool.not_false,Bool.and_self,hble,cond_true,hre,h1,Blk.loose_ren hl,Blk.low_false]
def gS0:Nat->S:=fun _=>.str ⟨#[]⟩
def gS1 (a:ByteArray):Nat->S:=WN gS0 (0*1) 1 fun _=>.str a
def gS2 (a b:ByteArray):Nat->S:=WN (gS1 a) (1*1) 1 fun _=>.str b
def gS3 (a b c:ByteArray):Nat->S:=WN (gS2 a b) (2*1) 1 fun _=>.str c
def gS4 (a b c d:ByteArray):Nat->S:=WN (gS3 a b c) (3*1) 1 fun _=>.str d
theorem EK {w:O} {a:ByteArray} {e:Nat} (hw:w.fv N f=.s (.str a)) (k:WO A N l (upd f e (.sl n 0 1 1 (.ex 1))) (n+1) ((n,.sc .var 1 (gS1 a))::L) K Zp):WO A N (⟨some e,none,.h (.mksl 1 1 (.one (.s (.str ⟨#[]⟩))) [(0,w)])⟩::l) f n L K Zp :=
 XF (v:=.sl n 0 1 1 (.ex 1)) (fun σ hσ=>⟨σ++[.sc .var 1 (gS1 a)],by
  simp only [YL,Z.row,WG,List.map_cons,List.map_nil,Vf,Y6,hw,V.scells,if_true,hσ.1]
  rfl,hσ.new _⟩) k
theorem Qh {w x:O} {a b:ByteArray} {e:Nat} (hw:w.fv N f=.s (.str a)) (hx:x.fv N f=.s (.str b)) (k:WO A N l (upd f e (.sl n 0 2 1 (.ex 2))) (n+1) ((n,.sc .var 2 (gS2 a b))::L) K Zp):WO A N (⟨some e,none,.h (.mksl 2 1 (.one (.s (.str ⟨#[]⟩))) [(0,w),(1,x)])⟩::l) f n L K Zp :=
 XF (v:=.sl n 0 2 1 (.ex 2)) (fun σ hσ=>⟨σ++[.sc .var 2 (gS2 a b)],by
  simp only [YL,Z.row,WG,List.map_cons,List.map_nil,Vf,Y6,hw,hx,V.scells,if_true,hσ.1]
  rfl,hσ.new _⟩) k
theorem gM {w x y:O} {a b c:ByteArray} {e:Nat} (hw:w.fv N f=.s (.str a)) (hx:x.fv N f=.s (.str b)) (hy:y.fv N f=.s (.str c)) (k:WO A N l (upd f e (.sl n 0 3 1 (.ex 3))) (n+1) ((n,.sc .var 3 (gS3 a b c))::L) K Zp):WO A N (⟨some e,none,.h (.mksl 3 1 (.one (.s (.str ⟨#[]⟩))) [(0,w),(1,x),(2,y)])⟩::l) f n L K Zp :=
 XF (v:=.sl n 0 3 1 (.ex 3)) (fun σ hσ=>⟨σ++[.sc .var 3 (gS3 a b c)],by
  simp only [YL,Z.row,WG,List.map_cons,List.map_nil,Vf,Y6,hw,hx,hy,V.scells,if_true,hσ.1]
  rfl,hσ.new _⟩) k
theorem TM {w x y z:O} {a b c d:ByteArray} {e:Nat} (hw:w.fv N f=.s (.str a)) (hx:x.fv N f=.s (.str b)) (hy:y.fv N f=.s (.str c)) (hz:z.fv N f=.s (.str d)) (k:WO A N l (upd f e (.sl n 0 4 1 (.ex 4))) (n+1) ((n,.sc .var 4 (gS4 a b c d))::L) K Zp):WO A N (⟨some e,none,.h (.mksl 4 1 (.one (.s (.str ⟨#[]⟩))) [(0,w),(1,x),(2,y),(3,z)])⟩::l) f n L K Zp :=
 XF (v:=.sl n 0 4 1 (.ex 4)) (fun σ hσ=>⟨σ++[.sc .var 4 (gS4 a b c d)],by
  simp only [YL,Z.row,WG,List.map_cons,List.map_nil,Vf,Y6,hw,hx,hy,hz,V.scells,if_true,hσ.1]
  rfl,hσ.new _⟩) k
theorem uT:One fun b=>.map b:=⟨fun _=>by simp [V.refs],fun g b=>by cases h:g b <;> simp [V.ren,h]⟩
theorem gK {el:TypeId} {bytes:Nat} {s x:O} {t:ByteArray} {d:Nat} (hs:s.fv N f=.snil) (hx:x.fv N f=.s (.str t)) (h0:t.size=0) (k:WO A N l (upd f d .snil) n L K Zp):WO A N (⟨some d,none,.h (.appendb el bytes s x)⟩::l) f n L K Zp :=
 XF (v:=.snil) (fun σ hσ=>⟨σ,by simp only [YL,Y6,hs,hx,JX,Za8 h0],hσ⟩) k
theorem XS {x:O} {xs:List O} {fid:FuncId} {args vs:List V} {Bs post:List Blk} {b0:Nat} {B0:Blk} {Lr L0:HA} {T el:TypeId} {r:V} {m:Nat} {g:Nat->S} {od:Option Nat} (h:yt A fid vs Bs T el r m g post) (hf:x.fv N f=.fn fid []) (ha:xs.map (O.fv N f)=args) (hL:List.Perm L ((b0,B0)::Lr++L0))
  (hv:V.renL (ixo (b0::Lr.map (·.1))) vs=some args) (hB:Xx (b0::Lr.map (·.1)) Bs=some (B0::Lr.map (·.2))) (hp:Bs.all Blk.plain=true) (hr:YO Bs 64 (V.refsL vs) []=List.range Bs.length) (hlen:post.length=Lr.length) (hl:post.all Blk.loose=true) (hrl:r.loose=true)
  (k:WO A N l (Xg f od r) (n+1) ((n,.sc (.gty el) m g)::((b0,QM T b0 n m)::((Lr.map (·.1)).zip post++L0))) K Zp):WO A N (⟨od,none,.h (.call x xs)⟩::l) f n L K Zp:=by
 refine XF (v:=r) (fun σ hσ=>?_) k
 have hσ:=hσ.perm hL
 obtain ⟨v,σ1,n1,L1,h1,h2,rfl,j,hj,hfa,hm⟩:=h
 have hn:(b0::Lr.map (·.1)).Nodup:=E0 (Lr:=(b0,B0)::Lr) hσ
 have hc:=EE (Lr:=(b0,B0)::Lr) hσ (fun p hp=>ZaC _ hp) hp hB
 have hen:=Tf hn hc hv hr
 have hlen2:Bs.length=(Lr.map (·.1)).length+1:=hc.len.symm
 have hlv:=px (σ:=σ) (b0:=b0) (rs0:=Lr.map (·.1)) hn (by rw [List.length_map]; exact hlen) (Js h2 hfa) (by omega) (h2.2.mem hm).2 hl hrl
 rw [hσ.1] at hlv
 refine ⟨_,?_,((hσ.putZ (Cs:=QM T b0 n m::post) (by simp [hlen])).new _)⟩
 have hen:XB false args σ=some (b0::Lr.map (·.1),vs,Bs):=hen
 simp only [YL,Y6,hf,Y3,target,ZaQ,Option.bind_some,ha,hen,h1]
 exact hlv
inductive Sw (l:List ByteArray):V->HA->Prop
 | nil (h:l=[]):Sw l .snil []
 | row {b q:Nat} {g:Nat->S} (hF:∀ i,i < l.length->g i=.str (l.getD i ⟨#[]⟩)):Sw l (.sl b 0 l.length 1 .whole) [(b,.sc .grow q g)]
theorem Sw.at {l:List ByteArray} {v:V} {own:HA} (h:Sw l v own) {i:Nat} (hi:i < l.length):∃ b q g,v=.sl b 0 l.length 1 .whole/\own=[(b,Blk.sc .grow q g)]/\∀ j,j < l.length->g j=.str (l.getD j ⟨#[]⟩):=by
 cases h with
 | nil h=>subst h; simp at hi
 | @row b q g hF=>exact ⟨b,q,g,rfl,rfl,hF⟩
theorem Zb7 {z bytes m:Nat} {s x:O} {b' o':Nat} {c:Cp} {md':Md} {q':Nat} {R:Nat->S} {d:Nat} (hs:s.fv N f=.snil) (hx:x.fv N f=.sl b' o' m z c) (hb:(b',Blk.sc md' q' R)∈L) (h0:m≠0) (hr:XV m bytes=true)
  (k:WO A N l (upd f d (.sl n 0 m z .whole)) (n+1) ((n,.sc .grow (m*z) (fun i=>R (o'+i)))::L) K Zp):WO A N (⟨some d,none,.h (.append z bytes s x)⟩::l) f n L K Zp :=
 XF (v:=.sl n 0 m z .whole) (fun σ hσ=>⟨σ++[.sc .grow (m*z) (fun i=>R (o'+i))],by
  simp only [YL,Y6,hs,hx,Uy,UR,(hσ.2.mem hb).2,if_true]
  rw [Za7 h0,hr]
  simp only [cond_true,Uz,if_true,Option.map_some,hσ.1],hσ.new _⟩) k
theorem Zcf {z bytes m p:Nat} {s x:O} {b o b' o':Nat} {c:Cp} {md':Md} {q q':Nat} {G R:Nat->S} {L':HA} {d:Nat} (hs:s.fv N f=.sl b o p z .whole) (hx:x.fv N f=.sl b' o' m z c) (hb:(b',Blk.sc md' q' R)∈L) (hat:At b (.sc .grow q G) .dead L L') (hr:XV (p+m) bytes=true)
  (k:WO A N l (upd f d (.sl n 0 (p+m) z .whole)) (n+1) ((n,.sc .grow (p*z+m*z) (fun i=>bif Nat.blt i (p*z) then G (o+i) else R (o'+(i - p*z))))::L') K Zp):WO A N (⟨some d,none,.h (.append z bytes s x)⟩::l) f n L K Zp :=
 XF (v:=.sl n 0 (p+m) z .whole) (fun σ hσ=>⟨kill σ b++[.sc .grow (p*z+m*z) (fun i=>bif Nat.blt i (p*z) then G (o+i) else R (o'+(i - p*z)))],by
  simp only [YL,Y6,hs,hx,Uy,UR,(hσ.2.mem hb).2,(hσ.2.mem hat.mem).2,if_true,hr,cond_true,Uz,Option.map_some,hσ.1],(hσ.set hat).new _⟩) k
theorem ZbX {bytes:Nat} {s x:O} {l0:List ByteArray} {v:V} {own L0:HA} {b' q':Nat} {cp:Cp} {md':Md} {a:ByteArray} {d:Nat} (hs:s.fv N f=v) (hr:Sw l0 v own) (hx:x.fv N f=.sl b' 0 1 1 cp) (hb:(b',Blk.sc md' q' (gS1 a))∈L) (hd:Dr own L L0) (hroom:(l0.length+1)*bytes<=140737488355328)
  (k:∀ v' own' n',Sw (l0++[a]) v' own'->WO A N l (upd f d v') n' (own'++L0) K Zp):WO A N (⟨some d,none,.h (.append 1 bytes s x)⟩::l) f n L K Zp:=by
 cases hr with
 | nil h =>
  subst h
  refine Ur hd.sub ?_
  have hb0:(b',Blk.sc md' q' (gS1 a))∈L0:=by
   have:=hd.all.mem_iff.1 hb
   simpa using this
  refine Zb7 hs hx hb0 (by omega) (Q4 (by simpa using hroom)) ?_
  exact k _ [(n,_)] _ (.row (l:=[a]) fun i hi=>by
   have:i=0:=by simp at hi; omega
   subst this; rfl)
 | @row b q g hF =>
  obtain ⟨L1,h1,h2⟩:=hd.at (B':=.dead)
  refine Zcf hs hx hb h1 (Q4 hroom) ?_
  have h3:List.Sublist (((n,Blk.sc .grow (l0.length*1+1*1) (fun i=>bif Nat.blt i (l0.length*1) then g (0+i) else gS1 a (0+(i - l0.length*1)))))::L0) ((n,Blk.sc .grow (l0.length*1+1*1) (fun i=>bif Nat.blt i (l0.length*1) then g (0+i) else gS1 a (0+(i - l0.length*1))))::(b,.dead)::L0):=(List.sublist_cons_self _ _).cons_cons _
  refine UD (Zbs _ h2) (Ur h3 ?_)
  have hl:(l0++[a]).length=l0.length+1:=by simp
  rw [<- hl]
  exact k _ [(n,_)] _ (.row fun i hi=>by
   rw [Nat.mul_one]
   by_cases h:i < l0.length
   ·rw [show Nat.blt i l0.length=true from ZaA h,cond_true,ZaY,hF i h]
    simp [Zau,Zbc h]
   have:i=l0.length:=by simp at hi; omega
   subst this
   have hb:Nat.blt l0.length l0.length=false:=by
    cases hq:Nat.blt l0.length l0.length with
    | false=>rfl
    | true=>exact absurd (Zbj hq) (by omega)
   rw [hb,cond_false,ZaY,Nat.sub_self]
   rw [show (l0++[a]).getD l0.length ⟨#[]⟩=a by simp [Zau]]
   rfl)
end
end Go.Am
