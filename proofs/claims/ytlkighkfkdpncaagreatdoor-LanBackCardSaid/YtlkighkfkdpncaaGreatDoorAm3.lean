/- Texts of this seat, joined. -/
import Derived.Test.YtlkighkfkdpncaaGreatDoorAm2
set_option linter.unusedSimpArgs false
set_option linter.unusedVariables false
namespace Go.Am
open Go
abbrev VS (σ:Heap) (i:Nat):List Nat:=(σ.getD i .dead).refs
theorem JB {σ:Heap}:∀ (m:Nat) (w acc:List Nat),∀ i∈acc,i∈YN σ m w acc
 | 0,_,_,i,h=>h
 | m+1,[],_,i,h=>h
 | m+1,b::w,acc,i,h=>by
  unfold YN
  cases acc.contains b with
  | true=>exact JB m w acc i h
  | false=>exact JB m _ _ i (ZbV _ h)
theorem R4 {σ:Heap}:∀ (m:Nat) (w acc U:List Nat),(∀ i∈w,i∈acc∨i∈U)→(∀ i∈U,∀ j∈VS σ i,j∈acc∨j∈U)→w.length+(U.flatMap (VS σ)).length < m→∀ x∈w,x∈YN σ m w acc
 | 0,_,_,_,_,_,h,_,_=>absurd h (by omega)
 | m+1,[],_,_,_,_,_,x,hx=>by cases hx
 | m+1,b::w,acc,U,h1,h2,h3,x,hx=>by
  unfold YN
  rw [Zcd] at h3
  cases hc:acc.contains b with
  | true =>
   rw [cond_true]
   rcases Zco.1 hx with rfl | hx
   ·exact JB _ _ _ _ (List.contains_iff_mem.1 hc)
   exact R4 m w acc U (fun i hi=>h1 i (.tail _ hi)) h2 (by omega) x hx
  | false =>
   rw [cond_false]
   have hb:b∈U:=by
    rcases h1 b (.head _) with h | h
    ·rw [List.contains_iff_mem.2 h] at hc; cases hc
    exact h
   have hp:List.Perm U (b::U.erase b):=List.perm_cons_erase hb
   have hl:(U.flatMap (VS σ)).length=(VS σ b).length+((U.erase b).flatMap (VS σ)).length:=by
    rw [(hp.flatMap_right (VS σ)).length_eq,Zb8,Zb2]
   have hmv:∀ j,(j∈acc\/j∈U)->j∈acc++[b]\/j∈U.erase b:=fun j hj=>by
    by_cases e:j=b
    ·subst e; exact .inl (ZbM _ (.head _))
    rcases hj with hj | hj
    ·exact .inl (ZbV _ hj)
    exact .inr ((List.mem_erase_of_ne e).2 hj)
   have ih:=R4 m (VS σ b++w) (acc++[b]) (U.erase b) (fun i hi=>by
    rcases Zcg.1 hi with hi | hi
    ·exact hmv i (h2 b hb i hi)
    exact hmv i (h1 i (.tail _ hi))) (fun i hi j hj=>hmv j (h2 i (List.mem_of_mem_erase hi) j hj)) (by rw [Zb2]; omega)
   rcases Zco.1 hx with rfl | hx
   ·exact JB _ _ _ _ (ZbM _ (.head _))
   exact ih x (ZbM _ hx)
theorem T8 {σ:Heap} {P:Nat→Prop} (hP:∀ i,P i→∀ j∈VS σ i,P j):∀ (m:Nat) (w acc:List Nat),(∀ i∈w,P i)→(∀ i∈acc,P i)→∀ i∈YN σ m w acc,P i
 | 0,_,_,_,h,i,hi=>h i hi
 | m+1,[],_,_,h,i,hi=>h i hi
 | m+1,b::w,acc,hw,h,i,hi=>by
  unfold YN at hi
  cases hc:acc.contains b with
  | true=>rw [hc,cond_true] at hi; exact T8 hP m w acc (fun i hi=>hw i (.tail _ hi)) h i hi
  | false =>
   rw [hc,cond_false] at hi
   refine T8 hP m _ _ (fun i hi=>?_) (fun i hi=>?_) i hi
   ·rcases Zcg.1 hi with hi | hi
    ·exact hP b (hw b (.head _)) i hi
    exact hw i (.tail _ hi)
   rcases Zcg.1 hi with hi | hi
   ·exact h i hi
   rcases Zco.1 hi with rfl | hi
   ·exact hw _ (.head _)
   cases hi
theorem K3 {σ:Heap}:∀ (m:Nat) (w acc:List Nat),acc.Nodup->(YN σ m w acc).Nodup
 | 0,_,_,h=>h
 | m+1,[],_,h=>h
 | m+1,b::w,acc,h=>by
  unfold YN
  cases hc:acc.contains b with
  | true=>exact K3 m w acc h
  | false =>
   refine K3 m _ _ ?_
   rw [List.nodup_append]
   refine ⟨h,List.nodup_cons.2 ⟨(fun h=>by cases h),List.nodup_nil⟩,fun x hx y hy=>?_⟩
   rcases Zco.1 hy with rfl | hy
   ·intro e; subst e
    rw [List.contains_iff_mem.2 hx] at hc; cases hc
   cases hy
theorem Ec {k b:Nat} (hb:k≤b):∀ {R:List Nat},R.Nodup→(∀ i∈R,i < k∨i=b)→b∈R→R.filter (fun i=>Nat.ble k i)=[b]
 | [],_,_,h=>by cases h
 | x::R,hn,h1,h2=>by
  obtain ⟨hx,hn⟩:=List.nodup_cons.1 hn
  by_cases e:x=b
  ·subst e
   have:R.filter (fun i=>Nat.ble k i)=[]:=by
    rw [List.filter_eq_nil_iff]
    intro i hi
    rcases h1 i (.tail _ hi) with h | h
    ·simp only [Bool.not_eq_true]
     cases hb:Nat.ble k i with
     | false=>rfl
     | true=>have:=ZbT hb; omega
    subst h; exact absurd hi hx
   rw [List.filter_cons,ZbN hb,ZcA rfl,this]
  have hlt:x < k:=by
   rcases h1 x (.head _) with h | h
   ·exact h
   exact absurd h e
  have hf:Nat.ble k x=false:=by
   cases hb:Nat.ble k x with
   | false=>rfl
   | true=>have:=ZbT hb; omega
  rw [List.filter_cons,hf,Zcz (by decide)]
  refine Ec hb hn (fun i hi=>h1 i (.tail _ hi)) ?_
  rcases Zco.1 h2 with h | h
  ·exact absurd h.symm e
  exact h
def Q3 (g:Nat->Option Nat):List Blk->Option (List Blk)
 | []=>some []
 | B::Bs=>match Blk.ren false g B,Q3 g Bs with
  | some C,some r=>some (C::r)
  | _,_=>none
theorem jM {g:Nat->Option Nat} {σ1:Heap}:∀ {Bs Cs:List Blk} {k:Nat},QF σ1 k Bs->Q3 g Bs=some Cs->Y6 false g σ1 (List.range' k Bs.length)=some Cs
 | [],Cs,k,_,h=>by injection h with h; subst h; rfl
 | B::Bs,Cs,k,hf,h=>by
  simp only [Q3] at h
  split at h
  ·rename_i C r h1 h2
   injection h with h
   subst h
   rw [Zcd,List.range'_succ]
   simp only [Y6,hf.1,Option.bind_some,h1,jM hf.2 h2]
  cases h
theorem wT {rs ns:List Nat} {n:Nat}:∀ {Bs Cs:List Blk},(∀ B∈Bs,B.plain=true)→Xt rs Bs=some Cs→Q3 (Xa rs ns n rs.length) Bs=some Cs
 | [],Cs,_,h=>h
 | B::Bs,Cs,hp,h=>by
  simp only [Xt] at h
  split at h
  ·rename_i C r h1 h2
   injection h with h
   subst h
   simp only [Q3,Blk.ren_lo (hp B (.head _)) h1,wT (fun B hB=>hp B (.tail _ hB)) h2]
  cases h
theorem jX {g:Nat->Option Nat}:∀ {a b ca cb:List Blk},Q3 g a=some ca->Q3 g b=some cb->Q3 g (a++b)=some (ca++cb)
 | [],b,ca,cb,h1,h2=>by injection h1 with h1; subst h1; exact h2
 | B::a,b,ca,cb,h1,h2=>by
  simp only [Q3] at h1
  split at h1
  ·rename_i C r h3 h4
   injection h1 with h1
   subst h1
   simp only [List.cons_append,Q3,h3,jX h4 h2]
  cases h1
abbrev Vk (md:Md) (b m z:Nat):Blk:=.vs md [.sl b 0 m z .whole]
theorem pe {rs:List Nat} (hn:rs.Nodup) {σ σ1:Heap} {r r':V} {pre post Cpre Cpost:List Blk} {b m z q:Nat} {mo md:Md} {g:Nat->S} (hl:(pre++Vk mo b m z::post).length=rs.length) (hf:QF σ1 0 (pre++Vk mo b m z::post)) (hb:rs.length<=b) (hbl:σ1[b]? = some (.sc md q g))
  (hp:∀ B∈pre,B.plain=true) (hp2:∀ B∈post,B.plain=true) (hr:V.ren (ixo rs) r=some r') (hB:Xt rs pre=some Cpre) (hB2:Xt rs post=some Cpost) (hfu:(r.refs++(pre++Vk mo b m z::post).flatMap Blk.refs).length+((pre++Vk mo b m z::post).flatMap Blk.refs).length < 64) :
  Xn false σ rs r σ1=some (r',XD σ rs (Cpre++Vk mo σ.length m z::Cpost)++[.sc md q g]):=by
 generalize hBs:pre++Vk mo b m z::post=Bs at *
 have hat:∀ i,i < Bs.length->σ1[i]? = Bs[i]?:=fun i hi=>by have:=DZ hf hi; simpa using this
 have htake:σ1.take rs.length=Bs:=by have:=K1 hf; rw [List.drop_zero,hl] at this; exact this
 have hrefs:∀ i∈Bs.flatMap Blk.refs,i < rs.length∨i=b:=fun i hi=>by
  rw [<- hBs,List.flatMap_append,Zb8] at hi
  rcases Zcg.1 hi with hi | hi
  ·exact .inl (JF hn hp hB i hi)
  rcases Zcg.1 hi with hi | hi
  ·have:i∈[b]:=by simpa [Blk.refs,V.refsL,V.refs] using hi
   exact .inr (List.mem_singleton.1 this)
  exact .inl (JF hn hp2 hB2 i hi)
 have hbin:b∈Bs.flatMap Blk.refs:=by
  rw [<- hBs,List.flatMap_append,Zb8]
  exact ZbM _ (ZbV _ (by simp [Blk.refs,V.refsL,V.refs]))
 have hgd:∀ i,i < Bs.length->VS σ1 i=(Bs.getD i .dead).refs:=fun i hi=>by
  show (σ1.getD i .dead).refs=_
  rw [ZbD,hat i hi,ZbD]
 have hgb:VS σ1 b=[]:=by
  show (σ1.getD b .dead).refs=[]
  rw [ZbD,hbl]; rfl
 have hmem:∀ i,i < Bs.length→∀ j∈VS σ1 i,j∈Bs.flatMap Blk.refs:=fun i hi j hj=>by
  rw [hgd i hi,ZbD,ZbH hi] at hj
  exact List.mem_flatMap.2 ⟨Bs[i],List.getElem_mem hi,hj⟩
 have hw:∀ i∈r.refs++Bs.flatMap Blk.refs,i < rs.length∨i=b:=fun i hi=>by
  rcases Zcg.1 hi with hi | hi
  ·exact .inl ((V.ren_refs r r' hr).2 i hi)
  exact hrefs i hi
 have hU:(List.range Bs.length++[b]).flatMap (VS σ1)=Bs.flatMap Blk.refs:=by
  rw [List.flatMap_append,Zb8,hgb]
  simp only [List.flatMap_nil,Zcf]
  have:Bs=(List.range Bs.length).map (fun i=>Bs.getD i .dead):=by
   refine List.ext_getElem (by simp) fun i h1 h2=>?_
   rw [List.getElem_map,List.getElem_range,ZbD,ZbH h1]; rfl
  conv=>rhs; rw [this]
  rw [List.flatMap_map]
  rw [List.flatMap_def,List.flatMap_def]
  refine congrArg List.flatten (List.map_congr_left fun i hi=>hgd i (Zck.1 hi))
 have hns:Xi false rs.length r σ1=[b]:=by
  unfold Xi
  rw [cond_false,htake]
  refine Ec hb (K3 _ _ _ List.nodup_nil) (T8 (P:=fun i=>i < rs.length\/i=b) (fun i hi j hj=>?_) _ _ _ hw (fun i hi=>by cases hi)) ?_
  ·rcases hi with hi | hi
   ·exact hrefs j (hmem i (by omega) j hj)
   subst hi; rw [hgb] at hj; cases hj
  refine R4 64 _ [] (List.range Bs.length++[b]) (fun i hi=>.inr ?_) (fun i hi j hj=>.inr ?_) ?_ b (ZbM _ hbin)
  ·rcases hw i hi with h | h
   ·exact ZbV _ (Zck.2 (by omega))
   subst h; exact ZbM _ (.head _)
  ·have:j < rs.length\/j=b:=by
    rcases Zcg.1 hi with hi | hi
    ·exact hrefs j (hmem i (Zck.1 hi) j hj)
    rw [List.mem_singleton.1 hi,hgb] at hj; cases hj
   rcases this with h | h
   ·exact ZbV _ (Zck.2 (by omega))
   subst h; exact ZbM _ (.head _)
  rw [hU]; exact hfu
 have hnd:=Ux hn
 have hble:Nat.ble rs.length σ1.length=true:=ZbN (by have:=JE hf (Zct _); omega)
 have hpk:Y6 false (Xa rs [b] σ.length rs.length) σ1 (List.range rs.length)=some (Cpre++Vk mo σ.length m z::Cpost):=by
  rw [List.range_eq_range',<- hl]
  refine jM hf ?_
  rw [<- hBs]
  refine jX (by rw [hBs,hl]; exact wT hp hB) ?_
  have h2:Q3 (Xa rs [b] σ.length rs.length) post=some Cpost:=wT hp2 hB2
  have hv:Blk.ren false (Xa rs [b] σ.length rs.length) (Vk mo b m z)=some (Vk mo σ.length m z):=by
   simp only [Vk,Blk.ren,V.renL,V.ren,Q1 hb,Option.map_some,XG,cond_false]
  rw [hBs,hl]
  simp only [Q3,hv,h2]
 unfold Xn
 have hpb:Y6 false (Xa rs [b] σ.length rs.length) σ1 [b]=some [.sc md q g]:=by
  simp only [Y6,hbl,Option.bind_some,Blk.ren,XG,cond_false]
 have hn1:nodup [b]=true:=rfl
 simp only [hns,hnd,hn1,hble,Bool.and_self,cond_true,V.ren_lo r r' hr,hpb,cond_false,hpk]
section
variable {A:AP} {N:Nat} {f:FE} {n:Nat} {L:HA} {K:KN} {Zp:V->KN}
def rq (Lr L0:HA) (k:Nat) (n:Nat) (K:V->Nat->HA->Prop):KR:=fun r _ L1 =>
 (∃ Bs r' Cs,UF L1 0 Bs/\Bs.length=k/\Bs.all Blk.plain=true/\V.ren (ixo (Lr.map (·.1))) r=some r'/\Xt (Lr.map (·.1)) Bs=some Cs/\K r' n ((Lr.map (·.1)).zip Cs++L0)) \/
 (∃ pre post b m z q mo md g r' Cpre Cpost,UF L1 0 (pre++Vk mo b m z::post)/\(pre++Vk mo b m z::post).length=k/\k<=b/\(b,Blk.sc md q g)∈L1/\pre.all Blk.plain=true/\post.all Blk.plain=true/\V.ren (ixo (Lr.map (·.1))) r=some r' /\
  Xt (Lr.map (·.1)) pre=some Cpre/\Xt (Lr.map (·.1)) post=some Cpost/\(r.refs++(pre++Vk mo b m z::post).flatMap Blk.refs).length+((pre++Vk mo b m z::post).flatMap Blk.refs).length < 64 /\
  K r' (n+1) ((n,.sc md q g)::((Lr.map (·.1)).zip (Cpre++Vk mo n m z::Cpost)++L0)))
theorem runN {fid:FuncId} {all vs mk:List V} {Bs:List Blk} {Lr L0:HA} {K:V->Nat->HA->Prop} (hv:V.renL (ixo (Lr.map (·.1))) vs=some all) (hB:Xt (Lr.map (·.1)) Bs=some (Lr.map (·.2))) (hp:Bs.all Blk.plain=true) (hr:YN Bs 64 (V.refsL vs) []=List.range Bs.length)
  (h:WR A fid (mk++vs) Bs (rq Lr L0 Bs.length n K)) {σ:Heap} (hσ:Hp σ n (Lr++L0)) :
  ∃ y r' σ' n' L',Xq false all σ=some (Lr.map (·.1),vs,Bs)/\Run A fid (mk++vs) Bs=some y/\Xn false σ (Lr.map (·.1)) y.1 y.2=some (r',σ')/\Hp σ' n' L'/\K r' n' L':=by
 obtain ⟨r,σ1,n1,L1,h1,h2,h3⟩:=h
 have hn:=DO hσ
 have hc:=Eh hσ (fun p hp=>ZbV _ hp) hp hB
 have hen:=Td hn hc hv hr
 have hlen:Bs.length=(Lr.map (·.1)).length:=hc.len.symm
 rcases h3 with ⟨Bs1,r',Cs,e1,e2,e3,e4,e5,e6⟩ | ⟨pre,post,b,m,z,q,mo,md,g,r',Cpre,Cpost,e1,e2,e3,e4,e5,e6,e7,e8,e9,e10,e11⟩
 ·have hlv:=yb (σ:=σ) hn (e2.trans hlen) (Jf h2 e1) (Zcc.1 e3) e4 e5
  exact ⟨(r,σ1),r',_,n,_,hen,h1,hlv,hσ.putZ (by rw [Jk e5,e2,hlen,List.length_map]),e6⟩
 have hlv:=pe (σ:=σ) hn (e2.trans hlen) (Jf h2 e1) (by omega) (h2.2.mem e4).2 (Zcc.1 e5) (Zcc.1 e6) e7 e8 e9 e10
 rw [hσ.1] at hlv
 have hcl:(Cpre++Vk mo n m z::Cpost).length=Lr.length:=by
  rw [Zb2,Zcd,Jk e8,Jk e9]
  rw [Zb2,Zcd,hlen,List.length_map] at e2
  exact e2
 exact ⟨(r,σ1),r',_,n+1,_,hen,h1,hlv,(hσ.putZ hcl).new _,e11⟩
theorem jH {x:O} {xs:List O} {args vs:List V} {b k:Nat} {rd:RD} {caps:List V} {st:Nat} {Bs:List Blk} {l:List I} {od:Option Nat} {Lr L0:HA} (hL:List.Perm L (Lr++L0)) (hf:x.fv N f=.yv b) (ha:xs.map (O.fv N f)=args) (hm:(b,Blk.lp k rd caps st)∈L)
  (hv:V.renL (ixo (Lr.map (·.1))) vs=some (.yv b::args)) (hB:Xt (Lr.map (·.1)) Bs=some (Lr.map (·.2))) (hp:Bs.all Blk.plain=true) (hr:YN Bs 64 (V.refsL vs) []=List.range Bs.length)
  (h:WR A k (.pan .undef::vs) Bs (rq Lr L0 Bs.length n fun v n' L'=>WOx A N l (Xc f od v) n' L' K Zp)):WOx A N (⟨od,none,.h (.call x xs)⟩::l) f n L K Zp :=
 uJ rfl rfl hf hm fun σ hσ=>by
  rw [ha]
  obtain ⟨y,r',σ',n',L',e1,e2,e3,e4,e5⟩:=runN (mk:=[.pan .undef]) hv hB hp hr h (hσ.perm hL)
  refine ⟨r',_,n',_,?_,e4,e5⟩
  unfold Qr
  rw [e1,Option.bind_some]
  have e2:Run A k (.pan .undef::vs) Bs=some y:=e2
  dsimp only
  rw [e2,Option.bind_some]
  exact e3
theorem wI {X:Nat->KN} {R:KN} {g:O} {k:Nat} {rd:RD} {gf:FuncId} {gcaps vs:List V} {Bs:List Blk} {Lr L0:HA} (hL:List.Perm L (Lr++L0)) (hg:g.fv N f=.fn gf gcaps)
  (hv:V.renL (ixo (n::Lr.map (·.1))) vs=some (.yv n::gcaps)) (hB:Xt (n::Lr.map (·.1)) Bs=some (.lp k rd (E N f) 0::Lr.map (·.2))) (hp:Bs.all Blk.plain=true) (hr:YN Bs 64 (V.refsL vs) []=List.range Bs.length)
  (h:WR A gf vs Bs (rq ((n,.lp k rd (E N f) 0)::Lr) L0 Bs.length (n+1) fun _ n' L'=>∃ k' rd' caps st L1,List.Perm L' ((n,.lp k' rd' caps st)::L1)/\(match st with
   | 0=>K f n' L1
   | 1=>False
   | 2=>R f n' L1
   | j+3=>X j f n' L1))):WP A N (.rfn g k rd) f n L K X R Zp:=fun σ hσ=>by
 have hσ1:=(hσ.perm hL).new (.lp k rd (E N f) 0)
 obtain ⟨y,r',τ,n',L',e1,e2,e3,e4,k',rd',caps,st,L1,eL,e5⟩:=runN (Lr:=(n,.lp k rd (E N f) 0)::Lr) (mk:=[]) hv hB hp hr h hσ1
 rw [List.nil_append] at e2
 have hcall:V1 (Run A) gf (.yv n::gcaps) (σ++[.lp k rd (E N f) 0])=some (r',τ):=by
  unfold V1
  rw [e1,Option.bind_some]
  dsimp only
  rw [e2,Option.bind_some]
  exact e3
 have e4:=e4.perm eL
 have hl:τ[n]? = some (.lp k' rd' caps st):=(e4.2.mem (.head _)).2
 have hend:Hp (kill τ n) n' L1:=(e4.set (B':=.dead) .here).drop
 have hx:∀ x,Qb (Run A) g k rd (E N f) σ=some (x,E N f,kill τ n)->Ve A (.rfn g k rd) (E N f) σ=some (x,E N f,kill τ n):=fun x h=>by rw [vh]; exact h
 match st,e5,hl with
 | 0,e5,hl =>
  refine ⟨.normal,f,_,n',_,hx _ ?_,hend,e5⟩
  unfold Qb
  rw [Y2,hg]
  simp only [hσ.1,hcall,hl]
 | 2,e5,hl =>
  refine ⟨.ret,f,_,n',_,hx _ ?_,hend,e5⟩
  unfold Qb
  rw [Y2,hg]
  simp only [hσ.1,hcall,hl]
 | j+3,e5,hl =>
  refine ⟨.exit j,f,_,n',_,hx _ ?_,hend,e5⟩
  unfold Qb
  rw [Y2,hg]
  simp only [hσ.1,hcall,hl]
theorem Zbp {z bytes d:Nat} {s x:O} {l c:List Int} {v w:V} {own L0 ownx:HA} {rest:List I} (hs:s.fv N f=v) (hr:Rw z l v own) (hx:x.fv N f=w) (hrx:Rx z c w ownx) (hb:∀ p∈ownx,p∈L) (hd:Dr own L L0) (hz:0 < z) (hroom:(l.length+c.length)*bytes≤140737488355328)
  (k:∀ v' own' n',Rw z (l++c) v' own'→(∀ p∈own',n≤p.1)→WO A N rest (upd f d v') n' (own'++(own.map (fun p=>(p.1,Blk.dead))++L0)) K Zp):WO A N (⟨some d,none,.h (.append z bytes s x)⟩::rest) f n L K Zp:=by
 cases hr with
 | nil h =>
  subst h
  have e:L0=L:=by
   have:=hd.all.length_eq
   exact (hd.sub.eq_of_length (by simpa using this.symm))
  subst e
  cases hrx with
  | nil h =>
   subst h
   refine Xl (v:=.snil) (fun σ hσ=>⟨σ,?_,hσ⟩) (k .snil [] n (.nil rfl) (fun p hp=>by cases hp))
   simp only [YK,Y2,hs,hx,WL,Vf,if_true]
  | @row b' m' q' md' cp R hl' hR =>
   have hb0:=hb _ (.head _)
   rcases Nat.eq_zero_or_pos m' with hm' | hm'
   ·subst hm'
    obtain rfl:c=[]:=List.eq_nil_of_length_eq_zero (by rw [hl',Nat.zero_mul])
    refine Xl (v:=.snil) (fun σ hσ=>⟨σ,?_,hσ⟩) (k .snil [] n (.nil rfl) (fun p hp=>by cases hp))
    simp only [YK,Y2,hs,hx,WL,Vf,(hσ.2.mem hb0).2,if_true]
   have hm1:m'<=c.length:=by rw [hl']; exact Nat.le_mul_of_pos_right _ hz
   refine DF hs hx hb0 (by omega) (Ua (Zcq (ZbW _ (by simpa using hm1)) hroom)) ?_
   exact k _ [(n,_)] _ (.row (by simpa using hl') fun i hi=>by simpa using hR i (by simpa using hi)) (fun p hp=>by rw [List.mem_singleton.1 hp]; exact Zcs _)
 | @row b m q F hl hF =>
  obtain ⟨L1,h1,h2⟩:=hd.at (B':=.dead)
  have hm1:m<=l.length:=by rw [hl]; exact Nat.le_mul_of_pos_right _ hz
  cases hrx with
  | @row b' m' q' md' cp R hl' hR =>
   have hm2:m'<=c.length:=by rw [hl']; exact Nat.le_mul_of_pos_right _ hz
   refine T3 hs hx (hb _ (.head _)) h1 (Ua (Zcq (ZbW _ (by omega)) hroom)) ?_
   refine VA (L':=(n,_)::(b,.dead)::L0) (h2.cons _) ?_
   exact k _ [(n,_)] _ (.row (by rw [Zb2,hl,hl',Nat.add_mul]) (tv hl rfl hF (fun i hi=>by rw [Zcp]; exact hR i hi))) (fun p hp=>by rw [List.mem_singleton.1 hp]; exact Zcs _)
  | nil h =>
   subst h
   have hroom':XC (m+0) bytes=true:=Ua (Zcq (ZbW _ (by simp; omega)) hroom)
   refine Xl (v:=.sl n 0 (m+0) z .whole) (n':=n+1) (L':=(n,.sc .grow (m*z+0) (ia fun i=>bif Nat.blt i (m*z) then F (0+i) else 0))::(b,.dead)::L0) (fun σ hσ=>⟨kill σ b++[.sc .grow (m*z+0) (ia fun i=>bif Nat.blt i (m*z) then F (0+i) else 0)],?_,?_⟩) (k _ [(n,_)] _ (.row (by rw [Zcf]; exact hl) fun i hi=>by
    rw [Zcf] at hi ⊢
    rw [show Nat.blt i (m*z)=true from ZbN (by omega),cond_true,Zcp]; exact hF i hi) (fun p hp=>by rw [List.mem_singleton.1 hp]; exact Zcs _))
   ·simp only [YK,Y2,hs,hx,WL,Vf,(hσ.2.mem h1.mem).2,if_true,hroom',cond_true,W5,Nat.zero_mul,Option.map_some,hσ.1]
    refine congrArg some (Prod.ext rfl ?_)
    refine congrArg (fun B=>kill σ b++[B]) ?_
    refine congrArg (Blk.sc .grow (m*z+0)) ?_
    funext i
    show (bif Nat.blt i (m*z) then S.int .i64 (F (0+i)) else S.zero)=S.int .i64 (bif Nat.blt i (m*z) then F (0+i) else 0)
    cases Nat.blt i (m*z) <;> rfl
   exact ((hσ.set h1).perm h2).new _
theorem Et {z bytes d:Nat} {s x:O} {l c:List Int} {v w:V} {own L0 ownx:HA} {rest:List I} (hs:s.fv N f=v) (hr:Rw z l v own) (hx:x.fv N f=w) (hrx:Rx z c w ownx) (hb:∀ p∈ownx,p∈L) (hd:Dr own L L0) (hz:0 < z) (hroom:(l.length+c.length)*bytes≤140737488355328)
  (k:∀ v' own' n',Rw z (l++c) v' own'→(∀ p∈own',∀ q∈L,q.1 < p.1)→WO A N rest (upd f d v') n' (own'++(own.map (fun p=>(p.1,Blk.dead))++L0)) K Zp):WO A N (⟨some d,none,.h (.append z bytes s x)⟩::rest) f n L K Zp:=fun σ hσ =>
 Zbp hs hr hx hrx hb hd hz hroom (fun v' own' n' hr' hn=>k v' own' n' hr' (fun p hp _ hq=>Zb3 (hσ.2.mem hq).1 (hn p hp))) σ hσ
def V.row:V->Bool
 | .snil=>true
 | .sl _ _ _ _ .whole=>true
 | _=>false
theorem Rw.isrow {z:Nat} {l:List Int} {v:V} {own:HA} (h:Rw z l v own):v.row=true:=by cases h <;> rfl
theorem TK {a x:O} {b:Nat} {u v:V} {l:List I} {L':HA} (ha:a.fv N f=.ptr b 0 1) (hx:x.fv N f=v) (hv:v.row=true) (hm:At b (.vs .var [u]) (.vs .var [v]) L L') (k:WO A N l f n L' K Zp):WO A N (⟨none,none,.h (.store 1 a x)⟩::l) f n L K Zp :=
 Xl (v:=.undef) (d:=none) (fun σ hσ=>⟨σ.set b (.vs .var [v]),by
  have h:=(hσ.2.mem hm.mem).2
  have hc:v.vcells 1=some [v]/\v.one=true:=by
   cases v <;> first | exact ⟨rfl,rfl⟩ | cases hv
  simp only [YK,Y2,ha,hx,wrV,h,hc.1,hc.2,Md.mut,if_true,Option.bind_some,Zcd,List.length_nil,List.all_cons,List.all_nil,Bool.and_self,Zcp,Zcs,and_self,List.take_zero,List.nil_append,Zcf,List.drop_succ_cons,List.drop_zero,Option.map_some],hσ.set hm⟩) k
theorem gx {fid:FuncId} {a:AF} {as:List V} {Bs:List Blk} {K:KR} (hp:A.prims fid=none) (ha:A.fns fid=some a) (f:FE) (hf:K4 a as=E a.nt f) {m c0:Nat} (hm:Bs.length=m) (hres:a.res=[.cell c0 false 1])
  (h:WP A a.nt a.body f m (YZ 0 Bs) (fun _ _ _=>False) (fun _ _ _ _=>False) (fun f n L=>∃ b md v,rd a.nt f c0=.ptr b 0 1/\(b,Blk.vs md [v])∈L/\K v n L) (fun _ _ _ _=>False)) (hmk:U9 as=false:=by rfl):WR A fid as Bs K:=by
 subst hm
 obtain ⟨x,f',σ',n',L',h1,h2,h3⟩:=h Bs (EE Bs)
 cases x with
 | normal=>exact h3.elim
 | exit j=>exact h3.elim
 | panic v=>exact h3.elim
 | ret =>
  obtain ⟨b,md,v,e1,e2,hK⟩:=h3
  have hr:Eg (E a.nt f') σ' a.res=some v:=by
   unfold Eg
   rw [hres]
   simp only [Ru,wD,UH,e1,Zcs,if_true,rdV,(h2.2.mem e2).2,cond_false,List.getElem?_cons_zero]
  exact ⟨v,σ',n',L',by rw [y0 hp ha as Bs hmk,hf,h1]; simp [QB,hr],h2,hK⟩
def ED (L:HA) (pre post:List Blk) (l:List Int):Prop:=(l=[]/\UF L 0 (pre++.vs .var [.snil]::post))\/∃ b m q F,pre.length+(post.length+1)<=b/\(b,Blk.sc .grow q (ia F))∈L/\UF L 0 (pre++Vk .var b m 3::post)/\l.length=m*3/\∀ i,i < l.length->F i=l.getD i 0
theorem JI {L own:HA} {pre post:List Blk} {l:List Int} {v:V} (h:Rw 3 l v own) (hf:UF L 0 (pre++.vs .var [v]::post)) (ho:∀ p∈own,p∈L∧pre.length+(post.length+1)≤p.1):ED L pre post l:=by
 cases h with
 | nil h=>exact .inl ⟨h,hf⟩
 | row hl hF=>exact .inr ⟨_,_,_,_,(ho _ (.head _)).2,(ho _ (.head _)).1,hf,hl,hF⟩
theorem TR {k:Nat} {rd:RD} {caps:Nat->List V} {xa:List V} {g1 gq:Nat->S} {x:O} {xs:List O} {l:List I} {od:Option Nat} {acc acc':List Int} {v:V} {own L0:HA} (h33:V.renL (ixo [0,1,2,3]) (caps 3)=some (caps 3)) (h43:∀ b,V.renL (ixo [0,1,2,b,3]) (caps 4)=some (caps 3)) (has:V.looseL xa=true)
  (hr3:YN [.lp k rd (caps 3) 0,.sc .var 133 g1,.vs .var [.snil],.sc .var 133 gq] 64 (V.refsL (.yv 0::xa)) []=List.range 4) (hr4:∀ m q F,YN [.lp k rd (caps 4) 0,.sc .var 133 g1,Vk .var 3 m 3,.sc .grow q (ia F),.sc .var 133 gq] 64 (V.refsL (.yv 0::xa)) []=List.range 5)
  (hn3:(ddp (V.refsL (caps 3))).length<=20) (hn4:(ddp (V.refsL (caps 4))).length<=20) (hf:x.fv N f=.yv 0) (ha:xs.map (O.fv N f)=xa) (hr:Rw 3 acc v own) (hL:List.Perm L (own++([(0,.lp k rd (caps 3) 0),(1,.sc .var 133 g1),(2,.vs .var [v]),(3,.sc .var 133 gq)]++L0)))
  (hnil:acc=[]->WR A k (.pan .undef::.yv 0::xa) [.lp k rd (caps 3) 0,.sc .var 133 g1,.vs .var [.snil],.sc .var 133 gq] (fun v _ L=>v=.s (.bool true)/\ED L [.lp k rd (caps 3) 0,.sc .var 133 g1] [.sc .var 133 gq] acc'))
  (hrow:∀ m q F,acc.length=m*3->(∀ i,i < acc.length->F i=acc.getD i 0)->WR A k (.pan .undef::.yv 0::xa) [.lp k rd (caps 4) 0,.sc .var 133 g1,Vk .var 3 m 3,.sc .grow q (ia F),.sc .var 133 gq] (fun v _ L=>v=.s (.bool true)/\ED L [.lp k rd (caps 4) 0,.sc .var 133 g1] [.dead,.sc .var 133 gq] acc'))
  (kk:∀ v' own' n',Rw 3 acc' v' own'→(∀ p∈own',4≤p.1)→WOx A N l (Xc f od (.s (.bool true))) n' (own'++([(0,.lp k rd (caps 3) 0),(1,.sc .var 133 g1),(2,.vs .var [v']),(3,.sc .var 133 gq)]++L0)) K Zp):WOx A N (⟨od,none,.h (.call x xs)⟩::l) f n L K Zp:=by
 intro σ hσ
 have h3n:3 < n:=(hσ.2.mem (hL.symm.subset (ZbM _ (.tail _ (.tail _ (.tail _ (.head _))))))).1
 have hnn:∀ (B:Blk),∀ p∈[(n,B)],4≤p.1:=fun B p hp=>by rw [List.mem_singleton.1 hp]; exact h3n
 have hno:∀ p∈([]:HA),4≤p.1:=fun p hp=>by cases hp
 have hmem:(0,Blk.lp k rd (caps 3) 0)∈L:=hL.symm.subset (ZbM _ (.head _))
 have hargs:∀ rs:List Nat,rs[0]? = some 0->V.renL (ixo rs) (.yv 0::xa)=some (.yv 0::xa):=fun rs h=>by
  have h2:=V.looseL_ren (ixo rs) xa has
  have h1:V.ren (ixo rs) (.yv 0)=some (.yv 0):=by
   show (ixo rs 0).map V.yv=_
   rw [show ixo rs 0=some 0 from h]; rfl
  simp only [V.renL,h1,h2]
 have hnl:∀ (a b:List Nat),a.length<=20->b.length<=1->(([]:List Nat)++(a++b)).length+(a++b).length < 64:=fun a b h1 h2=>by
  simp only [Zb2,List.nil_append]; omega
 have hrefs:∀ (c b m z:Nat) (post:List Blk),post.flatMap Blk.refs=[]->([Blk.lp k rd (caps c) 0,.sc .var 133 g1]++Vk .var b m z::post).flatMap Blk.refs=ddp (V.refsL (caps c))++[b]:=fun c b m z post h=>by
  simp only [List.cons_append,List.nil_append,Zb8,h,Zcf]
  simp only [Blk.refs,V.refsL,V.refs,List.nil_append,Zcf]
 cases hr with
 | nil h =>
  have hB3:Xt [0,1,2,3] [.lp k rd (caps 3) 0,.sc .var 133 g1,.vs .var [.snil],.sc .var 133 gq]=some [.lp k rd (caps 3) 0,.sc .var 133 g1,.vs .var [.snil],.sc .var 133 gq]:=by
   simp only [Xt,Blk.ren,cond_false,h33,V.renL,V.ren,Option.map_some,XG]
  refine jH (Lr:=[(0,_),(1,_),(2,_),(3,_)]) (L0:=L0) (vs:=.yv 0::xa) hL hf ha hmem (hargs [0,1,2,3] rfl) hB3 rfl hr3 (Qm (hnil h) ?_) σ hσ
  rintro r n1 L1 ⟨rfl,ho⟩
  rcases ho with ⟨e1,e2⟩ | ⟨b,m,q,F,e1,e2,e3,e4,e5⟩
  ·exact .inl ⟨_,.s (.bool true),_,e2,rfl,rfl,rfl,hB3,kk .snil [] _ (.nil e1) hno⟩
  refine .inr ⟨[.lp k rd (caps 3) 0,.sc .var 133 g1],[.sc .var 133 gq],b,m,3,q,.var,.grow,ia F,.s (.bool true),[.lp k rd (caps 3) 0,.sc .var 133 g1],[.sc .var 133 gq],e3,rfl,e1,e2,rfl,rfl,rfl,?_,rfl,?_,kk _ [(n,_)] _ (.row e4 e5) (hnn _)⟩
  ·show Xt [0,1,2,3] _=_
   simp only [Xt,Blk.ren,cond_false,h33,Option.map_some,XG]
  rw [hrefs 3 b m 3 _ rfl]
  exact hnl _ _ hn3 (Zcs _)
 | @row b0 m0 q0 F0 hl hF =>
  have hL':List.Perm L ([(0,.lp k rd (caps 3) 0),(1,.sc .var 133 g1),(2,Vk .var b0 m0 3),(b0,.sc .grow q0 (ia F0)),(3,.sc .var 133 gq)]++L0):=hL.trans (List.perm_middle (l₁:=[_,_,_]) (l₂:=_::L0)).symm
  have hB4:Xt [0,1,2,b0,3] [.lp k rd (caps 4) 0,.sc .var 133 g1,Vk .var 3 m0 3,.sc .grow q0 (ia F0),.sc .var 133 gq]=some [.lp k rd (caps 3) 0,.sc .var 133 g1,Vk .var b0 m0 3,.sc .grow q0 (ia F0),.sc .var 133 gq]:=by
   have e:ixo [0,1,2,b0,3] 3=some b0:=rfl
   simp only [Xt,Blk.ren,cond_false,h43 b0,V.renL,V.ren,Option.map_some,XG,e]
  refine jH (Lr:=[(0,_),(1,_),(2,_),(b0,_),(3,_)]) (L0:=L0) (vs:=.yv 0::xa) hL' hf ha hmem (hargs [0,1,2,b0,3] rfl) hB4 rfl (hr4 m0 q0 F0) (Qm (hrow m0 q0 F0 hl hF) ?_) σ hσ
  rintro r n1 L1 ⟨rfl,ho⟩
  rcases ho with ⟨e1,e2⟩ | ⟨b,m,q,F,e1,e2,e3,e4,e5⟩
  ·refine .inl ⟨_,.s (.bool true),[.lp k rd (caps 3) 0,.sc .var 133 g1,.vs .var [.snil],.dead,.sc .var 133 gq],e2,rfl,rfl,rfl,?_,Q2 (.cons_cons _ (.cons_cons _ (.cons_cons _ (.cons _ (.refl _))))) (kk .snil [] _ (.nil e1) hno)⟩
   show Xt [0,1,2,b0,3] _=_
   simp only [List.cons_append,List.nil_append,Xt,Blk.ren,cond_false,h43 b0,V.renL,V.ren,Option.map_some,XG]
  refine .inr ⟨[.lp k rd (caps 4) 0,.sc .var 133 g1],[.dead,.sc .var 133 gq],b,m,3,q,.var,.grow,ia F,.s (.bool true),[.lp k rd (caps 3) 0,.sc .var 133 g1],[.dead,.sc .var 133 gq],e3,rfl,e1,e2,rfl,rfl,rfl,?_,rfl,?_,?_⟩
  ·show Xt [0,1,2,b0,3] _=_
   simp only [Xt,Blk.ren,cond_false,h43 b0,Option.map_some,XG]
  ·rw [hrefs 4 b m 3 _ rfl]
   exact hnl _ _ hn4 (Zcs _)
  exact Q2 (.cons_cons _ (.cons_cons _ (.cons_cons _ (.cons_cons _ (.cons _ (.refl _)))))) (kk _ [(n,_)] _ (.row e4 e5) (hnn _))
end
end Go.Am
namespace Go.Am
open Go
theorem Df:∀ {Bs:List Blk},Bs.all Blk.loose=true->Bs.flatMap Blk.refs=[]
 | [],_=>rfl
 | B::Bs,h=>by
  simp only [List.all_cons,Zca] at h
  rw [Zb8,Blk.loose_refs h.1,Df h.2]; rfl
theorem xB {g:Nat->Option Nat}:∀ {Bs:List Blk},Bs.all Blk.loose=true->Q3 g Bs=some Bs
 | [],_=>rfl
 | B::Bs,h=>by
  simp only [List.all_cons,Zca] at h
  simp only [Q3,Blk.loose_ren h.1,Blk.low_false,xB h.2]
abbrev UU (T:TypeId) (b k m:Nat):Blk:=.vs (.ty T) [.ptr b 0 2,.sl k 0 m 1 .whole]
theorem oH {b0:Nat} {rs0:List Nat} (hn:(b0::rs0).Nodup) {σ σ1:Heap} {r:V} {T:TypeId} {post:List Blk} {b m q:Nat} {md:Md} {g:Nat->S} (hl:post.length=rs0.length) (hf:QF σ1 0 (UU T 0 b m::post)) (hb:rs0.length+1<=b) (hbl:σ1[b]? = some (.sc md q g))
  (hp:post.all Blk.loose=true) (hr:r.loose=true):Xn false σ (b0::rs0) r σ1=some (r,XD σ (b0::rs0) (UU T b0 σ.length m::post)++[.sc md q g]):=by
 have h0:σ1[0]? = some (UU T 0 b m):=hf.1
 have htake:σ1.take (rs0.length+1)=UU T 0 b m::post:=by have:=K1 hf; rw [List.drop_zero,Zcd,hl] at this; exact this
 have hrefs:(UU T 0 b m::post).flatMap Blk.refs=[0,b]:=by rw [Zb8,Df hp]; rfl
 have hg0:VS σ1 0=[0,b]:=by
  show (σ1.getD 0 .dead).refs=_
  rw [X4 h0]; rfl
 have hgb:VS σ1 b=[]:=by
  show (σ1.getD b .dead).refs=[]
  rw [X4 hbl]; rfl
 have hns:Xi false (rs0.length+1) r σ1=[b]:=by
  unfold Xi
  rw [cond_false,htake,hrefs,V.loose_refs r hr,List.nil_append]
  have hin:∀ i∈YN σ1 64 [0,b] [],i=0∨i=b:=T8 (P:=fun i=>i=0∨i=b) (fun i hi j hj=>by
   rcases hi with hi | hi
   ·subst hi; rw [hg0] at hj; simpa using hj
   subst hi; rw [hgb] at hj; cases hj) _ _ _ (fun i hi=>by simpa using hi) (fun i hi=>by cases hi)
  refine Ec hb (K3 _ _ _ List.nodup_nil) (fun i hi=>(hin i hi).imp (fun h=>by omega) id) ?_
  refine R4 64 _ [] [0,b] (fun i hi=>.inr hi) (fun i hi j hj=>.inr ?_) ?_ b (.tail _ (.head _))
  ·rcases Zco.1 hi with hi | hi
   ·subst hi; rw [hg0] at hj; exact hj
   rw [List.mem_singleton.1 hi,hgb] at hj; cases hj
  simp only [Zb8,hg0,hgb,List.flatMap_nil,Zcd,List.length_nil,Zcf]; decide
 have hnd:=Ux hn
 have hble:Nat.ble (rs0.length+1) σ1.length=true:=ZbN (by have:=JE hf (Zct _); rw [Zcd] at this; omega)
 have b1:Xa (b0::rs0) [b] σ.length (rs0.length+1) b=some σ.length:=Q1 (rs:=b0::rs0) hb
 have b2:Xa (b0::rs0) [b] σ.length (rs0.length+1) 0=some b0:=(RI (rs:=b0::rs0) (Nat.succ_pos _)).trans rfl
 have hpk:Y6 false (Xa (b0::rs0) [b] σ.length (rs0.length+1)) σ1 (List.range (rs0.length+1))=some (UU T b0 σ.length m::post):=by
  rw [List.range_eq_range',<- hl]
  refine jM (Bs:=UU T 0 b m::post) hf ?_
  rw [hl]
  have hv:Blk.ren false (Xa (b0::rs0) [b] σ.length (rs0.length+1)) (UU T 0 b m)=some (UU T b0 σ.length m):=by
   simp only [UU,Blk.ren,V.renL,V.ren,b1,b2,Option.map_some,XG,cond_false]
  simp only [Q3,hv,xB hp]
 unfold Xn
 have hpb:Y6 false (Xa (b0::rs0) [b] σ.length (rs0.length+1)) σ1 [b]=some [.sc md q g]:=by
  simp only [Y6,hbl,Option.bind_some,Blk.ren,XG,cond_false]
 have hn1:nodup [b]=true:=rfl
 simp only [Zcd,hns,hnd,hn1,hble,Bool.and_self,cond_true,V.loose_ren _ r hr,hpb,cond_false,hpk]
def D0 (A:AP) (fid:FuncId) (vs:List V) (Bs:List Blk) (T el:TypeId) (r:V) (m:Nat) (g:Nat->S) (post:List Blk):Prop :=
 WR A fid vs Bs fun v _ L1=>v=r/\∃ j,Bs.length<=j/\UF L1 0 (UU T 0 j m::post)/\(j,Blk.sc (.gty el) m g)∈L1
section
variable {A:AP} {N:Nat} {f:FE} {n:Nat} {L:HA} {K:KN} {Zp:V->KN} {l:List I}
theorem sL {x:O} {fid:FuncId} {mk:Nat->V} {B:Blk} {d:Nat} (hmk:One mk) (hl:B.loose=true) (hf:x.fv N f=.fn fid []) (hs:RN A fid [] [] mk B [])
  (k:WO A N l (upd f d (mk n)) (n+1) ((n,B)::L) K Zp):WO A N (⟨some d,none,.h (.callq x [])⟩::l) f n L K Zp:=by
 obtain ⟨b,σ1,hr,_,h1,_⟩:=hs
 refine Xl (v:=mk n) (fun σ h=>?_) k
 have hns:Xi true 0 (mk b) σ1=[b]:=by
  unfold Xi
  have hre:YN σ1 64 ((mk b).refs++[]) []=[b]:=by
   rw [hmk.refs]
   show (bif ([]:List Nat).contains b then YN σ1 63 [] [] else YN σ1 63 ((σ1.getD b .dead).refs++[]) ([]++[b]))=[b]
   rw [X4 h1,Blk.loose_refs hl]; rfl
  show List.filter (fun b=>Nat.ble 0 b) (YN σ1 64 ((mk b).refs++[]) [])=[b]
  rw [hre,R2 (Zct b)]
 have hre:(mk b).ren (Xa [] [b] σ.length 0)=some (mk n):=by
  rw [hmk.ren,Q1 (Zct b),h.1]; rfl
 have hble:Nat.ble 0 σ1.length=true:=rfl
 refine ⟨σ++[B],?_,h.new _⟩
 simp only [YK,Y2,hf,Y5,target,List.map_nil,Zcf,Option.bind_some,Xq,V.refsL,Ut,V.renL,Y6,hr,Xn,List.length_nil,hns,nodup,List.contains_nil,Bool.not_false,Bool.and_self,hble,cond_true,hre,h1,Blk.loose_ren hl,Blk.low_false]
def gS0:Nat->S:=fun _=>.str ⟨#[]⟩
def gS1 (a:ByteArray):Nat->S:=WE gS0 (0*1) 1 fun _=>.str a
def gS2 (a b:ByteArray):Nat->S:=WE (gS1 a) (1*1) 1 fun _=>.str b
def gS3 (a b c:ByteArray):Nat->S:=WE (gS2 a b) (2*1) 1 fun _=>.str c
def gS4 (a b c d:ByteArray):Nat->S:=WE (gS3 a b c) (3*1) 1 fun _=>.str d
theorem Rq {w:O} {a:ByteArray} {e:Nat} (hw:w.fv N f=.s (.str a)) (k:WO A N l (upd f e (.sl n 0 1 1 (.ex 1))) (n+1) ((n,.sc .var 1 (gS1 a))::L) K Zp):WO A N (⟨some e,none,.h (.mksl 1 1 (.one (.s (.str ⟨#[]⟩))) [(0,w)])⟩::l) f n L K Zp :=
 Xl (v:=.sl n 0 1 1 (.ex 1)) (fun σ hσ=>⟨σ++[.sc .var 1 (gS1 a)],by
  simp only [YK,Z.row,Ws,List.map_cons,List.map_nil,WJ,Y2,hw,V.scells,if_true,hσ.1]
  rfl,hσ.new _⟩) k
theorem Qc {w x:O} {a b:ByteArray} {e:Nat} (hw:w.fv N f=.s (.str a)) (hx:x.fv N f=.s (.str b)) (k:WO A N l (upd f e (.sl n 0 2 1 (.ex 2))) (n+1) ((n,.sc .var 2 (gS2 a b))::L) K Zp):WO A N (⟨some e,none,.h (.mksl 2 1 (.one (.s (.str ⟨#[]⟩))) [(0,w),(1,x)])⟩::l) f n L K Zp :=
 Xl (v:=.sl n 0 2 1 (.ex 2)) (fun σ hσ=>⟨σ++[.sc .var 2 (gS2 a b)],by
  simp only [YK,Z.row,Ws,List.map_cons,List.map_nil,WJ,Y2,hw,hx,V.scells,if_true,hσ.1]
  rfl,hσ.new _⟩) k
theorem yx {w x y:O} {a b c:ByteArray} {e:Nat} (hw:w.fv N f=.s (.str a)) (hx:x.fv N f=.s (.str b)) (hy:y.fv N f=.s (.str c)) (k:WO A N l (upd f e (.sl n 0 3 1 (.ex 3))) (n+1) ((n,.sc .var 3 (gS3 a b c))::L) K Zp):WO A N (⟨some e,none,.h (.mksl 3 1 (.one (.s (.str ⟨#[]⟩))) [(0,w),(1,x),(2,y)])⟩::l) f n L K Zp :=
 Xl (v:=.sl n 0 3 1 (.ex 3)) (fun σ hσ=>⟨σ++[.sc .var 3 (gS3 a b c)],by
  simp only [YK,Z.row,Ws,List.map_cons,List.map_nil,WJ,Y2,hw,hx,hy,V.scells,if_true,hσ.1]
  rfl,hσ.new _⟩) k
theorem EP {w x y z:O} {a b c d:ByteArray} {e:Nat} (hw:w.fv N f=.s (.str a)) (hx:x.fv N f=.s (.str b)) (hy:y.fv N f=.s (.str c)) (hz:z.fv N f=.s (.str d)) (k:WO A N l (upd f e (.sl n 0 4 1 (.ex 4))) (n+1) ((n,.sc .var 4 (gS4 a b c d))::L) K Zp):WO A N (⟨some e,none,.h (.mksl 4 1 (.one (.s (.str ⟨#[]⟩))) [(0,w),(1,x),(2,y),(3,z)])⟩::l) f n L K Zp :=
 Xl (v:=.sl n 0 4 1 (.ex 4)) (fun σ hσ=>⟨σ++[.sc .var 4 (gS4 a b c d)],by
  simp only [YK,Z.row,Ws,List.map_cons,List.map_nil,WJ,Y2,hw,hx,hy,hz,V.scells,if_true,hσ.1]
  rfl,hσ.new _⟩) k
theorem w5:One fun b=>.map b:=⟨fun _=>by simp [V.refs],fun g b=>by cases h:g b <;> simp [V.ren,h]⟩
theorem jS {el:TypeId} {bytes:Nat} {s x:O} {t:ByteArray} {d:Nat} (hs:s.fv N f=.snil) (hx:x.fv N f=.s (.str t)) (h0:t.size=0) (k:WO A N l (upd f d .snil) n L K Zp):WO A N (⟨some d,none,.h (.appendb el bytes s x)⟩::l) f n L K Zp :=
 Xl (v:=.snil) (fun σ hσ=>⟨σ,by simp only [YK,Y2,hs,hx,Q4,ZcA h0],hσ⟩) k
theorem XH {x:O} {xs:List O} {fid:FuncId} {args vs:List V} {Bs post:List Blk} {b0:Nat} {B0:Blk} {Lr L0:HA} {T el:TypeId} {r:V} {m:Nat} {g:Nat->S} {od:Option Nat} (h:D0 A fid vs Bs T el r m g post) (hf:x.fv N f=.fn fid []) (ha:xs.map (O.fv N f)=args) (hL:List.Perm L ((b0,B0)::Lr++L0))
  (hv:V.renL (ixo (b0::Lr.map (·.1))) vs=some args) (hB:Xt (b0::Lr.map (·.1)) Bs=some (B0::Lr.map (·.2))) (hp:Bs.all Blk.plain=true) (hr:YN Bs 64 (V.refsL vs) []=List.range Bs.length) (hlen:post.length=Lr.length) (hl:post.all Blk.loose=true) (hrl:r.loose=true)
  (k:WO A N l (Xc f od r) (n+1) ((n,.sc (.gty el) m g)::((b0,UU T b0 n m)::((Lr.map (·.1)).zip post++L0))) K Zp):WO A N (⟨od,none,.h (.call x xs)⟩::l) f n L K Zp:=by
 refine Xl (v:=r) (fun σ hσ=>?_) k
 have hσ:=hσ.perm hL
 obtain ⟨v,σ1,n1,L1,h1,h2,rfl,j,hj,hfa,hm⟩:=h
 have hn:(b0::Lr.map (·.1)).Nodup:=DO (Lr:=(b0,B0)::Lr) hσ
 have hc:=Eh (Lr:=(b0,B0)::Lr) hσ (fun p hp=>ZbV _ hp) hp hB
 have hen:=Td hn hc hv hr
 have hlen2:Bs.length=(Lr.map (·.1)).length+1:=hc.len.symm
 have hlv:=oH (σ:=σ) (b0:=b0) (rs0:=Lr.map (·.1)) hn (by rw [List.length_map]; exact hlen) (Jf h2 hfa) (by omega) (h2.2.mem hm).2 hl hrl
 rw [hσ.1] at hlv
 refine ⟨_,?_,((hσ.putZ (Cs:=UU T b0 n m::post) (by simp [hlen])).new _)⟩
 have hen:Xq false args σ=some (b0::Lr.map (·.1),vs,Bs):=hen
 simp only [YK,Y2,hf,Y5,target,Zcf,Option.bind_some,ha,hen,h1]
 exact hlv
inductive Sw (l:List ByteArray):V->HA->Prop
 | nil (h:l=[]):Sw l .snil []
 | row {b q:Nat} {g:Nat->S} (hF:∀ i,i < l.length->g i=.str (l.getD i ⟨#[]⟩)):Sw l (.sl b 0 l.length 1 .whole) [(b,.sc .grow q g)]
theorem Sw.at {l:List ByteArray} {v:V} {own:HA} (h:Sw l v own) {i:Nat} (hi:i < l.length):∃ b q g,v=.sl b 0 l.length 1 .whole/\own=[(b,Blk.sc .grow q g)]/\∀ j,j < l.length->g j=.str (l.getD j ⟨#[]⟩):=by
 cases h with
 | nil h=>subst h; simp at hi
 | @row b q g hF=>exact ⟨b,q,g,rfl,rfl,hF⟩
end
end Go.Am
namespace Go.Am
open Go
theorem One_slT {o m z:Nat} {c:Cp} {x y:S}:One fun b=>.tup [.sl b o m z c,.s x,.s y]:=⟨fun _=>by simp [V.refs,V.refsL],fun g b=>by cases h:g b <;> simp [V.ren,V.renL,h]⟩
def RtT (A:AP) (fid:FuncId) (z:Nat) (av:List V) (l:List Int) (x y:S):Prop :=
 (l=[]/\RB A fid av [] (.tup [.snil,.s x,.s y]) [])\/∃ m q F,l.length=m*z/\(∀ i,i < l.length->F i=l.getD i 0)/\RN A fid av [] (fun b=>.tup [.sl b 0 m z .whole,.s x,.s y]) (.sc .grow q (ia F)) []
theorem D3 {A:AP} {fid:FuncId} {z:Nat} {av:List V} {l:List Int} {x y:S} (h:WR A fid av [] fun v' _ L'=>∃ v own,v'=.tup [v,.s x,.s y]∧Rw z l v own∧∀ p∈own,p∈L'):RtT A fid z av l x y:=by
 obtain ⟨v',σ',n',L',h1,h2,v,own,rfl,hr,ho⟩:=h
 cases hr with
 | nil h=>exact .inl ⟨h,σ',h1,trivial⟩
 | row hl hF=>exact .inr ⟨_,_,_,hl,hF,_,σ',h1,Zct _,(h2.2.mem (ho _ (.head _))).2,trivial⟩
section
variable {A:AP} {N:Nat} {f:FE} {n:Nat} {L:HA} {K:KN} {Zp:V->KN} {rest:List I} {d:Nat}
theorem xh {x:O} {xs:List O} {fid:FuncId} {z:Nat} {av:List V} {l:List Int} {a b:S} (hf:x.fv N f=.fn fid []) (hs:RtT A fid z av l a b) (ha:xs.map (O.fv N f)=av) (h1:V.looseL av=true) (k:∀ v own n',Rw z l v own->WO A N rest (upd f d (.tup [v,.s a,.s b])) n' (own++L) K Zp):WO A N (⟨some d,none,.h (.call x xs)⟩::rest) f n L K Zp:=by
 have hr:=V.looseL_refs av h1
 rcases hs with ⟨h,hs⟩ | ⟨m,q,F,h3,h4,hs⟩
 ·exact Wr (caps:=[]) (av:=av) (rs:=[]) (Bs:=[]) hf hs (by rw [Zcf]; exact ha) (by rw [hr]; rfl) (by rw [hr]; simp) (by rw [hr]; intro _ h; cases h) (V.looseL_ren _ av h1) trivial rfl rfl rfl .nil (k .snil [] n (.nil h))
 exact KS (caps:=[]) (av:=av) (rs:=[]) (Bs:=[]) One_slT hf hs (by rw [Zcf]; exact ha) (by rw [hr]; rfl) (by rw [hr]; simp) (by rw [hr]; intro _ h; cases h) (V.looseL_ren _ av h1) trivial rfl rfl .nil (k _ [(n,_)] _ (.row h3 h4))
end
inductive Rc2 (z:Nat) (l r:List Int):V->V->List Blk->Prop
 | nn (h:l=[]) (h':r=[]):Rc2 z l r .snil .snil []
 | rn {m q:Nat} {md:Md} {c:Cp} {F:Nat->Int} (h':r=[]) (hl:l.length=m*z) (hF:∀ i,i < l.length->F i=l.getD i 0):Rc2 z l r (.sl 0 0 m z c) .snil [.sc md q (ia F)]
 | nr {m q:Nat} {md:Md} {c:Cp} {F:Nat->Int} (h:l=[]) (hl:r.length=m*z) (hF:∀ i,i < r.length->F i=r.getD i 0):Rc2 z l r .snil (.sl 0 0 m z c) [.sc md q (ia F)]
 | rr {m q m' q':Nat} {md md':Md} {c c':Cp} {F F':Nat->Int} (hl:l.length=m*z) (hF:∀ i,i < l.length->F i=l.getD i 0) (hl':r.length=m'*z) (hF':∀ i,i < r.length->F' i=r.getD i 0):Rc2 z l r (.sl 0 0 m z c) (.sl 1 0 m' z c') [.sc md q (ia F),.sc md' q' (ia F')]
theorem Rc2.rx {z:Nat} {l r:List Int} {v w:V} {Bs:List Blk} (h:Rc2 z l r v w Bs):∃ own own',YZ 0 Bs=own++(own'++[])/\Rx z l v own/\Rx z r w own':=by
 cases h with
 | nn h h'=>exact ⟨[],[],rfl,.nil h,.nil h'⟩
 | rn h' hl hF=>exact ⟨[_],[],rfl,.row hl hF,.nil h'⟩
 | nr h hl hF=>exact ⟨[],[_],rfl,.nil h,.row hl hF⟩
 | rr hl hF hl' hF'=>exact ⟨[_],[_],rfl,.row hl hF,.row hl' hF'⟩
def Rd2 (A:AP) (fid:FuncId) (z:Nat) (l r:List Int) (x:V):Prop:=∀ v w Bs,Rc2 z l r v w Bs->RB A fid [v,w] Bs x Bs
theorem Rc2.sc {z:Nat} {l r:List Int} {v w:V} {Bs:List Blk} (h:Rc2 z l r v w Bs):∀ p∈YZ 0 Bs,∃ md m g,p.2=Blk.sc md m g:=by
 cases h <;> intro p hp <;> simp [YZ] at hp
 ·exact hp ▸ ⟨_,_,_,rfl⟩
 ·exact hp ▸ ⟨_,_,_,rfl⟩
 rcases hp with rfl | rfl <;> exact ⟨_,_,_,rfl⟩
theorem Rd2_of {A:AP} {fid:FuncId} {z:Nat} {l r:List Int} {x:V} (h:∀ v w Bs,Rc2 z l r v w Bs→WR A fid [v,w] Bs fun v' _ L'=>v'=x∧∀ p∈YZ 0 Bs,p∈L'):Rd2 A fid z l r x:=fun v w Bs hc=>by
 obtain ⟨v',σ',n',L',h1,h2,rfl,h3⟩:=h v w Bs hc
 exact ⟨σ',h1,K0 h2 fun p hp=>⟨h3 p hp,hc.sc p hp⟩⟩
section
variable {A:AP} {N:Nat} {f:FE} {n:Nat} {L:HA} {K:KN} {Zp:V->KN} {rest:List I} {d:Nat}
theorem own_ne {σ:Heap} {b b':Nat} {B B':Blk} {L0:HA} (h:Hp σ n ((b,B)::(b',B')::L0)):b≠b':=by
 have hpw:=(HL_iff.1 h.2).2
 rw [List.pairwise_cons] at hpw
 exact hpw.1 _ (.head _)
theorem WO_ne {l:List I} {b b':Nat} {B B':Blk} {L1:HA} (hp:List.Perm L ((b,B)::(b',B')::L1)) (k:b≠b'->WO A N l f n L K Zp):WO A N l f n L K Zp:=fun σ hσ=>k (own_ne (hσ.perm hp)) σ hσ
theorem xW {x x1 x2:O} {fid:FuncId} {z:Nat} {l r:List Int} {v w a:V} {own own' L0:HA} (hf:x.fv N f=.fn fid []) (hs:Rd2 A fid z l r a) (ha:[x1,x2].map (O.fv N f)=[v,w]) (hr:Rx z l v own) (hr':Rx z r w own') (hp:List.Perm L (own++(own'++L0))) (h3:a.loose=true)
  (k:WO A N rest (upd f d a) n L K Zp):WO A N (⟨some d,none,.h (.call x [x1,x2])⟩::rest) f n L K Zp:=by
 have hm:∀ p∈own,p∈L:=fun p h=>hp.mem_iff.2 (ZbV _ h)
 have hm':∀ p∈own',p∈L:=fun p h=>hp.mem_iff.2 (ZbM _ (ZbV _ h))
 cases hr with
 | nil h =>
  cases hr' with
  | nil h'=>exact Wr (caps:=[]) (av:=[.snil,.snil]) (rs:=[]) hf (hs _ _ [] (.nn h h')) ha rfl (by simp [V.refsL,V.refs]) (by simp [V.refsL,V.refs]) rfl trivial rfl rfl h3 .nil k
  | @row b m q md c F hl hF =>
   have hb:=hm' _ (.head _)
   exact Wr (caps:=[]) (av:=[.snil,.sl b 0 m z c]) (rs:=[b]) hf (hs _ (.sl 0 0 m z c) [.sc md q (ia F)] (.nr h hl hF)) ha (by simp [V.refsL,V.refs,We]) (by simp [V.refsL,V.refs]) (by simp [V.refsL,V.refs]) (by simp [rnL,V.renL,V.ren,pos]) ⟨hb,⟨_,_,_,rfl⟩,trivial⟩ rfl rfl h3 (.cons (UO hb) .nil) k
 | @row b m q md c F hl hF =>
  have hb:=hm _ (.head _)
  cases hr' with
  | nil h'=>exact Wr (caps:=[]) (av:=[.sl b 0 m z c,.snil]) (rs:=[b]) hf (hs (.sl 0 0 m z c) _ [.sc md q (ia F)] (.rn h' hl hF)) ha (by simp [V.refsL,V.refs,We]) (by simp [V.refsL,V.refs]) (by simp [V.refsL,V.refs]) (by simp [rnL,V.renL,V.ren,pos]) ⟨hb,⟨_,_,_,rfl⟩,trivial⟩ rfl rfl h3 (.cons (UO hb) .nil) k
  | @row b' m' q' md' c' F' hl' hF' =>
   have hb':=hm' _ (.head _)
   refine WO_ne (b:=b) (b':=b') hp fun hne=>?_
   have hbe:(b == b')=false:=beq_eq_false_iff_ne.2 hne
   exact Wr (caps:=[]) (av:=[.sl b 0 m z c,.sl b' 0 m' z c']) (rs:=[b,b']) hf (hs (.sl 0 0 m z c) (.sl 1 0 m' z c') [.sc md q (ia F),.sc md' q' (ia F')] (.rr hl hF hl' hF')) ha (by simp [V.refsL,V.refs,We,hne.symm]) (by simp [V.refsL,V.refs]) (by simp [V.refsL,V.refs]) (by simp [rnL,V.renL,V.ren,pos,hbe]) ⟨hb,⟨_,_,_,rfl⟩,hb',⟨_,_,_,rfl⟩,trivial⟩ rfl rfl h3 (.cons (UO hb) (.cons (UO hb') .nil)) k
end
section
variable {A:AP} {N:Nat} {f:FE} {n:Nat} {K:KN} {Zp:V->KN} {rest:List I} {d:Nat}
end
inductive Bw (el:TypeId) (s:ByteArray):V->HA->Prop
 | nil (h:s.size=0):Bw el s .snil []
 | row {b q:Nat} {md:Md} {g:Nat->S} (hmd:md=.grow\/md=.gty el) (hF:∀ i,i < s.size->g i=Xv s i):Bw el s (.sl b 0 s.size 1 .whole) [(b,.sc md q g)]
section
variable {A:AP} {N:Nat} {f:FE} {n:Nat} {L:HA} {K:KN} {Zp:V->KN} {rest:List I} {d:Nat}
end
end Go.Am
