/- Texts of this seat,joined. -/
import Derived.Lib.Builder
import Derived.Deep.QuietTactic
import Derived.BigQuiet
import Derived.StillTailTactics
import Derived.Test.YtlkighkfkdpncaaGreatDoorM1
set_option linter.defProp false
set_option linter.unusedSimpArgs false
set_option linter.unusedVariables false
namespace Go.Proofs.YtlkighkfkdpncaaGreatDoor
open Go Go.Am Go.RowKit
def vg[Bas]{ι:Inj}{σ:Heap}{W W':World}(hR:RelW ι σ W){b:Nat}{p:Am.Place}{x x':Blk}(hp:ι b=some p)(hb:σ[b]? = some x)(hm:x.mut=true)
  (hs:Same W W') (hh:∀ c,c<W.heap.size->c≠p.c->W'.heap[c]? = W.heap[c]?) (hx:BlkR ι W' x' p):Post ι σ W ι (σ.set b x') W':=by
 have hlt:b<σ.length:=by
  rcases Zcr b σ.length with h|h
  ·exact h
  rw[ZbQ h]at hb;simp at hb
 have hmut:∀ c,mutb (σ.set b x') c->mutb σ c:=by
  rintro c ⟨y,hy,hym⟩;by_cases e:b=c
  ·subst e;exact⟨x,hb,hm⟩
  rw[ZbX e]at hy;exact⟨y,hy,hym⟩
 have hlive:∀ c,X9 (σ.set b x') c->X9 σ c:=by
  rintro c ⟨y,hy,hym⟩;by_cases e:b=c
  ·subst e;exact⟨x,hb,qZ hm⟩
  rw[ZbX e]at hy;exact⟨y,hy,hym⟩
 refine⟨hs,.refl ι,⟨fun c q hq=>Zb3 (hR.lt c q hq) hs.size,fun c q y hq hy=>?_,fun c c' q q' hq hq' hne h1 h2=>hR.sep c c' q q' hq hq' hne (hmut c h1) (hlive c' h2),fun c q hq h=>hR.gap c q hq (hmut c h),Zcq hR.bsz hs.size,fun c hc=>(hh c (Zb3 hc hR.bsz) (by have:=hR.gap b p hp ⟨x,hb,hm⟩;omega)).trans (hR.bas c hc)⟩,by simp,fun c hc1 hc=>?_,fun c q hq hn=>by simp[hq]at hn,fun c _ h=>hmut c h,fun c _ h=>hlive c h⟩
 ·by_cases e:b=c
  ·subst e;rw[hp]at hq;injection hq with hq
   subst hq;rw[ZbL hlt]at hy;injection hy with hy
   subst hy;exact hx
  rw[ZbX e]at hy;have hold:=hR.blk c q y hq hy
  cases hyl:y.live with
  |true=>exact hold.keep (.refl ι) (hh _ (hR.lt c q hq) (fun hc=>hR.sep b c p q hp hq e ⟨x,hb,hm⟩ ⟨y,hy,hyl⟩ hc.symm))
  |false=>cases y <;> simp[Blk.live]at hyl;trivial
 exact hh c hc1 (fun e=>hc b p hp ⟨x,hb,hm⟩ e.symm)
def wA{α:Type}[Inhabited α]{ι:Inj}{W:World}{q:Nat}{g:Nat->S}{p:Am.Place}(hB:BlkR ι W (.sc .grow q g) p)(enc:α->Value)(d:Array α)(l:List Int)(hl:d.size=l.length)(hq:l.length<=q)(hd:∀ i,i<l.length->enc d[i]! = .int .i64 (l.getD i 0))(n:Nat)(os:Array Obj)(hlt:p.c<W.heap.size) :
  BlkR ι (Sort.grow (Sort.putRow enc (Sort.ahead W n) p.c p.base d) os) (.sc .grow q (EL l g)) p/\(∀ c,c<W.heap.size->c≠p.c->(Sort.grow (Sort.putRow enc (Sort.ahead W n) p.c p.base d) os).heap[c]? = W.heap[c]?):=by
 obtain⟨h1,h2,h3⟩:=hB
 obtain⟨hb0,hle,cs,T,hc,hs,hT⟩:=h3 rfl
 have hH:(Sort.putRow enc (Sort.ahead W n) p.c p.base d).heap=W.heap.modify p.c (Sort.onCells (Sort.putCells enc p.base d)):=rfl
 have hsz:(Sort.putRow enc (Sort.ahead W n) p.c p.base d).heap.size=W.heap.size:=by rw[hH];simp
 have hg:(Sort.grow (Sort.putRow enc (Sort.ahead W n) p.c p.base d) os).heap[p.c]? = some (.cells (Sort.putCells enc p.base d cs) T (0,0)):=by
  rw[Sort.heap_grow_old _ _ (by rw[hsz];exact hlt),hH,Array.getElem?_modify,ZcA rfl,hc];rfl
 have hcell:∀ i,(Sort.grow (Sort.putRow enc (Sort.ahead W n) p.c p.base d) os).cell? ⟨p.c,p.base+i,none⟩=(Sort.putCells enc p.base d cs)[p.base+i]?:=fun i=>Lib.cell_of_heap hg _
 refine⟨⟨h1,fun i hi=>?_,fun _=>⟨hb0,hle,_,T,hg,?_,hT⟩⟩,fun c hc1 hc2=>?_⟩
 ·rw[hcell];have h0:=h2 i hi;rw[Lib.cell_of_heap hc]at h0;unfold Sort.putCells EL;rw[Array.getElem?_mapIdx,h0,Option.map_some];by_cases hil:i<l.length
  ·rw[ZcA (by omega),show Nat.blt i l.length=true from ZbN hil,cond_true,Nat.add_sub_cancel_left,hd i hil];rfl
  have hbf:Nat.blt i l.length=false:=by
   cases h:Nat.blt i l.length with
   |false=>rfl
   |true=>exact absurd (YF h) (by omega)
  rw[Zcz (by omega),hbf,cond_false]
 ·unfold Sort.putCells;rw[Array.size_mapIdx];exact hs
 rw[Sort.heap_grow_old _ _ (by rw[hsz];exact hc1),hH,Array.getElem?_modify,Zcz (fun e=>hc2 e.symm)]
def D5{x:S}(h:VJ x=true):x.val=.int .i64 (Wm x):=by
 cases x with
 |int k n=>cases k <;> first|rfl|cases h
 |_=>cases h
def JX{p:Nat->Bool}:∀ {n:Nat},Xp n p=true->∀ i,i<n->p i=true
 |n+1,h,i,hi=>by
  have h:(Xp n p&&p n)=true:=h;rw[Zca]at h;by_cases e:i=n
  ·subst e;exact h.2
  exact JX h.1 i (by omega)
def Qk(g:Nat->S)(m:Nat):(X1 g m).length=m:=by simp[X1]
def sa(g:Nat->S){m i:Nat}(hi:i<m):(X1 g m).getD i 0=Wm (g i):=by
 unfold X1;rw[ZbD,Zb9,ZbZ hi];rfl
def wv(l:List Int){i:Nat}(hi:i<l.length):l.toArray[i]! = l.getD i 0:=by
 rw[ZbD,ZbH hi,getElem!_pos l.toArray i (by simpa using hi)];simp
def qN{ι:Inj}{W:World}{q m:Nat}{g:Nat->S}{p:Am.Place}(hB:BlkR ι W (.sc .grow q g) p)(hm:m<=q)(hg:∀ i,i<m->VJ (g i)=true):Sort.Holds (Value.int .i64) W p.c p.base (X1 g m).toArray:=by
 obtain⟨h1,h2,h3⟩:=hB;obtain⟨hb0,hle,cs,T,hc,hs,hT⟩:=h3 rfl;intro j hj;have hj:j<m:=by simpa[X1] using hj
 refine⟨?_,Lib.frozen_of_heap hc _⟩;rw[h2 j (by omega),D5 (hg j hj),wv _ (by rw[Qk];exact hj),sa g hj]
section
variable{σ σ':Heap}{args:List V}{v:V}{ι:Inj}{W:World}{av:List Value}
def srt_ok[Bas](h:TO args σ=some (v,σ'))(hR:RelW ι σ W)(hD:Dom ι σ)(hv:VRL ι args av) :
  Calls Tryz.prog 175 av.toArray W fun e W'=>∃ ι' v',e=.returned v'/\VR ι' v v'/\Post ι σ W ι' σ' W':=by
 unfold TO at h
 split at h
 ·injection h with h
  injection h with h1 h2
  subst h1;subst h2;simp only[VRL,VR]at hv;obtain⟨_,_,rfl,rfl,rfl⟩:=hv;refine(Tryz.slices_Sort_int_none none 0 W).mono ?_;rintro e W' ⟨rfl,rfl⟩;exact⟨ι,_,G,⟨[],G,G⟩,(QPost.refl hR).post⟩
 ·rename_i b m;split at h
  ·rename_i q g hb
   cases hc:(Xp m (fun i=>VJ (g i))&&Nat.blt m 4611686018427387904) with
   |false=>rw[hc]at h;cases h
   |true=>
    rw[hc,cond_true]at h;rw[Zca]at hc;injection h with h
    injection h with h1 h2
    subst h1;subst h2;simp only[VRL,VR]at hv;obtain⟨_,_,rfl,⟨p,c,hp,hle,rfl,hcap⟩,rfl⟩:=hv;have hB:=hR.blk b p _ hp hb;have hlt:=hR.lt b p hp;have hmq:m<=q:=by have:=hB.1;omega
    have hm:m<4611686018427387904:=YF hc.2;have hcon:=Tryz.slices_Sort_int p.c p.base c (X1 g m) W (qN hB hmq (JX hc.1)) hlt (by rw[Qk];exact hm);rw[Qk]at hcon;refine hcon.mono ?_;rintro e W' ⟨rfl,n,os,rfl⟩;have hsl:(KI (X1 g m)).length=m:=by rw[(Q5 _).length_eq,Qk]
    obtain⟨r1,r2⟩:=wA hB (Value.int .i64) (KI (X1 g m)).toArray (KI (X1 g m)) (by simp) (by omega) (fun i hi=>congrArg (Value.int .i64) (wv _ hi)) n os hlt;refine⟨ι,_,G,⟨[],G,G⟩,vg hR hp hb G ⟨G,G,G,?_⟩ r2 r1⟩;simp[Sort.grow,Sort.putRow,Sort.mapBlock,Sort.ahead]
  cases h
 cases h
end
end Go.Proofs.YtlkighkfkdpncaaGreatDoor
namespace Go.Proofs.YtlkighkfkdpncaaGreatDoor
open Go Go.Am Go.RowKit Go.Sort Go.Lib
set_option maxHeartbeats 4000000 in
def qd(H:Nat->Int)(t:Int)(ht:0<=t/\t<64)(B o:Nat)(W:World)(hc:∀ i,i<136->W.cell? ⟨B,o+i,none⟩=some (.int .i64 (H i))) :
  FnGives Tryz.prog 155 #[.pointer (some ⟨B,o,none⟩)] #[.int .i64 t] (.bool (UT (ia H) t)) W:=by
 show Calls Tryz.prog 155 #[.int .i64 t,.pointer (some ⟨B,o,none⟩)] W _
 have h1:=hc (t.toNat*2) (by omega)
 have h2:=hc (t.toNat*2+1) (by omega)
 have h3:=hc 135 (by omega)
 have hr:UT (ia H) t=(!(decide (H (t.toNat*2)=0)&&decide (H (t.toNat*2+1)=0))&&decide (H (t.toNat*2+1)=H 135)):=rfl
 rw[hr]
 clear hr hc
 obtain⟨h0,h64⟩:=ht
 generalize H (t.toNat*2)=a at *
 generalize H (t.toNat*2+1)=b at *
 generalize H 135=c at *
 have g2:W.cell? ⟨B,o+t.toNat*2+1,none⟩=some (.int .i64 b):=h2
 have g3:W.cell? ⟨B,o+134+1,none⟩=some (.int .i64 c):=h3
 by_cases e1:a=0 <;> by_cases e2:b=0 <;> by_cases e3:b=c
 all_goals
  go_enter Tryz.func155,Tryz.ntmps155
  go_wp2
  go_quiet ((fail))
  go_wp2
  all_goals (go_ret;exact⟨(by simp[*] <;> first|omega|(rw[Zce];simp <;> omega)),_,rfl⟩)
def Ee(x:Fin 64):Value:=.int .i64 (x.val:Int)
def pw:∀ {l:List Int},(∀ t∈l,0≤t∧t<64)→∃ d:List (Fin 64),d.map (fun x=>(x.val:Int))=l
 |[],_=>⟨[],rfl⟩
 |t::l,h=>by
  obtain⟨d,hd⟩:=pw fun u hu=>h u (.tail _ hu)
  have:=h t ZM;exact⟨⟨t.toNat,by omega⟩::d,by rw[List.map_cons,hd];simp;omega⟩
def Zbs{p:Int->Bool}(d:List (Fin 64)):(d.map (fun x=>(x.val:Int))).filter p=(d.filter fun x=>p (x.val:Int)).map fun x=>(x.val:Int):=by
 rw[List.filter_map];rfl
def arr64(D:List (Fin 64)){i:Nat}(hi:i<D.length):Ee D.toArray[i]! = .int .i64 ((D.map fun x=>(x.val:Int)).getD i 0):=by
 rw[ZbD,Zb9,ZbH hi,getElem!_pos D.toArray i (by simpa using hi)];simp[Ee]
def pD(w:World):Sort.grow w #[]=w:=by
 cases w;simp[Sort.grow]
def ZaX(fv:Value)(W:World):Calls Tryz.prog 156 #[.slice none 0 0,fv] W fun e w'=>e=.returned (.slice none 0 0)/\w'=W:=by
 go_enter Tryz.func156,Tryz.ntmps156;go_wp2_with (go_at_call 174;refine(Tryz.slices_IndexFunc_empty (α:=Int) none 0 fv W).mono ?_;rintro e w' ⟨rfl,rfl⟩);go_ret;exact⟨G,G⟩
section
variable{σ σ':Heap}{args:List V}{v:V}{ι:Inj}{W:World}{av:List Value}
def del_ok[Bas](h:Tz 155 args σ=some (v,σ'))(hR:RelW ι σ W)(hD:Dom ι σ)(hv:VRL ι args av) :
  Calls Tryz.prog 156 av.toArray W fun e W'=>∃ ι' v',e=.returned v'/\VR ι' v v'/\Post ι σ W ι' σ' W':=by
 have eg:∀ args w,(callFunc 155 args).run Tryz.prog w=.ok (.enter 155 args) w:=enters_of Tryz.func155 (by kernel_rfl) rfl
 unfold Tz at h
 split at h
 ·rename_i f c;split at h
  ·rename_i hf;subst hf;split at h
   ·rename_i md hcell hc;injection h with h
    injection h with h1 h2
    subst h1;subst h2;simp only[VRL,VR]at hv;obtain⟨_,_,rfl,rfl,_,_,rfl,⟨cs,rfl,_⟩,rfl⟩:=hv;refine(ZaX _ W).mono ?_;rintro e W' ⟨rfl,rfl⟩;exact⟨ι,_,G,G,(QPost.refl hR).post⟩
   cases h
  cases h
 ·rename_i b m f c;split at h
  ·rename_i q g md hh hb hc
   cases hcond:(decide (f=155)&&(decide (b≠c)&&(Xp m (fun i=>VJ (g i)&&(decide (0<=Wm (g i))&&decide (Wm (g i)<64)))&&(Xp 136 (fun i=>VJ (hh i))&&Nat.ble m 4611686018427387904)))) with
   |false=>rw[hcond]at h;cases h
   |true=>
    rw[hcond,cond_true]at h;injection h with h
    injection h with h1 h2
    subst h1;subst h2;simp only[Zca,Zb7]at hcond;obtain⟨rfl,hne,hg,hh64,hm⟩:=hcond;have hm:=YF hm;have hg1:∀ i,i<m->VJ (g i)=true/\0<=Wm (g i)/\Wm (g i)<64:=fun i hi=>by
     have:=JX hg i hi;simpa only[Zca,Zb7] using this
    simp only[VRL,VR]at hv;obtain⟨_,_,rfl,⟨p,cap,hp,hle,rfl,hcap⟩,_,_,rfl,⟨cs,rfl,_,_,rfl,⟨pc,hpc,hle2,rfl⟩,rfl⟩,rfl⟩:=hv;obtain⟨_,hb0,hcp,hmc,hsz,hmn⟩:=hcap;have hB:=hR.blk b p _ hp hb;have hC:=hR.blk c pc _ hpc hc;have hlt:=hR.lt b p hp;have hltc:=hR.lt c pc hpc;have hpne:p.c≠pc.c:=hR.sep b c p pc hp hpc hne ⟨_,hb,rfl⟩ ⟨_,hc,rfl⟩;have hq:q=m:=by have:=hB.1;omega
    obtain⟨d,hd⟩:=pw (l:=X1 g m) (fun t ht=>by
     unfold X1 at ht;obtain⟨i,hi,rfl⟩:=List.mem_map.1 ht;exact(hg1 i (Zck.1 hi)).2)
    have hdl:d.length=m:=by rw[<-Qk g m,<-hd,List.length_map]
    have hcell:∀ i,i<136->W.cell? ⟨pc.c,pc.base+0+i,none⟩=some (.int .i64 (Wm (hh i))):=fun i hi=>by
     rw[Nat.add_zero,hC.2.1 i hi,D5 (JX hh64 i hi)]
    have hH:Sort.Holds Ee W p.c (p.base+0) d.toArray:=fun j hj=>by
     have hj:j<m:=by simpa[hdl] using hj
     have h0:=qN (m:=m) hB (by omega) (fun i hi=>(hg1 i hi).1) j (by simpa[X1] using hj);refine⟨?_,h0.2⟩;rw[Nat.add_zero,h0.1,wv _ (by rw[Qk];exact hj)];have e:(X1 g m).getD j 0=((d.toArray[j]!).val:Int):=by
      rw[<-hd,ZbD,Zb9,ZbH (by omega),getElem!_pos d.toArray j (by simpa[hdl] using hj)];simp
     rw[e];rfl
    have hcon:=Tryz.slices_DeleteFunc Ee (fun _=>rfl) (fun x=>UT hh (x.val:Int)) 155 #[.pointer (some ⟨pc.c,pc.base+0,none⟩)] eg 0 Tryz.zeroValue3 p.c (p.base+0) cap d.toArray W
     (fun W' x hb'=>qd (fun i=>Wm (hh i)) (x.val:Int) (by omega) pc.c (pc.base+0) W' (fun i hi=>(hb'.cell (p:=⟨pc.c,pc.base+0+i,none⟩) hltc).trans (hcell i hi)))
     (fun n os dk x _=>qd (fun i=>Wm (hh i)) (x.val:Int) (by omega) pc.c (pc.base+0) _ (fun i hi=>by
      unfold sortWorld;rw[cell?_grow _ _ _ (by show pc.c<(putRow _ _ _ _ _).heap.size;rw[size_putRow];exact hltc),cell?_putRow_other _ _ p.c (p.base+0) _ _ (Or.inl (fun e=>hpne e.symm))];exact hcell i hi)) hH (by simp[hdl];omega) (by simp[hdl];omega)
    rw[show d.toArray.size=m by simp[hdl]]at hcon;rw[show d.toArray.toList=d from rfl]at hcon;have hL:(d.filter fun x=>!UT hh (x.val:Int)).map (fun x=>(x.val:Int))=(X1 g m).filter fun t=>!UT hh t:=by
     rw[<-hd,Zbs (p:=fun t=>!UT hh t)]
    have hDm:(d.filter fun x=>!UT hh (x.val:Int)).length<=m:=by rw[<-hdl];exact ZbU _ _
    generalize (d.filter fun x=>!UT hh (x.val:Int))=D at hcon hL hDm;generalize ((X1 g m).filter fun t=>!UT hh t)=l at hL ⊢;refine hcon.mono ?_;rintro e W' ⟨rfl,n,rfl⟩;have hlen:l.length=D.length:=by rw[<-hL,List.length_map]
    have hfull:(D++List.replicate (m-D.length) (0:Fin 64)).map (fun x=>(x.val:Int))=l++List.replicate (m-D.length) 0:=by
     rw[List.map_append,hL,List.map_replicate];rfl
    have hrp:=wA hB Ee (D++List.replicate (m-D.length) (0:Fin 64)).toArray (l++List.replicate (m-D.length) 0) (by simp[hlen]) (by simp[hlen];omega)
     (fun i hi=>by rw[<-hfull];exact arr64 _ (by rw[<-hfull,List.length_map]at hi;exact hi)) n #[] hlt
    rw[pD]at hrp;obtain⟨⟨r1,r2,r3⟩,r4⟩:=hrp;have hlt':p.c<(putRow Ee (Sort.ahead W n) p.c p.base (D++List.replicate (m-D.length) (0:Fin 64)).toArray).heap.size:=by rw[size_putRow];exact hlt
    refine⟨ι.put σ.length ⟨p.c,p.base,l.length,p.cap,p.sz⟩,_,G,⟨⟨p.c,p.base,l.length,p.cap,p.sz⟩,cap,Inj.put_same _ _ _,by simp,by rw[hlen],rfl,hb0,hcp,by omega,hsz,by simp⟩,?_⟩;change Post _ _ _ _ _ (putRow Ee (Sort.ahead W n) p.c p.base (D++List.replicate (m-D.length) (0:Fin 64)).toArray);refine TH hR hD hp hb G ⟨G,G,G,by rw[size_putRow];exact Zcs _⟩ r4 (.inl G) hlt' ⟨G,fun i hi=>?_,fun _=>?_⟩
    ·have h0:=r2 i (by omega);rw[h0];have hi':i<l.length:=hi;unfold EL;rw[show Nat.blt i (l++List.replicate (m-D.length) (0:Int)).length=true from ZbN (by simp;omega),cond_true,ZbD,ZbF hi',<-ZbD]
    obtain⟨x1,x2,x3⟩:=r3 rfl;exact⟨x1,by show l.length<=p.sz;omega,x3⟩
  cases h
 cases h
end
end Go.Proofs.YtlkighkfkdpncaaGreatDoor
namespace Go.Proofs.YtlkighkfkdpncaaGreatDoor
open Go Go.Am Go.RowKit Go.Sort Go.Lib
section
variable{σ σ':Heap}{args:List V}{v:V}{ι:Inj}{W:World}{av:List Value}
def grw_ok[Bas](h:Ty args σ=some (v,σ'))(hR:RelW ι σ W)(hD:Dom ι σ)(hv:VRL ι args av) :
  Calls Tryz.prog 167 av.toArray W fun e W'=>∃ ι' v',e=.returned v'/\VR ι' v v'/\Post ι σ W ι' σ' W':=by
 unfold Ty at h
 split at h
 ·rename_i n;split at h
  ·rename_i hn;injection h with h
   injection h with h1 h2
   subst h1;subst h2;simp only[VRL,VR,S.val]at hv;obtain⟨_,_,rfl,rfl,_,_,rfl,rfl,rfl⟩:=hv;obtain⟨m,rfl⟩:∃ m:Nat,n=m:=⟨n.toNat,by omega⟩
   have h169:(Tryz.laysGrow_ren).t 25=169:=rfl;obtain⟨i,zv,hi,hisz,hiby,hizero,hzv⟩:=wy (P:=Tryz.prog) (e:=169) (n:=2) (bytes:=16) (z:=.ints 2) (by kernel_rfl) (by kernel_rfl) (by kernel_rfl);have hzc:zv.cells.size=2:=by rw[<-Vu hzv];rfl
   have hcon:=Any8.slices_Grow_grow Tryz.laysGrow i zv hi hizero (by omega) none 0 0 m [] W (Zcs _) (by omega) (by rw[hiby];omega) (by omega) (by simp) (fun _=>rfl) (fun a e=>by cases e);refine Calls.mono hcon ?_;rintro e W' ⟨rfl,rfl⟩;have hge:=grownCap_ge W (0+m) 0 169;refine⟨ι.put σ.length ⟨W.heap.size,0,0,grownCap W (0+m) 0 169,grownCap W (0+m) 0 169*2⟩,_,G,⟨⟨W.heap.size,0,0,grownCap W (0+m) 0 169,grownCap W (0+m) 0 169*2⟩,_,Inj.put_same _ _ _,by simp,rfl,rfl,rfl,rfl,by omega,rfl,by simp⟩,?_⟩;refine xO hR hD _ _ _ _ G (fun W' hw=>⟨G,fun i hi=>absurd hi (by simp),fun _=>⟨G,Zct _,_,_,hw,?_,trivial⟩⟩);have hge':m<=grownCap W m 0 169:=by simpa using hge
   simp[size_zeroCells,hzc,h169];omega
  cases h
 cases h
end
end Go.Proofs.YtlkighkfkdpncaaGreatDoor
namespace Go.Proofs.YtlkighkfkdpncaaGreatDoor
open Go Go.Am Go.RowKit Go.Sort Go.Lib
def or3M(a b c:Int):Int:=if a≠0 then a else if b≠0 then b else c
set_option maxHeartbeats 4000000 in
def or3(a b c:Int)(B:Nat)(W:World)(h0:W.cell? ⟨B,0,none⟩=some (.int .i64 a))(h1:W.cell? ⟨B,0+1,none⟩=some (.int .i64 b))(h2:W.cell? ⟨B,0+2,none⟩=some (.int .i64 c)) :
  Calls Tryz.prog 161 #[.slice (some ⟨B,0,none⟩) 3 3] W fun e w'=>e=.returned (.int .i64 (or3M a b c))/\w'=W:=by
 unfold or3M
 go_enter Tryz.func161,Tryz.ntmps161
 go_wp2
 go_loop [8] (fun i=>∃ k:Nat,k<=3/\i=.int .i64 k/\(0<k->a=0)/\(1<k->b=0)/\(2<k->c=0)) (fun i=>3-(intOf i).toNat)
 case atStart=>exact⟨0,by omega,rfl,by omega,by omega,by omega⟩
 case round=>
  obtain⟨k,hk,rfl,k0,k1,k2⟩:=hrel
  obtain rfl|rfl|rfl|rfl:k=0\/k=1\/k=2\/k=3:=by omega
  ·by_cases e:a=0
   ·go_wp2;all_goals exact⟨⟨1,by omega,rfl,fun _=>e,by omega,by omega⟩,by simp[intOf]⟩
   go_wp2;all_goals (go_ret;exact⟨by simp[*],rfl⟩)
  ·have k0:=k0 (by omega);subst k0;by_cases e:b=0
   ·go_wp2;all_goals exact⟨⟨2,by omega,rfl,by simp,fun _=>e,by omega⟩,by simp[intOf]⟩
   go_wp2;all_goals (go_ret;exact⟨by simp[*],rfl⟩)
  ·have k0:=k0 (by omega);have k1:=k1 (by omega);subst k0;subst k1;by_cases e:c=0
   ·go_wp2;all_goals exact⟨⟨3,by omega,rfl,by simp,by simp,fun _=>e⟩,by simp[intOf]⟩
   go_wp2;all_goals (go_ret;exact⟨by simp[*],rfl⟩)
  have k0:=k0 (by omega)
  have k1:=k1 (by omega)
  have k2:=k2 (by omega)
  subst k0;subst k1;subst k2
  go_wp2
  all_goals (go_ret;exact⟨rfl,rfl⟩)
end Go.Proofs.YtlkighkfkdpncaaGreatDoor
namespace Go.Proofs.YtlkighkfkdpncaaGreatDoor
open Go Go.Am Go.RowKit Go.Sort Go.Lib
def jd{P:Program}{id:Nat}{Q:Exit->Act->World->Prop}{a:Act}{w W3:World}{l:List Oper}(n:Nat)(hm:P.follows .mixedOrders=true)(hB:Region.lexTailB .any l.toArray n=true)(hw:W3=w.drew)
  (h:wpStill P l.toArray W3 (fun a'=>wpList P l.toArray Q (l.drop n) a' W3) (l.take n) a):(Code.region id l.toArray true).wp P Q a w:=by
 subst hw
 exact wp_region_still_tail n hm hB h
def TX(m:Mv):List Value:=[.int .i64 m.1,.int .i64 m.2.1,.int .i64 m.2.2]
def wu(x y:Mv):Int:=or3M (Lib.compareInt x.1 y.1) (Lib.compareInt x.2.1 y.2.1) (Lib.compareInt x.2.2 y.2.2)
set_option maxRecDepth 100000 in
set_option maxHeartbeats 1000000 in
def rF(x y:Mv)(W:World):Calls Tryz.prog 129 #[.agg (TX x).toArray,.agg (TX y).toArray] W fun e w'=>e=.returned (.int .i64 (wu x y))/\∃ q os',w'=grow (W.drewN q) os':=by
 obtain⟨a,b,c⟩:=x;obtain⟨a',b',c'⟩:=y;have hc:=fun(x y:Int) (W':World)=>AnyG.cmp_Compare_int Tryz.laysCmp x y W'
 have hk:=fun(x y:Int) (W':World)=>AnyG.cmp_Compare_int Tryz.laysCmpK x y W'
 change ∀ x y W',Calls Tryz.prog 162 _ _ _ at hc;change ∀ x y W',Calls Tryz.prog 163 _ _ _ at hk;show Calls _ _ #[.agg #[.int .i64 a,.int .i64 b,.int .i64 c],.agg #[.int .i64 a',.int .i64 b',.int .i64 c']] _ _;unfold wu;go_enter Tryz.func129,Tryz.ntmps129;go_wp2;obtain⟨W3,hW3⟩:∃ W3,W3=((W.alloc (Obj.cells #[Value.int IntKind.i64 a,Value.int IntKind.i64 b,Value.int IntKind.i64 c] 31)).alloc (Obj.cells #[Value.int IntKind.i64 a',Value.int IntKind.i64 b',Value.int IntKind.i64 c'] 31)).drew:=⟨_,rfl⟩
 have c0:W3.cell? ⟨W.heap.size,0,none⟩=some (.int .i64 a):=by subst hW3;simp
 have c1:W3.cell? ⟨W.heap.size,1,none⟩=some (.int .i64 b):=by subst hW3;simp
 have c2:W3.cell? ⟨W.heap.size,2,none⟩=some (.int .i64 c):=by subst hW3;simp
 have d0:W3.cell? ⟨W.heap.size+1,0,none⟩=some (.int .i64 a'):=by subst hW3;simp
 have d1:W3.cell? ⟨W.heap.size+1,1,none⟩=some (.int .i64 b'):=by subst hW3;simp
 have d2:W3.cell? ⟨W.heap.size+1,2,none⟩=some (.int .i64 c'):=by subst hW3;simp
 refine jd 15 (by kernel_rfl) (by kernel_rfl) hW3 ?_;simp only[List.take_succ_cons,List.take_zero,List.drop_succ_cons,List.drop_zero];repeat still_step
 still_call (hc _ _ _);repeat still_step
 still_call (hc _ _ _);repeat still_step
 still_call (hk _ _ _);repeat still_step
 refine wpStill_nil ?_;clear hc hk c0 c1 c2 d0 d1 d2;have hsz:W3.heap.size=W.heap.size+2:=by subst hW3;simp
 have HW:Hid (W3=((W.alloc (Obj.cells #[Value.int IntKind.i64 a,Value.int IntKind.i64 b,Value.int IntKind.i64 c] 31)).alloc (Obj.cells #[Value.int IntKind.i64 a',Value.int IntKind.i64 b',Value.int IntKind.i64 c'] 31)).drew):=hW3;clear hW3 hsz;generalize hp:Lib.compareInt a a'=p;generalize hq:Lib.compareInt b b'=q;generalize hr:Lib.compareInt c c'=r;go_wp2_with (go_at_call 161;refine(or3 p q r W3.heap.size (W3.alloc (Obj.cells #[Value.int IntKind.i64 p,Value.int IntKind.i64 q,Value.int IntKind.i64 r] 3)) (by simp) (by simp) (by simp)).mono ?_;rintro e w' ⟨rfl,rfl⟩);go_ret;subst hp;subst hq;subst hr;refine⟨G,1,#[Obj.cells #[Value.int IntKind.i64 a,Value.int IntKind.i64 b,Value.int IntKind.i64 c] 31,Obj.cells #[Value.int IntKind.i64 a',Value.int IntKind.i64 b',Value.int IntKind.i64 c'] 31,Obj.cells #[Value.int IntKind.i64 (Lib.compareInt a a'),Value.int IntKind.i64 (Lib.compareInt b b'),Value.int IntKind.i64 (Lib.compareInt c c')] 3],?_⟩;rw[HW.out,alloc_eq_grow,alloc_eq_grow,alloc_eq_grow,grow_grow,drew_grow,grow_grow];rfl
end Go.Proofs.YtlkighkfkdpncaaGreatDoor
namespace Go.Proofs.YtlkighkfkdpncaaGreatDoor
open Go Go.Am Go.RowKit Go.Sort Go.Lib Go.Shelf
set_option maxHeartbeats 2000000 in
def ins_nil(fv:Value)(W:World):Calls Tryz.prog 176 #[.slice none 0 0,.int .i64 0,.int .i64 0,fv] W fun e w'=>e=.returned (.tuple #[])/\w'=W:=by
 go_enter Tryz.func176,Tryz.ntmps176;go_wp2;refine wp_loop_rounds 1 ?_;rw[rounds_succ];go_wp2;go_end0;exact⟨G,G⟩
set_option maxHeartbeats 2000000 in
def pdq_nil(lim:Int)(fv:Value)(W:World):Calls Tryz.prog 159 #[.slice none 0 0,.int .i64 0,.int .i64 0,.int .i64 lim,fv] W fun e w'=>e=.returned (.tuple #[])/\w'=W:=by
 have hi:=fun W=>ins_nil fv W
 go_enter Tryz.func159,Tryz.ntmps159;go_wp2;refine wp_loop_rounds 1 ?_;rw[rounds_succ];go_wp2_with (go_at_call 176;refine(hi _).mono ?_;rintro e w' ⟨rfl,rfl⟩);(try simp only[Exit.inBlock,Exit.then]);refine bodyPost_ret (results_none G _ _ _) G ?_;exact⟨G,G⟩
set_option maxHeartbeats 2000000 in
def Zag(fv:Value)(W:World):Calls Tryz.prog 128 #[.slice none 0 0,fv] W fun e w'=>e=.returned (.tuple #[])/\w'=W:=by
 have hp:=fun lim W=>pdq_nil lim fv W
 have hl:∀ W,Calls Tryz.prog 160 #[.int .u64 0] W fun e w'=>e=.returned (.int .i64 (Lib.bitLen 0:Nat))/\w'=W:=fun W=>by
  have h:=Any.bits_Len (SlLaysF0.n15.bits (P:=Tryz.prog) (ρ:=Tryz.laysSF_ren) { Tryz.laysSF with }) 0 W (by omega) (by omega);exact h
 go_enter Tryz.func128,Tryz.ntmps128;go_wp2_with (first|(go_at_call 160;refine(hl _).mono ?_;rintro e w' ⟨rfl,rfl⟩)|(go_at_call 159;refine(hp _ _).mono ?_;rintro e w' ⟨rfl,rfl⟩));go_end0;exact⟨G,G⟩
open Go Go.Am
def ofL(x:Int):List S:=if 0<=x/\x<64 then [.int .i64 (x%8),.int .i64 (x/8),.bool true] else [.int .i64 (-1),.int .i64 (-1),.bool false]
def gi(x:Int):WR AM 49 [.s (.int .i64 x)] [] (fun v _ _=>v=.agg 3 (lc (ofL x))):=by
 refine YL (a:=a49) G G (YI _) (ZQ G) (m:=0) G (Ze (Dx G (Yc (Ye (Ze (Zj G (Zr G (Zk G (Ys (t:=5) G (fun h1=>?_) (fun h1=>?_)))))))))) <;> simp only[NM]at h1
 ·refine ZD G (Zq G (Yc (ZA G (Ze (YB G (.one G (.one G .nil)) (Kh G G (.part (v:=.agg _ _) (ys:=[_,_,_]) G G G G .nil) (Qu (v:=.agg _ _) G G G G G (V8 (ys:=[_,_,_]) G G) .here (Yc (Yi (⟨_,XM G G ZM (YW),?_⟩))))))))));(rw[show ofL x=[.int .i64 (-1),.int .i64 (-1),.bool false] from Zcz (by omega)];rfl)
 refine Yb G (Zj G (Yb G (Zr G (Zq G (Yc (Yj G (fun h2=>?_) (fun h2=>?_))))))) <;> simp only[NM]at h2
 ·refine Ze (YB G (.one G (.one G .nil)) (Kh G G (.part (v:=.agg _ _) (ys:=[_,_,_]) G G G G .nil) (Qu (v:=.agg _ _) G G G G G (V8 (ys:=[_,_,_]) G G) .here (Yc (Yi (⟨_,XM G G ZM (YW),?_⟩))))));(rw[show ofL x=[.int .i64 (-1),.int .i64 (-1),.bool false] from Zcz (by omega)];rfl)
 refine Yh (Ze (Zj G (Zv G G (Zj G (Zu G G (YB G (.one G (.one G .nil)) (Kh G G (.part (v:=.agg _ _) (ys:=[_,_,_]) G G G G (.part (v:=.s (.bool _)) (ys:=[_,_,_]) G G G G .nil)) (Qu (v:=.agg _ _) G G G G G (V8 (ys:=[_,_,_]) G G) .here (Yc (Yi (⟨_,XM G G ZM (YW),?_⟩)))))))))));(rw[show ofL x=[.int .i64 (x%8),.int .i64 (x/8),.bool true] from ZcA (by omega)];rfl)
def xg(x:Int)(h:0<=x/\x<64):RF AM 49 [.s (.int .i64 x)] (.agg 3 (lc [.int .i64 (x%8),.int .i64 (x/8),.bool true])):=by
 have:=YP (gi x);rw[ofL,ZcA h]at this;exact this
open Go Go.Am
def Dg(x:Int)(h:¬ (0<=x/\x<64)):RF AM 49 [.s (.int .i64 x)] (.agg 3 (lc [.int .i64 (-1),.int .i64 (-1),.bool false])):=by
 have:=YP (gi x);rw[ofL,Zcz h]at this;exact this
def zy(x:Int):Int:=if 0<=x/\x<64 then x%8 else -1
def Wh(x:Int):Int:=if 0<=x/\x<64 then x/8 else -1
def isM(x:Int):Bool:=decide (0<=x/\x<64)
def atM(a b:Int):Int:=if 0<=a/\a<8/\0<=b/\b<8 then b*8+a else -1
def File_in(x:Int)(h:0<=x/\x<64):WR AM 87 [.s (.int .i64 x)] [] (fun v _ _=>v=.s (.int .i64 (zy x))):=by
 refine YL (a:=a87) G G (YI _) (ZQ G) (m:=0) G (Ze (Yq G (Zf (Zj G (Yt G (xg _ h) G G G (zm G G (JV (a:=.int _ _) G G G (Zj G (Yc (Yi (⟨_,YH (v:=_) G (YW),?_⟩)))))))))));rw[zy,ZcA h];rfl
def Zat(x:Int)(h:¬ (0<=x/\x<64)):WR AM 87 [.s (.int .i64 x)] [] (fun v _ _=>v=.s (.int .i64 (zy x))):=by
 refine YL (a:=a87) G G (YI _) (ZQ G) (m:=0) G (Ze (Yq G (Zf (Zj G (Yt G (Dg _ h) G G G (zm G G (JV (a:=.int _ _) G G G (Zj G (Yc (Yi (⟨_,YH (v:=_) G (YW),?_⟩)))))))))));rw[zy,Zcz h];rfl
def Za8(x:Int):RF AM 87 [.s (.int .i64 x)] (.s (.int .i64 (zy x))):=by
 by_cases h:0<=x/\x<64
 ·exact YP (File_in x h)
 exact YP (Zat x h)
def Rank_in(x:Int)(h:0<=x/\x<64):WR AM 84 [.s (.int .i64 x)] [] (fun v _ _=>v=.s (.int .i64 (Wh x))):=by
 refine YL (a:=a84) G G (YI _) (ZQ G) (m:=0) G (Ze (Yq G (Zf (Zj G (Yt G (xg _ h) G G G (zm G G (JV (a:=.int _ _) G G G (Zj G (Yc (Yi (⟨_,YH (v:=_) G (YW),?_⟩)))))))))));rw[Wh,ZcA h];rfl
def g7(x:Int)(h:¬ (0<=x/\x<64)):WR AM 84 [.s (.int .i64 x)] [] (fun v _ _=>v=.s (.int .i64 (Wh x))):=by
 refine YL (a:=a84) G G (YI _) (ZQ G) (m:=0) G (Ze (Yq G (Zf (Zj G (Yt G (Dg _ h) G G G (zm G G (JV (a:=.int _ _) G G G (Zj G (Yc (Yi (⟨_,YH (v:=_) G (YW),?_⟩)))))))))));rw[Wh,Zcz h];rfl
def KG(x:Int):RF AM 84 [.s (.int .i64 x)] (.s (.int .i64 (Wh x))):=by
 by_cases h:0<=x/\x<64
 ·exact YP (Rank_in x h)
 exact YP (g7 x h)
def Is_in(x:Int)(h:0<=x/\x<64):WR AM 74 [.s (.int .i64 x)] [] (fun v _ _=>v=.s (.bool (isM x))):=by
 refine YL (a:=a74) G G (YI _) (ZQ G) (m:=0) G (Ze (Yq G (Zf (Zj G (Yt G (xg _ h) G G G (JV (a:=.bool _) G G G (Yq (v:=.s _) G (Yc (Yi (⟨_,YH (v:=_) G (YW),?_⟩))))))))));rw[isM,Zcl h];rfl
def Is_out(x:Int)(h:¬ (0<=x/\x<64)):WR AM 74 [.s (.int .i64 x)] [] (fun v _ _=>v=.s (.bool (isM x))):=by
 refine YL (a:=a74) G G (YI _) (ZQ G) (m:=0) G (Ze (Yq G (Zf (Zj G (Yt G (Dg _ h) G G G (JV (a:=.bool _) G G G (Yq (v:=.s _) G (Yc (Yi (⟨_,YH (v:=_) G (YW),?_⟩))))))))));rw[isM,Zci h];rfl
def U4(x:Int):RF AM 74 [.s (.int .i64 x)] (.s (.bool (isM x))):=by
 by_cases h:0<=x/\x<64
 ·exact YP (Is_in x h)
 exact YP (Is_out x h)
def kD{A:AP}{N:Nat}{f:FE}{n:Nat}{L:HA}{K:KN}{Zp:V->KN}{l:List I}{d:Nat}{kd kd':IntKind}{x:O}{a:Int}(hx:x.fv N f=.s (.int kd' a))(k:WO A N l (upd f d (.s (.int kd (kd.wrap a)))) n L K Zp):WO A N (⟨some d,none,.p (.conv kd x)⟩::l) f n L K Zp :=
 Va (v:=.s (.int kd (kd.wrap a))) (by simp only[YY,Y2,hx]) k
def zL{a:Int}(h:-9223372036854775808<=a/\a<=9223372036854775807):IntKind.u64.wrap a<8↔0<=a/\a<8:=by
 rw[IntKind.wrap_u64];omega
def atM_bd(a b:Int):-1<=atM a b/\atM a b<64:=by
 unfold atM;split <;> omega
def y4(P:Nat->Int)(ha:-9223372036854775808<=P 0/\P 0<=9223372036854775807)(hb:-9223372036854775808<=P 1/\P 1<=9223372036854775807):WR AM 134 [.agg 2 (ia P)] [] (fun v _ _=>v=.s (.bool (decide (0<=P 0/\P 0<8/\0<=P 1/\P 1<8)))):=by
 refine YL (a:=a134) G G (YI _) (ZQ G) (m:=0) G (Ze (YC G (Yq G (Zf (Zy G (Ym G G ZM G (kD G (Zr G (Zk G (Ys (t:=7) G (fun h1=>?_) (fun h1=>?_))))))))))) <;> simp only[NM]at h1
 ·refine Yb G (Zz G (Yb G (Ym G G ZM G (Yb G (kD G (Yb G (Zr G (Zq G (Zk G (Zg G (ZI ?_)))))))))));have e0:=zL ha;have e1:=zL hb;rw[Zce];simp only[Zb7,Zb1,Zcv];omega
 refine ZE G (Zq G (Zk G (Zg G (ZI ?_))));have e0:=zL ha;have e1:=zL hb;rw[Zce];simp only[Zb7,Zb1,Zcv];omega
def Jv(P:Nat->Int)(ha:-9223372036854775808<=P 0/\P 0<=9223372036854775807)(hb:-9223372036854775808<=P 1/\P 1<=9223372036854775807):WR AM 112 [.agg 2 (ia P)] [] (fun v _ _=>v=.s (.int .i64 (atM (P 0) (P 1)))):=by
 refine YL (a:=a112) G G (YI _) (ZQ G) (m:=0) G (Ze (YC G (Yq G (Yc (Ye (Ze (Yo G G ZM (Yt G (YP (y4 _ ha hb)) G G G (Yv (r:=.bool _) G G (Yc (Yj G (fun h2=>?_) (fun h2=>?_)))))))))))) <;> simp only[NM]at h2
 ·refine Ze (Yq G (Yc (Yi (⟨_,ZL G,?_⟩))));refine ZJ ?_;unfold atM;split <;> omega
 refine Yh (Ze (Zz G (Ym G G ZM G (Wn G G (by omega) (Zy G (Ym G G ZM G (Zs G G (Zj G (Yc (Yi (⟨_,ZL G,?_⟩)))))))))));refine ZJ ?_;unfold atM;split <;> omega
def At_run(a b:Int)(ha:-9223372036854775808<=a/\a<=9223372036854775807)(hb:-9223372036854775808<=b/\b<=9223372036854775807):WR AM 86 [.s (.int .i64 a),.s (.int .i64 b)] [] (fun v _ _=>v=.s (.int .i64 (atM a b))):=by
 refine YL (a:=a86) G G (YI _) (ZQ G) (m:=0) G (Ze (Yq G (Zf (Zj G (Zj G (YB G (.one G (.one G .nil)) (Yt G (YP (Jv _ ha hb)) G G G (Zj G (Yc (Yi (⟨_,ZL G,?_⟩)))))))))));rfl
def XT(s:Int):Int:=if s=0 then 1 else 0
def Xm(k s:Int):Bool:=decide (1<=k/\k<=6/\(s=0\/s=1))
def Wb{P:Nat->Int}{o m:Nat}{Q:Nat->Int}{i:Nat}(h:i<o\/o+m<=i):ovA P o m Q i=P i:=by
 have e:(Nat.ble o i&&Nat.blt i (o+m))=false:=by
  cases h1:Nat.ble o i with
  |false=>rfl
  |true=>
   cases h2:Nat.blt i (o+m) with
   |false=>rfl
   |true=>
    have:=YF h1;have:=YF h2;omega
 show(bif Nat.ble o i&&Nat.blt i (o+m) then Q (i-o) else P i)=P i;rw[e];rfl
def X3{P:Nat->Int}{o m:Nat}{Q:Nat->Int}{i:Nat}(h:o<=i/\i<o+m):ovA P o m Q i=Q (i-o):=by
 have e:(Nat.ble o i&&Nat.blt i (o+m))=true:=by
  rw[ZbN h.1,show Nat.blt i (o+m)=true from ZbN h.2];rfl
 show(bif Nat.ble o i&&Nat.blt i (o+m) then Q (i-o) else P i)=Q (i-o);rw[e];rfl
def VW(s:Int):WR AM 53 [.s (.int .i64 s)] [] (fun v _ _=>v=.s (.int .i64 (XT s))):=by
 refine YL (a:=a53) G G (YI _) (ZQ G) (m:=0) G (Ze (Yq G (Yc (Ye (Ze (Zj G (Zr G (Yc (Yj G (fun h3=>?_) (fun h3=>?_)))))))))) <;> simp only[NM]at h3
 ·refine Ze (Yq G (Yc (Yi (⟨_,ZL G,?_⟩))));(rw[show XT s=1 from ZcA (by omega)];rfl)
 refine Yh (Ze (Yq G (Yc (Yi (⟨_,ZL G,?_⟩)))));(rw[show XT s=0 from Zcz (by omega)];rfl)
def tB(P:Nat->Int):WR AM 149 [.agg 2 (ia P)] [] (fun v _ _=>v=.s (.bool (Xm (P 0) (P 1)))):=by
 refine YL (a:=a149) G G (YI _) (ZQ G) (m:=0) G (Ze (YC G (Yq G (Zf (Zy G (Ym G G ZM G (Zr G (Zk G (Ys (t:=6) G (fun h4=>?_) (fun h4=>?_)))))))))) <;> simp only[NM]at h4
 ·refine Yb G (Zy G (Yb G (Ym G G ZM G (Yb G (Zr G (Zq G (Zk G (Ys (t:=11) G (fun h5=>?_) (fun h5=>?_))))))))) <;> simp only[NM]at h5
  ·refine Yb G (Zz G (Yb G (Ym G G ZM G (Yb G (Zr G (Yb G (Zk G (Ys (t:=15) G (fun h6=>?_) (fun h6=>?_))))))))) <;> simp only[NM]at h6
   ·refine ZD G (ZC G (Yb G (Zq G (Zq G (Zk G (Zg G (ZI ?_)))))));unfold Xm;rw[Zce];simp only[Zcu,Zb7,Zb1,Zcx,Zcv];omega
   refine Yb G (Zz G (Yb G (Ym G G ZM G (Yb G (Zr G (Yb G (Zq G (Zq G (Zk G (Zg G (ZI ?_)))))))))));unfold Xm;rw[Zce];simp only[Zcu,Zb7,Zb1,Zcx,Zcv];omega
  refine ZE G (YJ G (YJ G (YJ G (ZC G (Zq G (Zk G (Zg G (ZI ?_))))))));unfold Xm;rw[Zce];simp only[Zcu,Zb7,Zb1,Zcx,Zcv];omega
 refine ZD G (ZC G (Zq G (Zk G (ZE G (YJ G (YJ G (YJ G (ZC G (Zq G (Zk G (Zg G (ZI ?_))))))))))));unfold Xm;rw[Zce];simp only[Zcu,Zb7,Zb1,Zcx,Zcv];omega
def XF{P:Nat->Int}{o i:Nat}{x:Int}(h:i≠o):ov P o x i=P i:=by
 have e:Nat.beq i o=false:=by
  cases hb:Nat.beq i o with
  |false=>rfl
  |true=>exact absurd (ZbR hb) h
 show(bif Nat.beq i o then x else P i)=P i;rw[e];rfl
open Go Go.Am
abbrev sqI(x:Int):Nat:=0+x.toNat*2
def Uw{P Q X Y:Nat->Int}{o m:Nat}{n:Nat}(h:∀ i,i<n->P i=Q i)(hx:∀ j,j<m->X j=Y j):∀ i,i<n->ovA P o m X i=ovA Q o m Y i:=by
 intro i hi;by_cases k:o<=i/\i<o+m
 ·rw[X3 k,X3 k];exact hx _ (by omega)
 rw[Wb (by omega),Wb (by omega)];exact h i hi
def sT(s:Int):WR AM 33 [.s (.int .i64 s)] [] (fun v _ _=>v=.s (.int .i64 (XT s))):=by
 refine YL (a:=a33) G G (YI _) (ZQ G) (m:=0) G (Ze (Yq G (Yc (Ye (Ze (Zj G (Zr G (Yc (Yj G (fun h1=>?_) (fun h1=>?_)))))))))) <;> simp only[NM]at h1
 ·refine Ze (Yq G (Yc (Yi (⟨_,ZL G,?_⟩))));(rw[show XT s=1 from ZcA (by omega)];rfl)
 refine Yh (Ze (Yq G (Yc (Yi (⟨_,ZL G,?_⟩)))));(rw[show XT s=0 from Zcz (by omega)];rfl)
def ZaP(P:Nat->Int):WR AM 95 [.agg 2 (ia P)] [] (fun v _ _=>v=.s (.bool (Xm (P 0) (P 1)))):=by
 refine YL (a:=a95) G G (YI _) (ZQ G) (m:=0) G (Ze (YC G (Yq G (Zf (Zy G (Ym G G ZM G (Zr G (Zk G (Ys (t:=6) G (fun h2=>?_) (fun h2=>?_)))))))))) <;> simp only[NM]at h2
 ·refine Yb G (Zy G (Yb G (Ym G G ZM G (Yb G (Zr G (Zq G (Zk G (Ys (t:=11) G (fun h3=>?_) (fun h3=>?_))))))))) <;> simp only[NM]at h3
  ·refine Yb G (Zz G (Yb G (Ym G G ZM G (Yb G (Zr G (Yb G (Zk G (Ys (t:=15) G (fun h4=>?_) (fun h4=>?_))))))))) <;> simp only[NM]at h4
   ·refine ZD G (ZC G (Yb G (Zq G (Zq G (Zk G (Zg G (ZI ?_)))))));rw[Zce];simp only[Zcu,bne_iff_ne,ne_eq,Zb7,Zb1,Zcx,Zcv,gt_iff_lt,ge_iff_le,isM,Xm,Bool.true_eq_false,Zcy,Zcw];omega
   refine Yb G (Zz G (Yb G (Ym G G ZM G (Yb G (Zr G (Yb G (Zq G (Zq G (Zk G (Zg G (ZI ?_)))))))))));rw[Zce];simp only[Zcu,bne_iff_ne,ne_eq,Zb7,Zb1,Zcx,Zcv,gt_iff_lt,ge_iff_le,isM,Xm,Bool.true_eq_false,Zcy,Zcw];omega
  refine ZE G (YJ G (YJ G (YJ G (ZC G (Zq G (Zk G (Zg G (ZI ?_))))))));rw[Zce];simp only[Zcu,bne_iff_ne,ne_eq,Zb7,Zb1,Zcx,Zcv,gt_iff_lt,ge_iff_le,isM,Xm,Bool.true_eq_false,Zcy,Zcw];omega
 refine ZD G (ZC G (Zq G (Zk G (ZE G (YJ G (YJ G (YJ G (ZC G (Zq G (Zk G (Zg G (ZI ?_))))))))))));rw[Zce];simp only[Zcu,bne_iff_ne,ne_eq,Zb7,Zb1,Zcx,Zcv,gt_iff_lt,ge_iff_le,isM,Xm,Bool.true_eq_false,Zcy,Zcw];omega
def YT(s f r:Int):Int:=if (0<=s/\s<64)/\(-8<f/\f<8)/\(-8<r/\r<8) then atM (s%8+f) (s/8+r) else -1
def V9(s f r:Int):-1<=YT s f r/\YT s f r<64:=by
 unfold YT;split
 ·exact atM_bd _ _
 omega
def onM(s f r:Int):Nat->Int:=if (0<=s/\s<64)/\(-8<f/\f<8)/\(-8<r/\r<8) then (fun i=>if i=0 then s%8+f else if i=1 then s/8+r else 0) else (fun i=>if i=0 then -1 else if i=1 then -1 else 0)
def Dj{x y:Int}:ovA (fun _=>0) 0 2 (ov (ov (fun _=>0) 0 x) 1 y)=fun i=>if i=0 then x else if i=1 then y else 0:=by
 funext i;by_cases h0:i=0
 ·subst h0;rfl
 by_cases h1:i=1
 ·subst h1;rfl
 rw[Wb (by omega),Zcz h0,Zcz h1]
def on_in(s f r:Int)(h:0<=s/\s<64):WR AM 172 [.agg 3 (lc [.int .i64 (s%8),.int .i64 (s/8),.bool true]),.s (.int .i64 f),.s (.int .i64 r)] [] (fun v _ _=>v=.agg 2 (ia (onM s f r))):=by
 refine YL (a:=a172) G G (YI _) (ZQ G) (m:=0) G (Ze (YC G (Yy (Yc (Ye (Ze (Yd (o':=2) G G G (Yn (x:=.bool _) G G ZN G (Yv (r:=.bool _) G G (Zk G (Yb G (Zj G (Yb G (Zj G (Yb G (WO_mx2 G G (Yb G (Zr G (Zq G (Zk G (Ys (t:=16) G (fun h5=>?_) (fun h5=>?_)))))))))))))))))))))) <;> simp only[NM]at h5
 ·refine ZE G (Zq G (Yc (ZA G (Ze (YB G (.one G (.one G .nil)) (Yz G G G G .here (Yc (Yi (⟨_,XM G G ZM (YW),?_⟩)))))))));refine congrArg (fun g=>V.agg 2 (ia g)) ?_;rw[Dj];exact(Zcz (fun q=>by omega)).symm
 refine Yb G (Zj G (Yb G (Zj G (Yb G (Dw G G (Yb G (Zr G (Zq G (Yc (Yj G (fun h6=>?_) (fun h6=>?_))))))))))) <;> simp only[NM]at h6
 ·refine Ze (YB G (.one G (.one G .nil)) (Yz G G G G .here (Yc (Yi (⟨_,XM G G ZM (YW),?_⟩)))));refine congrArg (fun g=>V.agg 2 (ia g)) ?_;rw[Dj];exact(Zcz (fun q=>by omega)).symm
 refine Yh (Ze (Zy G (Zy G (Yn (x:=.int _ _) G G ZN G (Zj G (Zs G G (Zy G (Zz G (Yn (x:=.int _ _) G G ZN G (Zj G (Zs G G (YB G (.one G (.one G .nil)) (Yz G G G G .here (Yc (Yi (⟨_,XM G G ZM (YW),?_⟩))))))))))))))));refine congrArg (fun g=>V.agg 2 (ia g)) ?_;rw[Dj];exact(ZcA ⟨h,by omega,by omega⟩).symm
def on_out(s f r:Int)(h:¬ (0<=s/\s<64)):WR AM 172 [.agg 3 (lc [.int .i64 (-1),.int .i64 (-1),.bool false]),.s (.int .i64 f),.s (.int .i64 r)] [] (fun v _ _=>v=.agg 2 (ia (onM s f r))):=by
 refine YL (a:=a172) G G (YI _) (ZQ G) (m:=0) G (Ze (YC G (Yy (Yc (Ye (Ze (Yd (o':=2) G G G (Yn (x:=.bool _) G G ZN G (Yv (r:=.bool _) G G (Zk G (ZE G (Zq G (Zk G (ZE G (Zq G (Yc (ZA G (Ze (YB G (.one G (.one G .nil)) (Yz G G G G .here (Yc (Yi (⟨_,XM G G ZM (YW),?_⟩)))))))))))))))))))))));refine congrArg (fun g=>V.agg 2 (ia g)) ?_;rw[Dj];exact(Zcz (fun q=>by omega)).symm
def xj(s:Int){f r:Int}(i:Nat):-9223372036854775808<=onM s f r i/\onM s f r i<=9223372036854775807:=by
 unfold onM;split
 ·dsimp only;split
  ·omega
  split <;> omega
 dsimp only;split
 ·omega
 split <;> omega
def pH(s f r:Int):atM (onM s f r 0) (onM s f r 1)=YT s f r:=by
 unfold onM YT;by_cases h:(0<=s/\s<64)/\(-8<f/\f<8)/\(-8<r/\r<8)
 ·rw[ZcA h,ZcA h];rfl
 rw[Zcz h,Zcz h];rfl
def Step_in(s f r:Int)(h:0<=s/\s<64):WR AM 152 [.s (.int .i64 s),.s (.int .i64 f),.s (.int .i64 r)] [] (fun v _ _=>v=.s (.int .i64 (YT s f r))):=by
 refine YL (a:=a152) G G (YI _) (ZQ G) (m:=0) G (Ze (Yq G (Zf (Zj G (Yt G (xg _ h) G G G (Zj G (Zj G (Yt G (YP (on_in _ _ _ h)) G G G (Yt G (YP (Jv _ (xj s 0) (xj s 1))) G G G (Zj G (Yc (Yi (⟨_,ZL G,?_⟩)))))))))))));exact congrArg (fun b=>V.s (S.int .i64 b)) (pH s f r)
def ZaN(s f r:Int)(h:¬ (0<=s/\s<64)):WR AM 152 [.s (.int .i64 s),.s (.int .i64 f),.s (.int .i64 r)] [] (fun v _ _=>v=.s (.int .i64 (YT s f r))):=by
 refine YL (a:=a152) G G (YI _) (ZQ G) (m:=0) G (Ze (Yq G (Zf (Zj G (Yt G (Dg _ h) G G G (Zj G (Zj G (Yt G (YP (on_out _ _ _ h)) G G G (Yt G (YP (Jv _ (xj s 0) (xj s 1))) G G G (Zj G (Yc (Yi (⟨_,ZL G,?_⟩)))))))))))));exact congrArg (fun b=>V.s (S.int .i64 b)) (pH s f r)
def UC(s f r:Int):RF AM 152 [.s (.int .i64 s),.s (.int .i64 f),.s (.int .i64 r)] (.s (.int .i64 (YT s f r))):=by
 by_cases h:0<=s/\s<64
 ·exact YP (Step_in s f r h)
 exact YP (ZaN s f r h)
open Go Go.Am
def Xf(P:Nat->Int)(x:Int):Bool:=eqI 2 (dp P (sqI x)) (fun _=>0)
def pc(k c:Int):Nat->Int:=fun i=>if i=0 then k else c
def yW:Nat->Int:=fun _=>0
def atT(P:Nat->Int)(k a t:Int):Int:=if k=1/\t%8≠a%8/\t=P 130/\Xf P t=true then a/8*8+t%8 else t
def Y7(P:Nat->Int)(k a t:Int):Int:=if Xf P (atT P k a t)=true then -1 else atT P k a t
def Y4(c:Int):Int:=if c=0 then 1 else 4
def Y3(k a t c C:Int):Int:=if k=6/\a=56*c+4/\t=a+2/\C/Y4 c%2=1 then 1 else if k=6/\a=56*c+4/\t=a-2/\C/(2*Y4 c)%2=1 then -1 else 0
def W9(k a t c:Int):Bool:=decide (k=1/\t%8=a%8/\a/8=1+5*c/\t/8=a/8+2*(1-2*c))
def W7(P:Nat->Int):Int:=if P 129<0\/15<P 129 then 0 else P 129
def Xx(s:Int):Int:=if 4=s then 3 else if 7=s then 1 else if 0=s then 2 else if 60=s then 12 else if 63=s then 4 else if 56=s then 8 else 0
def orM(x y:Int):Int:=IntKind.i64.wrap (BitVec.ofInt 64 x ||| BitVec.ofInt 64 y).toNat
def KW(x y:Int):Int:=IntKind.i64.wrap (BitVec.ofInt 64 x &&& BitVec.ofInt 64 y).toNat
def VQ(x y:Int):Int:=IntKind.i64.wrap (BitVec.ofInt 64 x &&& ~~~(BitVec.ofInt 64 y)).toNat
def Qi(c s k:Int):Int:=if c/k%2=1/\s/k%2=0 then k else 0
def Vo(c s:Int):Int:=Qi c s 1+Qi c s 2+Qi c s 4+Qi c s 8
def XI(P:Nat->Int)(a t b:Int):Bool:=decide (1<=P (sqI a)/\P (sqI a)<=6/\P (sqI a+1)=P 128/\(P (sqI a+1)=0\/P (sqI a+1)=1)/\(if P (sqI a)=1/\t/8=7*(1-P (sqI a+1)) then 2<=b/\b<=5 else b=0))
def Wj(P:Nat->Int)(a t b:Int):Int:=if (0<=a/\a<64)/\(0<=t/\t<64)/\a≠t then (if XI P a t b=true then 0 else 8) else 6
def DM(P:Nat->Int)(w:Int):Nat->Int:=if 0<=w then ovA P (sqI w) 2 yW else P
def brd2(P:Nat->Int)(w a:Int):Nat->Int:=ovA (DM P w) (sqI a) 2 yW
def EX(P:Nat->Int)(w a t k c b:Int):Nat->Int:=ovA (brd2 P w a) (sqI t) 2 (pc (if b=0 then k else b) c)
def VK(P:Nat->Int)(w a t k c b g:Int):Nat->Int :=
 if g=1 then ovA (ovA (EX P w a t k c b) (sqI (a+3)) 2 yW) (sqI (a+1)) 2 (pc 4 c)
 else if g=-1 then ovA (ovA (EX P w a t k c b) (sqI (a-4)) 2 yW) (sqI (a-1)) 2 (pc 4 c) else EX P w a t k c b
def Uz(k a t c:Int):Int:=if W9 k a t c=true then (a+t)/2 else -1
def Ug(P:Nat->Int)(k w:Int):Int:=if k=1\/0<=w then 0 else IntKind.i64.wrap (min (P 131) 1023+1)
def QU(P:Nat->Int):Int:=if P 128=1 then IntKind.i64.wrap (min (P 132) 16383+1) else P 132
def Uq(P:Nat->Int)(k c a t b C:Int):Nat->Int:=fun i=>
 if i<128 then VK P (Y7 P k a t) a t k c b (Y3 k a t c C) i else if i=128 then XT (P 128) else if i=129 then VQ C (orM (orM 0 (Xx a)) (Xx t))
 else if i=130 then Uz k a t c else if i=131 then Ug P k (Y7 P k a t) else if i=132 then QU P else 0
def XV(P:Nat->Int)(a t b:Int):Nat->Int:=if Wj P a t b=0 then Uq P (P (sqI a)) (P (sqI a+1)) a t b (W7 P) else fun _=>0
def UD{P:Nat->Int}{a t b:Int}(h:¬ ((0<=a/\a<64)/\(0<=t/\t<64)/\a≠t)):Wj P a t b=6:=Zcz h
def Wo{P:Nat->Int}{a t b:Int}(h:(0<=a/\a<64)/\(0<=t/\t<64)/\a≠t)(hc:XI P a t b=false):Wj P a t b=8:=by
 rw[Wj,ZcA h,hc];rfl
def Vi{P:Nat->Int}{a t b:Int}(h:(0<=a/\a<64)/\(0<=t/\t<64)/\a≠t)(hc:XI P a t b=true):Wj P a t b=0:=by
 rw[Wj,ZcA h,hc];rfl
def xE{P:Nat->Int}{k a t:Int}(ha:0<=a/\a<64)(ht:0<=t/\t<64):0<=atT P k a t/\atT P k a t<64:=by
 unfold atT;split <;> omega
def VY{P:Nat->Int}{k a t:Int}(ha:0<=a/\a<64)(ht:0<=t/\t<64):-1<=Y7 P k a t/\Y7 P k a t<64:=by
 have:=xE (P:=P) (k:=k) ha ht;unfold Y7;split <;> omega
def gm{c:Int}(h:c=0\/c=1):Wc .shl (.int .i64 1) (.int .i64 (2*c))=some (.int .i64 (Y4 c)):=by
 rcases h with rfl|rfl <;> rfl
def oM{c:Int}(h:c=0\/c=1):Wc .shl (.int .i64 (Y4 c)) (.int .u64 1)=some (.int .i64 (2*Y4 c)):=by
 rcases h with rfl|rfl <;> rfl
theorem and_bit:∀ C:Fin 16,∀ s∈[1,2,4,8],(KW (C.val:Int) s≠0↔(C.val:Int)/s%2=1):=by decide +kernel
def ka{C s:Int}(h:0<=C/\C<=15)(hs:s=1\/s=2\/s=4\/s=8):KW C s≠0↔C/s%2=1:=by
 obtain⟨n,rfl⟩:∃ n:Nat,C=n:=⟨C.toNat,by omega⟩
 exact and_bit ⟨n,by omega⟩ s (by simp;omega)
def uB(s:Int):Xx s∈[0,1,2,3,4,8,12]:=by
 unfold Xx;repeat' split
 all_goals decide
theorem ua:∀ C:Fin 16,∀ x∈[0,1,2,3,4,8,12],∀ y∈[0,1,2,3,4,8,12],Vo (Vo (C.val:Int) x) y=VQ (C.val:Int) (orM (orM 0 x) y):=by decide +kernel
def sb{C:Int}(h:0<=C/\C<=15)(a t:Int):Vo (Vo C (Xx a)) (Xx t)=VQ C (orM (orM 0 (Xx a)) (Xx t)):=by
 obtain⟨n,rfl⟩:∃ n:Nat,C=n:=⟨C.toNat,by omega⟩
 exact ua ⟨n,by omega⟩ _ (uB a) _ (uB t)
def KD(c s:Int){k:Int}(hk:0<=k):0<=Qi c s k/\Qi c s k<=k:=by
 unfold Qi;split <;> omega
def zU(c s:Int):0<=Vo c s/\Vo c s<=15:=by
 have:=KD c s (k:=1) (by omega);have:=KD c s (k:=2) (by omega);have:=KD c s (k:=4) (by omega);have:=KD c s (k:=8) (by omega);unfold Vo;omega
def jR(s:Int):0<=Xx s/\Xx s<=15:=by
 unfold Xx;repeat' split
 all_goals omega
def EO(P:Nat->Int):0<=W7 P/\W7 P<=15:=by
 unfold W7;split <;> omega
def xK{P:Nat->Int}{x:Int}:Xf P x=true↔P (sqI x)=0/\P (sqI x+1)=0:=by
 unfold Xf;rw[Qo];constructor
 ·intro h;exact⟨h 0 (by omega),h 1 (by omega)⟩
 rintro⟨h0,h1⟩ i hi;have:i=0\/i=1:=by omega
 rcases this with rfl|rfl
 ·exact h0
 exact h1
def Ti{P Q:Nat->Int}{x:Int}(hx:0<=x/\x<64)(h:∀ i,i<128->P i=Q i):Xf P x=Xf Q x:=by
 have e:sqI x+1<128:=by show 0+x.toNat*2+1<128;omega
 rw[Zce,xK,xK,h _ (by omega),h _ e]
def Zal{P Q:Nat->Int}{k a t:Int}(ht:0<=t/\t<64)(h:∀ i,i<128->P i=Q i)(h130:P 130=Q 130):atT P k a t=atT Q k a t:=by
 unfold atT;rw[Ti ht h,h130]
def ye{P Q:Nat->Int}{k a t:Int}(ha:0<=a/\a<64)(ht:0<=t/\t<64)(h:∀ i,i<128->P i=Q i)(h130:P 130=Q 130):Y7 P k a t=Y7 Q k a t:=by
 unfold Y7;rw[Zal ht h h130,Ti (xE ha ht) h]
def wK{x:Int}(h:0<=x/\x<64):RF AM 87 [.s (.int .i64 x)] (.s (.int .i64 (x%8))):=by
 have:=Za8 x;rw[zy,ZcA h]at this;exact this
def TI{x:Int}(h:0<=x/\x<64):RF AM 84 [.s (.int .i64 x)] (.s (.int .i64 (x/8))):=by
 have:=KG x;rw[Wh,ZcA h]at this;exact this
def zo(x:Int):WR AM 57 [.s (.int .i64 x)] [] (fun v _ _=>v=.s (.bool (isM x))):=by
 refine YL (a:=a57) G G (YI _) (ZQ G) (m:=0) G (Ze (Yq G (Zf (Zj G (Zr G (Zk G (Ys (t:=5) G (fun h1=>?_) (fun h1=>?_)))))))) <;> simp only[NM]at h1
 ·refine Yb G (Zj G (Yb G (Zr G (Zq G (Zk G (Zg G (ZI ?_)))))));rw[Zce];simp only[Zcu,bne_iff_ne,ne_eq,Zb7,Zb1,Zcx,Zcv,gt_iff_lt,ge_iff_le,isM,Xm,W9,XI,Bool.true_eq_false,Zcy,Zcw];omega
 refine ZD G (Zq G (Zk G (Zg G (ZI ?_))));rw[Zce];simp only[Zcu,bne_iff_ne,ne_eq,Zb7,Zb1,Zcx,Zcv,gt_iff_lt,ge_iff_le,isM,Xm,W9,XI,Bool.true_eq_false,Zcy,Zcw];omega
def VG(P:Nat->Int):WR AM 63 [.agg 133 (ia P)] [] (fun v _ _=>v=.s (.int .i64 (W7 P))):=by
 refine YL (a:=a63) G G (YI _) (ZQ G) (m:=0) G (Ze (YC G (Yq G (Yc (Ye (Ze (Yd (o':=129) G G G (Ym G G ZM G (Zr G (Zk G (Ys (t:=6) G (fun h2=>?_) (fun h2=>?_)))))))))))) <;> simp only[NM]at h2
 ·refine ZD G (ZC G (Zq G (Yc (ZA G (Ze (Yq G (Yc (Yi (⟨_,ZL G,?_⟩)))))))));exact congrArg (fun b=>V.s (S.int .i64 b)) (ZcA (by omega)).symm
 refine Yb G (Yd (o':=129) G G G (Yb G (Ym G G ZM G (Yb G (Zr G (Zq G (Yc (Yj G (fun h3=>?_) (fun h3=>?_))))))))) <;> simp only[NM]at h3
 ·refine Ze (Yq G (Yc (Yi (⟨_,ZL G,?_⟩))));exact congrArg (fun b=>V.s (S.int .i64 b)) (ZcA (by omega)).symm
 refine Yh (Ze (Yd (o':=129) G G G (Ym G G ZM G (Zj G (Yc (Yi (⟨_,ZL G,?_⟩)))))));exact congrArg (fun b=>V.s (S.int .i64 b)) (Zcz (by omega)).symm
def w9(s:Int):WR AM 64 [.s (.int .i64 s)] [] (fun v _ _=>v=.s (.int .i64 (Xx s))):=by
 refine YL (a:=a64) G G (YI _) (ZQ G) (m:=0) G (Ze (Yq G (Yc (Ye (Ze (Zj G (Yc (Yk (Ze (Zr G (Zk G (Yc (Yj G (fun h4=>?_) (fun h4=>?_)))))))))))))) <;> simp only[NM]at h4
 ·refine Ze (Yq G (Yc (Yi (⟨_,ZL G,?_⟩))));refine ZJ ?_;unfold Xx;repeat' split
  all_goals omega
 refine Ze (Zr G (Zk G (Yc (Yj G (fun h5=>?_) (fun h5=>?_))))) <;> simp only[NM]at h5
 ·refine Ze (Yq G (Yc (Yi (⟨_,ZL G,?_⟩))));refine ZJ ?_;unfold Xx;repeat' split
  all_goals omega
 refine Ze (Zr G (Zk G (Yc (Yj G (fun h6=>?_) (fun h6=>?_))))) <;> simp only[NM]at h6
 ·refine Ze (Yq G (Yc (Yi (⟨_,ZL G,?_⟩))));refine ZJ ?_;unfold Xx;repeat' split
  all_goals omega
 refine Ze (Zr G (Zk G (Yc (Yj G (fun h7=>?_) (fun h7=>?_))))) <;> simp only[NM]at h7
 ·refine Ze (Yq G (Yc (Yi (⟨_,ZL G,?_⟩))));refine ZJ ?_;unfold Xx;repeat' split
  all_goals omega
 refine Ze (Zr G (Zk G (Yc (Yj G (fun h8=>?_) (fun h8=>?_))))) <;> simp only[NM]at h8
 ·refine Ze (Yq G (Yc (Yi (⟨_,ZL G,?_⟩))));refine ZJ ?_;unfold Xx;repeat' split
  all_goals omega
 refine Ze (Zr G (Zk G (Yc (Yj G (fun h9=>?_) (fun h9=>?_))))) <;> simp only[NM]at h9
 ·refine Ze (Yq G (Yc (Yi (⟨_,ZL G,?_⟩))));refine ZJ ?_;unfold Xx;repeat' split
  all_goals omega
 refine Yh (Ze (Yq G (Yc (Yi (⟨_,ZL G,?_⟩)))));refine ZJ ?_;unfold Xx;repeat' split
 all_goals omega
def upM(c s k:Int):Int:=if k<=1 then 0 else if k<=2 then Qi c s 1 else if k<=4 then Qi c s 1+Qi c s 2 else if k<=8 then Qi c s 1+Qi c s 2+Qi c s 4 else Vo c s
def yV{c s k:Int}(h:k=1\/k=2\/k=4\/k=8):upM c s (2*k)=upM c s k+Qi c s k:=by
 rcases h with rfl|rfl|rfl|rfl <;> simp[upM,Vo]
def upM_bd(c s k:Int):0<=upM c s k/\upM c s k<=15:=by
 have:=KD c s (k:=1) (by omega);have:=KD c s (k:=2) (by omega);have:=KD c s (k:=4) (by omega);have:=zU c s;unfold upM;repeat' split
 all_goals omega
def yg(c s:Int)(hc:0<=c/\c<=15)(hs:0<=s/\s<=15):WR AM 62 [.s (.int .i64 c),.s (.int .i64 s)] [] (fun v _ _=>v=.s (.int .i64 (Vo c s))):=by
 refine YL (a:=a62) G G (YI _) (ZQ G) (m:=0) G (Ze (Yq G (Zf (Yq G (Yc (Ye (Ze (Yq G (Yc (Yk (Xo (L':=[]) .slnil (Xu (fun m f _ L=>∃ (k:Int),(k=1\/k=2\/k=4\/k=8\/k=16)/\(m=16-k.toNat)/\(f 0=.s (.int .i64 c))/\(f 1=.s (.int .i64 s))/\(f 5=.s (.int .i64 (upM c s k)))/\(f 6=.s (.int .i64 k))/\(L=[])) (fun m f nb L hI=>?_) (15) ⟨1,by omega,rfl,rfl,rfl,rfl,rfl,rfl⟩))))))))))));obtain⟨k,hk,hm,k0,k1,k5,k6,rfl⟩:=hI;refine Za 0 k0 (Za 1 k1 (Za 5 k5 (Za 6 k6 ?_)));have hu:=upM_bd c s k;have hq:0<=c/k:=Int.ediv_nonneg (by omega) (by omega);have hq2:0<=s/k:=Int.ediv_nonneg (by omega) (by omega);refine Ye (Ze (Zj G (Zr G (Yc (Yj G (fun h10=>?_) (fun h10=>?_)))))) <;> simp only[NM]at h10
 ·refine Yh (Ye (Yk (Ze (Zj G (Zj G (Zu G G (Zv G G (Zr G (Zk G (Ys (t:=16) G (fun h11=>?_) (fun h11=>?_))))))))))) <;> simp only[NM]at h11
  ·refine Yb G (Zj G (Yb G (Zj G (Yb G (Zu G G (Yb G (Zv G G (Yb G (Zr G (Zq G (Yc (Yj G (fun h12=>?_) (fun h12=>?_))))))))))))) <;> simp only[NM]at h12
   ·refine Yf (Zj G (Zj G (Zs G G (Zj G (Yc (Yf (Zj G (Wn G G (by omega) (Zj G (Yc (⟨16-(2*k).toNat,_,by omega,.slnil,2*k,by omega,rfl,rfl,rfl,?_,rfl,rfl⟩)))))))))));rw[yV (by omega),Qi];(rw[ZcA (by omega)];rfl)
   refine Yh (Yf (Zj G (Wn G G (by omega) (Zj G (Yc (⟨16-(2*k).toNat,_,by omega,.slnil,2*k,by omega,rfl,rfl,rfl,?_,rfl,rfl⟩))))));rw[yV (by omega),Qi];(rw[Zcz (by omega),Int.add_zero];rfl)
  refine ZE G (ZC G (Zq G (Yc (ZB G (Yh (Yf (Zj G (Wn G G (by omega) (Zj G (Yc (⟨16-(2*k).toNat,_,by omega,.slnil,2*k,by omega,rfl,rfl,rfl,?_,rfl,rfl⟩)))))))))));rw[yV (by omega),Qi];(rw[Zcz (by omega),Int.add_zero];rfl)
 refine Y0 (Xb (Ze (Zj G (Zj G (Yc (Yi (⟨_,ZL G,?_⟩)))))));obtain rfl:k=16:=by omega
 rfl
def kK(P m:Nat->Int)(ha:0<=m 0/\m 0<64)(ht:0<=m 1/\m 1<64):WR AM 58 [.agg 133 (ia P),.agg 3 (ia m)] [] (fun v _ _=>v=.s (.bool (XI P (m 0) (m 1) (m 2)))):=by
 refine YL (a:=a58) G G (YI _) (ZQ G) (m:=0) G (Ze (YC G (YC G (Yq G (Zf (Zy G (Ym G G ZM G (Zy G (Zw G G G (Yp G G ZN (Yy (Yz G G G G .here (Yc (Ye (Ze (Yo G G ZM (Yt G (show RF AM 95 _ (.s (.bool (Xm (P (sqI (m 0))) (P (sqI (m 0)+1))))) from YP (ZaP (ovA (fun _=>0) 0 2 (dp P (sqI (m 0)))))) G G G (Yv (r:=.bool _) G G (Zk G (Ys (t:=15) G (fun h13=>?_) (fun h13=>?_))))))))))))))))))))) <;> simp only[NM]at h13
 ·refine ZE G (ZC G (Zq G (Yc (ZA G (Ze (Yq G (Zg G (ZI ?_))))))));simp only[Xm,Zb7,ZbJ]at *;unfold XI;rw[Zce];simp only[Zcu,Zb7,Zb1,Zcx,Zcv,Zcy,Zcw];first|omega|(split <;> omega)
 refine Yb G (Zz G (Yb G (Ym (x:=P (sqI (m 0)+1)) G G ZM (G) (Yb G (Yd (o':=128) G G G (Yb G (Ym G G ZO G (Yb G (Zr G (Zq G (Yc (Yj G (fun h14=>?_) (fun h14=>?_))))))))))))) <;> simp only[NM]at h14
 ·refine Ze (Yq G (Zg G (ZI ?_)));simp only[Xm,Zb7,ZbJ]at *;unfold XI;rw[Zce];simp only[Zcu,Zb7,Zb1,Zcx,Zcv,Zcy,Zcw];first|omega|(split <;> omega)
 refine Yh (Ze (Zy G (Ym (x:=P (sqI (m 0))) G G ZM (G) (Zr G (Zk G (Ys (t:=25) G (fun h15=>?_) (fun h15=>?_))))))) <;> simp only[NM]at h15
 ·refine Yb G (Zz G (Yb G (Ym (x:=P (sqI (m 0)+1)) G G ZM (G) (Yb G (Zr G (Yb G (Zk G (Ys (t:=29) G (fun h16=>?_) (fun h16=>?_))))))))) <;> simp only[NM]at h16
  ·refine Yb G (Zz G (Yb G (Ym G G ZN G (Yb G (Zu G G (Yb G (Zr G (Yb G (Zq G (Yb G (Zk G (Ys (t:=35) G (fun h17=>?_) (fun h17=>?_))))))))))))) <;> simp only[NM]at h17
   ·refine ZE G (YJ G (YJ G (YJ G (YJ G (ZC G (Yb G (Zq G (Zq G (Zk G (Yc (Ye (Ze (Zk G (Yc (ZA G (Ze (Yd (o':=2) G G G (Ym G G ZN G (Zr G (Zk G (Ys (t:=51) G (fun h18=>?_) (fun h18=>?_)))))))))))))))))))))) <;> simp only[NM]at h18
    ·refine Yb G (Yd (o':=2) G G G (Yb G (Ym G G ZN G (Yb G (Zr G (Zq G (Zk G (Zg G (ZI ?_)))))))));simp only[Xm,Zb7,ZbJ]at *;unfold XI;rw[Zce];simp only[Zcu,Zb7,Zb1,Zcx,Zcv,Zcy,Zcw];first|omega|(split <;> omega)
    refine ZD G (ZC G (Zq G (Zk G (Zg G (ZI ?_)))));simp only[Xm,Zb7,ZbJ]at *;unfold XI;rw[Zce];simp only[Zcu,Zb7,Zb1,Zcx,Zcv,Zcy,Zcw];first|omega|(split <;> omega)
   refine Yb G (Zz G (Yb G (Ym (x:=P (sqI (m 0)+1)) G G ZM (G) (Yb G (Zr G (Yb G (Zk G (Ys (t:=39) G (fun h19=>?_) (fun h19=>?_))))))))) <;> simp only[NM]at h19
   ·refine Yb G (Zz G (Yb G (Ym G G ZN G (Yb G (Zu G G (Yb G (Zr G (Yb G (Zq G (Yb G (Zq G (Zq G (Zk G (Yc (Ye (Ze (Zk G (Yc (Yj G (fun h20=>?_) (fun h20=>?_)))))))))))))))))))) <;> simp only[NM]at h20
    ·refine Ze (Yd (o':=2) G G G (Ym G G ZN G (Zr G (Zk G (Ys (t:=51) G (fun h21=>?_) (fun h21=>?_)))))) <;> simp only[NM]at h21
     ·refine Yb G (Yd (o':=2) G G G (Yb G (Ym G G ZN G (Yb G (Zr G (Zq G (Zk G (Zg G (ZI ?_)))))))));simp only[Xm,Zb7,ZbJ]at *;unfold XI;rw[Zce];simp only[Zcu,Zb7,Zb1,Zcx,Zcv,Zcy,Zcw];first|omega|(split <;> omega)
     refine ZD G (ZC G (Zq G (Zk G (Zg G (ZI ?_)))));simp only[Xm,Zb7,ZbJ]at *;unfold XI;rw[Zce];simp only[Zcu,Zb7,Zb1,Zcx,Zcv,Zcy,Zcw];first|omega|(split <;> omega)
    refine Yh (Ze (Yd (o':=2) G G G (Ym G G ZN G (Zr G (Zk G (Zg G (ZI ?_)))))));simp only[Xm,Zb7,ZbJ]at *;unfold XI;rw[Zce];simp only[Zcu,Zb7,Zb1,Zcx,Zcv,Zcy,Zcw];first|omega|(split <;> omega)
   refine ZE G (Yb G (Zq G (Yb G (Zq G (Zq G (Zk G (Yc (Ye (Ze (Zk G (Yc (ZB G (Yh (Ze (Yd (o':=2) G G G (Ym G G ZN G (Zr G (Zk G (Zg G (ZI ?_))))))))))))))))))));simp only[Xm,Zb7,ZbJ]at *;unfold XI;rw[Zce];simp only[Zcu,Zb7,Zb1,Zcx,Zcv,Zcy,Zcw];first|omega|(split <;> omega)
  refine ZE G (Yb G (Zq G (Yb G (Zk G (Yb G (Zz G (Yb G (Ym (x:=P (sqI (m 0)+1)) G G ZM (G) (Yb G (Zr G (Yb G (Zk G (Ys (t:=39) G (fun h22=>?_) (fun h22=>?_)))))))))))))) <;> simp only[NM]at h22
  ·refine Yb G (Zz G (Yb G (Ym G G ZN G (Yb G (Zu G G (Yb G (Zr G (Yb G (Zq G (Yb G (Zq G (Zq G (Zk G (Yc (Ye (Ze (Zk G (Yc (Yj G (fun h23=>?_) (fun h23=>?_)))))))))))))))))))) <;> simp only[NM]at h23
   ·refine Ze (Yd (o':=2) G G G (Ym G G ZN G (Zr G (Zk G (Ys (t:=51) G (fun h24=>?_) (fun h24=>?_)))))) <;> simp only[NM]at h24
    ·refine Yb G (Yd (o':=2) G G G (Yb G (Ym G G ZN G (Yb G (Zr G (Zq G (Zk G (Zg G (ZI ?_)))))))));simp only[Xm,Zb7,ZbJ]at *;unfold XI;rw[Zce];simp only[Zcu,Zb7,Zb1,Zcx,Zcv,Zcy,Zcw];first|omega|(split <;> omega)
    refine ZD G (ZC G (Zq G (Zk G (Zg G (ZI ?_)))));simp only[Xm,Zb7,ZbJ]at *;unfold XI;rw[Zce];simp only[Zcu,Zb7,Zb1,Zcx,Zcv,Zcy,Zcw];first|omega|(split <;> omega)
   refine Yh (Ze (Yd (o':=2) G G G (Ym G G ZN G (Zr G (Zk G (Zg G (ZI ?_)))))));simp only[Xm,Zb7,ZbJ]at *;unfold XI;rw[Zce];simp only[Zcu,Zb7,Zb1,Zcx,Zcv,Zcy,Zcw];first|omega|(split <;> omega)
  refine ZE G (Yb G (Zq G (Yb G (Zq G (Zq G (Zk G (Yc (Ye (Ze (Zk G (Yc (ZB G (Yh (Ze (Yd (o':=2) G G G (Ym G G ZN G (Zr G (Zk G (Zg G (ZI ?_))))))))))))))))))));simp only[Xm,Zb7,ZbJ]at *;unfold XI;rw[Zce];simp only[Zcu,Zb7,Zb1,Zcx,Zcv,Zcy,Zcw];first|omega|(split <;> omega)
 refine ZE G (YJ G (YJ G (YJ G (YJ G (ZD G (YJ G (YJ G (YJ G (YJ G (YJ G (YJ G (YJ G (YJ G (YJ G (ZC G (Zq G (Zk G (Yc (Ye (Ze (Zk G (Yc (ZB G (Yh (Ze (Yd (o':=2) G G G (Ym G G ZN G (Zr G (Zk G ?_)))))))))))))))))))))))))))));refine Zg G (ZI ?_);simp only[Xm,Zb7,ZbJ]at *;unfold XI;rw[Zce];simp only[Zcu,Zb7,Zb1,Zcx,Zcv,Zcy,Zcw];first|omega|(split <;> omega)
def p8(P m:Nat->Int)(ha:0<=m 0/\m 0<64)(ht:0<=m 1/\m 1<64):WR AM 59 [.agg 133 (ia P),.agg 3 (ia m)] [] (fun v _ _=>v=.s (.bool (decide (P (sqI (m 0))=1/\m 1%8≠m 0%8/\m 1=P 130/\Xf P (m 1)=true)))):=by
 refine YL (a:=a59) G G (YI _) (ZQ G) (m:=0) G (Ze (YC G (YC G (Yq G (Zf (Zy G (Ym G G ZM G (Zy G (Zw G G G (Yd G G G (Ym (x:=P (sqI (m 0))) G G ZN (G) (Zr G (Zk G (Ys (t:=12) G (fun h25=>?_) (fun h25=>?_))))))))))))))) <;> simp only[NM]at h25
 ·refine Yb G (Zy G (Yb G (Ym (x:=m 0) G G ZM (G) (Yb G (Zv G G (Yb G (Zz G (Yb G (Ym (x:=m 1) G G ZM (G) (Yb G (Zv G G (Yb G (Zr G (Zq G (Zk G (Ys (t:=21) G (fun h26=>?_) (fun h26=>?_))))))))))))))))) <;> simp only[NM]at h26
  ·refine Yb G (Zz G (Yb G (Ym (x:=m 1) G G ZM (G) (Yb G (Yd (o':=130) G G G (Yb G (Ym (x:=P 130) G G ZN (G) (Yb G (Zr G (Zq G (Zk G (Ys (t:=28) G (fun h27=>?_) (fun h27=>?_))))))))))))) <;> simp only[NM]at h27
   ·refine Yb G (Zz G (Yb G (Ym G G ZM G (Yb G (Zy G (Yb G (Zw G G G (Yb G (Yp G G ZN (Yb G (YB G .nil (Yb G (Yw G G (Zq G (Zk G (Zg G (ZI ?_)))))))))))))))));obtain⟨e,he⟩:∃ e,e=Xf P (m 1):=⟨_,rfl⟩
    (show Xf P (m 1)=_;rw[<-he];cases e);all_goals rw[Zce]
    all_goals simp only[Zcu,Zb7,Zb1,Zcx,Zcv,Zcy,Zcw,and_true,and_false,not_false_eq_true]
    all_goals omega
   refine ZE G (ZD G (ZC G (Zq G (Zk G (Zg G (ZI ?_))))));obtain⟨e,he⟩:∃ e,e=Xf P (m 1):=⟨_,rfl⟩
   rw[<-he];all_goals rw[Zce]
   all_goals simp only[Zcu,Zb7,Zb1,Zcx,Zcv,Zcy,Zcw,and_true,and_false,not_false_eq_true]
   all_goals omega
  refine ZE G (ZC G (Zq G (Zk G (ZE G (ZD G (ZC G (Zq G (Zk G (Zg G (ZI ?_))))))))));obtain⟨e,he⟩:∃ e,e=Xf P (m 1):=⟨_,rfl⟩
  rw[<-he];all_goals rw[Zce]
  all_goals simp only[Zcu,Zb7,Zb1,Zcx,Zcv,Zcy,Zcw,and_true,and_false,not_false_eq_true]
  all_goals omega
 refine ZE G (ZD G (ZC G (Zq G (Zk G (ZE G (ZC G (Zq G (Zk G (ZE G (ZD G (ZC G (Zq G (Zk G (Zg G (ZI ?_)))))))))))))));obtain⟨e,he⟩:∃ e,e=Xf P (m 1):=⟨_,rfl⟩
 rw[<-he];all_goals rw[Zce]
 all_goals simp only[Zcu,Zb7,Zb1,Zcx,Zcv,Zcy,Zcw,and_true,and_false,not_false_eq_true]
 all_goals omega
def pa(X m:Nat->Int)(hc:X 1=0\/X 1=1)(ha:0<=m 0/\m 0<64)(ht:0<=m 1/\m 1<64):WR AM 65 [.agg 2 (ia X),.agg 3 (ia m)] [] (fun v _ _=>v=.s (.bool (W9 (X 0) (m 0) (m 1) (X 1)))):=by
 refine YL (a:=a65) G G (YI _) (ZQ G) (m:=0) G (Ze (YC G (YC G (Yq G (Yc (Ye (Ze (Zy G (Ym G G ZN G (Zr G (Zk G (Ys (t:=8) G (fun h28=>?_) (fun h28=>?_))))))))))))) <;> simp only[NM]at h28
 ·refine ZE G (ZD G (ZC G (Zq G (Yc (ZA G (Ze (Yq G (Zg G (ZI ?_)))))))));unfold W9;rw[Zce];simp only[Zcu,Zb7,Zb1,Zcx,Zcv,Zcy,Zcw];omega
 refine Yb G (Zy G (Yb G (Ym G G ZM G (Yb G (Zv G G (Yb G (Zz G (Yb G (Ym G G ZM G (Yb G (Zv G G (Yb G (Zr G (Zq G (Yc (Yj G (fun h29=>?_) (fun h29=>?_))))))))))))))))) <;> simp only[NM]at h29
 ·refine Ze (Yq G (Zg G (ZI ?_)));unfold W9;rw[Zce];simp only[Zcu,Zb7,Zb1,Zcx,Zcv,Zcy,Zcw];omega
 refine Yh (Ze (Zz G (Ym G G ZN G (Zr G (Zk G (Ys (t:=20) G (fun h30=>?_) (fun h30=>?_))))))) <;> simp only[NM]at h30
 ·refine Yb G (Zy G (Yb G (Ym G G ZM G (Yb G (Zu G G (Yb G (Zr G (Zq G (Zk G (Ys (t:=26) G (fun h31=>?_) (fun h31=>?_))))))))))) <;> simp only[NM]at h31
  ·refine Yb G (Zz G (Yb G (Ym G G ZM G (Yb G (Zu G G (Yb G (Zr G (Zq G (Zk G (Ys (t:=32) G (fun h32=>?_) (fun h32=>?_))))))))))) <;> simp only[NM]at h32
   ·refine ZE G (YJ G (YJ G (YJ G (YJ G (ZD G (YJ G (YJ G (YJ G (YJ G (ZC G (Zq G (Zk G (Zg G (ZI ?_))))))))))))));unfold W9;rw[Zce];simp only[Zcu,Zb7,Zb1,Zcx,Zcv,Zcy,Zcw];omega
   refine Yb G (Zz G (Yb G (Ym G G ZN G (Yb G (Zr G (Yb G (Zk G (Ys (t:=36) G (fun h33=>?_) (fun h33=>?_))))))))) <;> simp only[NM]at h33
   ·refine Yb G (Zy G (Yb G (Ym G G ZM G (Yb G (Zu G G (Yb G (Zr G (Yb G (Zq G (Yb G (Zk G (Ys (t:=42) G (fun h34=>?_) (fun h34=>?_))))))))))))) <;> simp only[NM]at h34
    ·refine Yb G (Zz G (Yb G (Ym G G ZM G (Yb G (Zu G G (Yb G (Zr G (Yb G (Zq G (Zq G (Zk G (Zg G (ZI ?_)))))))))))));unfold W9;rw[Zce];simp only[Zcu,Zb7,Zb1,Zcx,Zcv,Zcy,Zcw];omega
    refine ZE G (Yb G (Zq G (Zq G (Zk G (Zg G (ZI ?_))))));unfold W9;rw[Zce];simp only[Zcu,Zb7,Zb1,Zcx,Zcv,Zcy,Zcw];omega
   refine ZE G (Yb G (Zq G (Yb G (Zk G (ZE G (Yb G (Zq G (Zq G (Zk G (Zg G (ZI ?_)))))))))));unfold W9;rw[Zce];simp only[Zcu,Zb7,Zb1,Zcx,Zcv,Zcy,Zcw];omega
  refine ZE G (Zq G (Zk G (Yb G (Zz G (Yb G (Ym G G ZN G (Yb G (Zr G (Yb G (Zk G (Ys (t:=36) G (fun h35=>?_) (fun h35=>?_)))))))))))) <;> simp only[NM]at h35
  ·refine Yb G (Zy G (Yb G (Ym G G ZM G (Yb G (Zu G G (Yb G (Zr G (Yb G (Zq G (Yb G (Zk G (Ys (t:=42) G (fun h36=>?_) (fun h36=>?_))))))))))))) <;> simp only[NM]at h36
   ·refine Yb G (Zz G (Yb G (Ym G G ZM G (Yb G (Zu G G (Yb G (Zr G (Yb G (Zq G (Zq G (Zk G (Zg G (ZI ?_)))))))))))));unfold W9;rw[Zce];simp only[Zcu,Zb7,Zb1,Zcx,Zcv,Zcy,Zcw];omega
   refine ZE G (Yb G (Zq G (Zq G (Zk G (Zg G (ZI ?_))))));unfold W9;rw[Zce];simp only[Zcu,Zb7,Zb1,Zcx,Zcv,Zcy,Zcw];omega
  refine ZE G (Yb G (Zq G (Yb G (Zk G (ZE G (Yb G (Zq G (Zq G (Zk G (Zg G (ZI ?_)))))))))));unfold W9;rw[Zce];simp only[Zcu,Zb7,Zb1,Zcx,Zcv,Zcy,Zcw];omega
 refine ZE G (Zq G (Zk G (ZE G (Zq G (Zk G (Yb G (Zz G (Yb G (Ym G G ZN G (Yb G (Zr G (Yb G (Zk G (Ys (t:=36) G (fun h37=>?_) (fun h37=>?_))))))))))))))) <;> simp only[NM]at h37
 ·refine Yb G (Zy G (Yb G (Ym G G ZM G (Yb G (Zu G G (Yb G (Zr G (Yb G (Zq G (Yb G (Zk G (Ys (t:=42) G (fun h38=>?_) (fun h38=>?_))))))))))))) <;> simp only[NM]at h38
  ·refine Yb G (Zz G (Yb G (Ym G G ZM G (Yb G (Zu G G (Yb G (Zr G (Yb G (Zq G (Zq G (Zk G (Zg G (ZI ?_)))))))))))));unfold W9;rw[Zce];simp only[Zcu,Zb7,Zb1,Zcx,Zcv,Zcy,Zcw];omega
  refine ZE G (Yb G (Zq G (Zq G (Zk G (Zg G (ZI ?_))))));unfold W9;rw[Zce];simp only[Zcu,Zb7,Zb1,Zcx,Zcv,Zcy,Zcw];omega
 refine ZE G (Yb G (Zq G (Yb G (Zk G (ZE G (Yb G (Zq G (Zq G (Zk G (Zg G (ZI ?_)))))))))));unfold W9;rw[Zce];simp only[Zcu,Zb7,Zb1,Zcx,Zcv,Zcy,Zcw];omega
def zG{C:Int}(h:0<=C)(s:Int)(hs:s=1\/s=2\/s=4\/s=8):0<=C/s:=Int.ediv_nonneg h (by omega)
def jn(P m:Nat->Int)(hc:P (sqI (m 0)+1)=0\/P (sqI (m 0)+1)=1)(ha:0<=m 0/\m 0<64)(ht:0<=m 1/\m 1<64):WR AM 61 [.agg 133 (ia P),.agg 3 (ia m)] [] (fun v _ _=>v=.s (.int .i64 (Y3 (P (sqI (m 0))) (m 0) (m 1) (P (sqI (m 0)+1)) (W7 P)))):=by
 have hC:=EO P;have d1:=zG hC.1 1 (by omega);have d2:=zG hC.1 2 (by omega);have d4:=zG hC.1 4 (by omega);have d8:=zG hC.1 8 (by omega);refine YL (a:=a61) G G (YI _) (ZQ G) (m:=0) G (Ze (YC G (YC G (Yq G (Zf (Zy G (Ym G G ZM G (Zy G (Zw G G G (Yp G G ZN (Yy (Yz G G G G .here (Zf (Yq G (Yq G (Yq G (Yc (Ye (Ze (Zz G (Ym (x:=P (sqI (m 0)+1)) G G ZM (G) (Zr G (Yc (Yj G (fun h39=>?_) (fun h39=>?_))))))))))))))))))))))))) <;> simp only[NM]at h39
 ·refine Yf (Yq G (Yq G (Yq G (Yc (Ye (Ze (Zy G (Ym (x:=P (sqI (m 0))) G G ZM (G) (Zr G (Zk G (Ys (t:=20) G (fun h40=>?_) (fun h40=>?_)))))))))))) <;> simp only[NM]at h40
  ·refine ZE G (Zq G (Yc (ZA G (Ze (Yq G (Yc (Yi (⟨_,ZL G,?_⟩))))))));refine ZJ ?_;rcases hc with hc|hc
   all_goals simp only[Y3,Y4,hc,if_true,if_false,Int.reduceEq,Int.reduceMul,Int.reduceAdd]
   all_goals (repeat' split) <;> omega
  refine Yb G (Zy G (Yb G (Ym (x:=m 0) G G ZN (G) (Yb G (Zj G (Yb G (Zr G (Zq G (Yc (Yj G (fun h41=>?_) (fun h41=>?_))))))))))) <;> simp only[NM]at h41
  ·refine Ze (Yq G (Yc (Yi (⟨_,ZL G,?_⟩))));refine ZJ ?_;rcases hc with hc|hc
   all_goals simp only[Y3,Y4,hc,if_true,if_false,Int.reduceEq,Int.reduceMul,Int.reduceAdd]
   all_goals (repeat' split) <;> omega
  refine Yh (Ye (Ze (Zz G (Ym (x:=m 1) G G ZN (G) (Zj G (Zs G G (Zr G (Zk G (Ys (t:=31) G (fun h42=>?_) (fun h42=>?_)))))))))) <;> simp only[NM]at h42
  ·refine Yb G (Yo G G ZO (Yb G (Yt G (YP (VG _)) G G G (Yb G (Zj G (Yb G (Zu G G (Yb G (Zv G G (Yb G (Zr G (Zq G (Yc (Yj G (fun h43=>?_) (fun h43=>?_))))))))))))))) <;> simp only[NM]at h43
   ·refine Ze (Yq G (Yc (Yi (⟨_,ZL G,?_⟩))));refine ZJ ?_;rcases hc with hc|hc
    all_goals simp only[Y3,Y4,hc,if_true,if_false,Int.reduceEq,Int.reduceMul,Int.reduceAdd]
    all_goals (repeat' split) <;> omega
   refine Yh (Ye (Ze (Zz G (Ym (x:=m 1) G G ZN (G) (Zj G (Zt G G (Zr G (Zk G (Ys (t:=44) G (fun h44=>?_) (fun h44=>?_)))))))))) <;> simp only[NM]at h44
   ·refine Yb G (Yo G G ZO (Yb G (Yt G (YP (VG _)) G G G (Yb G (Zj G (Yb G (Zu G G (Yb G (Zv G G (Yb G (Zr G (Zq G (Yc (Yj G (fun h45=>?_) (fun h45=>?_))))))))))))))) <;> simp only[NM]at h45
    ·refine Ze (Yq G (Yc (Yi (⟨_,ZL G,?_⟩))));refine ZJ ?_;rcases hc with hc|hc
     all_goals simp only[Y3,Y4,hc,if_true,if_false,Int.reduceEq,Int.reduceMul,Int.reduceAdd]
     all_goals (repeat' split) <;> omega
    refine Yh (Ze (Yq G (Yc (Yi (⟨_,ZL G,?_⟩)))));refine ZJ ?_;rcases hc with hc|hc
    all_goals simp only[Y3,Y4,hc,if_true,if_false,Int.reduceEq,Int.reduceMul,Int.reduceAdd]
    all_goals (repeat' split) <;> omega
   refine ZE G (ZD G (Zq G (Yc (ZB G (Yh (Ze (Yq G (Yc (Yi (⟨_,ZL G,?_⟩))))))))));refine ZJ ?_;rcases hc with hc|hc
   all_goals simp only[Y3,Y4,hc,if_true,if_false,Int.reduceEq,Int.reduceMul,Int.reduceAdd]
   all_goals (repeat' split) <;> omega
  refine ZE G (ZD G (Zq G (Yc (ZB G (Yh (Ye (Ze (Zz G (Ym (x:=m 1) G G ZN (G) (Zj G (Zt G G (Zr G (Zk G (Ys (t:=44) G (fun h46=>?_) (fun h46=>?_))))))))))))))) <;> simp only[NM]at h46
  ·refine Yb G (Yo G G ZO (Yb G (Yt G (YP (VG _)) G G G (Yb G (Zj G (Yb G (Zu G G (Yb G (Zv G G (Yb G (Zr G (Zq G (Yc (Yj G (fun h47=>?_) (fun h47=>?_))))))))))))))) <;> simp only[NM]at h47
   ·refine Ze (Yq G (Yc (Yi (⟨_,ZL G,?_⟩))));refine ZJ ?_;rcases hc with hc|hc
    all_goals simp only[Y3,Y4,hc,if_true,if_false,Int.reduceEq,Int.reduceMul,Int.reduceAdd]
    all_goals (repeat' split) <;> omega
   refine Yh (Ze (Yq G (Yc (Yi (⟨_,ZL G,?_⟩)))));refine ZJ ?_;rcases hc with hc|hc
   all_goals simp only[Y3,Y4,hc,if_true,if_false,Int.reduceEq,Int.reduceMul,Int.reduceAdd]
   all_goals (repeat' split) <;> omega
  refine ZE G (ZD G (Zq G (Yc (ZB G (Yh (Ze (Yq G (Yc (Yi (⟨_,ZL G,?_⟩))))))))));refine ZJ ?_;rcases hc with hc|hc
  all_goals simp only[Y3,Y4,hc,if_true,if_false,Int.reduceEq,Int.reduceMul,Int.reduceAdd]
  all_goals (repeat' split) <;> omega
 refine Yh (Ye (Ze (Zy G (Ym (x:=P (sqI (m 0))) G G ZM (G) (Zr G (Zk G (Ys (t:=20) G (fun h48=>?_) (fun h48=>?_)))))))) <;> simp only[NM]at h48
 ·refine ZE G (Zq G (Yc (ZA G (Ze (Yq G (Yc (Yi (⟨_,ZL G,?_⟩))))))));refine ZJ ?_;rcases hc with hc|hc
  all_goals simp only[Y3,Y4,hc,if_true,if_false,Int.reduceEq,Int.reduceMul,Int.reduceAdd]
  all_goals (repeat' split) <;> omega
 refine Yb G (Zy G (Yb G (Ym (x:=m 0) G G ZN (G) (Yb G (Zj G (Yb G (Zr G (Zq G (Yc (Yj G (fun h49=>?_) (fun h49=>?_))))))))))) <;> simp only[NM]at h49
 ·refine Ze (Yq G (Yc (Yi (⟨_,ZL G,?_⟩))));refine ZJ ?_;rcases hc with hc|hc
  all_goals simp only[Y3,Y4,hc,if_true,if_false,Int.reduceEq,Int.reduceMul,Int.reduceAdd]
  all_goals (repeat' split) <;> omega
 refine Yh (Ye (Ze (Zz G (Ym (x:=m 1) G G ZN (G) (Zj G (Zs G G (Zr G (Zk G (Ys (t:=31) G (fun h50=>?_) (fun h50=>?_)))))))))) <;> simp only[NM]at h50
 ·refine Yb G (Yo G G ZO (Yb G (Yt G (YP (VG _)) G G G (Yb G (Zj G (Yb G (Zu G G (Yb G (Zv G G (Yb G (Zr G (Zq G (Yc (Yj G (fun h51=>?_) (fun h51=>?_))))))))))))))) <;> simp only[NM]at h51
  ·refine Ze (Yq G (Yc (Yi (⟨_,ZL G,?_⟩))));refine ZJ ?_;rcases hc with hc|hc
   all_goals simp only[Y3,Y4,hc,if_true,if_false,Int.reduceEq,Int.reduceMul,Int.reduceAdd]
   all_goals (repeat' split) <;> omega
  refine Yh (Ye (Ze (Zz G (Ym (x:=m 1) G G ZN (G) (Zj G (Zt G G (Zr G (Zk G (Ys (t:=44) G (fun h52=>?_) (fun h52=>?_)))))))))) <;> simp only[NM]at h52
  ·refine Yb G (Yo G G ZO (Yb G (Yt G (YP (VG _)) G G G (Yb G (Zj G (Yb G (Zu G G (Yb G (Zv G G (Yb G (Zr G (Zq G (Yc (Yj G (fun h53=>?_) (fun h53=>?_))))))))))))))) <;> simp only[NM]at h53
   ·refine Ze (Yq G (Yc (Yi (⟨_,ZL G,?_⟩))));refine ZJ ?_;rcases hc with hc|hc
    all_goals simp only[Y3,Y4,hc,if_true,if_false,Int.reduceEq,Int.reduceMul,Int.reduceAdd]
    all_goals (repeat' split) <;> omega
   refine Yh (Ze (Yq G (Yc (Yi (⟨_,ZL G,?_⟩)))));refine ZJ ?_;rcases hc with hc|hc
   all_goals simp only[Y3,Y4,hc,if_true,if_false,Int.reduceEq,Int.reduceMul,Int.reduceAdd]
   all_goals (repeat' split) <;> omega
  refine ZE G (ZD G (Zq G (Yc (ZB G (Yh (Ze (Yq G (Yc (Yi (⟨_,ZL G,?_⟩))))))))));refine ZJ ?_;rcases hc with hc|hc
  all_goals simp only[Y3,Y4,hc,if_true,if_false,Int.reduceEq,Int.reduceMul,Int.reduceAdd]
  all_goals (repeat' split) <;> omega
 refine ZE G (ZD G (Zq G (Yc (ZB G (Yh (Ye (Ze (Zz G (Ym (x:=m 1) G G ZN (G) (Zj G (Zt G G (Zr G (Zk G (Ys (t:=44) G (fun h54=>?_) (fun h54=>?_))))))))))))))) <;> simp only[NM]at h54
 ·refine Yb G (Yo G G ZO (Yb G (Yt G (YP (VG _)) G G G (Yb G (Zj G (Yb G (Zu G G (Yb G (Zv G G (Yb G (Zr G (Zq G (Yc (Yj G (fun h55=>?_) (fun h55=>?_))))))))))))))) <;> simp only[NM]at h55
  ·refine Ze (Yq G (Yc (Yi (⟨_,ZL G,?_⟩))));refine ZJ ?_;rcases hc with hc|hc
   all_goals simp only[Y3,Y4,hc,if_true,if_false,Int.reduceEq,Int.reduceMul,Int.reduceAdd]
   all_goals (repeat' split) <;> omega
  refine Yh (Ze (Yq G (Yc (Yi (⟨_,ZL G,?_⟩)))));refine ZJ ?_;rcases hc with hc|hc
  all_goals simp only[Y3,Y4,hc,if_true,if_false,Int.reduceEq,Int.reduceMul,Int.reduceAdd]
  all_goals (repeat' split) <;> omega
 refine ZE G (ZD G (Zq G (Yc (ZB G (Yh (Ze (Yq G (Yc (Yi (⟨_,ZL G,?_⟩))))))))));refine ZJ ?_;rcases hc with hc|hc
 all_goals simp only[Y3,Y4,hc,if_true,if_false,Int.reduceEq,Int.reduceMul,Int.reduceAdd]
 all_goals (repeat' split) <;> omega
def tP(P m:Nat->Int):WR AM 28 [.agg 133 (ia P),.agg 3 (ia m)] [] (fun v _ _=>v=.s (.int .i64 (if Wj P (m 0) (m 1) (m 2)=0 then Y7 P (P (sqI (m 0))) (m 0) (m 1) else -1))):=by
 refine YL (a:=a28) G G (YI _) (ZQ G) (m:=0) G (Ze (YC G (YC G (Yq G (Yc (Ye (Ze (Zy G (Ym G G ZM G (Yt G (YP (zo _)) G G G (Yv (r:=.bool _) G G (Zk G (Ys (t:=10) G (fun h56=>?_) (fun h56=>?_)))))))))))))) <;> simp only[NM]at h56
 ·try simp only[isM,Zb7,ZbJ]at h56
  refine ZE G (Zq G (Zk G (ZE G (ZC G (Zq G (Zk G (ZE G (Zq G (Yc (ZA G (Ze (Yq G (Yc (Yi (⟨_,ZL G,?_⟩)))))))))))))));refine ZJ ?_;(rw[UD (by omega)];rfl)
 try simp only[isM,Zb7,ZbJ]at h56
 refine Yb G (Zz G (Yb G (Ym G G ZM G (Yb G (Yt G (YP (zo _)) G G G (Yb G (Yv (r:=.bool _) G G (Zq G (Zk G (Ys (t:=16) G (fun h57=>?_) (fun h57=>?_))))))))))) <;> simp only[NM]at h57
 ·try simp only[isM,Zb7,ZbJ]at h57
  refine ZE G (ZC G (Zq G (Zk G (ZE G (Zq G (Yc (ZA G (Ze (Yq G (Yc (Yi (⟨_,ZL G,?_⟩))))))))))));refine ZJ ?_;(rw[UD (by omega)];rfl)
 try simp only[isM,Zb7,ZbJ]at h57
 refine Yb G (Zy G (Yb G (Ym G G ZM G (Yb G (Zz G (Yb G (Ym G G ZM G (Yb G (Zr G (Zq G (Zk G (Ys (t:=23) G (fun h58=>?_) (fun h58=>?_))))))))))))) <;> simp only[NM]at h58
 ·refine ZE G (Zq G (Yc (ZA G (Ze (Yq G (Yc (Yi (⟨_,ZL G,?_⟩))))))));refine ZJ ?_;(rw[UD (by omega)];rfl)
 refine Yb G (Yo G G ZN (Yb G (Yo G G ZM (Yb G (Yt G (YP (kK _ _ (by assumption) (by assumption))) G G G (Yb G (Yv (r:=.bool _) G G (Zq G (Yc (Yj G (fun h59=>?_) (fun h59=>?_))))))))))) <;> simp only[NM]at h59
 ·refine Ze (Yq G (Yc (Yi (⟨_,ZL G,?_⟩))));refine ZJ ?_;(rw[Wo (by omega) (by assumption)];rfl)
 refine Yh (Ze (Zz G (Ym G G ZM G (Zj G (Yc (Wz (fun f n L=>(Wj P (m 0) (m 1) (m 2)=0)/\(0<=m 0/\m 0<64)/\(0<=m 1/\m 1<64)/\(f 2=.ptr 0 0 133)/\(f 3=.ptr 1 0 3)/\(f 4=.s (.int .i64 0))/\(f 5=.s (.int .i64 (atT P (P (sqI (m 0))) (m 0) (m 1))))/\(L=[(1,.sc .var 3 (ia m)),(0,.sc .var 133 (ia P))])/\(n=2)) ?_ (fun f nb L hI=>?_)))))))
 ·refine Ze (Yo G G ZN (Yo G G ZM (Yt G (YP (p8 _ _ (by assumption) (by assumption))) G G G (Yc (Yj G (fun h60=>?_) (fun h60=>?_)))))) <;> simp only[NM]at h60
  ·refine Yf (Zy G (Ym G G ZM G (Zu G G (Wn G G (by omega) (Zz G (Ym G G ZM G (Zv G G (Zs G G (Zj G (Yc (⟨_,(.refl _),?_,by assumption,by assumption,rfl,rfl,rfl,?_,rfl,rfl⟩)))))))))))
   ·exact Vi (by omega) (by assumption)
   refine ZJ ?_;unfold atT;exact(ZcA (by assumption)).symm
  refine Yh (⟨_,(.refl _),?_,by assumption,by assumption,rfl,rfl,rfl,?_,rfl,rfl⟩)
  ·exact Vi (by omega) (by assumption)
  refine ZJ ?_;unfold atT;exact(Zcz (by assumption)).symm
 obtain⟨ge,ha,ht,k2,k3,k4,k5,rfl,rfl⟩:=hI;refine Za 2 k2 (Za 3 k3 (Za 4 k4 (Za 5 k5 ?_)));have hat:=xE (P:=P) (k:=P (sqI (m 0))) ha ht;refine Ye (Ze (Zj G (Zy G (Zw G G G (Yp G G ZN (YB G .nil (Yw G G (Yc (Yj G (fun h61=>?_) (fun h61=>?_)))))))))) <;> simp only[NM]at h61
 ·refine Ze (Yq G (Yc (Yi (⟨_,ZL G,?_⟩))));refine ZJ ?_;(rw[ZcA ge,Y7,show Xf P (atT P (P (sqI (m 0))) (m 0) (m 1))=true from(by assumption)];rfl)
 refine Yh (Ze (Zj G (Zj G (Yc (Yi (⟨_,ZL G,?_⟩))))));refine ZJ ?_;(rw[ZcA ge,Y7,show Xf P (atT P (P (sqI (m 0))) (m 0) (m 1))=false from(by assumption)];rfl)
open Go Go.Am
def straightL:List (Int×Int):=[(1,0),(-1,0),(0,1),(0,-1)]
def slantL:List (Int×Int):=[(1,1),(1,-1),(-1,1),(-1,-1)]
def jumpL:List (Int×Int):=[(1,2),(2,1),(2,-1),(1,-2),(-1,-2),(-2,-1),(-2,1),(-1,2)]
def Vb(f r:Int):Nat->Int->List Int
 |0,_=>[]
 |k+1,s=>if YT s f r=-1 then [] else YT s f r::Vb f r k (YT s f r)
def VU(P:Nat->Int):List Int->List Int
 |[]=>[]
 |t::l=>if Xf P t=true then t::VU P l else [t]
def X8(P:Nat->Int)(s:Int)(ways:List (Int×Int)):List Int:=ways.flatMap fun w=>VU P (Vb w.1 w.2 8 s)
def X7(s:Int)(ways:List (Int×Int)):List Int:=(ways.map fun w=>YT s w.1 w.2).filter fun t=>t != -1
def Ui(P:Nat->Int)(s k c:Int):List Int :=
 if c=0\/c=1 then
  if k=1 then X7 s [(-1,1-2*c),(1,1-2*c)]
  else if k=2 then X7 s jumpL
  else if k=6 then X7 s (straightL++slantL)
  else if k=4 then X8 P s straightL
  else if k=3 then X8 P s slantL
  else if k=5 then X8 P s (straightL++slantL)
  else []
 else []
def Wd(P:Nat->Int)(s:Int):List Int:=Ui P s (P (sqI s)) (P (sqI s+1))
def Wk(P:Nat->Int)(s:Int):List Int:=if 0<=s/\s<64 then KI (Wd P s) else []
def Vl(n:Int):Int:=if n<0 then -n else n
def Zds(n:Int):Int:=if n<0 then -1 else if 0<n then 1 else 0
def wi(a b:Int):Int:=8*Zds (b/8-a/8)+Zds (b%8-a%8)
def kq(a b:Int):Nat:=max (Vl (b/8-a/8)).toNat (Vl (b%8-a%8)).toNat
def zw(P:Nat->Int)(a b:Int):Bool:=(List.range (kq a b-1)).all fun(j:Nat)=>Xf P (a+wi a b*((j:Int)+1))
def Uh(a b:Int):Bool:=decide (b%8-a%8=0\/b/8-a/8=0)
def Uf(a b:Int):Bool:=decide (Vl (b%8-a%8)=Vl (b/8-a/8))
def wt(P:Nat->Int)(a b k c:Int):Bool :=
 if Xm k c=false\/a=b then false
 else if k=1 then decide (Vl (b%8-a%8)=1/\b/8-a/8=1-2*c)
 else if k=2 then decide (Vl (b%8-a%8)*Vl (b/8-a/8)=2)
 else if k=6 then decide (Vl (b%8-a%8)<=1/\Vl (b/8-a/8)<=1)
 else if k=4 then Uh a b&&zw P a b
 else if k=3 then Uf a b&&zw P a b
 else (Uh a b||Uf a b)&&zw P a b
def Kv(P:Nat->Int)(a b:Int):Bool:=wt P a b (P (sqI a)) (P (sqI a+1))
def KT(a b:Int):Int×Int:=(Zds (b%8-a%8),Zds (b/8-a/8))
def DJ(a b:Int):List Int:=(List.range (kq a b-1)).map fun(j:Nat)=>a+wi a b*((j:Int)+1)
def JA(f:Nat->Bool):Bool:=Xp 64 f
def V6{f:Nat->Bool}(h:JA f=true)(x:Fin 64):f x.val=true:=by
 have:∀ n,Xp n f=true->∀ i,i<n->f i=true:=by
  intro n;induction n with
  |zero=>intro _ i hi;omega
  |succ n ih=>
   intro h i hi;simp only[Xp,Zca]at h;by_cases e:i=n
   ·subst e;exact h.2
   exact ih h.1 i (by omega)
 exact this 64 h x.val x.isLt
def beqL:List Int->List Int->Bool
 |[],[]=>true
 |x::l,y::r=>decide (x=y)&&beqL l r
 |_,_=>false
def uY:∀ {l r:List Int},beqL l r=true->l=r
 |[],[],_=>rfl
 |x::l,y::r,h=>by
  simp only[beqL,Zca,Zb7]at h;rw[h.1,uY h.2]
 |[],_::_,h=>by cases h
 |_::_,[],h=>by cases h
def Th(b:Int):List Int->Bool
 |[]=>false
 |x::l=>decide (b=x)||Th b l
def Ki{b:Int}:∀ {l:List Int},Th b l=decide (b∈l)
 |[]=>by simp[Th]
 |x::l=>by simp only[Th,Ki (l:=l),Zco,Bool.decide_or]
def chk(a:Int)(w:Int×Int):List Int->List Int->Bool
 |_,[]=>true
 |pre,b::l=>(decide (a≠b)&&(decide ((KT a b).1=w.1)&&decide ((KT a b).2=w.2))&&(Uh a b||Uf a b))&&beqL pre (DJ a b)&&!Th b pre&&chk a w (pre++[b]) l
def pX{a b:Int}{w:Int×Int}:∀ {r pre:List Int},chk a w pre r=true->b∈r->(a≠b/\KT a b=w/\(Uh a b||Uf a b)=true)/\(b ∉ pre/\pre++r.takeWhile (fun t=>t != b)=DJ a b)
 |[],_,_,h=>by cases h
 |x::r,pre,h,hm=>by
  simp only[chk,Zca,Zb7,Zb6,Ki,ZbJ]at h;obtain⟨⟨⟨⟨⟨h1,h2,h3⟩,h4⟩,h5⟩,h6⟩,h7⟩:=h;by_cases e:x=b
  ·subst e;refine⟨⟨h1,Prod.ext h2 h3,h4⟩,h6,?_⟩;have:(x::r).takeWhile (fun t=>t != x)=[]:=by simp
   rw[this,Zcf];exact uY h5
  rcases Zco.1 hm with e'|hm
  ·exact absurd e'.symm e
  obtain⟨k1,k2,k3⟩:=pX h7 hm;refine⟨k1,fun h=>k2 (ZbV _ h),?_⟩;have:(x::r).takeWhile (fun t=>t != b)=x::r.takeWhile (fun t=>t != b):=by simp[e]
  rw[this,<-k3,Zb5];rfl
def rayOK(a b:Int):Bool:=decide (a=b)||(!(Uh a b||Uf a b)||Th b (Vb (KT a b).1 (KT a b).2 8 a))
theorem ray_all:(JA fun a=>JA fun b=>rayOK a b)=true:=by decide +kernel
theorem chk_all:(JA fun a=>(straightL++slantL).all fun w=>chk a w [] (Vb w.1 w.2 8 a))=true:=by decide +kernel
def ray_to(a b:Fin 64)(hn:(a.val:Int)≠b.val)(h:(Uh a.val b.val||Uf a.val b.val)=true):(b.val:Int)∈Vb (KT a.val b.val).1 (KT a.val b.val).2 8 a.val:=by
 have h1:=V6 (V6 ray_all a) b;unfold rayOK at h1;rw[Zci hn,Bool.false_or,h,Bool.not_true,Bool.false_or,Ki]at h1;exact of_decide_eq_true h1
def gH{a:Fin 64}{b:Int}{w:Int×Int}(hw:w∈straightL++slantL)(h:b∈Vb w.1 w.2 8 a.val):((a.val:Int)≠b/\KT a.val b=w/\(Uh a.val b||Uf a.val b)=true)/\(Vb w.1 w.2 8 a.val).takeWhile (fun t=>t != b)=DJ a.val b:=by
 have h2:=pX (Zcc.1 (V6 chk_all a) w hw) h;exact⟨h2.1,by simpa using h2.2.2⟩
def sI(a b:Int):Bool:=decide (a=b)||(Uh a b==(decide (KT a b∈straightL)&&(Uh a b||Uf a b))&&(Uf a b==(decide (KT a b∈slantL)&&(Uh a b||Uf a b))))
def DT(a b:Int):Bool :=
 (Th b (X7 a jumpL)==(decide (a≠b)&&decide (Vl (b%8-a%8)*Vl (b/8-a/8)=2))) &&
 (Th b (X7 a (straightL++slantL))==(decide (a≠b)&&(decide (Vl (b%8-a%8)<=1)&&decide (Vl (b/8-a/8)<=1)))) &&
 [0,1].all fun c=>Th b (X7 a [(-1,1-2*c),(1,1-2*c)])==(decide (a≠b)&&(decide (Vl (b%8-a%8)=1)&&decide (b/8-a/8=1-2*c)))
theorem u4:(JA fun a=>JA fun b=>sI a b)=true:=by decide +kernel
theorem Zbu:(JA fun a=>JA fun b=>DT a b)=true:=by decide +kernel
def gX(a b:Fin 64)(hn:(a.val:Int)≠b.val):Uh a.val b.val=decide (KT a.val b.val∈straightL/\(Uh a.val b.val||Uf a.val b.val)=true):=by
 have h:=V6 (V6 u4 a) b;unfold sI at h;rw[Zci hn,Bool.false_or,Zca,Zcu,Zcu]at h;rw[Bool.decide_and];exact h.1.trans (by simp)
def Zaf(a b:Fin 64)(hn:(a.val:Int)≠b.val):Uf a.val b.val=decide (KT a.val b.val∈slantL/\(Uh a.val b.val||Uf a.val b.val)=true):=by
 have h:=V6 (V6 u4 a) b;unfold sI at h;rw[Zci hn,Bool.false_or,Zca,Zcu,Zcu]at h;rw[Bool.decide_and];exact h.2.trans (by simp)
def wJ(a b:Fin 64):DT a.val b.val=true:=V6 (V6 Zbu a) b
def qn(a b:Fin 64)(c:Int)(hc:c∈[0,1]):decide ((b.val:Int)∈X7 a.val [(-1,1-2*c),(1,1-2*c)])=decide ((a.val:Int)≠b.val/\Vl ((b.val:Int)%8-(a.val:Int)%8)=1/\(b.val:Int)/8-(a.val:Int)/8=1-2*c):=by
 have h:=wJ a b;unfold DT at h;rw[Zca]at h;have h:=Zcc.1 h.2 c hc;rw[Zcu,Ki]at h;rw[h,Bool.decide_and,Bool.decide_and]
def qz(a b:Fin 64):decide ((b.val:Int)∈X7 a.val jumpL)=decide ((a.val:Int)≠b.val/\Vl ((b.val:Int)%8-(a.val:Int)%8)*Vl ((b.val:Int)/8-(a.val:Int)/8)=2):=by
 have h:=wJ a b;unfold DT at h;rw[Zca,Zca,Zcu,Ki]at h;rw[h.1.1,Bool.decide_and]
def qV(a b:Fin 64):decide ((b.val:Int)∈X7 a.val (straightL++slantL))=decide ((a.val:Int)≠b.val/\Vl ((b.val:Int)%8-(a.val:Int)%8)<=1/\Vl ((b.val:Int)/8-(a.val:Int)/8)<=1):=by
 have h:=wJ a b;unfold DT at h;rw[Zca,Zca,Zcu,Zcu,Ki,Ki]at h;rw[h.1.2,Bool.decide_and,Bool.decide_and]
def yL:List Int->Bool
 |[]=>true
 |x::l=>!Th x l&&yL l
def TD:∀ {l:List Int},yL l=true->l.Nodup
 |[],_=>.nil
 |x::l,h=>by
  simp only[yL,Zca,Zb6,Ki,ZbJ]at h;exact List.nodup_cons.2 ⟨h.1,TD h.2⟩
theorem nod_all:(JA fun a=>yL (X7 a jumpL)&&yL (X7 a (straightL++slantL))&&([0,1].all fun c=>yL (X7 a [(-1,1-2*c),(1,1-2*c)]))&&yL ((straightL++slantL).flatMap fun w=>Vb w.1 w.2 8 a))=true:=by decide +kernel
def x6(a:Fin 64):(X7 a.val jumpL).Nodup∧(X7 a.val (straightL++slantL)).Nodup∧(∀ c∈[0,1],(X7 a.val [(-1,1-2*c),(1,1-2*c)]).Nodup)∧((straightL++slantL).flatMap fun w=>Vb w.1 w.2 8 a.val).Nodup:=by
 have h:=V6 nod_all a;simp only[Zca]at h;exact⟨TD h.1.1.1,TD h.1.1.2,fun c hc=>TD (Zcc.1 h.1.2 c hc),TD h.2⟩
def upto_mem{P:Nat->Int}{b:Int}:∀ {l:List Int},b∈VU P l↔b∈l/\(l.takeWhile (fun t=>t != b)).all (fun t=>Xf P t)=true
 |[]=>by simp[VU]
 |t::l=>by
  unfold VU;by_cases e:t=b
  ·subst e;have h:(t::l).takeWhile (fun s=>s != t)=[]:=by simp
   rw[h];by_cases h:Xf P t=true
   ·rw[ZcA h];simp
   rw[Zcz h];simp
  have h1:(t::l).takeWhile (fun s=>s != b)=t::l.takeWhile (fun s=>s != b):=by simp[e]
  rw[h1];by_cases h:Xf P t=true
  ·rw[ZcA h,Zco,Zco,upto_mem,List.all_cons,h,Bool.true_and];have:b≠t:=Ne.symm e;simp[this]
  rw[Zcz h,List.all_cons];have:b≠t:=Ne.symm e;simp[this,h]
def T6(P:Nat->Int):∀ l:List Int,List.Sublist (VU P l) l
 |[]=>.slnil
 |t::l=>by
  unfold VU;by_cases h:Xf P t=true
  ·rw[ZcA h];exact(T6 P l).cons_cons _
  rw[Zcz h];exact(List.nil_sublist l).cons_cons _
def ko{α β:Type}{f g:α->List β}(h:∀ x,List.Sublist (f x) (g x)):∀ l:List α,List.Sublist (l.flatMap f) (l.flatMap g)
 |[]=>by simp
 |x::l=>by rw[Zb8,Zb8];exact(h x).append (ko h l)
def Zbr{α β:Type}{f:α->List β}{l1 l2:List α}(h:List.Sublist l1 l2):List.Sublist (l1.flatMap f) (l2.flatMap f):=by
 induction h with
 |slnil=>exact .refl _
 |cons x _ ih=>rw[Zb8];exact ih.trans (List.sublist_append_right _ _)
 |cons_cons x _ ih=>rw[Zb8,Zb8];exact(List.Sublist.refl _).append ih
def RE{a:Int}(h:0<=a/\a<64):∃ x:Fin 64,(x.val:Int)=a:=⟨⟨a.toNat,by omega⟩,by simp;omega⟩
def Tm{P:Nat->Int}{s:Int}(hs:0<=s/\s<64){ways:List (Int×Int)}(hw:List.Sublist ways (straightL++slantL)):(X8 P s ways).Nodup:=by
 obtain⟨x,rfl⟩:=RE hs;exact((ko (fun w=>T6 P _) ways).trans (Zbr hw)).nodup (x6 x).2.2.2
def y5{P:Nat->Int}{s:Int}(hs:0<=s/\s<64):(Wd P s).Nodup:=by
 have hn:∀ k c,(Ui P s k c).Nodup:=by
  intro k c;unfold Ui;obtain⟨x,hx⟩:=RE hs;have h:=x6 x;rw[hx]at h;by_cases hc:c=0\/c=1
  ·rw[ZcA hc];have h3:=h.2.2.1 c (by rcases hc with rfl|rfl <;> simp);repeat' split
   ·exact h3
   ·exact h.1
   ·exact h.2.1
   ·exact Tm hs (List.sublist_append_left _ _)
   ·exact Tm hs (List.sublist_append_right _ _)
   ·exact Tm hs (.refl _)
   exact .nil
  rw[Zcz hc];exact .nil
 exact hn _ _
def RV{P:Nat→Int}{a b:Int}(ha:0≤a∧a<64)(hb:0≤b∧b<64){ways:List (Int×Int)}(hw:∀ w∈ways,w∈straightL++slantL) :
  b∈X8 P a ways↔a≠b/\KT a b∈ways/\(Uh a b||Uf a b)=true/\zw P a b=true:=by
 obtain⟨x,rfl⟩:=RE ha
 obtain⟨y,rfl⟩:=RE hb
 have ho:zw P x.val y.val=(DJ x.val y.val).all fun t=>Xf P t:=by
  unfold zw DJ;rw[List.all_map];rfl
 unfold X8
 rw[List.mem_flatMap]
 constructor
 ·rintro⟨w,hm,hu⟩;obtain⟨h1,h2⟩:=upto_mem.1 hu;obtain⟨⟨f1,f2,f3⟩,f4⟩:=gH (hw w hm) h1;rw[f4,<-ho]at h2;exact⟨f1,by rw[f2];exact hm,f3,h2⟩
 rintro⟨h1,h2,h3,h4⟩;have f1:=ray_to x y h1 h3;obtain⟨_,f4⟩:=gH (hw _ h2) f1;exact⟨_,h2,upto_mem.2 ⟨f1,by rw[f4,<-ho];exact h4⟩⟩
def ku{P:Nat->Int}{a b:Int}(ha:0<=a/\a<64)(hb:0<=b/\b<64):b∈Wd P a↔Kv P a b=true:=by
 have hk:∀ k c,b∈Ui P a k c↔wt P a b k c=true:=by
  intro k c;unfold Ui wt;by_cases hab:a=b
  ·have hor:Xm k c=false\/a=b:=.inr hab;rw[ZcA hor];clear hor;subst hab;have e1:=qn;have e2:=qz;have e3:=qV;obtain⟨x,hx⟩:=RE ha;have g2:=e2 x x;have g3:=e3 x x;rw[hx]at g2 g3;simp only[ne_eq,not_true_eq_false,false_and,decide_false,ZbJ]at g2 g3;simp only[Zb1,Zcw];by_cases hc:c=0\/c=1
   ·rw[ZcA hc];have g1:=e1 x x c (by rcases hc with rfl|rfl <;> simp);rw[hx]at g1;simp only[ne_eq,not_true_eq_false,false_and,decide_false,ZbJ]at g1;have ga:∀ ways:List (Int×Int),(∀ w∈ways,w∈straightL++slantL)→a ∉ X8 P a ways:=fun ways hw h=>((RV ha ha hw).1 h).1 rfl
    repeat' split
    ·exact g1
    ·exact g2
    ·exact g3
    ·exact ga _ fun w h=>ZbV _ h
    ·exact ga _ fun w h=>ZbM _ h
    ·exact ga _ fun w h=>h
    simp
   rw[Zcz hc];simp
  obtain⟨x,hx⟩:=RE ha;obtain⟨y,hy⟩:=RE hb;have hxy:(x.val:Int)≠y.val:=by rw[hx,hy];exact hab
  by_cases hc:c=0\/c=1
  ·rw[ZcA hc];by_cases hm:Xm k c=true
   ·have hn:¬ (Xm k c=false\/a=b):=by
     rintro(h|h)
     ·rw[hm]at h;cases h
     exact hab h
    rw[Zcz hn];have hk:1<=k/\k<=6:=by
     unfold Xm at hm;simp only[Zb7]at hm;omega
    have g1:=qn x y c (by rcases hc with rfl|rfl <;> simp);have g2:=qz x y;have g3:=qV x y;have g4:=gX x y hxy;have g5:=Zaf x y hxy;rw[hx,hy]at g1 g2 g3 g4 g5;simp only[ne_eq,hab,not_false_eq_true,true_and]at g1 g2 g3;by_cases k1:k=1
    ·rw[ZcA k1,ZcA k1,<-g1,Zb7]
    rw[Zcz k1,Zcz k1];by_cases k2:k=2
    ·rw[ZcA k2,ZcA k2,<-g2,Zb7]
    rw[Zcz k2,Zcz k2];by_cases k6:k=6
    ·rw[ZcA k6,ZcA k6,<-g3,Zb7]
    rw[Zcz k6,Zcz k6];by_cases k4:k=4
    ·rw[ZcA k4,ZcA k4,RV ha hb fun w h=>ZbV _ h,Zca];constructor
     ·rintro⟨_,h1,h2,h3⟩;exact⟨g4.trans (Zcl ⟨h1,h2⟩),h3⟩
     rintro⟨h1,h2⟩;obtain⟨h3,h4⟩:=of_decide_eq_true (g4.symm.trans h1);exact⟨hab,h3,h4,h2⟩
    rw[Zcz k4,Zcz k4];by_cases k3:k=3
    ·rw[ZcA k3,ZcA k3,RV ha hb fun w h=>ZbM _ h,Zca];constructor
     ·rintro⟨_,h1,h2,h3⟩;exact⟨g5.trans (Zcl ⟨h1,h2⟩),h3⟩
     rintro⟨h1,h2⟩;obtain⟨h3,h4⟩:=of_decide_eq_true (g5.symm.trans h1);exact⟨hab,h3,h4,h2⟩
    rw[Zcz k3,Zcz k3,ZcA (show k=5 by omega),RV ha hb fun w h=>h,Zca];simp only[ne_eq,hab,not_false_eq_true,true_and];constructor
    ·rintro⟨_,h⟩;exact h
    rintro⟨h1,h2⟩;refine⟨?_,h1,h2⟩;rw[Bool.or_eq_true]at h1;rcases h1 with h|h
    ·rw[g4]at h;exact ZbV _ (of_decide_eq_true h).1
    rw[g5]at h;exact ZbM _ (of_decide_eq_true h).1
   have hm':Xm k c=false:=by simpa using hm
   rw[ZcA (show Xm k c=false\/a=b from .inl hm')];unfold Xm at hm;simp only[Zb7]at hm;rw[Zcz (by omega),Zcz (by omega),Zcz (by omega),Zcz (by omega),Zcz (by omega),Zcz (by omega)];simp
  rw[Zcz hc];have hm':Xm k c=false:=by
   unfold Xm;simp only[ZbJ];omega
  rw[ZcA (show Xm k c=false\/a=b from .inl hm')];simp
 exact hk _ _
def ring_bd{s t:Int}{ways:List (Int×Int)}(h:t∈X7 s ways):0<=t/\t<64:=by
 unfold X7 at h;rw[Zch,List.mem_map]at h;obtain⟨⟨w,_,rfl⟩,h⟩:=h;have:=V9 s w.1 w.2;have:YT s w.1 w.2≠-1:=by simpa using h
 omega
def xN{f r:Int}:∀ {k:Nat} {s t:Int},t∈Vb f r k s->0<=t/\t<64
 |0,s,t,h=>by cases h
 |k+1,s,t,h=>by
  unfold Vb at h;split at h
  ·cases h
  rename_i hn;rcases Zco.1 h with rfl|h
  ·have:=V9 s f r;omega
  exact xN h
def tA{P:Nat->Int}{s t:Int}(h:t∈Wd P s):0<=t/\t<64:=by
 have ha:∀ ways,t∈X8 P s ways->0<=t/\t<64:=by
  intro ways h;unfold X8 at h;rw[List.mem_flatMap]at h;obtain⟨w,_,h⟩:=h;exact xN ((T6 P _).subset h)
 have hk:∀ k c,t∈Ui P s k c->0<=t/\t<64:=by
  intro k c h;unfold Ui at h;repeat' split at h
  all_goals first|exact ring_bd h|exact ha _ h|cases h
 exact hk _ _ h
def Wq(n:Nat):List Int:=(List.range n).map fun(i:Nat)=>(i:Int)
def attL(P:Nat->Int)(s:Int):List Int:=if 0<=s/\s<64 then (Wq 64).filter (Kv P s) else []
def Zbj(p:Int->Bool)(n:Nat):((Wq n).filter p).Pairwise (· < ·):=by
 refine List.Pairwise.filter _ ?_;unfold Wq;rw[List.pairwise_map];exact List.pairwise_lt_range.imp (fun h=>by omega)
def Zar(P:Nat->Int)(s:Int):Wk P s=attL P s:=by
 unfold Wk attL;by_cases h:0<=s/\s<64
 ·rw[ZcA h,ZcA h];refine srtM_is (y5 h) (Zbj _ _) fun x=>?_
  rw[Zch];unfold Wq;rw[List.mem_map];constructor
  ·intro hx;have hb:=tA hx;exact⟨⟨x.toNat,Zck.2 (by omega),by omega⟩,(ku h hb).1 hx⟩
  rintro⟨⟨i,hi,rfl⟩,hx⟩;exact(ku h ⟨by omega,by have:=Zck.1 hi;omega⟩).2 hx
 rw[Zcz h,Zcz h]
end Go.Proofs.YtlkighkfkdpncaaGreatDoor
namespace Go.Am
open Go
section
variable{A:AP}{N:Nat}{f:FE}{n:Nat}{L:HA}{K:KN}{Zp:V->KN}{l:List I}{d:Nat}
def pJ(a b:Int):Nat->S:=WE (WE (fun _=>.int .u8 0) (0*1) 1 (fun _=>.int .u8 a)) (1*1) 1 (fun _=>.int .u8 b)
def p4{a b:Int}{xa xb:O}(ha:xa.fv N f=.s (.int .u8 a))(hb:xb.fv N f=.s (.int .u8 b))(k:WO A N l (upd f d (.sl n 0 2 1 (.ex 2))) (n+1) ((n,.sc .var 2 (pJ a b))::L) K Zp):WO A N (⟨some d,none,.h (.mksl 2 1 (.one (.s (.int .u8 0))) [(0,xa),(1,xb)])⟩::l) f n L K Zp :=
 Xl (v:=.sl n 0 2 1 (.ex 2)) (fun σ hσ=>⟨σ++[.sc .var 2 (pJ a b)],by
  simp only[YK,Z.row,Ws,if_true,List.map_cons,List.map_nil,WJ,Y2,ha,hb,V.scells,hσ.1];rfl,hσ.new _⟩) k
def WO_b2s2{x:O}{b q:Nat}{c:Cp}{md:Md}{g:Nat->S}{p r:Int}(hx:x.fv N f=.sl b 0 2 1 c)(hm:(b,Blk.sc md q g)∈L)(h0:g 0=.int .u8 p)(h1:g 1=.int .u8 r)(k:WO A N l (upd f d (.s (.str ⟨#[UInt8.ofNat p.toNat,UInt8.ofNat r.toNat]⟩))) n L K Zp):WO A N (⟨some d,none,.h (.b2s x)⟩::l) f n L K Zp :=
 Xl (v:=.s (.str ⟨#[UInt8.ofNat p.toNat,UInt8.ofNat r.toNat]⟩)) (fun σ hσ=>⟨σ,by
  have hb:Xp 2 (fun i=>Jh (g (0+i)))=true:=by
   show((true&&Jh (g (0+0)))&&Jh (g (0+1)))=true;rw[Zcp,Zcp,h0,h1];rfl
  simp only[YK,Y2,hx,(hσ.2.mem hm).2,if_true,hb,cond_true];have e:(List.range 2).map (fun i=>UInt8.ofNat (byteOf (g (0+i))))=[UInt8.ofNat p.toNat,UInt8.ofNat r.toNat]:=by
   show[UInt8.ofNat (byteOf (g (0+0))),UInt8.ofNat (byteOf (g (0+1)))]=_;rw[Zcp,Zcp,h0,h1];rfl
  rw[e],hσ⟩) k
end
end Go.Am
namespace Go.Proofs.YtlkighkfkdpncaaGreatDoor
open Go Go.Am
def darkM(x:Int):Bool:=decide ((0<=x/\x<64)/\(x%8+x/8)%2=0)
def YS(x:Int):ByteArray:=if 0<=x/\x<64 then ⟨#[UInt8.ofNat (97+(x%8).toNat),UInt8.ofNat (49+(x/8).toNat)]⟩ else ⟨#[]⟩
def ZdH{x:Int}(h:0<=x/\x<64):YS x=⟨#[UInt8.ofNat (97+(x%8).toNat),UInt8.ofNat (49+(x/8).toNat)]⟩:=ZcA h
theorem pZ:∀ f:Fin 8,(⟨#[97,98,99,100,101,102,103,104]⟩:ByteArray).extract f.val (f.val+1)=⟨#[UInt8.ofNat (97+f.val)]⟩:=by decide +kernel
theorem ZaG:∀ f:Fin 8,(⟨#[49,50,51,52,53,54,55,56]⟩:ByteArray).extract f.val (f.val+1)=⟨#[UInt8.ofNat (49+f.val)]⟩:=by decide +kernel
def ZaU{x:Int}(h:0<=x/\x<64):Wc .add (.str ((⟨#[97,98,99,100,101,102,103,104]⟩:ByteArray).extract (x%8).toNat (x%8+1).toNat)) (.str ((⟨#[49,50,51,52,53,54,55,56]⟩:ByteArray).extract (x/8).toNat (x/8+1).toNat))=some (.str (YS x)):=by
 have e1:=pZ ⟨(x%8).toNat,by omega⟩;have e2:=ZaG ⟨(x/8).toNat,by omega⟩;simp only at e1 e2;rw[show(x%8+1).toNat=(x%8).toNat+1 by omega,show(x/8+1).toNat=(x/8).toNat+1 by omega,e1,e2,ZdH h];rfl
def Name_in(x:Int)(h:0<=x/\x<64):WR AM 22 [.s (.int .i64 x)] [] (fun v _ _=>v=.s (.str (YS x))):=by
 refine YL (a:=a22) G G (YI _) (ZQ G) (m:=0) G (Ze (Yq G (Zf (Zj G (Yt G (xg _ h) G G G (Dx G (Qu (v:=.agg _ _) G G G G G (V8 (ys:=[_,_,_]) G G) .here (Yc (Ye (Ze (Yd (o':=2) G G G (Yn (x:=.bool _) G G ZM G (Yv (r:=.bool _) G G (Yc (ZB G (Yh (Ye (Yg (Zy G (Zy G (Yn (x:=.int _ _) G G ZM G (Zy G (Zy G (Yn (x:=.int _ _) G G ZM G (Zs G G (Da G G G (by show 0<=_/\_<=_/\_<=((8:Nat):Int);omega) (Zy G (Zz G (Yn (x:=.int _ _) G G ZM G ?_)))))))))))))))))))))))))))));refine Zy G (Zz G (Yn (x:=.int _ _) G G ZM G (Zs G G (Da G G G (by show 0<=_/\_<=_/\_<=((8:Nat):Int);omega) (Yr G G (ZaU h) (Yq (v:=.s _) G (Yc (Yi (⟨_,YH (v:=.s _) G (YW),?_⟩)))))))));rfl
def ZaH(x:Int)(h:¬ (0<=x/\x<64)):WR AM 22 [.s (.int .i64 x)] [] (fun v _ _=>v=.s (.str (YS x))):=by
 refine YL (a:=a22) G G (YI _) (ZQ G) (m:=0) G (Ze (Yq G (Zf (Zj G (Yt G (Dg _ h) G G G (Dx G (Qu (v:=.agg _ _) G G G G G (V8 (ys:=[_,_,_]) G G) .here (Yc (Ye (Ze (Yd (o':=2) G G G (Yn (x:=.bool _) G G ZM G (Yv (r:=.bool _) G G (Yc (ZA G (Ze (Yq G (Yc (Yi (⟨_,YH (v:=.s _) G (YW),?_⟩))))))))))))))))))));rw[YS,Zcz h];rfl
def WH(x:Int):RF AM 22 [.s (.int .i64 x)] (.s (.str (YS x))):=by
 by_cases h:0<=x/\x<64
 ·exact YP (Name_in x h)
 exact YP (ZaH x h)
def wG(x:Int):WR AM 60 [.s (.int .i64 x)] [] (fun v _ _=>v=.s (.bool (isM x))):=by
 refine YL (a:=a60) G G (YI _) (ZQ G) (m:=0) G (Ze (Yq G (Zf (Zj G (Zr G (Zk G (Ys (t:=5) G (fun h1=>?_) (fun h1=>?_)))))))) <;> simp only[NM]at h1
 ·refine Yb G (Zj G (Yb G (Zr G (Zq G (Zk G (Zg G (ZI ?_)))))));rw[Zce];simp only[Zcu,bne_iff_ne,ne_eq,Zb7,Zb1,Zcx,Zcv,isM,darkM,Zcy,Zcw];omega
 refine ZD G (Zq G (Zk G (Zg G (ZI ?_))));rw[Zce];simp only[Zcu,bne_iff_ne,ne_eq,Zb7,Zb1,Zcx,Zcv,isM,darkM,Zcy,Zcw];omega
def RY(x:Int):WR AM 29 [.s (.int .i64 x)] [] (fun v _ _=>v=.s (.str (YS x))):=by
 refine YL (a:=a29) G G (YI _) (ZQ G) (m:=0) G (Ze (Yq G (Yc (Ye (Ze (Zj G (Yt G (YP (wG _)) G G G (Yv (r:=.bool _) G G (Yc (Yj G (fun h2=>?_) (fun h2=>?_))))))))))) <;> simp only[NM]at h2
 ·try simp only[isM,Zb7,ZbJ]at h2
  refine Ze (Yq G (Yc (Yi (⟨_,YH (v:=.s _) G (YW),?_⟩))));(rw[YS,Zcz (by omega)];rfl)
 try simp only[isM,Zb7,ZbJ]at h2
 refine Yh (Ze (Zj G (Zv G G (Zs G G (uK G (IntWalk.u8_in _ (by omega)) (Zj G (Zu G G (Zs G G (uK G (IntWalk.u8_in _ (by omega)) (p4 G G (WO_b2s2 G ZM G G (Yq (v:=.s _) G (Yc (Yi (⟨_,YH (v:=.s _) G (YW),?_⟩)))))))))))))));(rw[ZdH (by omega),show(97+x%8).toNat=97+(x%8).toNat by omega,show(49+x/8).toNat=49+(x/8).toNat by omega];rfl)
open Go Go.Am
def muM(s f r:Int):Nat:=if s<0 then 0 else if 0<f then (8-s%8).toNat else if f<0 then (s%8+1).toNat else if 0<r then (8-s/8).toNat else (s/8+1).toNat
def ZaK{s f r:Int}(h:YT s f r≠-1):(0<=s/\s<64)/\(0<=s%8+f/\s%8+f<8)/\(0<=s/8+r/\s/8+r<8)/\YT s f r=(s/8+r)*8+(s%8+f):=by
 unfold YT atM at h ⊢;by_cases c:(0<=s/\s<64)/\(-8<f/\f<8)/\(-8<r/\r<8)
 ·rw[ZcA c]at h ⊢;by_cases e:0<=s%8+f/\s%8+f<8/\0<=s/8+r/\s/8+r<8
  ·rw[ZcA e];exact⟨c.1,⟨e.1,e.2.1⟩,⟨e.2.2.1,e.2.2.2⟩,G⟩
  rw[Zcz e]at h;exact absurd G h
 rw[Zcz c]at h;exact absurd G h
def yT{s f r:Int}(hz:¬ (f=0/\r=0))(hs:s≠-1)(hb:-1<=s/\s<64):muM (YT s f r) f r<muM s f r:=by
 have h0:=V9 s f r;by_cases h:YT s f r=-1
 ·rw[h,show muM (-1) f r=0 from ZcA (by decide)];have n2:¬ s<0:=by omega
  unfold muM;rw[Zcz n2];by_cases a:0<f
  ·rw[ZcA a];omega
  rw[Zcz a];by_cases b:f<0
  ·rw[ZcA b];omega
  rw[Zcz b];by_cases c:0<r
  ·rw[ZcA c];omega
  rw[Zcz c];omega
 have⟨h1,h2,h3,h4⟩:=ZaK h;have e1:YT s f r%8=s%8+f:=by omega
 have e2:YT s f r/8=s/8+r:=by omega
 have n1:¬ YT s f r<0:=by omega
 have n2:¬ s<0:=by omega
 unfold muM;rw[Zcz n1,Zcz n2,e1,e2];by_cases a:0<f
 ·rw[ZcA a,ZcA a];omega
 rw[Zcz a,Zcz a];by_cases b:f<0
 ·rw[ZcA b,ZcA b];omega
 rw[Zcz b,Zcz b];by_cases c:0<r
 ·rw[ZcA c,ZcA c];omega
 rw[Zcz c,Zcz c];omega
def oo{s f r:Int}(h:s<64):muM s f r<=8:=by
 unfold muM;split
 ·omega
 split
 ·omega
 split
 ·omega
 split <;> omega
end Go.Proofs.YtlkighkfkdpncaaGreatDoor
