/- Texts of this seat,joined. -/
import Derived.Orders
import Derived.LoopN
import Derived.OrdersIn
import Derived.LoopNIn
import Derived.TacticsIn
import Derived.RangeFuncRecord
import Derived.RangeFuncIn
import Derived.RangeFuncSeq
import Derived.RangeFuncLeaves
import Derived.Below
import Derived.IntWalk
import Derived.Test.YtlkighkfkdpncaaGreatDoorAm0
set_option linter.defProp false
set_option linter.unusedSimpArgs false
set_option linter.unusedVariables false
namespace Go.Am
open Go
section
variable{ι ι1:Inj}{σ σ0 σ1:Heap}{W W1:World}{rs ns:List Nat}{q:Bool}
def sN(hp:Y6 q (pos · rs) σ rs=some σ0){i b:Nat}(h:rs[i]? = some b):b<σ.length:=by
 obtain⟨_,hget⟩:=Uu hp;obtain⟨x,_,hx,_⟩:=hget i b h;rcases Zcr b σ.length with h|h
 ·exact h
 rw[ZbQ h]at hx;simp at hx
def vx[Bas](hp:Y6 q (pos · rs) σ rs=some σ0)(hpost:Post (XE ι rs) σ0 W ι1 σ1 W1){i:Nat}(hi:i<rs.length):ι1 i=XE ι rs i:=by
 have hlen:=(Uu hp).1
 cases h:XE ι rs i with
 |some p=>exact hpost.ext i p h
 |none=>
  cases h1:ι1 i with
  |none=>rfl
  |some p=>
   have:=(hpost.fresh i p h1 h).1.1;omega
def yP[Bas](hp:Y6 q (pos · rs) σ rs=some σ0)(hpost:Post (XE ι rs) σ0 W ι1 σ1 W1):∀ b i,Xa rs ns σ.length rs.length b=some i->Vz ι ι1 σ.length ns i=ι1 b:=by
 intro b i h;unfold Xa at h
 cases hb:Nat.blt b rs.length
 ·rw[hb]at h;simp only[cond_false,ZbK]at h;obtain⟨j,hj,rfl⟩:=h;unfold Vz;rw[Zcz (by omega),show σ.length+j-σ.length=j by omega,TP hj]
 rw[hb]at h;simp only[cond_true]at h;rw[Nat.blt_eq]at hb;unfold Vz;rw[ZcA (sN hp h),vx hp hpost hb];simp[XE,h]
def Dk{b:Nat}{p:Place}(h:Vz ι ι1 σ.length ns b=some p):(b<σ.length/\ι b=some p)\/(σ.length<=b/\∃ i,ns[b-σ.length]? = some i/\ι1 i=some p)\/(σ.length<=b/\ns[b-σ.length]? = none/\ι b=some p):=by
 unfold Vz at h;split at h
 ·rename_i hlt;exact .inl ⟨hlt,h⟩
 rename_i hge;split at h
 ·rename_i i hi;exact .inr (.inl ⟨by omega,i,hi,h⟩)
 rename_i hi;exact .inr (.inr ⟨by omega,hi,h⟩)
def ot[Bas](hR:RelW ι σ W)(hp:Y6 q (pos · rs) σ rs=some σ0)(hn:nodup rs=true)(hpost:Post (XE ι rs) σ0 W ι1 σ1 W1){i b:Nat}{p p':Place}(hi:rs.length<=i)(h1:ι1 i=some p)(hb:ι b=some p')(hbrs:∀ j:Nat,rs[j]?≠some b)(hl:X9 σ b):p.c≠p'.c:=by
 obtain⟨_,_,hmut,_⟩:=JH hR hp hn;have h0:XE ι rs i=none:=by simp[XE,hi]
 rcases(hpost.fresh i p h1 h0).2 with h|⟨j,p0,hj,hjm,he⟩
 ·have:=hR.lt b p' hb;omega
 obtain⟨_,b0,hb0,hm0⟩:=hmut j hjm;have hj':ι b0=some p0:=by simpa[XE,hb0] using hj
 rw[<-he];exact hR.sep b0 b p0 p' hj' hb (fun e=>hbrs j (by rw[hb0,e])) hm0 hl
def Zai[Bas](hR:RelW ι σ W)(hD:Dom ι σ)(hp:Y6 q (pos · rs) σ rs=some σ0)(hn:nodup rs=true)(hpost:Post (XE ι rs) σ0 W ι1 σ1 W1)(hnn:nodup ns=true)(hns:∀ (j i:Nat),ns[j]? = some i->rs.length<=i)
  {old new:List Blk} (hold:Y6 false (Xa rs ns σ.length rs.length) σ1 (List.range rs.length)=some old) (hnew:Y6 false (Xa rs ns σ.length rs.length) σ1 ns=some new) :
  Post ι σ W (Vz ι ι1 σ.length ns) (XD σ rs old++new) W1:=by
 obtain⟨hR0,hD0,hmut0,hlive0⟩:=JH hR hp hn
 obtain⟨ol,og⟩:=Uu hold
 obtain⟨nl,ng⟩:=Uu hnew
 have hbk:=yP (ns:=ns) hp hpost
 rw[List.length_range]at ol
 have hlen0:=(Uu hp).1
 have hat:∀ (b i:Nat),rs[i]? = some b->∃ x y,σ1[i]? = some x/\Blk.ren false (Xa rs ns σ.length rs.length) x=some y/\(XD σ rs old++new)[b]? = some y:=by
  intro b i hi;have hil:i<rs.length:=by
   rcases Zcr i rs.length with h|h
   ·exact h
   rw[ZbQ h]at hi;simp at hi
  obtain⟨x,y,h1,h2,h3⟩:=og i i (ZbZ hil);refine⟨x,y,h1,h2,?_⟩;rw[ZbF (by rw[UZ];exact sN hp hi),tH rs old σ hn ol.symm i b hi (sN hp hi)];exact h3
 have hother:∀ b,b<σ.length->(∀ i:Nat,rs[i]?≠some b)->(XD σ rs old++new)[b]? = σ[b]?:=by
  intro b hb hno;rw[ZbF (by rw[UZ];exact hb),EY rs old σ b hno]
 have hnewat:∀ (j i:Nat),ns[j]? = some i->∃ x y,σ1[i]? = some x/\Blk.ren false (Xa rs ns σ.length rs.length) x=some y/\(XD σ rs old++new)[σ.length+j]? = some y:=by
  intro j i hj;obtain⟨x,y,h1,h2,h3⟩:=ng j i hj;refine⟨x,y,h1,h2,?_⟩;rw[ZbE (by rw[UZ];omega),UZ,show σ.length+j-σ.length=j by omega];exact h3
 have hmutat:∀ b i:Nat,rs[i]? = some b->mutb (XD σ rs old++new) b->mutb σ1 i:=by
  rintro b i hi ⟨y',hy',hm⟩;obtain⟨x,y,h1,h2,h3⟩:=hat b i hi;rw[h3]at hy';injection hy' with hy'
  subst hy';exact⟨x,h1,(JD h2 hm).1⟩
 have hliveat:∀ b i:Nat,rs[i]? = some b->X9 (XD σ rs old++new) b->X9 σ1 i:=by
  rintro b i hi ⟨y',hy',hm⟩;obtain⟨x,y,h1,h2,h3⟩:=hat b i hi;rw[h3]at hy';injection hy' with hy'
  subst hy';exact⟨x,h1,K6 h2 hm⟩
 have hmutnew:∀ j i:Nat,ns[j]? = some i->mutb (XD σ rs old++new) (σ.length+j)->mutb σ1 i:=by
  rintro j i hi ⟨y',hy',hm⟩;obtain⟨x,y,h1,h2,h3⟩:=hnewat j i hi;rw[h3]at hy';injection hy' with hy'
  subst hy';exact⟨x,h1,(JD h2 hm).1⟩
 have hlivenew:∀ j i:Nat,ns[j]? = some i->X9 (XD σ rs old++new) (σ.length+j)->X9 σ1 i:=by
  rintro j i hi ⟨y',hy',hm⟩;obtain⟨x,y,h1,h2,h3⟩:=hnewat j i hi;rw[h3]at hy';injection hy' with hy'
  subst hy';exact⟨x,h1,K6 h2 hm⟩
 have hmuto:∀ b,b<σ.length->(∀ i:Nat,rs[i]?≠some b)->mutb (XD σ rs old++new) b->mutb σ b:=fun b hb hno ⟨y,hy,hm⟩=>⟨y,by rw[<-hother b hb hno];exact hy,hm⟩
 have hliveo:∀ b,b<σ.length->(∀ i:Nat,rs[i]?≠some b)->X9 (XD σ rs old++new) b->X9 σ b:=fun b hb hno ⟨y,hy,hm⟩=>⟨y,by rw[<-hother b hb hno];exact hy,hm⟩
 have hsub:∀ b i p,rs[i]? = some b->ι b=some p->XE ι rs i=some p:=fun b i p h hb=>by simp[XE,h,hb]
 have hilt:∀ i b:Nat,rs[i]? = some b->i<rs.length:=fun i b hi=>by
  rcases Zcr i rs.length with h|h
  ·exact h
  rw[ZbQ h]at hi;simp at hi
 have hcase:∀ b p,Vz ι ι1 σ.length ns b=some p->(∃ i,ι1 i=some p/\(rs[i]? = some b\/(σ.length<=b/\ns[b-σ.length]? = some i)))\/(b<σ.length/\ι b=some p/\∀ i:Nat,rs[i]?≠some b):=by
  intro b p h;rcases Dk h with⟨hb,h1⟩|⟨hb,i,hi,h1⟩|⟨hb,_,h1⟩
  ·by_cases hex:∃ i:Nat,rs[i]? = some b
   ·obtain⟨i,hi⟩:=hex;exact .inl ⟨i,hpost.ext i p (hsub b i p hi h1),.inl hi⟩
   exact .inr ⟨hb,h1,fun i hi=>hex ⟨i,hi⟩⟩
  ·exact .inl ⟨i,h1,.inr ⟨hb,hi⟩⟩
  exact absurd (hD b p h1) (by omega)
 have hmutc:∀ b i:Nat,(rs[i]? = some b\/(σ.length<=b/\ns[b-σ.length]? = some i))->mutb (XD σ rs old++new) b->mutb σ1 i:=by
  rintro b i (hi|⟨hb,hi⟩) hm
  ·exact hmutat b i hi hm
  have:=hmutnew _ i hi;rw[show σ.length+(b-σ.length)=b by omega]at this;exact this hm
 have hlivec:∀ b i:Nat,(rs[i]? = some b\/(σ.length<=b/\ns[b-σ.length]? = some i))->X9 (XD σ rs old++new) b->X9 σ1 i:=by
  rintro b i (hi|⟨hb,hi⟩) hm
  ·exact hliveat b i hi hm
  have:=hlivenew _ i hi;rw[show σ.length+(b-σ.length)=b by omega]at this;exact this hm
 have hcross:∀ (b b' i:Nat) (p p':Place),ι1 i=some p->(rs[i]? = some b\/(σ.length<=b/\ns[b-σ.length]? = some i))->ι b'=some p'->(∀ j:Nat,rs[j]?≠some b') ->
   ((mutb σ1 i/\X9 σ b')\/(X9 σ1 i/\mutb σ b'))->p.c≠p'.c:=by
  intro b b' i p p' h1 hi hb' hno hml
  rcases hi with hi|⟨hb,hi⟩
  ·have h0:XE ι rs i=some p:=by rw[<-vx hp hpost (hilt i b hi)];exact h1
   have hbp:ι b=some p:=by simpa[XE,hi] using h0
   have hne:b≠b':=fun e=>hno i (by rw[hi,e])
   have hi0:i<σ0.length:=by rw[hlen0];exact hilt i b hi
   rcases hml with⟨hm,hl⟩|⟨hl,hm⟩
   ·obtain⟨_,c,hc,hcm⟩:=hmut0 i (hpost.mono i hi0 hm);rw[hi]at hc;injection hc with hc
    subst hc;exact hR.sep b b' p p' hbp hb' hne hcm hl
   obtain⟨c,hc,hcl⟩:=hlive0 i (hpost.lives i hi0 hl);rw[hi]at hc;injection hc with hc
   subst hc;exact fun e=>hR.sep b' b p' p hb' hbp (Ne.symm hne) hm hcl e.symm
  exact ot hR hp hn hpost (hns _ i hi) h1 hb' hno (hml.elim (·.2) (·.2.live))
 refine⟨hpost.same,fun b p h=>?_,⟨fun b p h=>?_,fun b p y h hy=>?_,fun b b' p p' h h' hne h1 h2=>?_,fun b p h hm=>?_,hpost.rel.bsz,hpost.rel.bas⟩,by simp[UZ],fun c hc hm=>?_,fun b p h hnone=>?_,fun b hb hm=>?_,fun b hb hm=>?_⟩
 ·unfold Vz;rw[ZcA (hD b p h)];exact h
 ·rcases hcase b p h with⟨i,hi,_⟩|⟨_,hb,_⟩
  ·exact hpost.rel.lt i p hi
  exact Zb3 (hR.lt b p hb) hpost.same.size
 ·rcases hcase b p h with⟨i,hi,hio⟩|⟨hb,hbp,hno⟩
  ·rcases hio with hi'|⟨hb,hi'⟩
   ·obtain⟨x,y',h1,h2,h3⟩:=hat b i hi';rw[h3]at hy;injection hy with hy
    subst hy;exact Ej hbk h2 (hpost.rel.blk i p x hi h1)
   obtain⟨x,y',h1,h2,h3⟩:=hnewat _ i hi';rw[show σ.length+(b-σ.length)=b by omega,hy]at h3;injection h3 with h3
   subst h3;exact Ej hbk h2 (hpost.rel.blk i p x hi h1)
  rw[hother b hb hno]at hy
  cases hyl:y.live with
  |false=>cases y <;> simp[Blk.live]at hyl;trivial
  |true=>
   refine(hR.blk b p y hbp hy).keep (fun c r hc=>?_) (hpost.frame _ (hR.lt b p hbp) (fun i p0 hi hm=>?_))
   ·unfold Vz;rw[ZcA (hD c r hc)];exact hc
   obtain⟨_,c,hc,hcm⟩:=hmut0 i hm;have hcp:ι c=some p0:=by simpa[XE,hc] using hi
   exact hR.sep c b p0 p hcp hbp (fun e=>hno i (by rw[hc,e])) hcm ⟨y,hy,hyl⟩
 ·rcases hcase b p h with⟨i,hi,hio⟩|⟨hb,hbp,hno⟩ <;> rcases hcase b' p' h' with⟨j,hj,hjo⟩|⟨hb',hbp',hno'⟩
  ·refine hpost.rel.sep i j p p' hi hj (fun e=>?_) (hmutc b i hio h1) (hlivec b' j hjo h2);subst e;rcases hio with q1|⟨g1,q1⟩ <;> rcases hjo with q2|⟨g2,q2⟩
   ·rw[q1]at q2;injection q2 with q2;exact hne q2
   ·have:=hns _ i q2;have:=hilt i b q1;omega
   ·have:=hns _ i q1;have:=hilt i b' q2;omega
   have:=Ry hnn q1 q2;omega
  ·exact hcross b b' i p p' hi hio hbp' hno' (.inl ⟨hmutc b i hio h1,hliveo b' hb' hno' h2⟩)
  ·exact fun e=>hcross b' b j p' p hj hjo hbp hno (.inr ⟨hlivec b' j hjo h2,hmuto b hb hno h1⟩) e.symm
  exact hR.sep b b' p p' hbp hbp' hne (hmuto b hb hno h1) (hliveo b' hb' hno' h2)
 ·rcases hcase b p h with⟨i,hi,hio⟩|⟨hb,hbp,hno⟩
  ·exact hpost.rel.gap i p hi (hmutc b i hio hm)
  exact hR.gap b p hbp (hmuto b hb hno hm)
 ·refine hpost.frame c hc (fun i p hi hm'=>?_);obtain⟨_,b,hb,hbm⟩:=hmut0 i hm';exact hm b p (by simpa[XE,hb] using hi) hbm
 ·rcases Dk h with⟨hb,h1⟩|⟨hb,i,hi,h1⟩|⟨hb,_,h1⟩
  ·rw[h1]at hnone;simp at hnone
  ·have hjl:b-σ.length<ns.length:=by
    rcases Zcr (b-σ.length) ns.length with h|h
    ·exact h
    rw[ZbQ h]at hi;simp at hi
   refine⟨⟨hb,by simp[UZ,nl];omega⟩,?_⟩;have hki:=hns _ i hi;have h0:XE ι rs i=none:=by simp[XE,hki]
   rcases(hpost.fresh i p h1 h0).2 with h|⟨j,p0,hj,hjm,he⟩
   ·exact .inl h
   obtain⟨_,b0,hb0,hm0⟩:=hmut0 j hjm;exact .inr ⟨b0,p0,by simpa[XE,hb0] using hj,hm0,he⟩
  rw[h1]at hnone;simp at hnone
 ·by_cases hex:∃ i:Nat,rs[i]? = some b
  ·obtain⟨i,hi⟩:=hex;obtain⟨_,c,hc,hcm⟩:=hmut0 i (hpost.mono i (by rw[hlen0];exact hilt i b hi) (hmutat b i hi hm));rw[hi]at hc;injection hc with hc
   subst hc;exact hcm
  exact hmuto b hb (fun i hi=>hex ⟨i,hi⟩) hm
 by_cases hex:∃ i:Nat,rs[i]? = some b
 ·obtain⟨i,hi⟩:=hex;obtain⟨c,hc,hcm⟩:=hlive0 i (hpost.lives i (by rw[hlen0];exact hilt i b hi) (hliveat b i hi hm));rw[hi]at hc;injection hc with hc
  subst hc;exact hcm
 exact hliveo b hb (fun i hi=>hex ⟨i,hi⟩) hm
def sg[Bas](hR:RelW ι σ W)(hp:Y6 true (pos · rs) σ rs=some σ0)(hn:nodup rs=true)(hpost:Post (XE ι rs) σ0 W ι1 σ1 W1)(hnn:nodup ns=true)(hns:∀ (j i:Nat),ns[j]? = some i->rs.length<=i)
  {new:List Blk} (hnew:Y6 false (Xa rs ns σ.length rs.length) σ1 ns=some new) (hnone:∀ b,σ.length<=b->b<(σ++new).length->ι b=none) :
  QPost ι σ W (Vz ι ι1 σ.length ns) (σ++new) W1:=by
 obtain⟨hR0,hD0,hmut0,hlive0⟩:=JH hR hp hn
 obtain⟨nl,ng⟩:=Uu hnew
 have hbk:=yP (ns:=ns) hp hpost
 have hnomut:∀ i,¬ mutb σ0 i:=fun i hm=>by have:=(hmut0 i hm).1;simp at this
 have hframe:∀ c,c<W.heap.size->W1.heap[c]? = W.heap[c]?:=fun c hc=>hpost.frame c hc (fun i p _ hm=>absurd hm (hnomut i))
 have hext:Ext ι (Vz ι ι1 σ.length ns):=by
  intro b p hb;unfold Vz;split
  ·exact hb
  split
  ·rename_i i hi;have hjl:b-σ.length<ns.length:=by
    rcases Zcr (b-σ.length) ns.length with h|h
    ·exact h
    rw[ZbQ h]at hi;simp at hi
   have:=hnone b (by omega) (by simp[nl];omega);rw[this]at hb;simp at hb
  exact hb
 have hnewat:∀ (j i:Nat),ns[j]? = some i->∃ x y,σ1[i]? = some x/\Blk.ren false (Xa rs ns σ.length rs.length) x=some y/\(σ++new)[σ.length+j]? = some y:=by
  intro j i hj;obtain⟨x,y,h1,h2,h3⟩:=ng j i hj;refine⟨x,y,h1,h2,?_⟩;rw[ZbE (by omega),show σ.length+j-σ.length=j by omega];exact h3
 have hbig:∀ i p,ι1 i=some p->rs.length<=i->W.heap.size<=p.c:=by
  intro i p h1 hi;have h0:XE ι rs i=none:=by simp[XE,hi]
  rcases(hpost.fresh i p h1 h0).2 with h|⟨j,p0,hj,hjm,he⟩
  ·exact h
  exact absurd hjm (hnomut j)
 have hcase:∀ b p,Vz ι ι1 σ.length ns b=some p->(∃ i,σ.length<=b/\ns[b-σ.length]? = some i/\ι1 i=some p)\/(ι b=some p/\(b<σ.length\/(σ++new)[b]? = none)):=by
  intro b p h;rcases Dk h with⟨hb,h1⟩|⟨hb,i,hi,h1⟩|⟨hb,hi,h1⟩
  ·exact .inr ⟨h1,.inl hb⟩
  ·exact .inl ⟨i,hb,hi,h1⟩
  refine .inr ⟨h1,.inr ?_⟩;rw[List.getElem?_eq_none_iff]at hi ⊢;simp[nl];omega
 have hold:∀ b y,(σ++new)[b]? = some y->b<σ.length->σ[b]? = some y:=fun b y hy hb=>by rw[ZbF hb]at hy;exact hy
 refine⟨hpost.same,hext,⟨fun b p h=>?_,fun b p y h hy=>?_,fun b b' p p' h h' hne h1 h2=>?_,fun b p h hm=>?_,hpost.rel.bsz,hpost.rel.bas⟩,⟨new,rfl⟩,hframe,fun b p h hno=>?_⟩
 ·rcases hcase b p h with⟨i,_,_,hi⟩|⟨hb,_⟩
  ·exact hpost.rel.lt i p hi
  exact Zb3 (hR.lt b p hb) hpost.same.size
 ·rcases hcase b p h with⟨i,hb,hi,h1⟩|⟨hb,hlt|hnon⟩
  ·obtain⟨x,y',e1,e2,e3⟩:=hnewat _ i hi;rw[show σ.length+(b-σ.length)=b by omega,hy]at e3;injection e3 with e3
   subst e3;exact Ej hbk e2 (hpost.rel.blk i p x h1 e1)
  ·exact(hR.blk b p y hb (hold b y hy hlt)).keep hext (hframe _ (hR.lt b p hb))
  rw[hnon]at hy;simp at hy
 ·rcases hcase b p h with⟨i,hb,hi,g1⟩|⟨hb,hlt⟩ <;> rcases hcase b' p' h' with⟨j,hb',hj,g2⟩|⟨hb',hlt'⟩
  ·obtain⟨x,y,e1,e2,e3⟩:=hnewat _ i hi;obtain⟨x',y',f1,f2,f3⟩:=hnewat _ j hj;rw[show σ.length+(b-σ.length)=b by omega]at e3;rw[show σ.length+(b'-σ.length)=b' by omega]at f3;obtain⟨z,hz,hzm⟩:=h1;obtain⟨z',hz',hzl⟩:=h2;rw[e3]at hz;injection hz with hz;subst hz
   rw[f3]at hz';injection hz' with hz';subst hz'
   refine hpost.rel.sep i j p p' g1 g2 (fun e=>?_) ⟨x,e1,(JD e2 hzm).1⟩ ⟨x',f1,K6 f2 hzl⟩;subst e;have:=Ry hnn hi hj;omega
  ·have:=hbig i p g1 (hns _ i hi);have:=hR.lt b' p' hb';omega
  ·have:=hbig j p' g2 (hns _ j hj);have:=hR.lt b p hb;omega
  obtain⟨z,hz,hzm⟩:=h1;obtain⟨z',hz',hzl⟩:=h2;rcases hlt with hlt|hlt
  ·rcases hlt' with hlt'|hlt'
   ·exact hR.sep b b' p p' hb hb' hne ⟨z,hold b z hz hlt,hzm⟩ ⟨z',hold b' z' hz' hlt',hzl⟩
   rw[hlt']at hz';simp at hz'
  rw[hlt]at hz;simp at hz
 ·rcases hcase b p h with⟨i,hb,hi,g1⟩|⟨hb,hlt⟩
  ·exact Zcq hR.bsz (hbig i p g1 (hns _ i hi))
  obtain⟨z,hz,hzm⟩:=hm;rcases hlt with hlt|hlt
  ·exact hR.gap b p hb ⟨z,hold b z hz hlt,hzm⟩
  rw[hlt]at hz;simp at hz
 rcases hcase b p h with⟨i,hb,hi,g1⟩|⟨hb,_⟩
 ·have hjl:b-σ.length<ns.length:=by
   rcases Zcr (b-σ.length) ns.length with h|h
   ·exact h
   rw[ZbQ h]at hi;simp at hi
  exact⟨⟨hb,by simp[nl];omega⟩,hbig i p g1 (hns _ i hi)⟩
 rw[hb]at hno;simp at hno
end
def DK{P:Program}{c:Call}{fo:Operand}{a:Act}{o:Oper}(ho:o.op=.call c)(hc:c.callee=.value fo){f:FuncId}{first cs:List Value}(hf:a.eval fo=.func (.func f) first.toArray cs.toArray)
  (hcall : ∃ fn,P.funcs[f]? = some fn ∧ fn.body.isSome = true ∧ fn.name ≠ "runtime.NumGoroutine") (W : World) : (execOp a.eval o).run P W = .ok (.enter f (first ++ c.args.toList.map a.eval ++ cs).toArray) W := by
 obtain⟨fn,h1,h2,h3⟩:=hcall
 have hb:fn.body≠none:=fun e=>by rw[e]at h2;simp at h2
 have he:first.toArray++c.args.map a.eval++cs.toArray=(first++c.args.toList.map a.eval++cs).toArray:=Array.toList_inj.1 (by simp)
 simp[execOp,ho,resolve,hc,hf,Deferred.ofValue,invoke,callFunc,h1]
 rw[Zcz h3,Zcz hb]
 simp
def kL{v:V}{args:List V}{f:FuncId}{all:List V}(h:target v args=some (f,all)){ι:Inj}{fv:Value}{as:List Value}(hv:VR ι v fv)(ha:VRL ι args as) :
  ∃ first cs:List Value,fv=.func (.func f) first.toArray cs.toArray/\VRL ι all (first++as++cs):=by
 unfold target at h
 split at h
 ·rename_i g caps;injection h with h
  injection h with h1 h2
  subst h1;subst h2;simp only[VR]at hv;obtain⟨cs,rfl,hcs⟩:=hv;exact⟨[],cs,rfl,VRL.append ha hcs⟩
 ·rename_i g x;injection h with h
  injection h with h1 h2
  subst h1;subst h2;simp only[VR]at hv;obtain⟨u,rfl,hu⟩:=hv;exact⟨[u],[],rfl,by simp only[Zcf,List.singleton_append,VRL];exact⟨u,as,rfl,hu,ha⟩⟩
 simp at h
def kw[Bas]{q:Bool}{all:List V}{σ:Heap}{rs:List Nat}{as0:List V}{σ0:Heap}{r r0:V}{σ1:Heap}{x:V}{σ':Heap}
  (hent:Xq q all σ=some (rs,as0,σ0)) (h:Xn q σ rs r0 σ1=some (x,σ')) {E:Value->Ending} (hr0:∀ ι1 e,EndR ι1 r e->∃ u,e=E u/\VR ι1 r0 u)
  {ι:Inj} {W:World} {as:List Value} (hR:RelW ι σ W) (hD:q=false->Dom ι σ) (hnone:q=true->∀ b,σ.length<=b->b<σ'.length->ι b=none) (ha:VRL ι all as)
  {T:(Ending->World->Prop)->Prop} (hT:∀ {R R':Ending->World->Prop},T R->(∀ e w,R e w->R' e w)->T R') (hsim:∀ (ι0:Inj),RelW ι0 σ0 W->Dom ι0 σ0->VRL ι0 as0 as->T fun e W'=>∃ ι',EndR ι' r e/\Post ι0 σ0 W ι' σ1 W') :
  T fun e W'=>∃ ι' u,e=E u/\VR ι' x u/\(q=false->Post ι σ W ι' σ' W')/\(q=true->QPost ι σ W ι' σ' W'):=by
 unfold Xq at hent
 dsimp only at hent
 generalize hrs:YN σ 64 (V.refsL all) []=rs' at hent
 split at hent
 ·rename_i as1 σ2 hren hpick;injection hent with hent
  simp only[Zcn]at hent;obtain⟨e1,e2,e3⟩:=hent;subst e1;subst e2;subst e3;unfold Xn at h;dsimp only at h;generalize hns:Xi q rs'.length r0 σ1=ns at h
  cases hnd:nodup rs'&&nodup ns&&Nat.ble rs'.length σ1.length
  ·rw[hnd]at h;simp at h
  rw[hnd]at h;simp only[cond_true]at h;simp only[Zca]at hnd;have hnsk:∀ (j i:Nat),ns[j]? = some i->rs'.length<=i:=by
   intro j i hj;have:=List.mem_of_getElem? hj;rw[<-hns]at this;have h2:=(Zch.1 this).2;rwa [Nat.ble_eq]at h2
  obtain⟨hR0,hD0,_,_⟩:=JH hR hpick hnd.1.1;have hpos:∀ b i,pos b rs'=some i->XE ι rs' i=ι b:=fun b i h=>by simp[XE,TP h]
  refine hT (hsim (XE ι rs') hR0 hD0 (J6 hpos _ _ _ hren ha)) ?_;rintro e W' ⟨ι1,hend,hpost⟩;obtain⟨v',rfl,hvr⟩:=hr0 ι1 e hend;have hbk:=yP (ns:=ns) hpick hpost;split at h
  ·rename_i r' new hr' hnew
   cases q
   ·simp only[cond_false]at h;split at h
    ·rename_i old hold;injection h with h
     injection h with h1 h2
     subst h1;subst h2;exact⟨_,v',rfl,Ei hbk r0 r' v' hr' hvr,fun _=>Zai hR (hD rfl) hpick hnd.1.1 hpost hnd.1.2 hnsk hold hnew,fun h=>by simp at h⟩
    simp at h
   simp only[cond_true]at h;injection h with h
   injection h with h1 h2
   subst h1;subst h2;exact⟨_,v',rfl,Ei hbk r0 r' v' hr' hvr,fun h=>by simp at h,fun _=>sg hR hpick hnd.1.1 hpost hnd.1.2 hnsk hnew (hnone rfl)⟩
  simp at h
 simp at hent
def DU[Bas]{P:Program}{run:Runner}(hrun:WD P run){q:Bool}{f:FuncId}{all:List V}{σ:Heap}{rs:List Nat}{as0:List V}{σ0:Heap}{r r0:V}{σ1:Heap}{x:V}{σ':Heap}
  (hent:Xq q all σ=some (rs,as0,σ0)) (hrr:run f as0 σ0=some (r,σ1)) (h:Xn q σ rs r0 σ1=some (x,σ')) {E:Value->Ending} (hr0:∀ ι1 e,EndR ι1 r e->∃ u,e=E u/\VR ι1 r0 u)
  {ι:Inj} {W:World} {as:List Value} (hR:RelW ι σ W) (hD:q=false->Dom ι σ) (hnone:q=true->∀ b,σ.length<=b->b<σ'.length->ι b=none) (ha:VRL ι all as) :
  (∃ fn,P.funcs[f]? = some fn ∧ fn.body.isSome = true ∧ fn.name ≠ "runtime.NumGoroutine") ∧
   Calls P f as.toArray W fun e W'=>∃ ι' u,e=E u/\VR ι' x u/\(q=false->Post ι σ W ι' σ' W')/\(q=true->QPost ι σ W ι' σ' W'):=by
 have hent':=hent
 unfold Xq at hent'
 dsimp only at hent'
 split at hent'
 ·rename_i as1 σ2 hren hpick;injection hent' with hent'
  simp only[Zcn]at hent';obtain⟨e1,e2,e3⟩:=hent';subst e2;have hm:U9 as1=false:=vv (J6 (ι':=XE ι rs) (fun b i h=>by rw[e1]at h;simp[XE,TP h]) _ _ _ hren ha);obtain⟨h1,h2⟩:=hrun f as1 σ0 r σ1 hrr hm;exact⟨h1,kw hent h hr0 hR hD hnone ha (fun hc hr=>hc.mono hr) fun ι0 hR0 hD0 hv0=>h2 ι0 W as hR0 hD0 hv0⟩
 simp at hent'
def RQ{q:Bool}{σ:Heap}{rs:List Nat}{p:V}{σ1:Heap}:Xn q σ rs (.pan p) σ1=none:=by
 unfold Xn;dsimp only
 cases(nodup rs&&nodup (Xi q rs.length (.pan p) σ1)&&Nat.ble rs.length σ1.length) with
 |false=>rfl
 |true=>simp only[V.ren,cond_true]
def TM[Bas]{P:Program}{run:Runner}(hrun:WD P run){q:Bool}{v:V}{args:List V}{σ:Heap}{x:V}{σ':Heap}(h:Y5 run q v args σ=some (x,σ')){ι:Inj}{W:World}{fv:Value}{as:List Value}
  (hR:RelW ι σ W) (hD:q=false->Dom ι σ) (hnone:q=true->∀ b,σ.length<=b->b<σ'.length->ι b=none) (hv:VR ι v fv) (ha:VRL ι args as) :
  ∃ (f : FuncId) (first cs : List Value),fv = .func (.func f) first.toArray cs.toArray ∧ (∃ fn,P.funcs[f]? = some fn ∧ fn.body.isSome = true ∧ fn.name ≠ "runtime.NumGoroutine") ∧
   Calls P f (first++as++cs).toArray W fun e W'=>∃ ι' v',e=.returned v'/\VR ι' x v'/\(q=false->Post ι σ W ι' σ' W')/\(q=true->QPost ι σ W ι' σ' W'):=by
 unfold Y5 at h
 simp only[ZbI]at h
 obtain⟨⟨f,all⟩,ht,⟨rs,as0,σ0⟩,hent,⟨r,σ1⟩,hrr,h⟩:=h
 obtain⟨first,cs,rfl,hall⟩:=kL ht hv ha
 have hnp:∀ p,r≠.pan p:=fun p e=>by subst e;rw[RQ]at h;cases h
 obtain⟨h1,h2⟩:=DU hrun hent hrr h (E:=.returned) (fun ι1 e he=>he.ret hnp) hR hD hnone hall
 exact⟨f,first,cs,rfl,h1,h2⟩
def jk[Bas]{P:Program}{run:Runner}(hrun:WD P run){v:V}{args:List V}{σ:Heap}{x:V}{σ':Heap}(h:Vh run v args σ=some (x,σ')){ι:Inj}{W:World}{fv:Value}{as:List Value}
  (hR:RelW ι σ W) (hD:Dom ι σ) (hv:VR ι v fv) (ha:VRL ι args as) :
  ∃ (f : FuncId) (first cs : List Value),fv = .func (.func f) first.toArray cs.toArray ∧ (∃ fn,P.funcs[f]? = some fn ∧ fn.body.isSome = true ∧ fn.name ≠ "runtime.NumGoroutine") ∧
   Calls P f (first++as++cs).toArray W fun e W'=>∃ ι' u,e=.panicked [{ v:=u,recovered:=false }]/\VR ι' x u/\Post ι σ W ι' σ' W':=by
 unfold Vh at h
 simp only[ZbI]at h
 obtain⟨⟨f,all⟩,ht,⟨rs,as0,σ0⟩,hent,⟨r,σ1⟩,hrr,h⟩:=h
 obtain⟨first,cs,rfl,hall⟩:=kL ht hv ha
 simp only at h
 split at h
 ·rename_i p;obtain⟨h1,h2⟩:=DU hrun hent hrr h (E:=fun u=>.panicked [{ v:=u,recovered:=false }]) (fun ι1 e he=>he) hR (fun _=>hD) (fun h=>by simp at h) hall;refine⟨f,first,cs,rfl,h1,h2.mono ?_⟩;rintro e W' ⟨ι',u,rfl,hu,hp,_⟩;exact⟨ι',u,rfl,hu,hp rfl⟩
 simp at h
def jD[Bas]{P:Program}{run:Runner}(hrun:WD P run){f:FuncId}{av:List V}{σ:Heap}{x:V}{σ':Heap}(h:V1 run f av σ=some (x,σ')){ι:Inj}{W:World}{as:List Value}
  (hR:RelW ι σ W) (hD:Dom ι σ) (ha:VRL ι av as) :
  (∃ fn,P.funcs[f]? = some fn ∧ fn.body.isSome = true ∧ fn.name ≠ "runtime.NumGoroutine") ∧
   Calls P f as.toArray W fun e W'=>∃ ι' v',e=.returned v'/\VR ι' x v'/\Post ι σ W ι' σ' W':=by
 unfold V1 at h
 simp only[ZbI]at h
 obtain⟨⟨rs,as0,σ0⟩,hent,⟨r,σ1⟩,hrr,h⟩:=h
 have hnp:∀ p,r≠.pan p:=fun p e=>by subst e;rw[RQ]at h;cases h
 obtain⟨h1,h2⟩:=DU hrun hent hrr h (E:=.returned) (fun ι1 e he=>he.ret hnp) hR (fun _=>hD) (fun h=>by simp at h) ha
 refine⟨h1,h2.mono ?_⟩
 rintro e W' ⟨ι',v',rfl,hv,hp,_⟩
 exact⟨ι',v',rfl,hv,hp rfl⟩
end Go.Am
namespace Go.Am
open Go
def yh[Bas]{P:Program}{run:Runner}{q:Bool}{op:Op}{i:HIns}(h:Xw P q op=some i) :
  (VO P run op i/\i.kd=.quiet)\/(zK P run op i/\i.kd=.eff) \/
  (∃ c fo f as,op=.call c/\c.callee=.value fo/\opd fo=some f/\KP c.args.toList=some as/\i=bif q then .callq f as else .call f as):=by
 cases op with
 |alloc t=>
  simp only[Xw,ZbK]at h
  obtain⟨z,hz,rfl⟩:=h
  cases z with
  |vl l=>exact .inl ⟨vw hz,rfl⟩
  |_=>exact .inl ⟨ue hz,rfl⟩
 |panic x=>
  simp only[Xw,ZbK]at h
  obtain⟨o,ho,rfl⟩:=h
  exact .inr (.inl ⟨fun _ _ _ _ _ _ _ _ _ _ _ _ hv=>by simp[YK]at hv,rfl⟩)
 |box t x=>
  simp only[Xw,ZbK]at h
  obtain⟨z,hz,rfl⟩:=h
  split
  ·exact .inl ⟨rj hz,rfl⟩
  exact .inl ⟨r6 hz,rfl⟩
 |buildSlice t len parts=>
  simp only[Xw]at h
  split at h
  ·rename_i e hu;split at h
   ·rename_i n z ps h1 h2 h3;split at h
    ·rename_i hn;injection h with h
     subst h;exact .inl ⟨sG hu h1 h2 h3 hn,rfl⟩
    simp at h
   simp at h
  simp at h
 |load t a=>
  simp only[Xw]at h
  split at h
  ·rename_i g n h1 h2;split at h
   ·rename_i hg;simp only[ZbK]at h;obtain⟨z,hz,rfl⟩:=h;exact .inl ⟨sQ h1 h2 hg hz,rfl⟩
   simp at h
  simp at h
 |store t a x=>
  simp only[Xw]at h
  split at h
  ·rename_i h1 h2 h3;injection h with h
   subst h;exact .inr (.inl ⟨oC h1 h2 h3,rfl⟩)
  simp at h
 |convert s d x=>
  simp only[Xw]at h
  split at h
  ·rename_i e h1 h2;split at h
   ·rename_i h3;simp only[ZbK]at h;obtain⟨z,hz,rfl⟩:=h;exact .inl ⟨o8 h1 h2 h3 hz,rfl⟩
   simp at h
  simp at h
 |makeMap t r=>
  cases r with
  |none=>
   simp only[Xw,Zb4]at h
   subst h
   exact .inl ⟨uz,rfl⟩
  |some r=>simp[Xw]at h
 |insert t m k v=>
  simp only[Xw]at h
  split at h
  ·rename_i kt et hu;split at h
   ·rename_i hk;split at h
    ·rename_i h1 h2 h3;injection h with h
     subst h;exact .inr (.inl ⟨kQ (.inl rfl) hu hk h1 h2 h3,rfl⟩)
    simp at h
   simp at h
  simp at h
 |mapUpdate t m k v=>
  simp only[Xw]at h
  split at h
  ·rename_i kt et hu;split at h
   ·rename_i hk;split at h
    ·rename_i h1 h2 h3;injection h with h
     subst h;exact .inr (.inl ⟨kQ (.inr rfl) hu hk h1 h2 h3,rfl⟩)
    simp at h
   simp at h
  simp at h
 |lookup t m k ok=>
  simp only[Xw]at h
  split at h
  ·rename_i kt et hu;split at h
   ·rename_i hk;split at h
    ·rename_i h1 h2 h3;injection h with h
     subst h;exact .inl ⟨t8 hu hk h1 h2 h3,rfl⟩
    simp at h
   simp at h
  simp at h
 |call c=>
  simp only[Xw]at h
  split at h
  ·rename_i fo hc;split at h
   ·rename_i f as h1 h2;injection h with h
    subst h;exact .inr (.inr ⟨c,fo,f,as,rfl,hc,h1,h2,rfl⟩)
   simp at h
  ·rename_i hc;split at h
   ·rename_i t u s x h1 h2 h3;split at h
    ·rename_i e e' hu hu';split at h
     ·rename_i n b s' x' h4 h5 h6 h7;split at h
      ·simp at h
      rename_i hn;injection h with h
      subst h;have hat:c.argTypes=#[t,t]:=Classical.byContradiction fun hq=>hn (.inr (.inr (.inl hq)))
      have hz:(Wu P e).map Z.size=some n:=Classical.byContradiction fun hq=>hn (.inr (.inr (.inr hq)))
      have hb0:b≠0:=fun hq=>hn (.inr (.inl hq))
      cases hzt:Wu P e with
      |none=>rw[hzt]at hz;simp at hz
      |some z=>
       rw[hzt]at hz;simp at hz;exact .inr (.inl ⟨tU hc hat h3 hu h4 h5 hzt hz hb0 h6 h7,rfl⟩)
     simp at h
    ·rename_i e hu hu';split at h
     ·rename_i b s' x' h4 h5 h6 h7;split at h
      ·simp at h
      rename_i hn;injection h with h
      subst h;have hat:c.argTypes=#[t,u]:=Classical.byContradiction fun hq=>hn (.inr (.inl hq))
      have hsz:Xz P e=some 1:=Classical.byContradiction fun hq=>hn (.inr (.inr (.inl hq)))
      have hz:(Wu P e).map Z.size=some 1:=Classical.byContradiction fun hq=>hn (.inr (.inr (.inr hq)))
      have hb0:b≠0:=fun hq=>hn (.inl hq)
      cases hzt:Wu P e with
      |none=>rw[hzt]at hz;simp at hz
      |some z=>
       rw[hzt]at hz;simp at hz;exact .inr (.inl ⟨uq hc hat h3 hu hu' h4 hsz h5 hzt hz hb0 h6 h7,rfl⟩)
     simp at h
    simp at h
   simp at h
  simp at h
 |_=>simp[Xw]at h
def wn[Bas]{P:Program}{run:Runner}(hrun:WD P run){o:Oper}{i:Ins}(hc:VP P false o.op=i){ι:Inj}{σ:Heap}{W:World}{e:Env}{a:Act}{x:V}{σ':Heap}
  (hE:EnvR ι e a.tmps) (hR:RelW ι σ W) (hD:Dom ι σ) (hv:Xr run i e σ=some (x,σ')) {K:Act->World->Prop} {Q:Exit->Act->World->Prop}
  (hK:∀ v W' ι',VR ι' x v->Post ι σ W ι' σ' W'->K (a.put o.dst v) W'):o.wp P a W K Q:=by
 unfold VP at hc
 split at hc
 ·rename_i p hp;subst hc;simp only[Xr,ZbK]at hv;obtain⟨y,hy,hv⟩:=hv;injection hv with h1 h2
  subst h1;subst h2;obtain⟨v,hr,hx⟩:=zR hp ι e a y o rfl hE hy;unfold Oper.wp;rw[hx W];exact hK v W ι hr (QPost.refl hR).post
 split at hc;rotate_left
 ·subst hc;simp[Xr,YK]at hv
 rename_i h hh;subst hc;simp only[Xr]at hv;rcases yh (run:=run) hh with⟨hq,_⟩|⟨hq,_⟩|⟨c,fo,f,as,hop,hcal,hf,has,rfl⟩
 ·obtain⟨v,W',ι',hr,hp,hx⟩:=hq ι σ W e a x σ' o rfl hE hR hv (fun b hb _=>by
   cases hn:ι b with
   |none=>rfl
   |some p=>have:=hD b p hn;omega)
  unfold Oper.wp;rw[hx];exact hK v W' ι' hr hp.post
 ·obtain⟨r,W',ι',hp,hx,hr⟩:=hq ι σ W e a x σ' o rfl hE hR hD hv;unfold Oper.wp;rw[hx];rcases hr with⟨rfl,rfl⟩|⟨v,rfl,hr⟩
  ·exact hK Go.undef W' ι' trivial hp
  exact hK v W' ι' hr hp
 simp only[cond_false,YK]at hv;have rf:=Y9 hf hE;have ra:=Jj hE has;obtain⟨fid,first,cs,hfv,hcallee,hcalls⟩:=TM hrun hv hR (fun _=>hD) (fun h=>by simp at h) rf ra;unfold Oper.wp;rw[DK hop hcal hfv hcallee W];refine hcalls.mono ?_;rintro en W' ⟨ι',v',rfl,hr,hp,_⟩;exact hK v' W' ι' hr (hp rfl)
def qg[Bas]{P:Program}{run:Runner}(hrun:WD P run){o:Oper}{q:Bool}{i:Ins}(hc:VP P q o.op=i)(hk:i.kd≠.eff){ι:Inj}{σ:Heap}{W:World}{e:Env}{a:Act}{x:V}{σ':Heap}
  (hE:EnvR ι e a.tmps) (hR:RelW ι σ W) (hv:Xr run i e σ=some (x,σ')) (hnone:∀ b,σ.length<=b->b<σ'.length->ι b=none) {K:Act->World->Prop} {Q:Exit->Act->World->Prop}
  (hK:∀ v W' ι',VR ι' x v->QPost ι σ W ι' σ' W'->K (a.put o.dst v) W'):o.wp P a W K Q:=by
 unfold VP at hc
 split at hc
 ·rename_i p hp;subst hc;simp only[Xr,ZbK]at hv;obtain⟨y,hy,hv⟩:=hv;injection hv with h1 h2
  subst h1;subst h2;obtain⟨v,hr,hx⟩:=zR hp ι e a y o rfl hE hy;unfold Oper.wp;rw[hx W];exact hK v W ι hr (QPost.refl hR)
 split at hc;rotate_left
 ·subst hc;simp[Xr,YK]at hv
 rename_i h hh;subst hc;simp only[Xr]at hv;simp only[Ins.kd]at hk;rcases yh (run:=run) hh with⟨hq,_⟩|⟨_,hq⟩|⟨c,fo,f,as,hop,hcal,hf,has,rfl⟩
 ·obtain⟨v,W',ι',hr,hp,hx⟩:=hq ι σ W e a x σ' o rfl hE hR hv hnone;unfold Oper.wp;rw[hx];exact hK v W' ι' hr hp
 ·exact absurd hq hk
 cases q
 ·simp[HIns.kd]at hk
 simp only[cond_true,YK]at hv;have rf:=Y9 hf hE;have ra:=Jj hE has;obtain⟨fid,first,cs,hfv,hcallee,hcalls⟩:=TM hrun hv hR (fun h=>by simp at h) (fun _=>hnone) rf ra;unfold Oper.wp;rw[DK hop hcal hfv hcallee W];refine hcalls.mono ?_;rintro en W' ⟨ι',v',rfl,hr,_,hp⟩;exact hK v' W' ι' hr (hp rfl)
def EnvR.bool{ι:Inj}{e:Env}{tmps:Array Value}(h:EnvR ι e tmps){t:Nat}{b:Bool}(ht:e.getD t .undef=.s (.bool b)):tmps[t]? = some (.bool b):=by
 have:=h.get t;rw[ht]at this;simp only[VR,S.val]at this
 cases hx:tmps[t]? with
 |none=>simp[Go.undef,hx]at this
 |some v=>simp[hx]at this;rw[this]
def QI{ι:Inj}{e:Env}{a:Act}(hE:EnvR ι e a.tmps){ops:Array Oper}{o:Oper}{g:Option (Nat×Bool)}(hg:Eb ops.toList o.guard=some g) :
  (g=none->Region.wanted o (yielded ops a.tmps)=true)/\(∀ t want,g=some (t,want)->∀ b,e.getD t .undef=.s (.bool b)->Region.wanted o (yielded ops a.tmps)=(b==want)):=by
 unfold Eb at hg
 split at hg
 ·rename_i hn;injection hg with hg
  subst hg;exact⟨fun _=>by simp[Region.wanted,hn],fun t want h=>by simp at h⟩
 rename_i j want hj;split at hg
 ·rename_i oj hoj;simp only[ZbK]at hg;obtain⟨d,hd,rfl⟩:=hg;refine⟨fun h=>by simp at h,fun t want' h b hb=>?_⟩;simp only[Zb4,Zcn]at h;obtain⟨rfl,rfl⟩:=h;have ht:=hE.bool hb;have hoj':ops[j]? = some oj:=by simpa using hoj
  simp only[Region.wanted,hj,yielded,hoj',Option.bind_some,hd,ht];rfl
 simp at hg
def JR(ι:Inj):VR ι (.tup []) Go.undef:=by
 simp only[VR];exact⟨[],rfl,rfl⟩
def EQ{ι:Inj}{e:Env}{a:Act}(hE:EnvR ι e a.tmps){ops:Array Oper}{o:Oper}{g:Option (Nat×Bool)}(hg:Eb ops.toList o.guard=some g){t:Nat}{want:Bool}(h:g=some (t,want))(hb:e.getD t .undef=.tup []):Region.wanted o (yielded ops a.tmps)=false:=by
 unfold Eb at hg;split at hg
 ·injection hg with hg
  subst hg
  cases h
 rename_i j want' hj;split at hg
 ·rename_i oj hoj;simp only[ZbK]at hg;obtain⟨d,hd,rfl⟩:=hg;simp only[Zb4,Zcn]at h;obtain⟨rfl,rfl⟩:=h;have ht:=hE.get d;rw[hb]at ht;simp only[VR]at ht;obtain⟨cs,hcs,hl⟩:=ht;simp only[VRL]at hl;subst hl;have hoj':ops[j]? = some oj:=by simpa using hoj
  have hy:yielded ops a.tmps j=none:=by
   simp only[yielded,hoj',Option.bind_some,hd]
   cases hq:a.tmps[d]? with
   |none=>rfl
   |some v=>
    have:v=.tuple #[]:=by simpa[hq] using hcs
    subst this;rfl
  simp only[Region.wanted,hj,hy]
  cases want' <;> rfl
 simp at hg
def Ud{P:Program}{ops:List Oper}{q:Bool}{o:Oper}{i:I}(h:Qj P ops q o=some i):i.dst=o.dst/\Eb ops o.guard=some i.g/\VP P q o.op=i.ins:=by
 unfold Qj at h;split at h
 ·rename_i g h1;injection h with h
  subst h;exact⟨rfl,h1,rfl⟩
 simp at h
def V0(a:Act)(d:Option Tmp)(v:Value):(a.put d v).defers=a.defers:=by cases d <;> rfl
def kT[Bas]{P:Program}{run:Runner}(hrun:WD P run){ops:Array Oper}{o:Oper}{i:I}(hc:Qj P ops.toList false o=some i){ι:Inj}{σ:Heap}{W:World}{e e':Env}{a:Act}{σ':Heap}
  (hE:EnvR ι e a.tmps) (hR:RelW ι σ W) (hD:Dom ι σ) (hv:XO run i e σ=some (e',σ')) {K:Act->World->Prop} {Q:Exit->Act->World->Prop}
  (hK:∀ a' W' ι',EnvR ι' e' a'.tmps->Post ι σ W ι' σ' W'->a'.defers=a.defers->K a' W'):(if Region.wanted o (yielded ops a.tmps) then o.wp P a W K Q else K (a.put o.dst Go.undef) W):=by
 obtain⟨hd,hg,hi⟩:=Ud hc
 have hw:=QI hE hg
 have main:∀ x σ1,Xr run i.ins e σ=some (x,σ1)->e'=XK e i.dst x->σ'=σ1->o.wp P a W K Q:=by
  intro x σ1 hx he hs;subst he;subst hs;refine wn hrun hi hE hR hD hx (fun v W' ι' hr hp=>hK _ W' ι' ?_ hp (V0 _ _ _));rw[hd];exact EnvR.put (hE.ext hp.ext) o.dst hr
 unfold XO at hv
 split at hv
 ·rename_i hgn;rw[ZcA (hw.1 hgn)];simp only[ZbK]at hv;obtain⟨⟨x,σ1⟩,hx,hv⟩:=hv;injection hv with h1 h2
  exact main x σ1 hx h1.symm h2.symm
 rename_i t want hgs;split at hv
 ·rename_i b hb;rw[hw.2 t want hgs b hb]
  cases hbw:b==want
  ·rw[hbw]at hv;simp only[cond_false,Zb4,Zcn]at hv;obtain⟨rfl,rfl⟩:=hv;simp only[Zb1,if_false];refine hK _ W ι ?_ (QPost.refl hR).post (V0 _ _ _);rw[hd];exact EnvR.put hE o.dst (JR ι)
  rw[hbw]at hv;simp only[cond_true,ZbK]at hv;obtain⟨⟨x,σ1⟩,hx,hv⟩:=hv;injection hv with h1 h2
  simp only[if_true];exact main x σ1 hx h1.symm h2.symm
 ·rename_i hb;rw[EQ hE hg hgs hb];simp only[Zb4,Zcn]at hv;obtain⟨rfl,rfl⟩:=hv;simp only[Zb1,if_false];refine hK _ W ι ?_ (QPost.refl hR).post (V0 _ _ _);rw[hd];exact EnvR.put hE o.dst (JR ι)
 simp at hv
def xQ{P:Program}{op:Op}{f:O}{l:List O}(h:Xw P false op=some (.call f l)):∃ c fo,op=.call c/\c.callee=.value fo/\opd fo=some f/\KP c.args.toList=some l:=by
 cases op with
 |call c=>
  simp only[Xw]at h;split at h
  ·rename_i fo hc;split at h
   ·rename_i f' l' h1 h2;simp only[cond_false,Zb4,HIns.call.injEq]at h;obtain⟨rfl,rfl⟩:=h;exact⟨c,fo,rfl,hc,h1,h2⟩
   simp at h
  ·repeat (first|split at h|simp at h)
  simp at h
 |makeMap t r=>cases r <;> simp[Xw]at h
 |next x b=>cases b <;> simp[Xw]at h
 |alloc t=>
  simp only[Xw,ZbK]at h;obtain⟨z,_,h⟩:=h
  cases z <;> simp at h
 |_=>
  simp only[Xw]at h;repeat (first|split at h|simp at h)
def pu{P:Program}{op:Op}{x':O}(h:Xw P false op=some (.pnc x')):∃ x,op=.panic x/\opd x=some x':=by
 cases op with
 |panic x=>
  simp only[Xw,ZbK,HIns.pnc.injEq]at h;obtain⟨y,hy,rfl⟩:=h;exact⟨x,rfl,hy⟩
 |call c=>
  simp only[Xw]at h;split at h
  ·split at h
   ·simp at h
   simp at h
  ·repeat (first|split at h|simp at h)
  simp at h
 |makeMap t r=>cases r <;> simp[Xw]at h
 |next x b=>cases b <;> simp[Xw]at h
 |alloc t=>
  simp only[Xw,ZbK]at h;obtain⟨z,_,h⟩:=h
  cases z <;> simp at h
 |_=>
  simp only[Xw]at h;repeat (first|split at h|simp at h)
def Dt(u:Value):List PanicEntry:=[{ v:=u,recovered:=false }]
def kY[Bas]{P:Program}{run:Runner}(hrun:WD P run){ops:Array Oper}{o:Oper}{i:I}(hc:Qj P ops.toList false o=some i){ι:Inj}{σ:Heap}{W:World}{e:Env}{a:Act}{x:V}{σ':Heap}
  (hE:EnvR ι e a.tmps) (hR:RelW ι σ W) (hD:Dom ι σ) (hv:WZ run i e σ=some (x,σ')) {K:Act->World->Prop} {Q:Exit->Act->World->Prop}
  (hQ:∀ W' ι' u,VR ι' x u->Post ι σ W ι' σ' W'->Q (.panic (Dt u)) a W'):(if Region.wanted o (yielded ops a.tmps) then o.wp P a W K Q else K (a.put o.dst Go.undef) W):=by
 obtain⟨hd,hg,hi⟩:=Ud hc
 have hw:=QI hE hg
 have hwant:Region.wanted o (yielded ops a.tmps)=true/\(match i.ins with
  |.h (.call f args)=>Vh run (f.ev e) (args.map (·.ev e)) σ
  |.h (.pnc x)=>match x.ev e with
   |.iface t y=>some (.iface t y,σ)
   |_=>none
  |_=>none)=some (x,σ'):=by
  unfold WZ XY at hv
  cases hgi:i.g with
  |none=>
   rw[hgi]at hv
   exact⟨hw.1 hgi,hv⟩
  |some p=>
   obtain⟨t,want⟩:=p
   rw[hgi]at hv
   simp only at hv
   split at hv
   ·rename_i b hb
    cases hbw:b==want with
    |false=>rw[hbw]at hv;simp at hv
    |true=>
     rw[hbw]at hv;exact⟨by rw[hw.2 t want hgi b hb,hbw],hv⟩
   simp at hv
 rw[ZcA hwant.1]
 have hv:=hwant.2
 split at hv
 ·rename_i f args hins;have hcomp:Xw P false o.op=some (.call f args):=by
   rw[hins]at hi;unfold VP at hi;split at hi
   ·cases hi
   split at hi
   ·rename_i j hj;injection hi with hi
    rw[hj,hi]
   injection hi with hi;cases hi
  obtain⟨c,fo,hop,hcal,hf,has⟩:=xQ hcomp;have rf:=Y9 hf hE;have ra:=Jj hE has;obtain⟨fid,first,cs,hfv,hcallee,hcalls⟩:=jk hrun hv hR hD rf ra;unfold Oper.wp;rw[DK hop hcal hfv hcallee W];refine hcalls.mono ?_;rintro en W' ⟨ι',u,rfl,hr,hp⟩;exact hQ W' ι' u hr hp
 ·rename_i y hins;have hcomp:Xw P false o.op=some (.pnc y):=by
   rw[hins]at hi;unfold VP at hi;split at hi
   ·cases hi
   split at hi
   ·rename_i j hj;injection hi with hi
    rw[hj,hi]
   injection hi with hi;cases hi
  obtain⟨xo,hop,hx⟩:=pu hcomp;have rx:=Y9 hx hE;split at hv
  ·rename_i t z hz;injection hv with hv
   injection hv with h1 h2
   subst h1;subst h2;rw[hz]at rx;have rx':=rx;simp only[VR]at rx;obtain⟨u,hu,_⟩:=rx;unfold Oper.wp;have:(execOp a.eval o).run P W=.halt (.panic (.iface t u)) W:=by
    simp[execOp,hop,hu,Instr.panic,goPanic,Sem.run]
   rw[this,Oper.upon_panic];exact hQ W ι (.iface t u) (by rw[<-hu];exact rx') (QPost.refl hR).post
  simp at hv
 simp at hv
def ExR(ι:Inj)(x:Ex)(y:Exit):Prop :=
 match x with
 |.normal=>y=.normal
 |.exit id=>y=.exit id
 |.ret=>y=.ret
 |.panic v=>∃ u,y=.panic (Dt u)/\VR ι v u
end Go.Am
namespace Go.Am
open Go
def Agree(ts:List Nat)(e f:Env):Prop:=∀ t,t∈ts->e.getD t .undef=f.getD t .undef
def Agree.left{a b:List Nat}{e f:Env}(h:Agree (a++b) e f):Agree a e f:=fun t ht=>h t (Zcg.2 (.inl ht))
def Agree.right{a b:List Nat}{e f:Env}(h:Agree (a++b) e f):Agree b e f:=fun t ht=>h t (Zcg.2 (.inr ht))
def YR{x:O}{e f:Env}(h:Agree (oT x) e f):x.ev e=x.ev f:=by
 cases x with
 |t n=>exact h n (by simp[oT])
 |k v=>rfl
def Kf:∀ {l:List O} {e f:Env},Agree (oTs l) e f->l.map (·.ev e)=l.map (·.ev f)
 |[],_,_,_=>rfl
 |x::l,e,f,h=>by
  simp only[oTs,Zb8]at h;rw[List.map_cons,List.map_cons,YR h.left,Kf h.right]
def UN{x:Option O}{e f:Env}(h:Agree (oTo x) e f)(d:Nat):WB e x d=WB f x d:=by
 cases x with
 |none=>rfl
 |some x=>simp only[WB,YR (x:=x) h]
def Tg:∀ {ps:List (Nat×Nat×O)} {e f:Env} (g:Nat->S),Agree (ps.flatMap fun p=>oT p.2.2) e f->WJ e ps g=WJ f ps g
 |[],_,_,_,_=>rfl
 |(a,b,x)::ps,e,f,g,h=>by
  simp only[Zb8]at h;simp only[WJ,YR h.left];split
  ·exact Tg _ h.right
  rfl
def To:∀ {ps:List (Nat×Nat×O)} {e f:Env} (l:List V),Agree (ps.flatMap fun p=>oT p.2.2) e f->Ql e ps l=Ql f ps l
 |[],_,_,_,_=>rfl
 |(a,b,x)::ps,e,f,l,h=>by
  simp only[Zb8]at h;simp only[Ql,YR h.left];split
  ·split
   ·exact To _ h.right
   rfl
  rfl
def vW{i:PIns}{e f:Env}(h:Agree i.reads e f):YY i e=YY i f:=by
 cases i with
 |mv x=>simp only[YY,YR h]
 |pick c a b=>
  have h1:=h.left.left;have h2:=h.left.right;have h3:=h.right;simp only[YY,YR h1,YR h2,YR h3]
 |build z ps=>
  have e1:WJ e ps=WJ f ps:=funext fun g=>Tg g h
  simp only[YY,Rs,e1,To _ h]
 |nilck x=>simp only[YY,YR h]
 |bin op x y=>simp only[YY,YR h.left,YR h.right]
 |eqa n k x y=>simp only[YY,YR h.left,YR h.right]
 |un op x=>simp only[YY,YR h]
 |conv k x=>simp only[YY,YR h]
 |mkfn g l=>simp only[YY,Kf h]
 |mkb g x=>simp only[YY,YR h]
 |mkif t x=>simp only[YY,YR h]
 |fa o z x=>simp only[YY,YR h]
 |fld a o n x=>simp only[YY,YR h]
 |ixa l z x y=>simp only[YY,YR h.left,YR h.right]
 |ixs z x y=>simp only[YY,YR h.left,YR h.right]
 |ix l z a x y=>simp only[YY,YR h.left,YR h.right]
 |ixstr x y=>simp only[YY,YR h.left,YR h.right]
 |slS x lo hi=>simp only[YY,YR h.left.left,UN h.left.right,UN h.right]
 |slV z x lo hi=>simp only[YY,YR h.left.left,UN h.left.right,UN h.right]
 |slA n z x lo hi=>simp only[YY,YR h.left.left,UN h.left.right,UN h.right]
 |ext x k=>simp only[YY,YR h]
 |len x=>simp only[YY,YR h]
 |lenS x=>simp only[YY,YR h]
 |mn l=>simp only[YY,Kf h]
 |mx l=>simp only[YY,Kf h]
def ji{ps:List (Nat×Nat×O)}{e f:Env}(b:Blk)(h:Agree (ps.flatMap fun p=>oT p.2.2) e f):Ws e b ps=Ws f b ps:=by
 cases b with
 |sc m n g=>simp only[Ws,Tg g h]
 |vs m l=>simp only[Ws,To l h]
 |mp m l=>rfl
 |dead=>rfl
 |sit s k=>rfl
 |lp k rd caps st=>rfl
def uA{run:Runner}{i:HIns}{e f:Env}(h:Agree i.reads e f)(σ:Heap):YK run i e σ=YK run i f σ:=by
 cases i with
 |alloc z=>rfl
 |box x=>simp only[YK,YR h]
 |mksl l z zz ps=>
  have h':Agree ((ps.map fun p=>(p.1*z,z,p.2)).flatMap fun p=>oT p.2.2) e f:=by
   intro t ht;refine h t ?_;rw[List.flatMap_map]at ht;exact ht
  simp only[YK,ji _ h']
 |load a n x=>simp only[YK,YR h]
 |store n a x=>simp only[YK,YR h.left,YR h.right]
 |call g l=>simp only[YK,YR h.left,Kf h.right]
 |callq g l=>simp only[YK,YR h.left,Kf h.right]
 |append z b s x=>simp only[YK,YR h.left,YR h.right]
 |b2s x=>simp only[YK,YR h]
 |mkmap=>rfl
 |mput m k v=>simp only[YK,YR h.left.left,YR h.left.right,YR h.right]
 |mget z ok m k=>simp only[YK,YR h.left,YR h.right]
 |alloct t l=>rfl
 |boxt t x=>simp only[YK,YR h]
 |appendb el b s x=>simp only[YK,YR h.left,YR h.right]
 |pnc x=>rfl
 |bad=>rfl
def rA{run:Runner}{i:Ins}{e f:Env}(σ:Heap)(h:Agree (match i with|.p p=>p.reads|.h h=>h.reads) e f):Xr run i e σ=Xr run i f σ:=by
 cases i with
 |p i=>simp only[Xr,vW h]
 |h i=>exact uA h σ
def Y8(run:Runner)(o:I)(e:Env)(σ:Heap):Option (V×Heap) :=
 match o.g with
 |none=>Xr run o.ins e σ
 |some (t,want)=>match e.getD t .undef with
  |.s (.bool b)=>bif b==want then Xr run o.ins e σ else some (.tup [],σ)
  |.tup []=>some (.tup [],σ)
  |_=>none
def Xs(run:Runner)(o:I)(e:Env)(σ:Heap):XO run o e σ=(Y8 run o e σ).map fun r=>(XK e o.dst r.1,r.2):=by
 obtain⟨dst,g,ins⟩:=o
 cases g with
 |none=>rfl
 |some p=>
  obtain⟨t,want⟩:=p;simp only[XO,Y8];generalize e.getD t .undef=v
  cases v with
  |s x=>
   cases x with
   |bool b=>
    simp only
    cases b==want <;> rfl
   |_=>rfl
  |tup l=>cases l <;> rfl
  |_=>rfl
def UR{run:Runner}{i:I}{e f:Env}(σ:Heap)(h:Agree i.reads e f):Y8 run i e σ=Y8 run i f σ:=by
 obtain⟨dst,g,ins⟩:=i;unfold I.reads at h;have h2:=rA (run:=run) (i:=ins) σ h.right
 cases g with
 |none=>exact h2
 |some p=>
  obtain⟨t,want⟩:=p;have h1:=h.left t (by simp);simp only[Y8,h1,h2]
def D9{run:Runner}{i:Ins}(hk:i.kd≠.eff){e:Env}{σ:Heap}{x:V}{σ':Heap}(h:Xr run i e σ=some (x,σ')):∃ new,σ'=σ++new:=by
 cases i with
 |p i=>
  simp only[Xr,ZbK]at h;obtain⟨y,_,h⟩:=h;injection h with h1 h2
  exact⟨[],by simp[h2]⟩
 |h i=>
  simp only[Xr]at h
  cases i with
  |alloc z=>simp only[YK,Zb4,Zcn]at h;exact⟨_,h.2.symm⟩
  |box y=>
   simp only[YK]at h;split at h
   ·injection h with h;injection h with h1 h2;exact⟨_,h2.symm⟩
   ·injection h with h;injection h with h1 h2;exact⟨_,h2.symm⟩
   simp at h
  |mksl l z zz ps=>
   simp only[YK,ZbK]at h;obtain⟨b,_,h⟩:=h;injection h with h1 h2
   exact⟨_,h2.symm⟩
  |load a n y=>
   simp only[YK]at h;split at h
   ·split at h
    ·simp only[ZbK]at h;obtain⟨b,_,h⟩:=h;injection h with h1 h2
     exact⟨[],by simp[h2]⟩
    simp at h
   simp at h
  |store n a y=>exact absurd rfl hk
  |call g l=>exact absurd rfl hk
  |callq g l=>
   simp only[YK,Y5,ZbI]at h;obtain⟨w,_,y,_,z,_,h⟩:=h;unfold Xn at h;dsimp only at h;revert h;generalize (nodup _&&nodup _&&Nat.ble _ _)=c;intro h
   cases c
   ·simp at h
   simp only[cond_true]at h;split at h
   ·injection h with h;injection h with h1 h2;exact⟨_,h2.symm⟩
   simp at h
  |append z b s y=>exact absurd rfl hk
  |b2s y=>
   simp only[YK]at h;split at h
   ·split at h
    ·split at h
     ·revert h;generalize Xp _ _=c;intro h
      cases c
      ·simp at h
      simp only[cond_true]at h;injection h with h;injection h with h1 h2;exact⟨[],by simp[h2]⟩
     simp at h
    simp at h
   ·injection h with h;injection h with h1 h2;exact⟨[],by simp[h2]⟩
   simp at h
  |mkmap=>simp only[YK,Zb4,Zcn]at h;exact⟨_,h.2.symm⟩
  |mput m k v=>exact absurd rfl hk
  |mget z ok m k=>
   simp only[YK]at h;split at h
   ·split at h
    ·revert h;generalize List.all _ _=c;intro h
     cases c
     ·simp at h
     simp only[cond_true]at h;split at h
     ·injection h with h;injection h with h1 h2;exact⟨[],by simp[h2]⟩
     injection h with h;injection h with h1 h2;exact⟨[],by simp[h2]⟩
    simp at h
   simp at h
  |alloct t l=>simp only[YK,Zb4,Zcn]at h;exact⟨_,h.2.symm⟩
  |boxt t x=>
   simp only[YK]at h;split at h
   ·injection h with h;injection h with h1 h2;exact⟨_,h2.symm⟩
   simp at h
  |appendb el b s x=>exact absurd rfl hk
  |pnc x=>exact absurd rfl hk
  |bad=>exact absurd rfl hk
def wc{σ σ':Heap}{b o n:Nat}{x:V}(h:wrV σ b o n x=some σ'):σ'.length=σ.length:=by
 unfold wrV at h;split at h
 ·split at h
  ·simp only[ZbK]at h;obtain⟨g,_,rfl⟩:=h;simp
  simp at h
 ·split at h
  ·simp only[ZbI]at h;obtain⟨g,_,h⟩:=h;split at h
   ·injection h with h;subst h;simp
   simp at h
  simp at h
 simp at h
def uH{run:Runner}{i:Ins}{e:Env}{σ:Heap}{x:V}{σ':Heap}(h:Xr run i e σ=some (x,σ')):σ.length<=σ'.length:=by
 by_cases hk:i.kd=.eff
 ·cases i with
  |p i=>simp[Ins.kd]at hk
  |h i=>
   simp only[Xr]at h
   cases i <;> simp[Ins.kd,HIns.kd]at hk
   ·rename_i n a y;simp only[YK]at h;split at h
    ·split at h
     ·simp only[ZbK]at h;obtain⟨s,hs,h⟩:=h;injection h with h1 h2
      subst h2;rw[wc hs];exact Zcs _
     simp at h
    simp at h
   ·simp only[YK,Y5,ZbI]at h;obtain⟨w,_,y,_,z,_,h⟩:=h;unfold Xn at h;dsimp only at h;revert h;generalize (nodup _&&nodup _&&Nat.ble _ _)=c;intro h
    cases c
    ·simp at h
    simp only[cond_true]at h;split at h
    ·simp only[cond_false]at h;split at h
     ·injection h with h;injection h with h1 h2;subst h2;simp[UZ]
     simp at h
    simp at h
   ·simp only[YK,WL]at h;split at h
    ·simp at h
    split at h
    ·split at h
     ·injection h with h;injection h with h1 h2;subst h2;exact Zcs _
     revert h;generalize XC _ _=c;intro h
     cases c
     ·simp at h
     simp only[cond_true,ZbK]at h;obtain⟨b,_,h⟩:=h;injection h with h1 h2
     subst h2;simp
    ·split at h
     ·split at h
      ·split at h
       ·simp only[ZbK]at h;obtain⟨b,hb,h⟩:=h;injection h with h1 h2
        subst h2;rw[wc hb];exact Zcs _
       simp only[ZbK]at h;obtain⟨b,hb,h⟩:=h;injection h with h1 h2
       subst h2;rw[wc hb];exact Zcs _
      revert h;generalize XC _ _=c;intro h
      cases c
      ·simp at h
      simp only[cond_true]at h;split at h
      ·simp only[ZbK]at h;obtain⟨b,_,h⟩:=h;injection h with h1 h2
       subst h2;simp
      simp at h
     simp at h
    ·split at h
     ·revert h;generalize XC _ _=c;intro h
      cases c
      ·simp at h
      simp only[cond_true]at h;split at h
      ·simp only[ZbK]at h;obtain⟨b,_,h⟩:=h;injection h with h1 h2
       subst h2;simp[wf]
      ·simp only[ZbK]at h;obtain⟨b,_,h⟩:=h;injection h with h1 h2
       subst h2;simp[wf]
      ·simp only[ZbK]at h;obtain⟨b,_,h⟩:=h;injection h with h1 h2
       subst h2;simp[wf]
      simp at h
     simp at h
    simp at h
   ·simp only[YK]at h;split at h
    ·split at h
     ·split at h
      ·revert h;generalize (List.all _ _&&_)=c;intro h
       cases c
       ·simp at h
       simp only[cond_true]at h;injection h with h;injection h with h1 h2;subst h2;simp
      simp at h
     simp at h
    simp at h
   ·simp only[YK,Q4]at h;split at h
    ·split at h
     ·split at h
      ·injection h with h;injection h with h1 h2;subst h2;exact Zcs _
      revert h;generalize XC _ _=c;intro h
      cases c
      ·simp at h
      simp only[cond_true]at h;injection h with h;injection h with h1 h2;subst h2;simp
     ·split at h
      ·split at h
       ·revert h;generalize XC _ _=c;intro h
        cases c
        ·simp at h
        simp only[cond_true]at h;injection h with h;injection h with h1 h2;subst h2;simp[wf]
       simp at h
      ·revert h;generalize XC _ _=c;intro h
       cases c
       ·simp at h
       simp only[cond_true]at h;injection h with h;injection h with h1 h2;subst h2;simp[wf]
      simp at h
     simp at h
    simp at h
   ·simp[YK]at h
   simp[YK]at h
 obtain⟨new,rfl⟩:=D9 hk h;simp
def pR{run:Runner}{o:I}{e:Env}{σ:Heap}{x:V}{σ':Heap}(h:Y8 run o e σ=some (x,σ')):σ.length<=σ'.length:=by
 unfold Y8 at h;split at h
 ·exact uH h
 split at h
 ·rename_i t want _ _ b _
  cases hb:b==want
  ·rw[hb]at h;simp only[cond_false]at h;injection h with h;injection h with h1 h2;subst h2;exact Zcs _
  rw[hb]at h;exact uH h
 ·injection h with h;injection h with h1 h2;subst h2;exact Zcs _
 simp at h
def w6{run:Runner}{o:I}(hk:o.ins.kd≠.eff){e:Env}{σ:Heap}{x:V}{σ':Heap}(h:Y8 run o e σ=some (x,σ')):∃ new,σ'=σ++new:=by
 unfold Y8 at h;split at h
 ·exact D9 hk h
 split at h
 ·rename_i t want _ _ b _
  cases hb:b==want
  ·rw[hb]at h;simp only[cond_false]at h;injection h with h;injection h with h1 h2;exact⟨[],by simp[h2]⟩
  rw[hb]at h;exact D9 hk h
 ·injection h with h;injection h with h1 h2;exact⟨[],by simp[h2]⟩
 simp at h
def xU{run:Runner}{o:I}(hk:o.ins.kd=.pure){e:Env}{σ:Heap}{x:V}{σ':Heap}(h:Y8 run o e σ=some (x,σ')):σ'=σ/\∀ τ,Y8 run o e τ=some (x,τ):=by
 have main:∀ σ x σ',Xr run o.ins e σ=some (x,σ')->σ'=σ/\∀ τ,Xr run o.ins e τ=some (x,τ):=by
  intro σ x σ' h
  cases hi:o.ins with
  |p i=>
   rw[hi]at h;simp only[Xr,ZbK]at h;obtain⟨y,hy,h⟩:=h;injection h with h1 h2
   subst h1;exact⟨h2.symm,fun τ=>by simp[Xr,hy]⟩
  |h i=>
   rw[hi]at hk;simp only[Ins.kd]at hk
   cases i <;> simp[HIns.kd]at hk
 unfold Y8 at h ⊢;split at h
 ·rename_i hg;obtain⟨h1,h2⟩:=main _ _ _ h;exact⟨h1,fun τ=>by simp only[h2 τ]⟩
 rename_i t want hg;split at h
 ·rename_i b hb
  cases hbw:b==want
  ·rw[hbw]at h;simp only[cond_false]at h;injection h with h;injection h with h1 h2
   subst h1;subst h2;exact⟨rfl,fun τ=>by simp only[cond_false]⟩
  rw[hbw]at h;simp only[cond_true]at h;obtain⟨h1,h2⟩:=main _ _ _ h;exact⟨h1,fun τ=>by simp only[cond_true,h2 τ]⟩
 ·injection h with h;injection h with h1 h2
  subst h1;subst h2;exact⟨rfl,fun τ=>rfl⟩
 simp at h
end Go.Am
namespace Go.Am
open Go
structure Tr(run:Runner)(is:List I)(e0:Env)(σ0:Heap)(tr:Nat->Env×Heap):Prop where
 zero:tr 0=(e0,σ0)
 step:∀ (k:Nat) i,is[k]? = some i->∃ x,Y8 run i (tr k).1 (tr k).2=some (x,(tr (k+1)).2)/\(tr (k+1)).1=XK (tr k).1 i.dst x
def trace{run:Runner}:∀ {is:List I} {e0 e':Env} {σ0 σ':Heap},Vc run is e0 σ0=some (e',σ')->∃ tr,Tr run is e0 σ0 tr/\tr is.length=(e',σ')
 |[],e0,e',σ0,σ',h=>by
  simp only[Vc,Zb4]at h;exact⟨fun _=>(e0,σ0),⟨rfl,fun k i hi=>by simp at hi⟩,h⟩
 |i::is,e0,e',σ0,σ',h=>by
  simp only[Vc,ZbI]at h;obtain⟨⟨e1,σ1⟩,h1,h2⟩:=h;obtain⟨tr,ht,hl⟩:=trace h2;rw[Xs]at h1;simp only[ZbK]at h1;obtain⟨⟨x,σx⟩,hx,h1⟩:=h1;injection h1 with h3 h4
  refine⟨fun k=>match k with|0=>(e0,σ0)|k+1=>tr k,⟨rfl,fun k j hj=>?_⟩,hl⟩
  cases k with
  |zero=>
   simp at hj;subst hj;refine⟨x,?_,?_⟩
   ·show Y8 run i e0 σ0=some (x,(tr 0).2);rw[ht.zero];simp only at h4;rw[hx,h4]
   show(tr 0).1=XK e0 i.dst x;rw[ht.zero,h3]
  |succ k=>
   simp at hj;exact ht.step k j hj
def TT(e:Env)(d:Option Nat)(x:V):(XK e d x).length=e.length:=by cases d <;> simp[XK]
def Ku{e:Env}{d:Option Nat}{x:V}{t:Nat}(h:d≠some t):(XK e d x).getD t .undef=e.getD t .undef:=by
 cases d with
 |none=>rfl
 |some d=>
  have hne:d≠t:=fun q=>h (by rw[q])
  simp only[XK,ZbD,ZbX hne]
def qC{e f:Env}{d:Nat}{x:V}(h:e.length=f.length):(XK e (some d) x).getD d .undef=(XK f (some d) x).getD d .undef:=by
 simp only[XK,ZbD,List.getElem?_set_self'];by_cases hd:d<e.length
 ·rw[ZbH hd,ZbH (by omega)];rfl
 rw[ZbQ (by omega),ZbQ (by omega)]
section
variable{run:Runner}{is:List I}{e0:Env}{σ0:Heap}{tr:Nat->Env×Heap}
def Tr.elen(h:Tr run is e0 σ0 tr):∀ k,k<=is.length->(tr k).1.length=e0.length
 |0,_=>by rw[h.zero]
 |k+1,hk=>by
  obtain⟨x,_,hx⟩:=h.step k _ (ZbH (by omega));rw[hx,TT];exact h.elen k (by omega)
def Tr.hlen(h:Tr run is e0 σ0 tr){k:Nat}:∀ j,k+j<=is.length->(tr k).2.length<=(tr (k+j)).2.length
 |0,_=>Zcs _
 |j+1,hj=>by
  obtain⟨x,hx,_⟩:=h.step (k+j) _ (ZbH (by omega));exact Zcq (h.hlen j (by omega)) (pR hx)
def Tr.hle(h:Tr run is e0 σ0 tr){k k':Nat}(hk:k<=k')(hk':k'<=is.length):(tr k).2.length<=(tr k').2.length:=by
 have:=h.hlen (k:=k) (k'-k) (by omega);rwa [show k+(k'-k)=k' by omega]at this
def Tr.hext(h:Tr run is e0 σ0 tr){k:Nat}:∀ j,k+j<=is.length->(∀ i I,is[i]? = some I->k<=i->i<k+j->I.ins.kd≠.eff)->∃ new,(tr (k+j)).2=(tr k).2++new
 |0,_,_=>⟨[],by simp⟩
 |j+1,hj,hq=>by
  obtain⟨new,hnew⟩:=h.hext j (by omega) (fun i I hi h1 h2=>hq i I hi h1 (by omega));have hI:=ZbH (show k+j<is.length by omega);obtain⟨x,hx,_⟩:=h.step (k+j) _ hI;obtain⟨more,hmore⟩:=w6 (hq (k+j) _ hI (by omega) (by omega)) hx;exact⟨new++more,by rw[<-Nat.add_assoc,hmore,hnew,Zb5]⟩
def Tr.same(h:Tr run is e0 σ0 tr){k t:Nat}:∀ j,k+j<=is.length->(∀ i I,is[i]? = some I->k<=i->i<k+j->I.dst≠some t)->(tr (k+j)).1.getD t .undef=(tr k).1.getD t .undef
 |0,_,_=>rfl
 |j+1,hj,hq=>by
  have hI:=ZbH (show k+j<is.length by omega);obtain⟨x,_,hx⟩:=h.step (k+j) _ hI;rw[<-Nat.add_assoc,hx,Ku (hq (k+j) _ hI (by omega) (by omega))];exact h.same j (by omega) (fun i I hi h1 h2=>hq i I hi h1 (by omega))
end
def zP{m:List Nat}{i:Nat}{x:I}:∀ {r:List I} {k:Nat},xf m i x (r.zipIdx k)=true->∀ (j:Nat) y,r[j]? = some y->((m.getD (k+j) 0).testBit i=true\/(Wx x y=true/\QA x y=true))/\¬ (x.dst.isSome=true/\x.dst=y.dst)
 |[],k,_,j,y,hj=>by simp at hj
 |z::r,k,h,j,y,hj=>by
  rw[List.zipIdx_cons]at h;simp only[xf,Zca,Bool.or_eq_true,Zb6,ZbO]at h
  cases j with
  |zero=>
   simp at hj;subst hj;refine⟨h.1.1,fun⟨h1,h2⟩=>?_⟩;rcases h.1.2 with h3|h3
   ·rw[h1]at h3;simp at h3
   rw[h2]at h3;simp at h3
  |succ j=>
   simp at hj;have:=zP h.2 j y hj;rwa [show k+1+j=k+(j+1) by omega]at this
def Tk{m:List Nat}:∀ {r:List I} {k:Nat},TB m (r.zipIdx k)=true->∀ (i j:Nat) x y,i<j->r[i]? = some x->r[j]? = some y->((m.getD (k+j) 0).testBit (k+i)=true\/(Wx x y=true/\QA x y=true))/\¬ (x.dst.isSome=true/\x.dst=y.dst)
 |[],k,_,i,j,x,y,_,hi,_=>by simp at hi
 |z::r,k,h,i,j,x,y,hij,hi,hj=>by
  rw[List.zipIdx_cons]at h;simp only[TB,Zca]at h;obtain⟨j,rfl⟩:∃ j',j=j'+1:=⟨j-1,by omega⟩
  simp at hj
  cases i with
  |zero=>
   simp at hi;subst hi;have:=zP h.1 j y hj;rwa [show k+1+j=k+(j+1) by omega]at this
  |succ i=>
   simp at hi;have:=Tk h.2 i j x y (by omega) hi hj;rwa [show k+1+j=k+(j+1) by omega,show k+1+i=k+(i+1) by omega]at this
def x5{acc:List Nat}{i:Nat}:∀ {es:List Edge},(bm acc es).testBit i=true→∃ e∈es,Region.binds .any e=true∧(i=e.on∨(acc.getD e.on 0).testBit i=true)
 |[],h=>by simp[bm]at h
 |e::r,h=>by
  unfold bm at h;split at h
  ·rename_i hb;simp only[Nat.testBit_or,Bool.or_eq_true,Nat.testBit_two_pow,Zb7]at h;rcases h with(h|h)|h
   ·exact⟨e,by simp,hb,.inl h.symm⟩
   ·exact⟨e,by simp,hb,.inr h⟩
   obtain⟨e',h1,h2⟩:=x5 h;exact⟨e',by simp[h1],h2⟩
  obtain⟨e',h1,h2⟩:=x5 h;exact⟨e',by simp[h1],h2⟩
def Tf:∀ {L:List Oper} {acc:List Nat},(∀ i,i<acc.length->(Wt L acc).getD i 0=acc.getD i 0) /\
  ∀ (j:Nat) o,L[j]? = some o->∃ acc',(Wt L acc).getD (acc.length+j) 0=bm acc' o.after.toList/\∀ i,i<acc.length+j->acc'.getD i 0=(Wt L acc).getD i 0
 |[],acc=>⟨fun i _=>rfl,fun j o h=>by simp at h⟩
 |o::L,acc=>by
  have ih:=Tf (L:=L) (acc:=acc++[bm acc o.after.toList]);have hlen:(acc++[bm acc o.after.toList]).length=acc.length+1:=by simp
  have h1:∀ i,i<acc.length->(Wt (o::L) acc).getD i 0=acc.getD i 0:=by
   intro i hi;show(Wt L (acc++[bm acc o.after.toList])).getD i 0=_;rw[ih.1 i (by omega)];simp only[ZbD,ZbF hi]
  refine⟨h1,fun j o' hj=>?_⟩
  cases j with
  |zero=>
   simp at hj;subst hj;refine⟨acc,?_,fun i hi=>(h1 i (by omega)).symm⟩;show(Wt L (acc++[bm acc o.after.toList])).getD acc.length 0=_;rw[ih.1 acc.length (by omega)];simp
  |succ j=>
   simp at hj;obtain⟨acc',h2,h3⟩:=ih.2 j o' hj;rw[hlen]at h2 h3;exact⟨acc',by rw[show acc.length+(j+1)=acc.length+1+j by omega];exact h2,fun i hi=>h3 i (by omega)⟩
def Un:∀ {L:List Oper} {k:Nat},UQ (L.zipIdx k)=true→∀ (j:Nat) o,L[j]? = some o→∀ e∈o.after.toList,Region.binds .any e=true→e.on<k+j
 |[],k,_,j,o,h=>by simp at h
 |z::L,k,h,j,o,hj=>by
  rw[List.zipIdx_cons]at h;simp only[UQ,Zca,Zcc,Bool.or_eq_true,Zb6,Zb7]at h
  cases j with
  |zero=>
   simp at hj;subst hj;intro e he hb;rcases h.1 e he with h1|h1
   ·rw[hb]at h1;simp at h1
   omega
  |succ j=>
   simp at hj;intro e he hb;have:=Un h.2 j o hj e he hb;omega
def E6(L:List Oper)(lst:Nat→Bool):Prop:=∀ (j:Nat) o,L[j]? = some o→lst j=true→∀ e∈o.after.toList,Region.binds .any e=true→lst e.on=true
def K5{L:List Oper}(hedge:UQ (L.zipIdx 0)=true){lst:Nat→Bool}(hc:E6 L lst):∀ (n j:Nat) o,j≤n→L[j]? = some o→(∀ e∈o.after.toList,Region.binds .any e=true→lst e.on=true) →
  ∀ i,((Wt L []).getD j 0).testBit i=true->lst i=true:=by
 intro n
 induction n with
 |zero=>
  intro j o hj ho hr i hi
  obtain⟨acc',h1,h2⟩:=(Tf (L:=L) (acc:=[])).2 j o ho
  simp only[List.length_nil,Zcp]at h1
  rw[h1]at hi
  obtain⟨e,he,hb,hor⟩:=x5 hi
  have:=Un hedge j o ho e he hb
  omega
 |succ n ih=>
  intro j o hj ho hr i hi
  obtain⟨acc',h1,h2⟩:=(Tf (L:=L) (acc:=[])).2 j o ho
  simp only[List.length_nil,Zcp]at h1 h2
  rw[h1]at hi
  obtain⟨e,he,hb,hor⟩:=x5 hi
  have hlt:=Un hedge j o ho e he hb
  have hl:=hr e he hb
  rcases hor with rfl|hor
  ·exact hl
  rw[h2 e.on (by omega)]at hor
  have hjl:j<L.length:=by
   rcases Zcr j L.length with q|q
   ·exact q
   rw[ZbQ q]at ho;simp at ho
  have hoe:=ZbH (show e.on<L.length by omega)
  exact ih e.on _ (by omega) hoe (fun e' he' hb'=>hc e.on _ hoe hl e' he' hb') i hor
def RM{P:Program}{ops:List Oper}{m:List Nat}:∀ {L:List Oper} {k:Nat} {is:List I},KZ P ops m (L.zipIdx k)=some is->is.length=L.length/\∀ (j:Nat) o,L[j]? = some o->∃ q i,is[j]? = some i/\Qj P ops q o=some i
 |[],k,is,h=>by simp[KZ]at h;subst h;simp
 |z::L,k,is,h=>by
  rw[List.zipIdx_cons]at h;simp only[KZ]at h;split at h
  ·rename_i i r h1 h2;injection h with h
   subst h;obtain⟨e1,e2⟩:=RM h2;refine⟨by simp[e1],fun j o hj=>?_⟩
   cases j with
   |zero=>simp at hj;subst hj;exact⟨_,i,rfl,h1⟩
   |succ j=>simp at hj;simpa using e2 j o hj
  simp at h
def oZ{P:Program}{q:Bool}{op:Op}{i:HIns}(h:Xw P q op=some i)(hk:i.kd=.eff):Xw P false op=some i:=by
 cases op with
 |call c=>
  simp only[Xw]at h ⊢;split at h
  ·split at h
   ·injection h with h
    subst h
    cases q
    ·simp_all
    simp[HIns.kd]at hk
   simp at h
  ·exact h
  simp at h
 |makeMap t r=>cases r <;> exact h
 |next x b=>cases b <;> exact h
 |_=>exact h
def rB{P:Program}{q:Bool}{op:Op}(h:Xw P q op=none):Xw P false op=none:=by
 cases op with
 |call c=>
  simp only[Xw]at h ⊢;split at h
  ·split at h
   ·simp at h
   rfl
  ·exact h
  rfl
 |makeMap t r=>cases r <;> exact h
 |next x b=>cases b <;> exact h
 |_=>exact h
def uy{P:Program}{q:Bool}{op:Op}{i:Ins}(h:VP P q op=i)(hk:i.kd=.eff):VP P false op=i:=by
 unfold VP at h ⊢;split at h
 ·subst h;simp[Ins.kd]at hk
 split at h
 ·rename_i j hj;subst h;rw[oZ hj hk]
 rename_i hj;rw[rB hj];exact h
def xA[Bas]{P:Program}{run:Runner}(hrun:WD P run){ops:Array Oper}{o:Oper}{q:Bool}{i:I}(hc:Qj P ops.toList q o=some i)(hk:i.ins.kd≠.eff){ι:Inj}{σ:Heap}{W:World}{e:Env}{a:Act}{x:V}{σ':Heap}
  (hE:EnvR ι e a.tmps) (hR:RelW ι σ W) (hv:Y8 run i e σ=some (x,σ')) (hnone:∀ b,σ.length<=b->b<σ'.length->ι b=none) {K:Act->World->Prop} {Q:Exit->Act->World->Prop}
  (hK:∀ v W' ι',VR ι' x v->QPost ι σ W ι' σ' W'->K (a.put o.dst v) W'):(if Region.wanted o (yielded ops a.tmps) then o.wp P a W K Q else K (a.put o.dst Go.undef) W):=by
 obtain⟨hd,hg,hi⟩:=Ud hc
 have hw:=QI hE hg
 unfold Y8 at hv
 split at hv
 ·rename_i hgn;rw[ZcA (hw.1 hgn)];exact qg hrun hi hk hE hR hv hnone hK
 rename_i t want hgs;split at hv
 ·rename_i b hb;rw[hw.2 t want hgs b hb]
  cases hbw:b==want
  ·rw[hbw]at hv;simp only[cond_false,Zb4,Zcn]at hv;obtain⟨rfl,rfl⟩:=hv;simp only[Zb1,if_false];exact hK _ W ι (JR ι) (QPost.refl hR)
  rw[hbw]at hv;simp only[cond_true]at hv;simp only[if_true];exact qg hrun hi hk hE hR hv hnone hK
 ·rename_i hb;rw[EQ hE hg hgs hb];simp only[Zb4,Zcn]at hv;obtain⟨rfl,rfl⟩:=hv;simp only[Zb1,if_false];exact hK _ W ι (JR ι) (QPost.refl hR)
 simp at hv
def step_e[Bas]{P:Program}{run:Runner}(hrun:WD P run){ops:Array Oper}{o:Oper}{q:Bool}{i:I}(hc:Qj P ops.toList q o=some i)(hk:i.ins.kd=.eff){ι:Inj}{σ:Heap}{W:World}{e:Env}{a:Act}{x:V}{σ':Heap}
  (hE:EnvR ι e a.tmps) (hR:RelW ι σ W) (hD:Dom ι σ) (hv:Y8 run i e σ=some (x,σ')) {K:Act->World->Prop} {Q:Exit->Act->World->Prop}
  (hK:∀ v W' ι',VR ι' x v->Post ι σ W ι' σ' W'->K (a.put o.dst v) W'):(if Region.wanted o (yielded ops a.tmps) then o.wp P a W K Q else K (a.put o.dst Go.undef) W):=by
 obtain⟨hd,hg,hi⟩:=Ud hc
 have hi':=uy hi hk
 have hw:=QI hE hg
 unfold Y8 at hv
 split at hv
 ·rename_i hgn;rw[ZcA (hw.1 hgn)];exact wn hrun hi' hE hR hD hv hK
 rename_i t want hgs;split at hv
 ·rename_i b hb;rw[hw.2 t want hgs b hb]
  cases hbw:b==want
  ·rw[hbw]at hv;simp only[cond_false,Zb4,Zcn]at hv;obtain⟨rfl,rfl⟩:=hv;simp only[Zb1,if_false];exact hK _ W ι (JR ι) (QPost.refl hR).post
  rw[hbw]at hv;simp only[cond_true]at hv;simp only[if_true];exact wn hrun hi' hE hR hD hv hK
 ·rename_i hb;rw[EQ hE hg hgs hb];simp only[Zb4,Zcn]at hv;obtain⟨rfl,rfl⟩:=hv;simp only[Zb1,if_false];exact hK _ W ι (JR ι) (QPost.refl hR).post
 simp at hv
end Go.Am
namespace Go.Am
open Go
def RelW.front[Bas]{ι:Inj}{σ:Heap}{W:World}{more:List Blk}(h:RelW ι (σ++more) W):RelW ι σ W:=by
 have hl:∀ (b:Nat) (x:Blk),σ[b]? = some x->(σ++more)[b]? = some x:=fun b x hx=>by
  have hlt:b<σ.length:=by
   rcases Zcr b σ.length with q|q
   ·exact q
   rw[ZbQ q]at hx;simp at hx
  rw[ZbF hlt];exact hx
 exact⟨h.lt,fun b p x hp hx=>h.blk b p x hp (hl b x hx),fun b b' p p' hp hp' hne ⟨x,hx,hm⟩ ⟨y,hy,hl'⟩=>h.sep b b' p p' hp hp' hne ⟨x,hl b x hx,hm⟩ ⟨y,hl b' y hy,hl'⟩,fun b p hp ⟨x,hx,hm⟩=>h.gap b p hp ⟨x,hl b x hx,hm⟩,h.bsz,h.bas⟩
def RelW.behind[Bas]{ι:Inj}{σ:Heap}{W:World}{more:List Blk}(h:RelW ι σ W)(hD:Dom ι σ):RelW ι (σ++more) W:=by
 refine⟨h.lt,fun b p x hp hx=>?_,fun b b' p p' hp hp' hne ⟨x,hx,hm⟩ ⟨y,hy,hl'⟩=>?_,fun b p hp ⟨x,hx,hm⟩=>h.gap b p hp ⟨x,by rw[ZbF (hD b p hp)]at hx;exact hx,hm⟩,h.bsz,h.bas⟩
 ·rw[ZbF (hD b p hp)]at hx;exact h.blk b p x hp hx
 rw[ZbF (hD b p hp)]at hx;rw[ZbF (hD b' p' hp')]at hy;exact h.sep b b' p p' hp hp' hne ⟨x,hx,hm⟩ ⟨y,hy,hl'⟩
def QPost.later[Bas]{ι ι':Inj}{σ σ':Heap}{W W':World}{more:List Blk}(hR:RelW ι (σ'++more) W)(h:QPost ι σ W ι' σ' W'):RelW ι' (σ'++more) W':=by
 have hold:∀ b p,ι' b=some p->ι b=some p\/(ι b=none/\b<σ'.length/\W.heap.size<=p.c):=by
  intro b p hp
  cases hn:ι b with
  |none=>have:=h.fresh b p hp hn;exact .inr ⟨rfl,this.1.2,this.2⟩
  |some q=>have:=h.ext b q hn;rw[hp]at this;injection this with this;subst this;exact .inl rfl
 have hlow:∀ (b:Nat) (x:Blk),b<σ'.length->(σ'++more)[b]? = some x->σ'[b]? = some x:=fun b x hb hx=>by rw[ZbF hb]at hx;exact hx
 refine⟨h.rel.lt,fun b p x hp hx=>?_,fun b b' p p' hp hp' hne h1 h2=>?_,fun b p hp hm=>?_,h.rel.bsz,h.rel.bas⟩
 case refine_3=>
  rcases hold b p hp with ho|⟨_,hb,hc⟩
  ·exact hR.gap b p ho hm
  exact Zcq hR.bsz hc
 ·rcases hold b p hp with ho|⟨_,hb,_⟩
  ·exact(hR.blk b p x ho hx).keep h.ext (h.frame _ (hR.lt b p ho))
  exact h.rel.blk b p x hp (hlow b x hb hx)
 rcases hold b p hp with ho|⟨_,hb,hc⟩ <;> rcases hold b' p' hp' with ho'|⟨_,hb',hc'⟩
 ·exact hR.sep b b' p p' ho ho' hne h1 h2
 ·have:=hR.lt b p ho;omega
 ·have:=hR.lt b' p' ho';omega
 obtain⟨x,hx,hm⟩:=h1;obtain⟨y,hy,hl⟩:=h2;exact h.rel.sep b b' p p' hp hp' hne ⟨x,hlow b x hb hx,hm⟩ ⟨y,hlow b' y hb' hy,hl⟩
def unl(lst:Nat->Bool):Nat->Nat
 |0=>0
 |n+1=>unl lst n+if lst n then 0 else 1
def Ef{lst:Nat->Bool}:∀ {n:Nat},unl lst n=0->∀ i,i<n->lst i=true
 |0,_,i,hi=>by omega
 |n+1,h,i,hi=>by
  simp only[unl]at h;by_cases e:i=n
  ·subst e
   cases hl:lst i
   ·rw[hl]at h;simp at h
   rfl
  exact Ef (n:=n) (by omega) i (by omega)
def zH{lst lst':Nat->Bool}{i:Nat}(h:lst i=false)(h':lst' i=true)(ho:∀ j,j≠i->lst' j=lst j):∀ {n:Nat},(n<=i->unl lst' n=unl lst n)/\(i<n->unl lst' n+1=unl lst n)
 |0=>⟨fun _=>rfl,fun h=>by omega⟩
 |n+1=>by
  have ih:=zH h h' ho (n:=n);simp only[unl];refine⟨fun hn=>?_,fun hn=>?_⟩
  ·rw[ih.1 (by omega),ho n (by omega)]
  by_cases e:n=i
  ·subst e;rw[ih.1 (Zcs _),h,h'];simp
  rw[ho n e,<-ih.2 (by omega)];omega
structure Inv[Bas](is:List I)(L:List Oper)(e0:Env)(σ0:Heap)(ι0:Inj)(W0:World)(d0:List Deferred)(tr:Nat->Env×Heap)(lst:Nat->Bool)(a:Act)(W:World)(ι:Inj)(k:Nat)(es:Env):Prop where
 closed:E6 L lst
 env:EnvR ι es a.tmps
 elen:es.length=e0.length
 w1:∀ (i:Nat) I d,is[i]? = some I->lst i=true->I.dst=some d->es.getD d .undef=(tr (i+1)).1.getD d .undef
 w2:∀ t,(∀ (i:Nat) I,is[i]? = some I->lst i=true->I.dst≠some t)->es.getD t .undef=e0.getD t .undef
 kle:k<=is.length
 f1:∀ (i:Nat) I,is[i]? = some I->i<k->I.ins.kd=.eff->lst i=true
 f2:k<is.length->∃ I,is[k]? = some I/\I.ins.kd=.eff/\lst k=false
 rel:RelW ι (tr k).2 W
 dom:∀ b p,ι b=some p->b<σ0.length\/∃ i,i<is.length/\lst i=true/\(tr i).2.length<=b/\b<(tr (i+1)).2.length
 same:Same W0 W
 ext:Ext ι0 ι
 frame:∀ c,c<W0.heap.size->(∀ b p,ι0 b=some p->mutb σ0 b->p.c≠c)->W.heap[c]? = W0.heap[c]?
 fresh:∀ b p,ι b=some p->ι0 b=none->σ0.length<=b/\(W0.heap.size<=p.c\/∃ b0 p0,ι0 b0=some p0/\mutb σ0 b0/\p0.c=p.c)
 mono:∀ b,b<σ0.length->mutb (tr k).2 b->mutb σ0 b
 lives:∀ b,b<σ0.length->X9 (tr k).2 b->X9 σ0 b
 defers:a.defers=d0
def Uo{x y:I}(h:Wx x y=true):(∀ d,x.dst=some d->d ∉ y.reads/\y.dst≠some d)/\(∀ d,y.dst=some d->d ∉ x.reads):=by
 unfold Wx at h;simp only[Zca]at h;refine⟨fun d hd=>?_,fun d hd=>?_⟩
 ·have h1:=h.1;rw[hd]at h1;simp at h1;exact⟨h1.1,h1.2⟩
 have h2:=h.2;rw[hd]at h2;simpa using h2
section
variable{P:Program}{run:Runner}{ops:Array Oper}{is:List I}{e0:Env}{σ0:Heap}{ι0:Inj}{W0:World}{d0:List Deferred}{tr:Nat->Env×Heap}
def yz(is:List I)(lst:Nat->Bool):∀ (n k:Nat),k+n=is.length->∃ k',k<=k'/\k'<=is.length/\(∀ (i:Nat) I,is[i]? = some I->k<=i->i<k'->I.ins.kd=.eff->lst i=true)/\(k'<is.length->∃ I,is[k']? = some I/\I.ins.kd=.eff/\lst k'=false)
 |0,k,h=>⟨k,Zcs _,by omega,fun i I _ h1 h2=>by omega,fun h1=>by omega⟩
 |n+1,k,h=>by
  have hk:=ZbH (show k<is.length by omega);by_cases hq:(is[k]'(by omega)).ins.kd=.eff/\lst k=false
  ·exact⟨k,Zcs _,by omega,fun i I _ h1 h2=>by omega,fun _=>⟨_,hk,hq⟩⟩
  obtain⟨k',h1,h2,h3,h4⟩:=yz is lst n (k+1) (by omega);refine⟨k',by omega,h2,fun i I hi g1 g2 g3=>?_,h4⟩;by_cases e:i=k
  ·subst e;rw[hk]at hi;injection hi with hi
   subst hi
   cases hl:lst i
   ·exact absurd ⟨g3,hl⟩ hq
   rfl
  exact h3 i I hi (by omega) g2 g3
set_option maxHeartbeats 2000000 in
def ZaA[Bas](hrun:WD P run)(hedge:UQ (ops.toList.zipIdx 0)=true)(hpar:TB (Wt ops.toList []) (is.zipIdx 0)=true)(hcl:is.length=ops.toList.length)(hcomp:∀ (j:Nat) o,ops.toList[j]? = some o->∃ q i,is[j]? = some i/\Qj P ops.toList q o=some i)
   (hD0:Dom ι0 σ0) (ht:Tr run is e0 σ0 tr) {lst lst':Nat->Bool} {a:Act} {W:World} {ι:Inj} {k:Nat} {es:Env} (hI:Inv is ops.toList e0 σ0 ι0 W0 d0 tr lst a W ι k es)
   {i:Nat} {o:Oper} (hio:ops[i]? = some o) (hil:lst i=false) (hready:∀ e∈o.after.toList,Region.binds .any e=true→lst e.on=true) (hlst:lst' i=true) (hlst':∀ j,j≠i→lst' j=lst j)
   {K:Act->World->Prop} {Q:Exit->Act->World->Prop} (hK:∀ a' W' ι' k' es',Inv is ops.toList e0 σ0 ι0 W0 d0 tr lst' a' W' ι' k' es'->K a' W') :
   (if Region.wanted o (yielded ops a.tmps) then o.wp P a W K Q else K (a.put o.dst Go.undef) W):=by
 have hio':ops.toList[i]? = some o:=by simpa using hio
 obtain⟨q,X,hX,hcI⟩:=hcomp i o hio'
 have hin:i<is.length:=by
   rcases Zcr i is.length with h|h
   · exact h
   rw[ZbQ h]at hX;simp at hX
 have hXd:=(Ud hcI).1
 obtain⟨x,hx,hxe⟩:=ht.step i X hX
 have hmask:∀ j,((Wt ops.toList []).getD i 0).testBit j=true->lst j=true:=K5 hedge hI.closed i i o (Zcs _) hio' hready
 have hmaskl:∀ (j:Nat),lst j=true->j<is.length->∀ j',((Wt ops.toList []).getD j 0).testBit j'=true->lst j'=true:=by
   intro j hj hjl j' hb;have hoj:=ZbH (show j<ops.toList.length by omega);exact K5 hedge hI.closed j j _ (Zcs _) hoj (hI.closed j _ hoj hj) j' hb
 have hpair:∀ (i j:Nat) x y,i<j->is[i]? = some x->is[j]? = some y->(((Wt ops.toList []).getD j 0).testBit i=true\/(Wx x y=true/\QA x y=true))/\¬ (x.dst.isSome=true/\x.dst=y.dst):=by
   intro i j x y hij hi hj;have:=Tk hpar i j x y hij hi hj;simpa only[Zcp] using this
 have huniq:∀ (j j':Nat) Y Y' d,is[j]? = some Y->is[j']? = some Y'->Y.dst=some d->Y'.dst=some d->j=j':=by
   intro j j' Y Y' d h1 h2 h3 h4;rcases Nat.lt_trichotomy j j' with h|h|h
   · exact absurd ⟨by rw[h3];rfl,by rw[h3,h4]⟩ (hpair j j' Y Y' h h1 h2).2
   · exact h
   exact absurd ⟨by rw[h4];rfl,by rw[h3,h4]⟩ (hpair j' j Y' Y h h2 h1).2
 have hagree:Agree X.reads (tr i).1 es:=by
   intro t htr;by_cases hex:∃ (j:Nat) (Y:I),is[j]? = some Y/\lst j=true/\Y.dst=some t
   · obtain⟨j,Y,hj,hjl,hjd⟩ := hex;rw[hI.w1 j Y t hj hjl hjd];have hjn:j<is.length:=by
      rcases Zcr j is.length with h|h
      ·exact h
      rw[ZbQ h]at hj;simp at hj
     rcases Nat.lt_trichotomy j i with h|h|h
     ·have:=ht.same (k:=j+1) (t:=t) (i-(j+1)) (by omega) (fun i' Y' hi' g1 g2 hd=>by
       have:=huniq j i' Y Y' t hj hi' hjd hd;omega)
      rw[show j+1+(i-(j+1))=i by omega]at this;exact this
     ·subst h;rw[hil]at hjl;simp at hjl
     rcases(hpair i j X Y h hX hj).1 with hb|⟨hf,_⟩
     ·have:=hmaskl j hjl hjn i hb;rw[hil]at this;simp at this
     exact absurd htr ((Uo hf).2 t hjd)
   rw[hI.w2 t (fun j Y h1 h2 h3=> hex ⟨j,Y,h1,h2,h3⟩)];have:=ht.same (k:=0) (t:=t) i (by omega) (fun i' Y' hi' g1 g2 hd=>by
    rw[Zcp]at g2;rcases(hpair i' i Y' X g2 hi' hX).1 with hb|⟨hf,_⟩
    ·exact hex ⟨i',Y',hi',hmask i' hb,hd⟩
    exact absurd htr ((Uo hf).1 t hd).1)
   rw[Zcp,ht.zero]at this;exact this
 have hx':Y8 run X es (tr i).2=some (x,(tr (i+1)).2):=by rw[<-UR _ hagree];exact hx
 have hclosed':E6 ops.toList lst':=by
   intro j oj hj hjl e he hb;have hw:lst e.on=true:=by
     by_cases hji:j=i
     ·subst hji;rw[hio']at hj;injection hj with hj
      subst hj;exact hready e he hb
     rw[hlst' j hji]at hjl;exact hI.closed j oj hj hjl e he hb
   by_cases hei:e.on=i
   · rw[hei];exact hlst
   rw[hlst' _ hei];exact hw
 have helen:(tr i).1.length=e0.length:=ht.elen i (by omega)
 have hw1:∀ (j:Nat) Y d,is[j]? = some Y->lst' j=true->Y.dst=some d->(XK es X.dst x).getD d .undef=(tr (j+1)).1.getD d .undef:=by
   intro j Y d hj hjl hjd;by_cases hji:j=i
   · subst hji;rw[hX]at hj;injection hj with hj
     subst hj;rw[hxe,hjd];exact qC (by rw[hI.elen,helen])
   rw[hlst' j hji]at hjl;rw[Ku (fun hd=>hji (huniq j i Y X d hj hX hjd hd))];exact hI.w1 j Y d hj hjl hjd
 have hw2:∀ t,(∀ (j:Nat) Y,is[j]? = some Y->lst' j=true->Y.dst≠some t)->(XK es X.dst x).getD t .undef=e0.getD t .undef:=by
   intro t h;rw[Ku (h i X hX hlst)];refine hI.w2 t (fun j Y hj hjl=>?_);have hji:j≠i:=fun e=>by subst e;rw[hil]at hjl;simp at hjl
   exact h j Y hj (by rw[hlst' j hji];exact hjl)
 have hdom':∀ b p,ι b=some p->b<σ0.length\/∃ j,j<is.length/\lst' j=true/\(tr j).2.length<=b/\b<(tr (j+1)).2.length:=by
   intro b p hb;rcases hI.dom b p hb with h|⟨j,h1,h2,h3⟩
   · exact .inl h
   have hji : j ≠ i := fun e=> by subst e;rw[hil]at h2;simp at h2
   exact .inr ⟨j,h1,by rw[hlst' j hji];exact h2,h3⟩
 have h0le:∀ j,j<=is.length->σ0.length<=(tr j).2.length:=fun j hj=>by
   have:=ht.hle (k:=0) (k':=j) (by omega) hj;rwa [ht.zero]at this
 have hset0:∀ (b:Nat) (p:Place),ι b=some p->(tr i).2.length<=b->b<(tr (i+1)).2.length->False:=by
   intro b p hb h1 h2;rcases hI.dom b p hb with h|⟨j,g1,g2,g3,g4⟩
   · have:=h0le i (by omega);omega
   have hji : j ≠ i := fun e=> by subst e;rw[hil]at g2;simp at g2
   rcases Nat.lt_or_gt_of_ne hji with h|h
   ·have:=ht.hle (k:=j+1) (k':=i) (by omega) (by omega);omega
   have:=ht.hle (k:=i+1) (k':=j) (by omega) (by omega);omega
 have hf1':∀ (j:Nat) Y,is[j]? = some Y->j<k->Y.ins.kd=.eff->lst' j=true:=by
   intro j Y hj hjk hke;by_cases hji:j=i
   · rw[hji];exact hlst
   rw[hlst' j hji];exact hI.f1 j Y hj hjk hke
 have quietEnd:X.ins.kd≠.eff->∀ v W' ι',VR ι' x v->Same W W'->Ext ι ι'->RelW ι' (tr k).2 W'->(∀ c,c<W.heap.size->W'.heap[c]? = W.heap[c]?) ->
     (∀ b p,ι' b=some p->ι b=none->((tr i).2.length<=b/\b<(tr (i+1)).2.length)/\W.heap.size<=p.c)->K (a.put o.dst v) W':=by
   intro hk v W' ι' hv hs hext hrel hfr hfresh
   refine hK _ W' ι' k (XK es X.dst x) ⟨hclosed',?_,by rw[TT,hI.elen],hw1,hw2,hI.kle,hf1',fun hkl=>?_,hrel,fun b p hb=>?_,hI.same.trans hs,hI.ext.trans hext,fun c hc hm=>?_,fun b p hb hn=>?_,hI.mono,hI.lives,by rw[V0,hI.defers]⟩
   · rw[hXd];exact EnvR.put (hI.env.ext hext) o.dst hv
   · obtain⟨Y,h1,h2,h3⟩ := hI.f2 hkl;have hki:k≠i:=fun e=>by subst e;rw[hX]at h1;injection h1 with h1;subst h1;exact hk h2
     exact⟨Y,h1,h2,by rw[hlst' k hki];exact h3⟩
   · cases hn : ι b with
     |some r=>
      have:=hext b r hn;rw[hb]at this;injection this with this
      subst this;exact hdom' b p hn
     |none=>
      have:=hfresh b p hb hn;exact .inr ⟨i,hin,hlst,this.1⟩
   · rw[hfr c (Zb3 hc hI.same.size),hI.frame c hc hm]
   cases hn1 : ι b with
   |some r=>
    have:=hext b r hn1;rw[hb]at this;injection this with this
    subst this;exact hI.fresh b p hn1 hn
   |none=>
    have:=hfresh b p hb hn1;have h0:=h0le i (by omega);have hsz:=hI.same.size;exact⟨by omega,.inl (by omega)⟩
 by_cases hkp:X.ins.kd=.pure
 ·
   have hnk:X.ins.kd≠.eff:=by rw[hkp];simp
   obtain⟨_,hany⟩:=xU hkp hx'
   refine xA hrun hcI hnk hI.env hI.rel (hany (tr k).2) (fun b h1 h2=>by omega) (fun v W' ι' hv hq=>?_)
   refine quietEnd hnk v W' ι' hv hq.same hq.ext hq.rel hq.frame (fun b p hb hn=>?_)
   have:=hq.fresh b p hb hn
   omega
 by_cases hke : X.ins.kd = .eff
 ·
   have hkfree:∀ (Y:I),Y.ins.kd≠.pure->QA X Y=false/\QA Y X=false:=by
    intro Y hY;unfold QA;rw[hke]
    cases hy:Y.ins.kd with
    |pure=>exact absurd hy hY
    |quiet=>exact⟨rfl,rfl⟩
    |eff=>exact⟨rfl,rfl⟩
   have hbefore:∀ (j:Nat) Y,is[j]? = some Y->j<i->Y.ins.kd≠.pure->lst j=true:=by
    intro j Y hj hji hY;rcases(hpair j i Y X hji hj hX).1 with hb|⟨_,hf⟩
    ·exact hmask j hb
    rw[(hkfree Y hY).2]at hf;simp at hf
   have hafter:∀ (j:Nat) Y,is[j]? = some Y->i<j->Y.ins.kd≠.pure->lst j=false:=by
    intro j Y hj hji hY;rcases(hpair i j X Y hji hX hj).1 with hb|⟨_,hf⟩
    ·cases hl:lst j
     ·rfl
     have hjn:j<is.length:=by
      rcases Zcr j is.length with h|h
      ·exact h
      rw[ZbQ h]at hj;simp at hj
     have:=hmaskl j hl hjn i hb;rw[hil]at this;simp at this
    rw[(hkfree Y hY).1]at hf;simp at hf
   have hki:k=i:=by
    rcases Nat.lt_trichotomy k i with h|h|h
    ·obtain⟨Y,h1,h2,h3⟩:=hI.f2 (by omega);have:=hbefore k Y h1 h (by rw[h2];simp);rw[h3]at this;simp at this
    ·exact h
    have:=hI.f1 i X hX h hke;rw[hil]at this;simp at this
   have hDi:Dom ι (tr i).2:=by
    intro b p hb;rcases hI.dom b p hb with h|⟨j,g1,g2,g3,g4⟩
    ·have:=h0le i (by omega);omega
    have hji:j≠i:=fun e=>by subst e;rw[hil]at g2;simp at g2
    rcases Nat.lt_or_gt_of_ne hji with h|h
    ·have:=ht.hle (k:=j+1) (k':=i) (by omega) (by omega);omega
    have hYj:=ZbH g1;by_cases hjp:(is[j]).ins.kd=.pure
    ·obtain⟨y,hy,_⟩:=ht.step j _ hYj;have:=(xU hjp hy).1;rw[this]at g4;omega
    have:=hafter j _ hYj h hjp;rw[this]at g2;simp at g2
   refine step_e hrun hcI hke hI.env (by rw[<-hki];exact hI.rel) hDi hx' (fun v W' ι' hv hp=>?_)
   obtain⟨k',hk1,hk2,hk3,hk4⟩:=yz is lst' (is.length-(i+1)) (i+1) (by omega)
   have hnoeff:∀ (j:Nat) Y,is[j]? = some Y->i+1<=j->j<k'->Y.ins.kd≠.eff:=by
    intro j Y hj g1 g2 g3;have h1:=hk3 j Y hj g1 g2 g3;rw[hlst' j (by omega)]at h1;have:=hafter j Y hj (by omega) (by rw[g3];simp);rw[this]at h1;simp at h1
   obtain⟨new,hnew⟩:=ht.hext (k:=i+1) (k'-(i+1)) (by omega) (fun j Y hj g1 g2=>hnoeff j Y hj g1 (by omega))
   rw[show i+1+(k'-(i+1))=k' by omega]at hnew
   have hDi':Dom ι' (tr (i+1)).2:=hp.dom hDi
   have hback:∀ b,b<σ0.length->∀ (y:Blk),(tr k').2[b]? = some y->(tr (i+1)).2[b]? = some y:=by
    intro b hb y hy;have:=h0le (i+1) (by omega);rw[hnew,ZbF (by omega)]at hy;exact hy
   have hframeS:∀ c,c<W0.heap.size->(∀ b p,ι0 b=some p->mutb σ0 b->p.c≠c)->∀ b p,ι b=some p->mutb (tr i).2 b->p.c≠c:=by
    intro c hc hm b p hb hmb
    cases hn0:ι0 b with
    |some r=>
     have:=hI.ext b r hn0;rw[hb]at this;injection this with this
     subst this;exact hm b p hn0 (hI.mono b (hD0 b p hn0) (by rw[hki];exact hmb))
    |none=>
     rcases(hI.fresh b p hb hn0).2 with h|⟨b0,p0,h1,h2,h3⟩
     ·omega
     rw[<-h3];exact hm b0 p0 h1 h2
   refine hK _ W' ι' k' (XK es X.dst x) ⟨hclosed',?_,by rw[TT,hI.elen],hw1,hw2,hk2,fun j Y hj hjk hje=>?_,hk4,by rw[hnew];exact hp.rel.behind hDi',fun b p hb=>?_,hI.same.trans hp.same,hI.ext.trans hp.ext,fun c hc hm=>?_,fun b p hb hn=>?_,fun b hb hm=>?_,fun b hb hl=>?_,by rw[V0,hI.defers]⟩
   ·rw[hXd];exact EnvR.put (hI.env.ext hp.ext) o.dst hv
   ·by_cases hji:j=i
    ·rw[hji];exact hlst
    rcases Nat.lt_or_gt_of_ne hji with h|h
    ·rw[hlst' j hji];exact hbefore j Y hj h (by rw[hje];simp)
    exact absurd hje (hnoeff j Y hj (by omega) hjk)
   ·cases hn:ι b with
    |some r=>
     have:=hp.ext b r hn;rw[hb]at this;injection this with this
     subst this;exact hdom' b p hn
    |none=>exact .inr ⟨i,hin,hlst,(hp.fresh b p hb hn).1⟩
   ·rw[hp.frame c (Zb3 hc hI.same.size) (hframeS c hc hm),hI.frame c hc hm]
   ·cases hn1:ι b with
    |some r=>
     have:=hp.ext b r hn1;rw[hb]at this;injection this with this
     subst this;exact hI.fresh b p hn1 hn
    |none=>
     obtain⟨⟨h1,h2⟩,h3⟩:=hp.fresh b p hb hn1;have h0:=h0le i (by omega);have hsz:=hI.same.size;refine⟨by omega,?_⟩;rcases h3 with h|⟨b1,p1,g1,g2,g3⟩
     ·exact .inl (by omega)
     cases hn0:ι0 b1 with
     |some r=>
      have:=hI.ext b1 r hn0;rw[g1]at this;injection this with this
      subst this;exact .inr ⟨b1,p1,hn0,hI.mono b1 (hD0 b1 p1 hn0) (by rw[hki];exact g2),g3⟩
     |none=>
      rcases(hI.fresh b1 p1 g1 hn0).2 with h|⟨b2,p2,q1,q2,q3⟩
      ·exact .inl (by omega)
      exact .inr ⟨b2,p2,q1,q2,q3.trans g3⟩
   ·obtain⟨y,hy,hym⟩:=hm;have h0:=h0le i (by omega);exact hI.mono b hb (by rw[hki];exact hp.mono b (by omega) ⟨y,hback b hb y hy,hym⟩)
   obtain⟨y,hy,hym⟩:=hl;have h0:=h0le i (by omega);exact hI.lives b hb (by rw[hki];exact hp.lives b (by omega) ⟨y,hback b hb y hy,hym⟩)
 ·
   have hkq:X.ins.kd=.quiet:=by cases hq:X.ins.kd <;> simp_all
   have heffX:∀ (Y:I),Y.ins.kd=.eff->QA X Y=false/\QA Y X=false:=by
    intro Y hY;unfold QA;rw[hkq,hY];exact⟨rfl,rfl⟩
   have hafter:∀ (j:Nat) Y,is[j]? = some Y->i<j->Y.ins.kd=.eff->lst j=false:=by
    intro j Y hj hji hY;rcases(hpair i j X Y hji hX hj).1 with hb|⟨_,hf⟩
    ·cases hl:lst j
     ·rfl
     have hjn:j<is.length:=by
      rcases Zcr j is.length with h|h
      ·exact h
      rw[ZbQ h]at hj;simp at hj
     have:=hmaskl j hl hjn i hb;rw[hil]at this;simp at this
    rw[(heffX Y hY).1]at hf;simp at hf
   have hbefore:∀ (j:Nat) Y,is[j]? = some Y->j<i->Y.ins.kd=.eff->lst j=true:=by
    intro j Y hj hji hY;rcases(hpair j i Y X hji hj hX).1 with hb|⟨_,hf⟩
    ·exact hmask j hb
    rw[(heffX Y hY).2]at hf;simp at hf
   have hik:i<k:=by
    rcases Zcr i k with h|h
    ·exact h
    have hkl:k<is.length:=by omega
    obtain⟨Y,h1,h2,h3⟩:=hI.f2 hkl;have hki:k≠i:=fun e=>by subst e;rw[hX]at h1;injection h1 with h1;subst h1;exact hke h2
    have:=hbefore k Y h1 (by omega) h2;rw[h3]at this;simp at this
   have hnoeff:∀ (j:Nat) Y,is[j]? = some Y->i<=j->j<k->Y.ins.kd≠.eff:=by
    intro j Y hj g1 g2 g3;have h1:=hI.f1 j Y hj g2 g3;by_cases hji:j=i
    ·subst hji;rw[hil]at h1;simp at h1
    have:=hafter j Y hj (by omega) g3;rw[this]at h1;simp at h1
   have hkle:=hI.kle
   obtain⟨n1,hn1⟩:=ht.hext (k:=i) 1 (by omega) (fun j Y hj g1 g2=>hnoeff j Y hj g1 (by omega))
   obtain⟨n2,hn2⟩:=ht.hext (k:=i+1) (k-(i+1)) (by omega) (fun j Y hj g1 g2=>hnoeff j Y hj (by omega) (by omega))
   rw[show i+1+(k-(i+1))=k by omega]at hn2
   have hRi:RelW ι (tr i).2 W:=by
    have h1:=hI.rel;rw[hn2]at h1;have h2:=h1.front;rw[hn1]at h2;exact h2.front
   refine xA hrun hcI hke hI.env hRi hx' (fun b h1 h2=>?_) (fun v W' ι' hv hq=>?_)
   ·cases hb:ι b with
    |none=>rfl
    |some p=>exact(hset0 b p hb h1 h2).elim
   refine quietEnd hke v W' ι' hv hq.same hq.ext ?_ hq.frame (fun b p hb hn=>hq.fresh b p hb hn);have h1:=hI.rel;rw[hn2]at h1 ⊢;exact hq.later h1
end
def par_any[Bas]{P:Program}{run:Runner}(hrun:WD P run){ops:Array Oper}{is:List I}(hc:KZ P ops.toList (Wt ops.toList []) ops.toList.zipIdx=some is)(hpar:TB (Wt ops.toList []) is.zipIdx=true)(hedge:UQ ops.toList.zipIdx=true)
  {ι:Inj} {σ:Heap} {W:World} {e e':Env} {a:Act} {σ':Heap} (hE:EnvR ι e a.tmps) (hR:RelW ι σ W) (hD:Dom ι σ) (hv:Vc run is e σ=some (e',σ')) {Q:Exit->Act->World->Prop}
  (hQ:∀ a' W' ι',EnvR ι' e' a'.tmps->Post ι σ W ι' σ' W'->a'.defers=a.defers->Q .normal a' W'):wpAny P .any ops Q ops.size (Array.replicate ops.size false) a { W with drawn:=W.drawn+1 }:=by
 obtain⟨hcl,hcomp⟩:=RM hc
 obtain⟨tr,ht,hend⟩:=trace hv
 have hsz:is.length=ops.size:=by rw[hcl];simp
 have main:∀ (fuel:Nat) (listed:Array Bool) (a':Act) (W':World),listed.size=ops.size->unl (fun i=>listed.getD i false) ops.size<=fuel ->
   (∃ ι' k es,Inv is ops.toList e σ ι W a.defers tr (fun i=>listed.getD i false) a' W' ι' k es)->wpAny P .any ops Q fuel listed a' W':=by
  have fin:∀ (listed:Array Bool) (a':Act) (W':World),listed.size=ops.size->(∀ i,i<ops.size->listed.getD i false=true)->(∃ ι' k es,Inv is ops.toList e σ ι W a.defers tr (fun i=>listed.getD i false) a' W' ι' k es)->Q .normal a' W':=by
   rintro listed a' W' hls hall ⟨ι',k,es,hI⟩;have hk:k=is.length:=by
    rcases Zcr k is.length with h|h
    ·obtain⟨Y,_,_,h3⟩:=hI.f2 h;have:=hall k (by omega);rw[this]at h3;simp at h3
    have:=hI.kle;omega
   have hes:es=e':=by
    have he':e'=(tr is.length).1:=by rw[hend]
    have hl:es.length=e'.length:=by rw[he',ht.elen _ (Zcs _),hI.elen]
    apply List.ext_getElem?;intro t;have hg:es.getD t .undef=e'.getD t .undef:=by
     by_cases hex:∃ (j:Nat) (Y:I),is[j]? = some Y/\Y.dst=some t
     ·obtain⟨j,Y,hj,hjd⟩:=hex;have hjn:j<is.length:=by
       rcases Zcr j is.length with h|h
       ·exact h
       rw[ZbQ h]at hj;simp at hj
      rw[hI.w1 j Y t hj (hall j (by omega)) hjd,he'];have:=ht.same (k:=j+1) (t:=t) (is.length-(j+1)) (by omega) (fun i' Y' hi' g1 g2 hd=>by
       have:=(Tk (k:=0) hpar j i' Y Y' (by omega) hj hi').2;exact this ⟨by rw[hjd];rfl,by rw[hjd,hd]⟩)
      rw[show j+1+(is.length-(j+1))=is.length by omega]at this;exact this.symm
     rw[hI.w2 t (fun j Y h1 _ h3=>hex ⟨j,Y,h1,h3⟩),he'];have:=ht.same (k:=0) (t:=t) is.length (by omega) (fun i' Y' hi' _ _ hd=>hex ⟨i',Y',hi',hd⟩);rw[Zcp,ht.zero]at this;exact this.symm
    simp only[ZbD]at hg;by_cases htl:t<es.length
    ·rw[ZbH htl,ZbH (by omega)]at hg ⊢;simp only[Option.getD_some]at hg;rw[hg]
    rw[ZbQ (by omega),ZbQ (by omega)]
   subst hes;subst hk;have hs':(tr is.length).2=σ':=by rw[hend]
   have hrel:=hI.rel;rw[hs']at hrel;have h0:=ht.hle (k:=0) (k':=is.length) (by omega) (Zcs _);rw[ht.zero,hs']at h0;refine hQ a' W' ι' hI.env ⟨hI.same,hI.ext,hrel,h0,hI.frame,fun b p hb hn=>?_,fun b hb hm=>hI.mono b hb (by rw[hs'];exact hm),fun b hb hm=>hI.lives b hb (by rw[hs'];exact hm)⟩ hI.defers;obtain⟨h1,h2⟩:=hI.fresh b p hb hn;refine⟨⟨h1,?_⟩,h2⟩;rcases hI.dom b p hb with h|⟨i,g1,_,_,g4⟩
   ·omega
   have:=ht.hle (k:=i+1) (k':=is.length) (by omega) (Zcs _);rw[hs']at this;omega
  have allOf:∀ (listed:Array Bool),listed.size=ops.size->Region.ready .any ops listed=[]->∀ i,i<ops.size->listed.getD i false=true:=by
   intro listed hls hr;have:∀ n i,i<=n->i<ops.size->listed.getD i false=true:=by
    intro n;induction n with
    |zero=>
     intro i hi hil
     cases hl:listed.getD i false with
     |true=>rfl
     |false=>
      exfalso;have hmem:i∈Region.ready .any ops listed:=by
       unfold Region.ready;simp only[Zch,Zck,Zca,Zb6];refine⟨hil,?_,?_⟩
       ·have:listed.getD i true=listed.getD i false:=by simp[show i<listed.size by omega]
        rw[this,hl]
       have ho:=ZbG hil;rw[ho];simp only[Option.map_some,Option.getD_some];rw[Array.all_eq_true_iff_forall_mem];intro ed hed;simp only[Bool.or_eq_true,Zb6]
       cases hb:Region.binds .any ed with
       |false=>exact .inl rfl
       |true=>
        have:=Un (k:=0) hedge i _ (show ops.toList[i]? = some _ from by rw[ZbS];exact ho) ed (by simpa using hed) hb;omega
      rw[hr]at hmem;simp at hmem
    |succ n ih=>
     intro i hi hil
     cases hl:listed.getD i false with
     |true=>rfl
     |false=>
      exfalso;have hmem:i∈Region.ready .any ops listed:=by
       unfold Region.ready;simp only[Zch,Zck,Zca,Zb6];refine⟨hil,?_,?_⟩
       ·have:listed.getD i true=listed.getD i false:=by simp[show i<listed.size by omega]
        rw[this,hl]
       have ho:=ZbG hil;rw[ho];simp only[Option.map_some,Option.getD_some];rw[Array.all_eq_true_iff_forall_mem];intro ed hed;simp only[Bool.or_eq_true,Zb6]
       cases hb:Region.binds .any ed with
       |false=>exact .inl rfl
       |true=>
        have:=Un (k:=0) hedge i _ (show ops.toList[i]? = some _ from by rw[ZbS];exact ho) ed (by simpa using hed) hb;exact .inr (ih ed.on (by omega) (by omega))
      rw[hr]at hmem;simp at hmem
   exact fun i hi=>this i i (Zcs _) hi
  intro fuel
  induction fuel with
  |zero=>
   intro listed a' W' hls hu hI
   have hall:=Ef (n:=ops.size) (Nat.le_zero.1 hu)
   refine⟨?_,fin listed a' W' hls hall hI⟩
   apply List.eq_nil_iff_forall_not_mem.2
   intro i hi
   unfold Region.ready at hi
   simp only[Zch,Zck,Zca,Zb6]at hi
   have h1:=hall i hi.1
   have:listed.getD i true=listed.getD i false:=by simp[show i<listed.size by omega]
   rw[this]at hi
   rw[h1]at hi
   simp at hi
  |succ fuel ih=>
   intro listed a' W' hls hu hI
   refine⟨fun hr=>fin listed a' W' hls (allOf listed hls hr) hI,fun i hi=>?_⟩
   obtain⟨ι',k,es,hI⟩:=hI
   unfold Region.ready at hi
   simp only[Zch,Zck,Zca,Zb6]at hi
   obtain⟨hil,hnl,hrd⟩:=hi
   have hnl':listed.getD i false=false:=by
    have:listed.getD i true=listed.getD i false:=by simp[show i<listed.size by omega]
    rw[<-this];exact hnl
   have ho:=ZbG hil
   have hset:∀ j,j≠i->(listed.setIfInBounds i true).getD j false=listed.getD j false:=fun j hj=>by
    simp only[ZbC,Array.getElem?_setIfInBounds];rw[Zcz (Ne.symm hj)]
   have hseti:(listed.setIfInBounds i true).getD i false=true:=by
    simp[ZbC,show i<listed.size by omega]
   unfold wpOp
   rw[ho]
   simp only
   have hready:∀ ed∈(ops[i]).after.toList,Region.binds .any ed=true→listed.getD ed.on false=true:=by
    intro ed hed hb;rw[ho]at hrd;simp only[Option.map_some,Option.getD_some]at hrd;rw[Array.all_eq_true_iff_forall_mem]at hrd;have:=hrd ed (by simpa using hed);simpa[hb] using this
   have hstep:=ZaA (lst':=fun j=>(listed.setIfInBounds i true).getD j false) (K:=wpAny P .any ops Q fuel (listed.setIfInBounds i true)) (Q:=Q) hrun hedge hpar hcl hcomp hD ht hI ho hnl' hready hseti hset (fun a2 W2 ι2 k2 es2 hI2=>ih _ a2 W2 (by simpa using hls) ?_ ⟨ι2,k2,es2,hI2⟩)
   ·split
    ·rename_i hw;rw[ZcA hw]at hstep;exact .inl hstep
    rename_i hw;rw[Zcz hw]at hstep;exact hstep
   have:=(zH (lst:=fun j=>listed.getD j false) (lst':=fun j=>(listed.setIfInBounds i true).getD j false) hnl' hseti hset (n:=ops.size)).2 hil
   omega
 refine main ops.size _ a _ (by simp) ?_ ⟨ι,?_⟩
 ·have:∀ n,unl (fun i=>(Array.replicate ops.size false).getD i false) n<=n:=by
   intro n;induction n with
   |zero=>exact Zcs _
   |succ n ih=>
    simp only[unl];split <;> omega
  exact this _
 have hfalse:∀ i,(Array.replicate ops.size false).getD i false=false:=by
  intro i;simp[ZbC,Array.getElem?_replicate];split <;> rfl
 obtain⟨k,h1,h2,h3,h4⟩:=yz is (fun i=>(Array.replicate ops.size false).getD i false) is.length 0 (by omega);have hnoeff:∀ (j:Nat) Y,is[j]? = some Y->0<=j->j<0+k->Y.ins.kd≠.eff:=by
  intro j Y hj g1 g2 g3;have:=h3 j Y hj g1 (by omega) g3;rw[hfalse]at this;simp at this
 obtain⟨new,hnew⟩:=ht.hext (k:=0) k (by omega) hnoeff;rw[Zcp,ht.zero]at hnew;have hR':RelW ι σ W.drew:=hR.toDrew;refine⟨k,e,fun j o _ hjl=>by rw[hfalse]at hjl;simp at hjl,hE,rfl,fun i I d _ hl=>by rw[hfalse]at hl;simp at hl,fun t _=>rfl,h2,fun i I hi hik hie=>h3 i I hi (by omega) hik hie,h4,by rw[hnew];exact hR'.behind hD,fun b p hb=>.inl (hD b p hb),⟨rfl,rfl,rfl,Zcs _⟩,.refl ι,fun c _ _=>rfl,fun b p hb hn=>by rw[hb]at hn;simp at hn,fun b hb hm=>?_,fun b hb hm=>?_,rfl⟩
 ·obtain⟨y,hy,hym⟩:=hm;rw[hnew,ZbF hb]at hy;exact⟨y,hy,hym⟩
 obtain⟨y,hy,hym⟩:=hm;rw[hnew,ZbF hb]at hy;exact⟨y,hy,hym⟩
end Go.Am
namespace Go.Am
open Go
def q9(ops:Array Oper):∀ n listed,VC ops n listed≠[]
 |0,_=>by simp[VC]
 |n+1,listed=>by
  unfold VC;split
  ·simp
  rename_i rs hne;intro h
  cases hr:Region.ready .any ops listed with
  |nil=>exact hne hr
  |cons i r=>
   rw[hr,Zb8]at h;have:=(List.append_eq_nil_iff.1 h).1;rw[List.map_eq_nil_iff]at this;exact q9 ops n _ this
def Tq{ops:Array Oper}{n:Nat}{listed:Array Bool}{i:Nat}{p:List Nat}(hi:i∈Region.ready .any ops listed)(hp:p∈VC ops n (listed.setIfInBounds i true)):i::p∈VC ops (n+1) listed:=by
 unfold VC;split
 ·rename_i h;rw[h]at hi;cases hi
 exact List.mem_flatMap.2 ⟨i,hi,List.mem_map.2 ⟨p,hp,rfl⟩⟩
def qc{P:Program}{ops:List Oper}:∀ {L:List Oper} {is:List I},Js P ops L=some is->∀ (j:Nat) o,L[j]? = some o->∃ i,is[j]? = some i/\Qj P ops false o=some i
 |[],is,h,j,o,hj=>by simp at hj
 |z::L,is,h,j,o,hj=>by
  unfold Js at h;split at h
  ·rename_i i r h1 h2;injection h with h
   subst h
   cases j with
   |zero=>simp at hj;subst hj;exact⟨i,rfl,h1⟩
   |succ j=>simp at hj;simpa using qc h2 j o hj
  simp at h
def za{ex:Ex}{e e':Env}{σ σ':Heap}(h:UV (some (.normal,e,σ)) (some (ex,e',σ'))):ex=.normal/\e=e'/\σ=σ':=by
 unfold UV at h;split at h
 ·rename_i he _;cases he
 rename_i ha hb _;injection h with h
 simp only[Zcn]at h;exact⟨h.1.symm,h.2.1,h.2.2⟩
def Km{ex:Ex}{e':Env}{σ':Heap}(h:UV none (some (ex,e',σ'))):False:=by
 unfold UV at h;split at h
 ·rename_i he _;cases he
 cases h
def ur{x:V}{e:Env}{σ:Heap}{ex:Ex}{e':Env}{σ':Heap}(h:UV (some (.panic x,e,σ)) (some (ex,e',σ'))):ex=.panic x/\σ=σ':=by
 unfold UV at h;split at h
 ·rename_i y _ τ z _ τ2 h1 h2;injection h1 with h1
  injection h2 with h2
  simp only[Zcn,Ex.panic.injEq]at h1 h2;obtain⟨rfl,_,rfl⟩:=h1;obtain⟨rfl,_,rfl⟩:=h2;exact⟨by rw[h.1],h.2⟩
 injection h with h
 simp only[Zcn]at h;exact⟨h.1.symm,h.2.2⟩
end Go.Am
namespace Go.Am
open Go
def opOK_ne{o:Oper}(h:opOK o=true)(c:Call):o.op≠.defer c:=by
 intro e;unfold opOK at h;rw[e]at h
 cases h
structure Open(F:Fence):Prop where
 fn:∀ f,F.fn f
 depth:F.depth=none
 calls:∀ {n:Nat} {P:Program} {f:FuncId} {args:Array Value} {w:World} {R:Ending->World->Prop},Calls P f args w R->CallsIn F n P f args w R
 rounds:∀ {n:Nat} {P:Program} {l:Nat} {f:FuncId} {tmps:Array Value} {asg body:Code} {w:World} {R:Ending->World->Prop},RoundIn Fence.wide n P l f tmps asg body w R->RoundIn F n P l f tmps asg body w R
 rows:∀ {n:Nat} {P:Program} {r:String} {args:Array Value} {w:World} {R:Value->World->Prop},Rows P r args w R->RowsIn F n P r args w R
section
variable{F:Fence}{n:Nat}{P:Program}{Q:Exit->Act->World->Prop}
def wP(hF:Open F){o:Oper}{a:Act}{w:World}{K:Act->World->Prop}(hd:∀ c,o.op≠.defer c)(h:o.wp P a w K Q):o.wpIn F n P a w K Q:=by
 unfold Oper.wpIn;refine⟨fun f _=>hF.fn f,?_⟩;rw[Oper.semAt_eq _ _ _ hd];unfold Oper.wp at h;generalize (execOp a.eval o).run P w=r at h;have hdp:F.depth.isSome=true->1<=n:=fun h=>by rw[hF.depth]at h;cases h
 cases r with
 |ok x w'=>
  cases x with
  |enter f args=>exact⟨hdp,hF.calls h⟩
  |row r args=>exact⟨hdp,hF.rows h⟩
  |round l f t as b=>exact h.elim
  |_=>exact h
 |halt x w'=>
  cases x with
  |_=>exact h
def DE(hF:Open F)(hQ:∀ a w,¬ Q .outgrown a w){ops:Array Oper}{md:Region.Mode}(hd:∀ (i:Nat) (o:Oper),ops[i]? = some o->∀ c,o.op≠.defer c):∀ (fuel:Nat) {listed:Array Bool} {a:Act} {w:World},wpAny P md ops Q fuel listed a w->wpAnyIn F n P md ops Q fuel listed a w
 |0,_,_,_,h=>h
 |fuel+1,listed,a,w,h=>by
  refine⟨h.1,fun i hi=>?_⟩;have h:=h.2 i hi;unfold wpOp at h;unfold wpOpIn;split at h
  ·rename_i hn;rw[hn];exact DE hF hQ hd fuel h
  rename_i o ho;rw[ho];simp only;split at h
  ·rename_i hw;rw[ZcA hw];rcases h with h|⟨_,a',w',h⟩
   ·exact wP hF (hd i o ho) (Oper.wp_mono (fun a' w' h'=>DE hF hQ hd fuel h') h)
   exact absurd h (hQ a' w')
  rename_i hw;rw[Zcz hw];exact⟨fun f _=>hF.fn f,DE hF hQ hd fuel h⟩
end
def open_wide:Open Fence.wide:=⟨fun _=>trivial,rfl,fun h=>callsIn_wide.2 h,fun h=>h,fun h c cs _=>let⟨v,w',r,s⟩:=h c cs;⟨v,w',r,stepsIn_wide.2 s⟩⟩
def xC(l:Nat):Open (Fence.wide.inRound l):=⟨fun _=>trivial,rfl,fun h=>open_wide.calls h,fun h=>h,fun h=>open_wide.rows h⟩
def wY[Bas](P:Program)(run:Runner):Prop:=∀ (k b:Nat) (l:List V) (σ:Heap) (v:V) (σ':Heap),run k (.pan .undef::.yv b::l) σ=some (v,σ') ->
 ∀ (ι:Inj) (W:World) (lp:Nat) (xs:List Value),RelW ι σ W->Dom ι σ->VRL ι (.yv b::l) (.func (.yield lp) #[] #[]::xs) ->
  ∀ m,YieldAt Fence.wide m P lp xs.toArray W fun e W'=>∃ ι',EndR ι' v e/\Post ι σ W ι' σ' W'
def YieldAt.mono'{F:Fence}{m:Nat}{P:Program}{l:Nat}{args:Array Value}{W:World}{R R':Ending->World->Prop}(h:YieldAt F m P l args W R)(hr:∀ e w,R e w->R' e w):YieldAt F m P l args W R' :=
 let⟨fn,t,a,b,h1,h2⟩:=h;⟨fn,t,a,b,h1,RoundIn.mono h2 hr⟩
def uk[Bas]{P:Program}{run:Runner}(hy:wY P run){k b:Nat}{args:List V}{σ:Heap}{x:V}{σ':Heap}(h:Qr run k (.yv b::args) σ=some (x,σ')){ι:Inj}{W:World}{lp:Nat}{xs:List Value}
  (hR:RelW ι σ W) (hD:Dom ι σ) (ha:VRL ι (.yv b::args) (.func (.yield lp) #[] #[]::xs)) :
  ∀ m,YieldAt Fence.wide m P lp xs.toArray W fun e W'=>∃ ι' v',e=.returned v'/\VR ι' x v'/\Post ι σ W ι' σ' W':=by
 intro m
 unfold Qr at h
 simp only[ZbI]at h
 obtain⟨⟨rs,as0,σ0⟩,hent,⟨r,σ1⟩,hrr,h⟩:=h
 have hnp:∀ p,r≠.pan p:=fun p e=>by subst e;rw[RQ]at h;cases h
 obtain⟨b',l',rfl⟩:∃ b' l',as0=.yv b'::l':=by
  unfold Xq at hent;dsimp only at hent;split at hent
  ·rename_i as1 σ2 hren _;injection hent with hent
   simp only[Zcn]at hent;obtain⟨_,rfl,_⟩:=hent;simp only[V.renL,V.ren]at hren;split at hren
   ·rename_i y r' h1 h2;injection hren with hren
    simp only[ZbK]at h1;obtain⟨i,_,rfl⟩:=h1;exact⟨i,r',hren.symm⟩
   cases hren
  cases hent
 have:=kw hent h (E:=.returned) (fun ι1 e he=>he.ret hnp) hR (fun _=>hD) (fun h=>by simp at h) ha
  (T:=fun R=>YieldAt Fence.wide m P lp xs.toArray W R) (fun h hr=>YieldAt.mono' h hr) (fun ι0 hR0 hD0 hv0=>hy k b' l' σ0 r σ1 hrr ι0 W lp xs hR0 hD0 hv0 m)
 refine YieldAt.mono' this ?_
 rintro e W' ⟨ι',v',rfl,hv,hp,_⟩
 exact⟨ι',v',rfl,hv,hp rfl⟩
def gI{P:Program}{c:Call}{fo:Operand}{a:Act}{o:Oper}(ho:o.op=.call c)(hc:c.callee=.value fo){lp:Nat}(hf:a.eval fo=.func (.yield lp) #[] #[]){W W':World}{x:Next}(hy:(Instr.yield lp (c.args.toList.map a.eval).toArray).run P W=.ok x W') :
  (execOp a.eval o).run P W=.ok x W':=by
 have he:c.args.map a.eval=(c.args.toList.map a.eval).toArray:=Array.toList_inj.1 (by simp)
 simp[execOp,ho,resolve,hc,hf,Deferred.ofValue,invoke,he,hy]
def g8{ι:Inj}{e:Env}{a:Act}(hE:EnvR ι e a.tmps){ops:Array Oper}{o:Oper}{i:I}(hg:Eb ops.toList o.guard=some i.g)(h:XY i e=true):Region.wanted o (yielded ops a.tmps)=true:=by
 have hw:=QI hE hg;unfold XY at h
 cases hgi:i.g with
 |none=>exact hw.1 hgi
 |some p=>
  obtain⟨t,want⟩:=p;rw[hgi]at h;simp only at h;split at h
  ·rename_i b hb;rw[hw.2 t want hgi b hb];exact h
  cases h
def kO[Bas]{F:Fence}{n:Nat}{P:Program}{run:Runner}(hF:Open F)(hy:wY P run){ops:Array Oper}{o:Oper}{i:I}(hc:Qj P ops.toList false o=some i){ι:Inj}{σ:Heap}{W:World}{e e':Env}{a:Act}{σ':Heap}
  (hE:EnvR ι e a.tmps) (hR:RelW ι σ W) (hD:Dom ι σ) (hv:VL run i e σ=some (e',σ')) {K:Act->World->Prop} {Q:Exit->Act->World->Prop}
  (hK:∀ a' W' ι',EnvR ι' e' a'.tmps->Post ι σ W ι' σ' W'->a'.defers=a.defers->K a' W'):Region.wanted o (yielded ops a.tmps)=true/\o.wpIn F n P a W K Q:=by
 obtain⟨hd,hg,hi⟩:=Ud hc
 unfold VL at hv
 cases hgd:XY i e with
 |false=>rw[hgd]at hv;cases hv
 |true=>
  rw[hgd,cond_true]at hv
  refine⟨g8 hE hg hgd,?_⟩
  split at hv
  ·rename_i f args hins;have hcomp:Xw P false o.op=some (.call f args):=by
    rw[hins]at hi;unfold VP at hi;split at hi
    ·cases hi
    split at hi
    ·rename_i j hj;injection hi with hi
     rw[hj,hi]
    injection hi with hi;cases hi
   obtain⟨c,fo,hop,hcal,hf,has⟩:=xQ hcomp;have rf:=Y9 hf hE;have ra:=Jj hE has;split at hv
   ·rename_i b hb;rw[hb]at rf;split at hv
    ·rename_i k rd caps st hblk;simp only[ZbK]at hv;obtain⟨⟨x,σ1⟩,hcy,hv⟩:=hv;injection hv with h1 h2
     subst h1;subst h2;have rf2:=rf;simp only[VR]at rf;obtain⟨p,hp,hfv⟩:=rf;rw[hfv]at rf2;obtain⟨fn,tmps,asg,body,hyl,hrd⟩:=uk hy hcy (lp:=p.c) hR hD ⟨_,_,rfl,rf2,ra⟩ (n-1);unfold Oper.wpIn;refine⟨fun f _=>hF.fn f,?_⟩;rw[Oper.semAt_eq _ _ _ (by rw[hop];intro c h;cases h),gI hop hcal hfv hyl];refine⟨fun h=>(by rw[hF.depth]at h;cases h),hF.rounds (RoundIn.mono hrd ?_)⟩;rintro en W' ⟨ι',v',rfl,hr,hpo⟩;refine hK _ W' ι' ?_ hpo (V0 _ _ _);rw[hd];exact EnvR.put (hE.ext hpo.ext) o.dst hr
    cases hv
   cases hv
  cases hv
def wW[Bas]{F:Fence}{n:Nat}{P:Program}{run:Runner}(hF:Open F)(hrun:WD P run)(hy:wY P run){ops:Array Oper}{Q:Exit->Act->World->Prop}:∀ {l:List Oper} {is:List I} {ι:Inj} {σ:Heap} {W:World} {e e':Env} {a:Act} {σ':Heap} {ex:Ex},
  Js P ops.toList l=some is→(∀ o∈l,∀ c,o.op≠.defer c)→EnvR ι e a.tmps→RelW ι σ W→Dom ι σ→YX run is e σ=some (ex,e',σ') →
  (∀ a' W' ι' y,ExR ι' ex y->EnvR ι' e' a'.tmps->Post ι σ W ι' σ' W'->a'.defers=a.defers->Q y a' W')->wpListIn F n P ops Q l a W
 |[],is,ι,σ,W,e,e',a,σ',ex,hc,_,hE,hR,hD,hv,hQ=>by
  simp[Js]at hc;subst hc;simp only[YX,Zb4,Zcn]at hv;obtain⟨rfl,rfl,rfl⟩:=hv;exact hQ a W ι .normal rfl hE (QPost.refl hR).post rfl
 |o::l,is,ι,σ,W,e,e',a,σ',ex,hc,hd,hE,hR,hD,hv,hQ=>by
  unfold Js at hc;split at hc
  ·rename_i i r h1 h2;injection hc with hc
   subst hc;simp only[YX]at hv;have conv:(if Region.wanted o (yielded ops a.tmps) then o.wp P a W (wpListIn F n P ops Q l) Q else wpListIn F n P ops Q l (a.put o.dst Go.undef) W)->wpListIn F n P ops Q (o::l) a W:=by
    intro h;unfold wpListIn;split at h
    ·rename_i hw;rw[ZcA hw];exact wP hF (hd o (.head _)) h
    rename_i hw;rw[Zcz hw];exact⟨fun f _=>hF.fn f,h⟩
   split at hv
   ·rename_i r hs;obtain⟨e1,σ1⟩:=r;exact conv (kT hrun h1 hE hR hD hs (fun a1 W1 ι1 hE1 hp1 hd1=>
     wW hF hrun hy h2 (fun o' ho'=>hd o' (.tail _ ho')) hE1 hp1.rel (hp1.dom hD) hv (fun a2 W2 ι2 y hy hE2 hp2 hd2=>hQ a2 W2 ι2 y hy hE2 (hp1.trans hD hp2) (hd2.trans hd1))))
   split at hv
   ·rename_i r hs;obtain⟨e1,σ1⟩:=r;obtain⟨hw,h⟩:=kO (n:=n) (Q:=Q) (K:=wpListIn F n P ops Q l) hF hy h1 hE hR hD hs (fun a1 W1 ι1 hE1 hp1 hd1=>
     wW hF hrun hy h2 (fun o' ho'=>hd o' (.tail _ ho')) hE1 hp1.rel (hp1.dom hD) hv (fun a2 W2 ι2 y hy hE2 hp2 hd2=>hQ a2 W2 ι2 y hy hE2 (hp1.trans hD hp2) (hd2.trans hd1)))
    unfold wpListIn;rw[ZcA hw];exact h
   simp only[ZbK]at hv;obtain⟨⟨x,σ1⟩,hp,hv⟩:=hv;simp only[Zcn]at hv;obtain⟨rfl,rfl,rfl⟩:=hv;exact conv (kY hrun h1 hE hR hD hp (fun W' ι' u hu hp=>hQ a W' ι' _ ⟨u,rfl,hu⟩ (hE.ext hp.ext) hp rfl))
  simp at hc
def parc_in[Bas]{F:Fence}{nn:Nat}{P:Program}{run:Runner}(hF:Open F)(hrun:WD P run)(hyl:wY P run){ops:Array Oper}{l:List I}(hc:Js P ops.toList ops.toList=some l)(hdf:∀ (i:Nat) (o:Oper),ops[i]? = some o->∀ c,o.op≠.defer c)
  {ι:Inj} {σ:Heap} {W:World} {e e':Env} {a:Act} {σ':Heap} {ex:Ex} {n:Nat} (hE:EnvR ι e a.tmps) (hR:RelW ι σ W) (hD:Dom ι σ) (hx:Xh run n (.parc (VC ops ops.size (Array.replicate ops.size false)) l) e σ=some (ex,e',σ')) {Q:Exit->Act->World->Prop}
  (hQ:∀ a' W' ι' y,ExR ι' ex y->((∀ x,ex≠.panic x)->EnvR ι' e' a'.tmps)->Post ι σ W ι' σ' W'->a'.defers=a.defers->Q y a' W'):wpAnyIn F nn P .any ops Q ops.size (Array.replicate ops.size false) a { W with drawn:=W.drawn+1 }:=by
 simp only[Xh]at hx
 split at hx
 ·rename_i hall;rw[hx]at hall;have main:∀ (fuel:Nat) (listed:Array Bool) (a1:Act) (W1:World) (ι1:Inj) (e1:Env) (σ1:Heap),listed.size=ops.size->unl (fun i=>listed.getD i false) ops.size<=fuel ->
    (∀ p∈VC ops fuel listed,UV (YX run (Xy l p) e1 σ1) (some (ex,e',σ')))→EnvR ι1 e1 a1.tmps→Post ι σ W ι1 σ1 W1→a1.defers=a.defers→wpAnyIn F nn P .any ops Q fuel listed a1 W1:=by
   intro fuel
   induction fuel with
   |zero=>
    intro listed a1 W1 ι1 e1 σ1 hls hu ho hE1 hp1 hd1
    have hun:=Ef (n:=ops.size) (Nat.le_zero.1 hu)
    have h0:=ho [] (by simp[VC])
    obtain⟨rfl,rfl,rfl⟩:=za h0
    refine⟨?_,hQ a1 W1 ι1 .normal rfl (fun _=>hE1) hp1 hd1⟩
    apply List.eq_nil_iff_forall_not_mem.2
    intro i hi
    unfold Region.ready at hi
    simp only[Zch,Zck,Zca,Zb6]at hi
    have h1:=hun i hi.1
    have:listed.getD i true=listed.getD i false:=by simp[show i<listed.size by omega]
    rw[this]at hi
    rw[h1]at hi
    simp at hi
   |succ fuel ih=>
    intro listed a1 W1 ι1 e1 σ1 hls hu ho hE1 hp1 hd1
    refine⟨fun hr=>?_,fun i hi=>?_⟩
    ·have h0:=ho [] (by unfold VC;rw[hr];simp);obtain⟨rfl,rfl,rfl⟩:=za h0;exact hQ a1 W1 ι1 .normal rfl (fun _=>hE1) hp1 hd1
    have hi':=hi
    unfold Region.ready at hi'
    simp only[Zch,Zck,Zca,Zb6]at hi'
    obtain⟨hil,hnl,_⟩:=hi'
    have hnl':listed.getD i false=false:=by
     have:listed.getD i true=listed.getD i false:=by simp[show i<listed.size by omega]
     rw[<-this];exact hnl
    have hoi:=ZbG hil
    obtain⟨o',hIi,hcI⟩:=qc hc i (ops[i]) (by simp[hil])
    have hset:∀ j,j≠i->(listed.setIfInBounds i true).getD j false=listed.getD j false:=fun j hj=>by
     simp only[ZbC,Array.getElem?_setIfInBounds];rw[Zcz (Ne.symm hj)]
    have hseti:(listed.setIfInBounds i true).getD i false=true:=by
     simp[ZbC,show i<listed.size by omega]
    have hpick:∀ p,Xy l (i::p)=o'::Xy l p:=fun p=>by simp only[Xy,hIi]
    have conv:(if Region.wanted (ops[i]) (yielded ops a1.tmps) then (ops[i]).wp P a1 W1 (wpAnyIn F nn P .any ops Q fuel (listed.setIfInBounds i true)) Q else wpAnyIn F nn P .any ops Q fuel (listed.setIfInBounds i true) (a1.put (ops[i]).dst Go.undef) W1)->wpOpIn F nn P ops Q i (wpAnyIn F nn P .any ops Q fuel (listed.setIfInBounds i true)) a1 W1:=by
     intro hstep;unfold wpOpIn;rw[hoi];simp only;split at hstep
     ·rename_i hw;rw[ZcA hw];exact wP hF (hdf i _ hoi) hstep
     rename_i hw;rw[Zcz hw];exact⟨fun f _=>hF.fn f,hstep⟩
    have nxt:∀ (e2:Env) (σ2:Heap),(∀ p∈VC ops fuel (listed.setIfInBounds i true),UV (YX run (Xy l p) e2 σ2) (some (ex,e',σ')))→∀ (a2:Act) (W2:World) (ι2:Inj),EnvR ι2 e2 a2.tmps→Post ι1 σ1 W1 ι2 σ2 W2→a2.defers=a1.defers→wpAnyIn F nn P .any ops Q fuel (listed.setIfInBounds i true) a2 W2:=by
     intro e2 σ2 ho2 a2 W2 ι2 hE2 hp2 hd2;refine ih _ a2 W2 ι2 e2 σ2 (by simpa using hls) ?_ ho2 hE2 (hp1.trans hD hp2) (hd2.trans hd1);have:=(zH (lst:=fun j=>listed.getD j false) (lst':=fun j=>(listed.setIfInBounds i true).getD j false) hnl' hseti hset (n:=ops.size)).2 hil;omega
    cases hs:XO run o' e1 σ1 with
    |some y=>
     obtain⟨e2,σ2⟩:=y
     refine conv (kT hrun hcI hE1 hp1.rel (hp1.dom hD) hs (nxt e2 σ2 fun p hp=>?_))
     have h:=ho (i::p) (Tq hi hp)
     rw[hpick]at h
     simp only[YX,hs]at h
     exact h
    |none=>cases hys:VL run o' e1 σ1 with
     |some y=>
      obtain⟨e2,σ2⟩:=y
      obtain⟨hw,h⟩:=kO (n:=nn) (Q:=Q) (K:=wpAnyIn F nn P .any ops Q fuel (listed.setIfInBounds i true)) hF hyl hcI hE1 hp1.rel (hp1.dom hD) hys (nxt e2 σ2 fun p hp=>by
       have h:=ho (i::p) (Tq hi hp);rw[hpick]at h;simp only[YX,hs,hys]at h;exact h)
      unfold wpOpIn
      rw[hoi]
      simp only
      rw[ZcA hw]
      exact h
     |none=>
      obtain⟨p,hp⟩:=List.exists_mem_of_ne_nil _ (q9 ops fuel (listed.setIfInBounds i true))
      have h:=ho (i::p) (Tq hi hp)
      rw[hpick]at h
      simp only[YX,hs,hys]at h
      cases hpn:WZ run o' e1 σ1 with
      |none=>rw[hpn]at h;exact(Km h).elim
      |some y=>
       obtain⟨x,σ2⟩:=y
       rw[hpn]at h
       obtain⟨rfl,rfl⟩:=ur h
       exact conv (kY hrun hcI hE1 hp1.rel (hp1.dom hD) hpn (fun W' ι' u hu hp=>hQ a1 W' ι' _ ⟨u,rfl,hu⟩ (fun h=>absurd rfl (h x)) (hp1.trans hD hp) hd1))
  have hR':RelW ι σ W.drew:=hR.toDrew;refine main ops.size _ a _ ι e σ (by simp) ?_ hall hE ?_ rfl
  ·have:∀ n,unl (fun i=>(Array.replicate ops.size false).getD i false) n<=n:=by
    intro n;induction n with
    |zero=>exact Zcs _
    |succ n ih=>
     simp only[unl];split <;> omega
   exact this _
  exact((QPost.refl hR').ofDrew).post
 simp at hx
abbrev mkD(D:Nat):Deferred:={ target:=.collected D,args:=#[] }
def Marks(B:Nat)(ι:Inj)(W:World)(Ds:List Nat):Prop:=Ds.Nodup∧∀ D∈Ds,B≤D∧W.heap[D]? = some (.deferred (some []))∧∀ b p,ι b=some p→p.c≠D
def KO{B:Nat}{ι:Inj}{W:World}{ds ds':List Deferred}(h:ds'=ds):∃ Ds,ds'=Ds.map mkD++ds/\Marks B ι W Ds:=⟨[],h,List.nodup_nil,fun _ h=>by cases h⟩
def Marks.lt{B:Nat}{ι:Inj}{W:World}{Ds:List Nat}(h:Marks B ι W Ds){D:Nat}(hD:D∈Ds):D<W.heap.size:=(Array.getElem?_eq_some_iff.1 (h.2 D hD).2.1).1
def Marks.post[Bas]{B:Nat}{ι ι':Inj}{σ σ':Heap}{W W':World}{Ds:List Nat}(h:Marks B ι W Ds)(hp:Post ι σ W ι' σ' W'):Marks B ι' W' Ds:=by
 refine⟨h.1,fun D hD=>?_⟩;obtain⟨h1,h2,h3⟩:=h.2 D hD;refine⟨h1,(hp.frame D (h.lt hD) fun b p hb _=>h3 b p hb).trans h2,fun b p hb=>?_⟩
 cases hn:ι b with
 |some q=>
  have:=hp.ext b q hn;rw[hb]at this;injection this with this
  subst this;exact h3 b p hn
 |none=>
  rcases(hp.fresh b p hb hn).2 with hf|⟨b0,p0,h0,_,e⟩
  ·have:=h.lt hD;omega
  rw[<-e];exact h3 b0 p0 h0
def Marks.two[Bas]{B:Nat}{ι ι':Inj}{σ σ':Heap}{W W':World}{Ds Ds':List Nat}(h:Marks B ι W Ds)(hB:B<=W.heap.size)(hp:Post ι σ W ι' σ' W')(h':Marks W.heap.size ι' W' Ds'):Marks B ι' W' (Ds'++Ds):=by
 have k:=h.post hp;refine⟨List.nodup_append.2 ⟨h'.1,h.1,fun x hx y hy e=>?_⟩,fun D hD=>?_⟩
 ·have:=(h'.2 x hx).1;have:=h.lt hy;omega
 rcases Zcg.1 hD with hD|hD
 ·obtain⟨h1,h2⟩:=h'.2 D hD;exact⟨Zcq hB h1,h2⟩
 exact k.2 D hD
def ja[Bas]{ι ι1 ι2:Inj}{σ σ1 σ2:Heap}{W W1 W2:World}{d d1 d2:List Deferred}(h1:∃ Ds,d1=Ds.map mkD++d/\Marks W.heap.size ι1 W1 Ds)(hp1:Post ι σ W ι1 σ1 W1)(hp2:Post ι1 σ1 W1 ι2 σ2 W2)(h2:∃ Ds,d2=Ds.map mkD++d1/\Marks W1.heap.size ι2 W2 Ds) :
  ∃ Ds,d2=Ds.map mkD++d/\Marks W.heap.size ι2 W2 Ds:=by
 obtain⟨A,rfl,hA⟩:=h1
 obtain⟨B,rfl,hB⟩:=h2
 exact⟨B++A,by rw[List.map_append,Zb5],hA.two hp1.same.size hp2 hB⟩
def r5[Bas]{ι:Inj}{σ:Heap}{W:World}(hR:RelW ι σ W)(o:Obj):QPost ι σ W ι σ (W.alloc o) :=
 ⟨⟨rfl,rfl,rfl,by simp⟩,.refl ι,⟨fun b p h=>Zb3 (hR.lt b p h) (by simp),fun b p x h hx=>(hR.blk b p x h hx).keep (.refl ι) (Vs W o _ (hR.lt b p h)),hR.sep,hR.gap,Zcq hR.bsz (by simp),fun c hc=>(Vs W o c (Zb3 hc hR.bsz)).trans (hR.bas c hc)⟩,⟨[],by simp⟩,fun c hc=>Vs W o c hc,fun b p h hn=>by rw[h]at hn;cases hn⟩
def rZ[Bas]{P:Program}{run:Runner}{F:Fence}{fd:Nat}(hF:Open F)(hrun:WD P run)(hro:F.round=none){g:Operand}{g':O}(hg:opd g=some g'){ps:Array Tmp}{asg body:Code}{k:Nat}{ι:Inj}{σ:Heap}{W:World}{e:Env}{a:Act}{ex:Ex}{e':Env}{σ':Heap}
  (hE:EnvR ι e a.tmps) (hR:RelW ι σ W) (hD:Dom ι σ) (hx:Qb run g' k ⟨ps,asg,body⟩ e σ=some (ex,e',σ')) {Q:Exit->Act->World->Prop}
  (hQ:∀ a' W' ι' y,ExR ι' ex y->((∀ x,ex≠.panic x)->EnvR ι' e' a'.tmps)->Post ι σ W ι' σ' W'->(∃ Ds,a'.defers=Ds.map mkD++a.defers/\Marks W.heap.size ι' W' Ds)->Q y a' W'):(Code.rangeFunc g ps asg body).wpIn F fd P Q a W:=by
 unfold Qb at hx
 have rg:=Y9 hg hE
 split at hx
 ·rename_i gf caps hgv;rw[hgv]at rg;simp only[VR]at rg;obtain⟨cs,hcs,hcv⟩:=rg;split at hx
  ·rename_i r hcall;obtain⟨v,σ3⟩:=r;have hnone:ι σ.length=none:=by
    cases q:ι σ.length with
    |none=>rfl
    |some r=>exact absurd (hD _ _ q) (Nat.lt_irrefl _)
   refine wpIn_rangeFunc fun fn _=>?_
   have q1:=r5 hR (.deferred (some []));let rec0:Loop:={ state:=.ready,pending:=none,fn,tmps:=a.tmps,params:=ps,assign:=asg,body,defers:=W.heap.size }
   let p:Am.Place:=⟨W.heap.size+1,0,0,0,0⟩
   have hsz1:(W.alloc (.deferred (some []))).heap.size=W.heap.size+1:=by simp
   have hl2:((W.alloc (.deferred (some []))).alloc (.loop rec0)).heap[W.heap.size+1]? = some (.loop rec0):=by
    have:=WN (W.alloc (.deferred (some []))) (.loop rec0);rwa [hsz1]at this
   have q2:=TC q1.rel hnone (.loop rec0) (.lp k ⟨ps,asg,body⟩ e 0) p hsz1.symm ⟨rec0,hl2,VRL.ext (Inj.put_ext _ hnone) _ _ hE,rfl,rfl,rfl,rfl,rfl⟩;have hD2:=q2.post.dom (q1.post.dom hD);obtain⟨⟨fnn,hf1,hf2,hf3⟩,hcalls⟩:=jD hrun hcall (as:=.func (.yield (W.heap.size+1)) #[] #[]::cs) q2.rel hD2 ⟨_,_,rfl,⟨p,Inj.put_same _ _ _,rfl⟩,VRL.ext (Inj.put_ext _ hnone) _ _ hcv⟩;have hb:fnn.body≠none:=fun e=>by rw[e]at hf2;simp at hf2
   refine⟨W.heap.size+1,[mkD W.heap.size],(W.alloc (.deferred (some []))).alloc (.loop rec0),{ target:=.fn (.func gf) cs.toArray,args:=#[.func (.yield (W.heap.size+1)) #[] #[]] },(W.alloc (.deferred (some []))).alloc (.loop rec0),gf,(.func (.yield (W.heap.size+1)) #[] #[]::cs).toArray,(W.alloc (.deferred (some []))).alloc (.loop rec0),?_,?_,fun f _=>hF.fn f,?_,fun h=>(by rw[hF.depth]at h;cases h),hF.calls (hcalls.mono ?_)⟩
   ·rw[hro];exact run_enterLoop_outer _ _ _ _ _
   ·simp[resolve,hcs,Deferred.ofValue];rfl
   ·simp[invoke,callFunc,hf1];rw[Zcz hf3,Zcz hb]
   rintro en W3 ⟨ι3,v',rfl,_,hp3⟩;have hD3:=hp3.dom hD2;have hi3:ι3 σ.length=some p:=hp3.ext _ _ (Inj.put_same _ _ _);have m2:Marks W.heap.size (ι.put σ.length p) ((W.alloc (.deferred (some []))).alloc (.loop rec0)) [W.heap.size]:=by
    refine⟨by simp,fun D hD=>?_⟩;obtain rfl:D=W.heap.size:=by simpa using hD
    refine⟨Zcs _,?_,fun b q hb=>?_⟩
    ·rw[Vs _ _ _ (by rw[hsz1];omega)];exact WN W _
    unfold Inj.put at hb;split at hb
    ·injection hb with hb
     subst hb;show W.heap.size+1≠W.heap.size;omega
    exact Nat.ne_of_lt (hR.lt b q hb)
   have m3:=m2.post hp3;have fin:∀ {kk:Nat} {rd:RD} {caps':List V} {st:Nat},σ3[σ.length]? = some (.lp kk rd caps' st)->st≠1->∃ r3 W4,(Instr.endLoop (W.heap.size+1)).run P W3=.ok r3.pending W4/\stOK st r3/\Post ι σ W ι3 (wf σ3 σ.length) W4/\Marks W.heap.size ι3 W4 [W.heap.size]:=by
    intro kk rd caps' st hb hst;obtain⟨r3,hl3,_,_,_,_,hok⟩:=hp3.rel.blk _ _ _ hi3 hb;have hbusy:r3.state≠.busy:=by
     intro hbz;match st,hst,hok with
     |0,_,hok=>rw[hok.1]at hbz;cases hbz
     |2,_,hok=>rw[hok.1]at hbz;cases hbz
     |j+3,_,hok=>rw[hok.1]at hbz;cases hbz
    have hp4:Post ι3 σ3 W3 ι3 (wf σ3 σ.length) (W3.putObj (W.heap.size+1) (.loop { r3 with state:=.exhausted })) :=
     Qw hp3.rel hi3 hb rfl ⟨rfl,rfl,rfl,by simp⟩ (fun c hne=>World.putObj_heap_other hne) trivial
    exact⟨r3,_,run_endLoop hl3 hbusy,hok,(q1.post.trans hD (q2.post.trans (q1.post.dom hD) hp3)).trans hD hp4,m3.post hp4⟩
   split at hx
   ·rename_i _ _ _ hb;obtain⟨r3,W4,hend,hok,hp4,m4⟩:=fin hb (by decide);injection hx with hx
    simp only[Zcn]at hx;obtain⟨rfl,rfl,rfl⟩:=hx;refine⟨r3.pending,W4,hend,?_⟩;rw[hok.2];exact hQ _ W4 ι3 .normal rfl (fun _=>hE.ext hp4.ext) hp4 ⟨[W.heap.size],rfl,m4⟩
   ·rename_i _ _ _ hb;obtain⟨r3,W4,hend,hok,hp4,m4⟩:=fin hb (by decide);injection hx with hx
    simp only[Zcn]at hx;obtain⟨rfl,rfl,rfl⟩:=hx;refine⟨r3.pending,W4,hend,?_⟩;rw[hok.2];exact wpIn_ret (hQ _ W4 ι3 .ret rfl (fun _=>hE.ext hp4.ext) hp4 ⟨[W.heap.size],rfl,m4⟩)
   ·rename_i _ _ _ j hb;obtain⟨r3,W4,hend,hok,hp4,m4⟩:=fin hb (by omega);injection hx with hx
    simp only[Zcn]at hx;obtain⟨rfl,rfl,rfl⟩:=hx;refine⟨r3.pending,W4,hend,?_⟩;rw[hok.2];exact wpIn_exit (hQ _ W4 ι3 (.exit j) rfl (fun _=>hE.ext hp4.ext) hp4 ⟨[W.heap.size],rfl,m4⟩)
   cases hx
  cases hx
 cases hx
def Kp[Bas]{P:Program}{pc:Bool}{run:Runner}{F:Fence}{fd:Nat}(hF:Open F)(hrun:WD P run)(hy:wY P run)(hm:P.follows .mixedOrders=true):∀ (c:Code) (ac:AC),Wg P pc c=some ac->WC c=true->F.round=none\/WQ c=true->∀ (n:Nat) (ι:Inj) (σ:Heap) (W:World) (e:Env) (a:Act) (ex:Ex) (e':Env) (σ':Heap),
  EnvR ι e a.tmps->RelW ι σ W->Dom ι σ->Xh run n ac e σ=some (ex,e',σ')->∀ Q:Exit->Act->World->Prop,(∀ a w,¬ Q .outgrown a w) ->
  (∀ a' W' ι' y,ExR ι' ex y->((∀ x,ex≠.panic x)->EnvR ι' e' a'.tmps)->Post ι σ W ι' σ' W'->(∃ Ds,a'.defers=Ds.map mkD++a.defers/\Marks W.heap.size ι' W' Ds)->Q y a' W')->c.wpIn F fd P Q a W:=by
 intro c
 induction c with
 |skip=>
  intro ac hc hn hrf n ι σ W e a ex e' σ' hE hR hD hx Q hq hQ
  simp only[Wg,Zb4]at hc
  subst hc
  simp only[Xh,Zb4,Zcn]at hx
  obtain⟨rfl,rfl,rfl⟩:=hx
  exact wpIn_skip (hQ a W ι .normal rfl (fun _=>hE) (QPost.refl hR).post (KO rfl))
 |region id ops d=>
  intro ac hc hn hrf n ι σ W e a ex e' σ' hE hR hD hx Q hq hQ
  have hn:ops.toList.all opOK=true:=hn
  have hdl:∀ o∈ops.toList,∀ c,o.op≠.defer c:=fun o ho=>opOK_ne (Zcc.1 hn o ho)
  have hda:∀ (i:Nat) (o:Oper),ops[i]? = some o->∀ c,o.op≠.defer c:=fun i o ho=>hdl o (by rw[<-ZbS]at ho;exact List.mem_of_getElem? ho)
  cases d with
  |false=>
   simp only[Wg]at hc
   split at hc
   ·rename_i is hcl;injection hc with hc
    subst hc;simp only[Xh]at hx;exact wpIn_region_list (wW hF hrun hy hcl hdl hE hR hD hx fun a' W' ι' y h1 h2 h3 h4=>hQ a' W' ι' y h1 (fun _=>h2) h3 (KO h4))
   injection hc with hc
   subst hc
   simp[Xh]at hx
  |true=>
   cases pc with
   |true=>
    simp only[Wg,if_true]at hc
    split at hc
    ·rename_i l hcl;injection hc with hc
     subst hc;exact wpIn_region_any hm (parc_in hF hrun hy hcl hda hE hR hD hx fun a' W' ι' y h1 h2 h3 h4=>hQ a' W' ι' y h1 h2 h3 (KO h4))
    injection hc with hc
    subst hc
    simp[Xh]at hx
   |false=>
   simp only[Wg,Zb1,if_false]at hc
   split at hc
   ·rename_i is hcp;split at hc
    ·rename_i hok;simp only[Zca]at hok;injection hc with hc
     subst hc;simp only[Xh,ZbK]at hx;obtain⟨⟨e1,σ1⟩,ho,hx⟩:=hx;simp only[Zcn]at hx;obtain⟨rfl,rfl,rfl⟩:=hx;exact wpIn_region_any hm (DE hF hq hda _ (par_any hrun hcp hok.1 hok.2 hE hR hD ho (fun a' W' ι' h1 h2 h3=>hQ a' W' ι' .normal rfl (fun _=>h1) h2 (KO h3))))
    injection hc with hc
    subst hc;simp[Xh]at hx
   injection hc with hc
   subst hc
   simp[Xh]at hx
 |seq x y ihx ihy=>
  intro ac hc hn hrf n ι σ W e a ex e' σ' hE hR hD hx Q hq hQ
  have hn:(WC x&&WC y)=true:=hn
  obtain⟨hn1,hn2⟩:=Bool.and_eq_true_iff.1 hn
  have hr1:F.round=none\/WQ x=true:=hrf.imp id fun h=>(Bool.and_eq_true_iff.1 (show(WQ x&&WQ y)=true from h)).1
  have hr2:F.round=none\/WQ y=true:=hrf.imp id fun h=>(Bool.and_eq_true_iff.1 (show(WQ x&&WQ y)=true from h)).2
  simp only[Wg]at hc
  split at hc
  ·rename_i x' y' h1 h2;injection hc with hc
   subst hc;simp only[Xh]at hx;unfold Ex.then at hx
   split at hx
   ·rename_i e1 σ1 hx1;refine wpIn_seq (ihx x' h1 hn1 hr1 n ι σ W e a .normal e1 σ1 hE hR hD hx1 _ (fun a w h=>hq a w h) (fun a1 W1 ι1 y hy hE1 hp1 hd1=>?_));simp only[ExR]at hy;subst hy;exact ihy y' h2 hn2 hr2 n ι1 σ1 W1 e1 a1 ex e' σ' (hE1 (fun x h=>by cases h)) hp1.rel (hp1.dom hD) hx Q hq (fun a2 W2 ι2 y hy hE2 hp2 hd2=>hQ a2 W2 ι2 y hy hE2 (hp1.trans hD hp2) (ja hd1 hp1 hp2 hd2))
   rename_i hne;refine wpIn_seq (ihx x' h1 hn1 hr1 n ι σ W e a ex e' σ' hE hR hD hx _ (fun a w h=>hq a w h) (fun a1 W1 ι1 y hy hE1 hp1 hd1=>?_));have:=hQ a1 W1 ι1 y hy hE1 hp1 hd1
   cases ex with
   |normal=>exact absurd hx (hne e' σ')
   |exit j=>simp only[ExR]at hy;subst hy;exact this
   |ret=>simp only[ExR]at hy;subst hy;exact this
   |panic v=>simp only[ExR]at hy;obtain⟨u,rfl,_⟩:=hy;exact this
  simp at hc
 |cond cd x y ihx ihy=>
  intro ac hc hn hrf n ι σ W e a ex e' σ' hE hR hD hx Q hq hQ
  have hn:(WC x&&WC y)=true:=hn
  obtain⟨hn1,hn2⟩:=Bool.and_eq_true_iff.1 hn
  have hr1:F.round=none\/WQ x=true:=hrf.imp id fun h=>(Bool.and_eq_true_iff.1 (show(WQ x&&WQ y)=true from h)).1
  have hr2:F.round=none\/WQ y=true:=hrf.imp id fun h=>(Bool.and_eq_true_iff.1 (show(WQ x&&WQ y)=true from h)).2
  simp only[Wg]at hc
  split at hc
  ·rename_i c' x' y' h0 h1 h2;injection hc with hc
   subst hc;simp only[Xh]at hx;have r:=Y9 h0 hE;split at hx
   ·rename_i t ht;rw[ht]at r;simp only[VR,S.val]at r;refine wpIn_cond r ?_
    cases t
    ·exact ihy y' h2 hn2 hr2 n ι σ W e a ex e' σ' hE hR hD hx Q hq hQ
    exact ihx x' h1 hn1 hr1 n ι σ W e a ex e' σ' hE hR hD hx Q hq hQ
   simp at hx
  ·injection hc with hc
   subst hc;simp[Xh]at hx
  simp at hc
 |block id b ih=>
  intro ac hc hn hrf n ι σ W e a ex e' σ' hE hR hD hx Q hq hQ
  have hn:WC b=true:=hn
  simp only[Wg,ZbK]at hc
  obtain⟨b',hb,rfl⟩:=hc
  simp only[Xh]at hx
  refine wpIn_block ?_
  have hqb:∀ a w,¬ Exit.inBlock id Q .outgrown a w:=fun a w h=>hq a w h
  split at hx
  ·rename_i j e1 σ1 hx1
   cases hj:j==id
   ·rw[hj]at hx;simp only[cond_false,Zb4,Zcn]at hx;obtain⟨rfl,rfl,rfl⟩:=hx;refine ih b' hb hn hrf n ι σ W e a _ _ _ hE hR hD hx1 _ hqb (fun a1 W1 ι1 y hy hE1 hp1 hd1=>?_);have hji:¬ j=id:=by simpa using hj
    simp only[ExR]at hy;subst hy;simp only[Exit.inBlock,hji,if_false];exact hQ a1 W1 ι1 _ rfl (fun _=>hE1 (fun x h=>by cases h)) hp1 hd1
   rw[hj]at hx;simp only[cond_true,Zb4,Zcn]at hx;obtain⟨rfl,rfl,rfl⟩:=hx;refine ih b' hb hn hrf n ι σ W e a _ _ _ hE hR hD hx1 _ hqb (fun a1 W1 ι1 y hy hE1 hp1 hd1=>?_);have hji:j=id:=by simpa using hj
   simp only[ExR]at hy;subst hy;simp only[Exit.inBlock,hji,if_true];exact hQ a1 W1 ι1 _ rfl (fun _=>hE1 (fun x h=>by cases h)) hp1 hd1
  rename_i hne
  refine ih b' hb hn hrf n ι σ W e a ex e' σ' hE hR hD hx _ hqb (fun a1 W1 ι1 y hy hE1 hp1 hd1=>?_)
  have:=hQ a1 W1 ι1 y hy hE1 hp1 hd1
  cases ex with
  |normal=>simp only[ExR]at hy;subst hy;exact this
  |exit j=>exact absurd hx (hne j e' σ')
  |ret=>simp only[ExR]at hy;subst hy;exact this
  |panic v=>simp only[ExR]at hy;obtain⟨u,rfl,_⟩:=hy;exact this
 |loop b ih=>
  intro ac hc hn hrf n ι σ W e a ex e' σ' hE hR hD hx Q hq hQ
  have hn:WC b=true:=hn
  simp only[Wg,ZbK]at hc
  obtain⟨b',hb,rfl⟩:=hc
  simp only[Xh]at hx
  refine wpIn_loop_rounds n ?_
  have key:∀ (k:Nat) (ι:Inj) (σ:Heap) (W:World) (e:Env) (a:Act),EnvR ι e a.tmps->RelW ι σ W->Dom ι σ->Qx (Xh run n b') k e σ=some (ex,e',σ') ->
    (∀ a' W' ι' y,ExR ι' ex y->((∀ x,ex≠.panic x)->EnvR ι' e' a'.tmps)->Post ι σ W ι' σ' W'->(∃ Ds,a'.defers=Ds.map mkD++a.defers/\Marks W.heap.size ι' W' Ds)->Q y a' W')->Code.roundsIn F fd P b Q k a W:=by
   intro k
   induction k with
   |zero=>intro ι σ W e a hE hR hD hx hQ;simp[Qx]at hx
   |succ k ihk=>
    intro ι σ W e a hE hR hD hx hQ
    rw[roundsIn_succ]
    simp only[Qx]at hx
    unfold Ex.then at hx
    split at hx
    ·rename_i e1 σ1 hx1;refine ih b' hb hn hrf n ι σ W e a .normal e1 σ1 hE hR hD hx1 _ (fun a w h=>hq a w h) (fun a1 W1 ι1 y hy hE1 hp1 hd1=>?_);simp only[ExR]at hy;subst hy;exact ihk ι1 σ1 W1 e1 a1 (hE1 (fun x h=>by cases h)) hp1.rel (hp1.dom hD) hx (fun a2 W2 ι2 y hy hE2 hp2 hd2=>hQ a2 W2 ι2 y hy hE2 (hp1.trans hD hp2) (ja hd1 hp1 hp2 hd2))
    rename_i hne
    refine ih b' hb hn hrf n ι σ W e a ex e' σ' hE hR hD hx _ (fun a w h=>hq a w h) (fun a1 W1 ι1 y hy hE1 hp1 hd1=>?_)
    have:=hQ a1 W1 ι1 y hy hE1 hp1 hd1
    cases ex with
    |normal=>exact absurd hx (hne e' σ')
    |exit j=>simp only[ExR]at hy;subst hy;exact this
    |ret=>simp only[ExR]at hy;subst hy;exact this
    |panic v=>simp only[ExR]at hy;obtain⟨u,rfl,_⟩:=hy;exact this
  exact key n ι σ W e a hE hR hD hx hQ
 |rangeFunc g ps asg body=>
  intro ac hc hn hrf n ι σ W e a ex e' σ' hE hR hD hx Q hq hQ
  have hro:F.round=none:=hrf.resolve_right (by simp[WQ])
  simp only[Wg]at hc
  split at hc
  ·rename_i g' hg;injection hc with hc
   subst hc;simp only[Xh]at hx;exact rZ hF hrun hro hg hE hR hD hx hQ
  injection hc with hc
  subst hc
  simp[Xh]at hx
 |exit id=>
  intro ac hc hn hrf n ι σ W e a ex e' σ' hE hR hD hx Q hq hQ
  simp only[Wg,Zb4]at hc
  subst hc
  simp only[Xh,Zb4,Zcn]at hx
  obtain⟨rfl,rfl,rfl⟩:=hx
  exact wpIn_exit (hQ a W ι _ rfl (fun _=>hE) (QPost.refl hR).post (KO rfl))
 |ret=>
  intro ac hc hn hrf n ι σ W e a ex e' σ' hE hR hD hx Q hq hQ
  simp only[Wg,Zb4]at hc
  subst hc
  simp only[Xh,Zb4,Zcn]at hx
  obtain⟨rfl,rfl,rfl⟩:=hx
  exact wpIn_ret (hQ a W ι _ rfl (fun _=>hE) (QPost.refl hR).post (KO rfl))
 |_=>
  intro ac hc hn hrf n ι σ W e a ex e' σ' hE hR hD hx
  simp only[Wg,Zb4]at hc
  subst hc
  simp[Xh]at hx
end Go.Am
namespace Go.Am
open Go
def DY(tmps:Array Value):ResultVar->Sem Value
 |.tmp t=>Pure.pure (tmps.getD t Go.undef)
 |.cell a t=>do loadVar t (<- asAddr (tmps.getD a Go.undef))
def sx(fn:Func)(tmps:Array Value):results fn tmps=(do
  let vs <- fn.results.mapM (DY tmps)
  Pure.pure (if h:vs.size=1 then vs[0] else .tuple vs)):=by
 unfold results
 congr
def DS[Bas]{P:Program}{ι:Inj}{σ:Heap}{W:World}{e:Env}{a:Act}(hE:EnvR ι e a.tmps)(hR:RelW ι σ W):∀ {l:List ResultVar} {rs:List Rv} {xs:List V},RO P l=some rs->Ru e σ rs=some xs ->
  ∃ vs:List Value,VRL ι xs vs/\(l.mapM (DY a.tmps)).run P W=.ok vs W
 |[],rs,xs,hc,hx=>by
  simp only[RO,Zb4]at hc;subst hc;simp only[Ru,Zb4]at hx;subst hx;exact⟨[],rfl,rfl⟩
 |.tmp t::l,rs,xs,hc,hx=>by
  simp only[RO,ZbK]at hc;obtain⟨r,hr,rfl⟩:=hc;simp only[Ru,wD]at hx;split at hx
  ·rename_i x y h1 h2;injection hx with hx
   subst hx;injection h1 with h1
   subst h1;obtain⟨vs,hv,hrun⟩:=DS hE hR hr h2;refine⟨a.tmps.getD t Go.undef::vs,⟨_,_,rfl,hE.get t,hv⟩,?_⟩;simp only[List.mapM_cons,Sem.run_bind,DY,Sem.run_pure,Result.andThen_ok,hrun]
  simp at hx
 |.cell x t::l,rs,xs,hc,hx=>by
  simp only[RO]at hc;split at hc
  ·rename_i g n r h1 h2 h3;split at hc
   ·rename_i hg;injection hc with hc
    subst hc;simp only[Ru,wD]at hx;split at hx
    ·rename_i y ys h4 h5;injection hx with hx
     subst hx;have rx:=hE.get x;split at h4
     ·rename_i b off z hb;rw[hb]at rx;simp only[VR]at rx;obtain⟨p,hp,hl,rx⟩:=rx;split at h4
      ·rename_i hle;obtain⟨v,hv,hload⟩:=zT h1 h2 hg hR hp (o:=off) (by omega) h4;obtain⟨vs,hvs,hrun⟩:=DS hE hR h3 h5;refine⟨v::vs,⟨_,_,rfl,hv,hvs⟩,?_⟩;have hone:(DY a.tmps (.cell x t)).run P W=.ok v W:=by simp only[DY,rx,asAddr,Sem.run_bind,Sem.run_pure,Result.andThen_ok,hload]
       simp only[List.mapM_cons,Sem.run_bind,hone,Sem.run_pure,Result.andThen_ok,hrun]
      simp at h4
     simp at h4
    simp at hx
   simp at hc
  simp at hc
def jm[Bas]{P:Program}{ι:Inj}{σ:Heap}{W:World}{e:Env}{a:Act}(hE:EnvR ι e a.tmps)(hR:RelW ι σ W){fn:Func}{rs:List Rv}{x:V}(hc:RO P fn.results.toList=some rs)(hx:Eg e σ rs=some x) :
  ∃ v,VR ι x v/\(results fn a.tmps).run P W=.ok v W:=by
 unfold Eg at hx
 have main:∀ xs,Ru e σ rs=some xs->∃ vs:List Value,VRL ι xs vs/\(results fn a.tmps).run P W=.ok (if h:vs.toArray.size=1 then vs.toArray[0] else .tuple vs.toArray) W:=by
  intro xs h;obtain⟨vs,h1,h2⟩:=DS hE hR hc h;refine⟨vs,h1,?_⟩;rw[sx,Array.mapM_eq_mapM_toList];simp only[Sem.run_bind,Sem.run_map,h2,Result.andThen_ok,Sem.run_pure]
 split at hx
 ·rename_i y h;injection hx with hx
  subst hx;obtain⟨vs,h1,h2⟩:=main _ h;simp only[VRL]at h1;obtain⟨v,r,rfl,hv,hr⟩:=h1;subst hr;exact⟨v,hv,by simpa using h2⟩
 ·rename_i l hne h;injection hx with hx
  subst hx;obtain⟨vs,h1,h2⟩:=main _ h;have hl:=VRL.length h1;refine⟨.tuple vs.toArray,⟨vs,rfl,h1⟩,?_⟩;rw[h2,dif_neg];simp only[List.size_toArray];intro h1';rw[h1']at hl;match l,hl,hne with
  |[y],_,hne=>exact hne y rfl
 simp at hx
def jp(P:Program)(A:AP):Prop:=∀ f a,A.fns f=some a->∃ fn pc,P.funcs[f]? = some fn/\jw P pc fn=some a
def xV(P:Program)(A:AP):Prop:=∀ k B,A.bods k=some B->B.rd.ps.toList=B.ps/\Wg P false B.rd.asg=some B.asg/\Wg P false B.rd.body=some B.body/\WC B.rd.asg=true/\WC B.rd.body=true/\WQ B.rd.asg=true/\WQ B.rd.body=true
def zD[Bas](P:Program)(A:AP):Prop:=∀ f pf,A.prims f=some pf->∀ (args:List V) (σ:Heap) (v:V) (σ':Heap),pf args σ=some (v,σ') ->
 (∃ fn,P.funcs[f]? = some fn ∧ fn.body.isSome = true ∧ fn.name ≠ "runtime.NumGoroutine") ∧
 ∀ (ι:Inj) (W:World) (as:List Value),RelW ι σ W->Dom ι σ->VRL ι args as ->
  Calls P f as.toArray W fun e W'=>∃ ι' v',e=.returned v'/\VR ι' v v'/\Post ι σ W ι' σ' W'
def VRL.undefs{ι:Inj}:∀ n,VRL ι (List.replicate n .undef) (List.replicate n Go.undef)
 |0=>rfl
 |n+1=>⟨_,_,rfl,trivial,VRL.undefs n⟩
def rel_put[Bas]{ι:Inj}{σ:Heap}{W:World}(hR:RelW ι σ W){D:Nat}(o:Obj)(hD:∀ b p,ι b=some p->p.c≠D)(hB:Bas.w.heap.size<=D):RelW ι σ (W.putObj D o) :=
 ⟨fun b p h=>by rw[World.putObj_size];exact hR.lt b p h,fun b p x h hx=>(hR.blk b p x h hx).keep (.refl ι) (World.putObj_heap_other (hD b p h)),hR.sep,hR.gap,by rw[World.putObj_size];exact hR.bsz,fun c hc=>(World.putObj_heap_other (by omega)).trans (hR.bas c hc)⟩
def Tn[Bas]{P:Program}{n:Nat}{fn:Func}{tmps:Array Value}{R:Ending->World->Prop}{u:FrameMode}{ι0 ι:Inj}{σ0 σ:Heap}{W0:World}(hu:u≠.run)(hb:Bas.w.heap.size<=W0.heap.size)
  (hfin:∀ W',Post ι0 σ0 W0 ι σ W'->LeavesIn Fence.wide n P fn tmps R [] u W'):∀ (Ds:List Nat) (W:World),Marks W0.heap.size ι W Ds->Post ι0 σ0 W0 ι σ W->LeavesInM Fence.wide n P fn tmps R (Ds.map mkD) u W
 |[],W,_,hP=>hfin W hP
 |D::Ds,W,hM,hP=>by
  obtain⟨hnd,hall⟩:=hM;obtain⟨h1,h2,h3⟩:=hall D (.head _);have hnd':=List.nodup_cons.1 hnd;refine⟨hu,.inl ⟨D,W.putObj D (.deferred none),rfl,run_takeDeferred h2,Tn hu hb hfin Ds _ ⟨hnd'.2,fun E hE=>?_⟩ ?_⟩⟩
  ·obtain⟨k1,k2,k3⟩:=hall E (.tail _ hE);exact⟨k1,(World.putObj_heap_other (fun e=>hnd'.1 (by rw[<-e];exact hE))).trans k2,k3⟩
  exact⟨⟨hP.same.os,hP.same.tape,hP.same.output,by rw[World.putObj_size];exact hP.same.size⟩,hP.ext,rel_put hP.rel _ h3 (by omega),hP.len,fun c hc hf=>(World.putObj_heap_other (by omega)).trans (hP.frame c hc hf),hP.fresh,hP.mono,hP.lives⟩
def u2{ι:Inj}:∀ {ps:List Tmp} {xs:List V} {vs:List Value} {e:Env} {t:Array Value},VRL ι xs vs->EnvR ι e t->EnvR ι (EH e ps xs) ((ps.zip vs).foldl (fun tmps (p:Tmp×Value)=>tmps.setIfInBounds p.1 p.2) t)
 |[],xs,vs,e,t,_,hE=>by
  have:EH e [] xs=e:=by cases xs <;> rfl
  rw[this];exact hE
 |p::ps,[],vs,e,t,hx,hE=>by
  simp only[VRL]at hx;subst hx;exact hE
 |p::ps,x::xs,vs,e,t,hx,hE=>by
  simp only[VRL]at hx;obtain⟨v,r,rfl,hv,hr⟩:=hx;have:=EnvR.put (a:=⟨t,[]⟩) hE (some p) hv;show EnvR ι (EH (e.set p x) ps xs) ((ps.zip r).foldl (fun tmps (p:Tmp×Value)=>tmps.setIfInBounds p.1 p.2) (t.setIfInBounds p v));exact u2 (ps:=ps) (xs:=xs) (vs:=r) hr this
def qr[Bas]{P:Program}{A:AP}(hA:jp P A)(hB:xV P A)(hp:zD P A)(hm:P.follows .mixedOrders=true):∀ n,WD P (XQ A n)/\wY P (XQ A n)
  |0=>⟨fun f args σ v σ' h=>by simp[XQ]at h,fun k b l σ v σ' h=>by simp[XQ]at h⟩
  |n + 1=> by
    obtain⟨ih1,ih2⟩:=qr hA hB hp hm n;refine⟨?_,?_⟩
    · intro f args σ v σ' h hmk;simp only[XQ,hmk,cond_false]at h;split at h
      · rename_i pf hpf;obtain⟨h1,h2⟩:=hp f pf hpf args σ v σ' h;refine⟨h1,fun ι W as hR hD hv=>(h2 ι W as hR hD hv).mono ?_⟩;rintro e W' ⟨ι',u,rfl,hu,hp⟩;exact⟨ι',EndR.of hu,hp⟩
      split at h
      · rename_i a ha;obtain⟨fn,pc,hfn,hcf⟩:=hA f a ha;unfold jw at hcf;split at hcf
        · rename_i c hbody;split at hcf
          · rename_i b r hb hr;split at hcf
            · simp at hcf
            rename_i hname;injection hcf with hcf
            subst hcf;have hnd:WC c=true:=by
              cases hn:WC c with
              |true=>rfl
              |false=>exact absurd (.inr hn) hname
            refine⟨⟨fn,hfn,by rw[hbody];rfl,fun e=>hname (.inl e)⟩,fun ι W as hR hD hv=>?_⟩;have hlen:=VRL.length hv;have hE:EnvR ι (K4 ⟨fn.ntmps,r,b⟩ args) (as.toArray++Array.replicate (fn.ntmps-as.toArray.size) Go.undef):=by
              unfold EnvR K4;rw[Array.toList_append,Array.toList_replicate];simp only[List.size_toArray,hlen];exact VRL.append hv (VRL.undefs _)
            unfold QB at h;split at h
            · simp at h
            · rename_i x e' σ1 hx;injection h with h
              injection h with h1 h2
              subst h1;subst h2;refine callsIn_wide.1 (callsIn_of_wp_marks (n:=0) hfn hbody trivial (wpIn_mono (Q:=fun y a' W'=>∃ Ds ι' u,y=.panic (Dt u)/\VR ι' x u/\Post ι σ W ι' σ1 W'/\a'.defers=Ds.map mkD/\Marks W.heap.size ι' W' Ds) (Kp open_wide ih1 ih2 hm c b hb hnd (.inl rfl) n ι σ W _ ⟨_,[]⟩ (.panic x) e' σ1 hE hR hD hx _ (fun a w h=>by obtain⟨_,_,_,h,_⟩:=h;cases h) (fun a' W' ι' y hy hE' hp' hd'=>?_)) ?_) rfl)
              · obtain⟨u,rfl,hu⟩ := hy;obtain⟨Ds,hd,hM⟩:=hd';exact⟨Ds,ι',u,rfl,hu,hp',by rw[hd,Zcf],hM⟩
              rintro y a' W' ⟨Ds,ι',u,rfl,hu,hp',hd,hM⟩;have key:LeavesInM Fence.wide 0 P fn a'.tmps (fun e W'=>∃ ι',EndR ι' (.pan x) e/\Post ι σ W ι' σ1 W') a'.defers (.panicking (Dt u)) W':=by
                rw[hd];refine Tn (by simp) hR.bsz (fun W2 hp2=>?_) Ds W' hM hp';show ∃ ι',EndR ι' (.pan x) (.panicked (Dt u))/\Post ι σ W ι' σ1 W2;exact⟨ι',⟨u,rfl,hu⟩,hp2⟩
              exact key
            · rename_i ex e' σ1 hne hnp hx;simp only[ZbK]at h;obtain⟨y,hy,h⟩:=h;injection h with h1 h2
              subst h1;subst h2;refine callsIn_wide.1 (callsIn_of_wp_marks (n:=0) hfn hbody trivial (wpIn_mono (Q:=fun z a' W'=>∃ Ds ι',(z=.normal\/z=.ret)/\EnvR ι' e' a'.tmps/\Post ι σ W ι' σ1 W'/\a'.defers=Ds.map mkD/\Marks W.heap.size ι' W' Ds) (Kp open_wide ih1 ih2 hm c b hb hnd (.inl rfl) n ι σ W _ ⟨_,[]⟩ ex e' σ1 hE hR hD hx _ (fun a w h=>by obtain⟨_,_,h,_⟩:=h;rcases h with h|h <;> cases h) (fun a' W' ι' z hz hE0 hp' hd'=>?_)) ?_) rfl)
              · obtain⟨Ds,hd,hM⟩ := hd';refine⟨Ds,ι',?_,hE0 hnp,hp',by rw[hd,Zcf],hM⟩
                cases ex with
                |normal=>simp only[ExR]at hz;exact .inl hz
                |exit j=>exact(hne j rfl).elim
                |ret=>simp only[ExR]at hz;exact .inr hz
                |panic x=>exact(hnp x rfl).elim
              rintro z a' W' ⟨Ds,ι',hz,hE',hp',hd,hM⟩;have key:LeavesInM Fence.wide 0 P fn a'.tmps (fun e W'=>∃ ι',EndR ι' y e/\Post ι σ W ι' σ1 W') a'.defers .returning W':=by
                rw[hd];refine Tn (by simp) hR.bsz (fun W2 hp2=>?_) Ds W' hM hp';obtain⟨rv,hrv,hres⟩:=jm hE' hp2.rel hr hy;exact⟨rv,hres,ι',EndR.of hrv,hp2⟩
              rcases hz with rfl|rfl
              · exact key
              exact key
            simp at h
          simp at hcf
        simp at hcf
      simp at h
    intro k b l σ v σ' h;simp only[XQ,U9,cond_true,List.tail_cons]at h;intro ι W lp xs hR hD hv m;simp only[VRL,VR]at hv;obtain⟨_,r0,e0,⟨p,hpb,hfv⟩,hxs⟩:=hv;injection e0 with e1 e2
    subst e1;subst e2;injection hfv with hfv
    injection hfv with hlp
    subst hlp;unfold wH at h;split at h
    · rename_i B b' xsv hBk harg;injection harg with g1 g2
      injection g1 with g1
      subst g1;subst g2;obtain⟨hps,hcA,hcB,hnA,hnB,hrA,hrB⟩:=hB k B hBk;split at h
      · rename_i k' rd caps hblk;split at h
        · rename_i hcond;obtain⟨_,hrd,hlenx⟩:=hcond;subst hrd;split at h
          · rename_i e1 σ1 hx1;split at h
            · rename_i k1 rd1 caps1 hblk1;split at h
              · rename_i ex e2 σ2 hx2;obtain⟨r,hr1,hr2,hr3,hr4,hr5,hr6⟩:=hR.blk b p _ hpb hblk;have hlx:=VRL.length hxs;refine⟨r.fn,_,r.assign,r.body,run_yield hr1 (by rw[hr3];have:=congrArg List.length hps;simp at this ⊢;omega),?_⟩;rw[hr4,hr5];refine roundIn_of_wpIn trivial ?_;have hE1:EnvR ι (EH caps B.ps l) ((r.params.zip xs.toArray).foldl (fun tmps (x:Tmp×Value)=>tmps.setIfInBounds x.1 x.2) r.tmps):=by
                  have:=u2 (ps:=B.ps) hxs hr2;rw[hr3,<-Array.foldl_toList,Array.toList_zip,hps];exact this
                refine Kp (xC p.c) ih1 ih2 hm B.rd.asg B.asg hcA hnA (.inr hrA) n ι σ W _ ⟨_,[]⟩ .normal e1 σ1 hE1 hR hD hx1 _ (fun a w h=>by exact h) (fun a1 W1 ι1 y hy hE2 hp1 _=>?_);simp only[ExR]at hy;subst hy;have hE2:=hE2 (fun x h=>by cases h);have hpb1:=hp1.ext b p hpb;obtain⟨r1,s1,s2,s3,s4,s5,s6⟩:=hp1.rel.blk b p _ hpb1 hblk1;have hp2:Post ι1 σ1 W1 ι1 (σ1.set b (.lp k1 rd1 caps1 1)) (W1.putObj p.c (.loop { r1 with state:=.busy })) :=
                  Qw hp1.rel hpb1 hblk1 rfl ⟨rfl,rfl,rfl,by simp⟩ (fun c hne=>World.putObj_heap_other hne) ⟨{ r1 with state:=.busy },World.putObj_heap_same (Array.getElem?_eq_some_iff.1 s1).1,s2,s3,s4,s5,rfl⟩
                have hD1:=hp1.dom hD;refine⟨_,run_beginRound s1 s6.1,?_⟩;refine Kp (xC p.c) ih1 ih2 hm B.rd.body B.body hcB hnB (.inr hrB) n ι1 _ _ e1 a1 ex e2 σ2 hE2 hp2.rel (hp2.dom hD1) hx2 _ (fun a w h=>by exact h) (fun a2 W3 ι3 y hy _ hp3 _=>?_);have hpb3:=hp3.ext b p hpb1;unfold yO at h;split at h
                · rename_i k2 rd2 caps2 hblk2;obtain⟨r3,t1,t2,t3,t4,t5,t6⟩:=hp3.rel.blk b p _ hpb3 hblk2;have hp03:=(hp1.trans hD hp2).trans hD hp3;have fin:∀ (j:Option Code) (st:Nat),stOK st { r3 with state:=if j.isNone then .ready else .done,pending:=j }->Post ι σ W ι3 (σ2.set b (.lp k2 rd2 caps2 st)) (W3.putObj p.c (.loop { r3 with state:=if j.isNone then .ready else .done,pending:=j })):=fun j st hst=>
                    hp03.trans hD (Qw hp3.rel hpb3 hblk2 rfl ⟨rfl,rfl,rfl,by simp⟩ (fun c hne=>World.putObj_heap_other hne) ⟨_,World.putObj_heap_same (Array.getElem?_eq_some_iff.1 t1).1,t2,t3,t4,t5,hst⟩)
                  cases ex with
                  |normal=>
                    simp only[ExR]at hy;subst hy;injection h with h
                    injection h with h1 h2
                    subst h1;subst h2;exact⟨_,_,run_endRound none t1,ι3,EndR.of rfl,fin none 0 ⟨rfl,rfl⟩⟩
                  |ret=>
                    simp only[ExR]at hy;subst hy;injection h with h
                    injection h with h1 h2
                    subst h1;subst h2;exact⟨_,_,run_endRound (some .ret) t1,ι3,EndR.of rfl,fin (some .ret) 2 ⟨rfl,rfl⟩⟩
                  |exit j=>
                    simp only[ExR]at hy;subst hy;injection h with h
                    injection h with h1 h2
                    subst h1;subst h2;exact⟨_,_,run_endRound (some (.exit j)) t1,ι3,EndR.of rfl,fin (some (.exit j)) (j+3) ⟨rfl,rfl⟩⟩
                  |panic x=>cases h
                cases h
              cases h
            cases h
          cases h
        cases h
      cases h
    cases h
def runF_ok[Bas]{P:Program}{A:AP}(hA:jp P A)(hB:xV P A)(hp:zD P A)(hm:P.follows .mixedOrders=true)(n:Nat):WD P (XQ A n):=(qr hA hB hp hm n).1
end Go.Am
namespace Go.Am
open Go
def LeR(r r':Runner):Prop:=∀ f as σ x,r f as σ=some x->r' f as σ=some x
def EZ{r r':Runner}(h:LeR r r'){q:Bool}{v:V}{args:List V}{σ:Heap}{x:V×Heap}(hx:Y5 r q v args σ=some x):Y5 r' q v args σ=some x:=by
 simp only[Y5,ZbI]at hx ⊢;obtain⟨t,ht,y,hy,z,hz,hx⟩:=hx;exact⟨t,ht,y,hy,z,h _ _ _ _ hz,hx⟩
def kX{r r':Runner}(h:LeR r r'){v:V}{args:List V}{σ:Heap}{x:V×Heap}(hx:Vh r v args σ=some x):Vh r' v args σ=some x:=by
 simp only[Vh,ZbI]at hx ⊢;obtain⟨t,ht,y,hy,z,hz,hx⟩:=hx;exact⟨t,ht,y,hy,z,h _ _ _ _ hz,hx⟩
def j7{r r':Runner}(h:LeR r r'){v:V}{args:List V}{σ:Heap}{x:V×Heap}(hx:Vh r v args σ=some x)(q:Bool)(hq:q=false):Y5 r' q v args σ=none:=by
 subst hq;simp only[Vh,ZbI]at hx;obtain⟨t,ht,y,hy,z,hz,hx⟩:=hx;simp only[Y5,ht,Option.bind_some,hy,h _ _ _ _ hz];obtain⟨z1,z2⟩:=z;simp only at hx ⊢;split at hx
 ·exact RQ
 simp at hx
def qE{r r':Runner}(h:LeR r r'){i:Ins}{e:Env}{σ:Heap}{x:V×Heap}(hx:Xr r i e σ=some x):Xr r' i e σ=some x:=by
 cases i with
 |p i=>exact hx
 |h i=>
  cases i with
  |call f as=>exact EZ h hx
  |callq f as=>exact EZ h hx
  |_=>exact hx
def x8{r r':Runner}(h:LeR r r'){o:I}{e:Env}{σ:Heap}{x:V×Heap}(hx:Y8 r o e σ=some x):Y8 r' o e σ=some x:=by
 obtain⟨dst,g,ins⟩:=o
 cases g with
 |none=>exact qE h hx
 |some p=>
  obtain⟨t,want⟩:=p;simp only[Y8]at hx ⊢;split at hx
  ·rename_i b hb
   cases hw:b==want
   ·rw[hw]at hx;exact hx
   rw[hw]at hx;exact qE h hx
  ·exact hx
  simp at hx
def JC{r r':Runner}(h:LeR r r'){o:I}{e:Env}{σ:Heap}{x:Env×Heap}(hx:XO r o e σ=some x):XO r' o e σ=some x:=by
 rw[Xs,ZbK]at hx ⊢;obtain⟨y,hy,hx⟩:=hx;exact⟨y,x8 h hy,hx⟩
def qQ{r r':Runner}(h:LeR r r'){o:I}{e:Env}{σ:Heap}{x:V×Heap}(hx:WZ r o e σ=some x):WZ r' o e σ=some x:=by
 unfold WZ at hx ⊢
 cases hc:XY o e with
 |false=>rw[hc]at hx;simp at hx
 |true=>
  rw[hc]at hx;simp only[cond_true]at hx ⊢;split at hx
  ·exact kX h hx
  ·exact hx
  simp at hx
def Ta{r r':Runner}(h:LeR r r'){o:I}{e:Env}{σ:Heap}{x:V×Heap}(hx:WZ r o e σ=some x):XO r' o e σ=none:=by
 have hins:∀ i:Ins,(match i with
  |.h (.call f args)=>Vh r (f.ev e) (args.map (·.ev e)) σ
  |.h (.pnc x)=>match x.ev e with
   |.iface t y=>some (.iface t y,σ)
   |_=>none
  |_=>none)=some x->Xr r' i e σ=none:=by
  intro i hi
  split at hi
  ·exact j7 h hi false rfl
  ·rfl
  simp at hi
 obtain⟨dst,g,ins⟩:=o
 cases g with
 |none=>
  unfold WZ XY at hx;simp only[cond_true]at hx;simp only[XO,hins ins hx,Option.map_none]
 |some p=>
  obtain⟨t,want⟩:=p;unfold WZ XY at hx;simp only[XO]at hx ⊢;generalize e.getD t .undef=u at hx ⊢
  cases u with
  |s y=>
   cases y with
   |bool b=>
    simp only at hx ⊢
    cases hw:b==want with
    |false=>rw[hw]at hx;simp at hx
    |true=>
     rw[hw]at hx;simp only[cond_true]at hx ⊢;rw[hins ins hx,Option.map_none]
   |_=>simp at hx
  |_=>simp at hx
def si{r r':Runner}(h:LeR r r'){k:Nat}{av:List V}{σ:Heap}{x:V×Heap}(hx:Qr r k av σ=some x):Qr r' k av σ=some x:=by
 simp only[Qr,ZbI]at hx ⊢;obtain⟨y,hy,z,hz,hx⟩:=hx;exact⟨y,hy,z,h _ _ _ _ hz,hx⟩
def ux{r r':Runner}(h:LeR r r'){k:Nat}{av:List V}{σ:Heap}{x:V×Heap}(hx:V1 r k av σ=some x):V1 r' k av σ=some x:=by
 simp only[V1,ZbI]at hx ⊢;obtain⟨y,hy,z,hz,hx⟩:=hx;exact⟨y,hy,z,h _ _ _ _ hz,hx⟩
def qF{r r':Runner}(h:LeR r r'){g:O}{k:Nat}{rd:RD}{e:Env}{σ:Heap}{x:Ex×Env×Heap}(hx:Qb r g k rd e σ=some x):Qb r' g k rd e σ=some x:=by
 unfold Qb at hx ⊢;split at hx
 ·rename_i gf caps hg;split at hx
  ·rename_i y hy;rw[ux h hy];exact hx
  cases hx
 cases hx
def qo{r r':Runner}(h:LeR r r'){o:I}{e:Env}{σ:Heap}{x:Env×Heap}(hx:VL r o e σ=some x):VL r' o e σ=some x:=by
 unfold VL at hx ⊢
 cases hg:XY o e with
 |false=>rw[hg]at hx;cases hx
 |true=>
  rw[hg,cond_true]at hx;rw[cond_true];split at hx
  ·split at hx
   ·split at hx
    ·simp only[ZbK]at hx ⊢;obtain⟨y,hy,hx⟩:=hx;exact⟨y,si h hy,hx⟩
    cases hx
   cases hx
  cases hx
def zf{r r':Runner}{o:I}{e:Env}{σ:Heap}{x:Env×Heap}(hx:VL r o e σ=some x):XO r' o e σ=none:=by
 obtain⟨dst,g,ins⟩:=o;unfold VL at hx
 cases hg:XY ⟨dst,g,ins⟩ e with
 |false=>rw[hg]at hx;cases hx
 |true=>
  rw[hg,cond_true]at hx;split at hx
  ·rename_i f args hins;have hins:ins=.h (.call f args):=hins;subst hins;split at hx
   ·rename_i b hb;have hcw:Xr r' (.h (.call f args)) e σ=none:=by
     show Y5 r' false (f.ev e) (args.map (·.ev e)) σ=none;rw[hb];rfl
    cases g with
    |none=>simp only[XO,hcw,Option.map_none]
    |some p=>
     obtain⟨t,want⟩:=p;simp only[XY]at hg;simp only[XO];split at hg
     ·rename_i b2 hb2;rw[hb2];simp only[hg,cond_true,hcw,Option.map_none]
     cases hg
   cases hx
  cases hx
def EW{r r':Runner}{o:I}{e:Env}{σ:Heap}{x:V×Heap}(hx:WZ r o e σ=some x):VL r' o e σ=none:=by
 unfold WZ at hx;unfold VL
 cases hg:XY o e with
 |false=>rw[hg]at hx;cases hx
 |true=>
  rw[hg,cond_true]at hx;rw[cond_true];split
  ·rename_i f args hins;rw[hins]at hx;simp only at hx;split
   ·rename_i b hb;rw[hb]at hx;simp[Vh,target]at hx
   rfl
  rfl
def WM{r r':Runner}(h:LeR r r'):∀ {l:List I} {e:Env} {σ:Heap} {x:Ex×Env×Heap},YX r l e σ=some x->YX r' l e σ=some x
 |[],_,_,_,hx=>hx
 |o::l,e,σ,x,hx=>by
  simp only[YX]at hx ⊢;split at hx
  ·rename_i y hy;rw[JC h hy];exact WM h hx
  split at hx
  ·rename_i y hy;rw[zf hy,qo h hy];exact WM h hx
  simp only[ZbK]at hx;obtain⟨y,hy,hx⟩:=hx;rw[Ta h hy,EW hy,qQ h hy];simp only[Option.map_some,hx]
def U8{r:Runner}:∀ {l:List I} {e:Env} {σ:Heap} {x:Ex×Env×Heap},WF r l e σ=some x->YX r l e σ=some x
 |[],_,_,_,hx=>hx
 |o::l,e,σ,x,hx=>by
  simp only[WF]at hx;simp only[YX];split at hx
  ·exact U8 hx
  simp only[ZbK]at hx;obtain⟨y,hy,hx⟩:=hx;rw[EW hy,hy];simp only[Option.map_some,hx]
def q6{r r':Runner}(h:LeR r r'):∀ {l:List I} {e:Env} {σ:Heap} {x:Ex×Env×Heap},WF r l e σ=some x->WF r' l e σ=some x
 |[],_,_,_,hx=>hx
 |o::l,e,σ,x,hx=>by
  simp only[WF]at hx ⊢;split at hx
  ·rename_i y hy;rw[JC h hy];exact q6 h hx
  simp only[ZbK]at hx;obtain⟨y,hy,hx⟩:=hx;rw[Ta h hy,qQ h hy];simp only[Option.map_some,hx]
def tN{r:Runner}:∀ {l:List I} {e e':Env} {σ σ':Heap},Vc r l e σ=some (e',σ')->WF r l e σ=some (.normal,e',σ')
 |[],_,_,_,_,hx=>by
  simp only[Vc,Zb4,Zcn]at hx;obtain⟨rfl,rfl⟩:=hx;rfl
 |o::l,e,e',σ,σ',hx=>by
  simp only[Vc,ZbI]at hx;obtain⟨y,hy,hx⟩:=hx;simp only[WF,hy];exact tN hx
def w3{r:Runner}:∀ {l:List I} {e e':Env} {σ σ':Heap},WF r l e σ=some (.normal,e',σ')->Vc r l e σ=some (e',σ')
 |[],_,_,_,_,hx=>by
  simp only[WF,Zb4,Zcn,true_and]at hx;obtain⟨rfl,rfl⟩:=hx;rfl
 |o::l,e,e',σ,σ',hx=>by
  simp only[WF]at hx;split at hx
  ·rename_i y hy;simp only[Vc,hy,Option.bind_some];exact w3 hx
  simp only[ZbK,Zcn]at hx;obtain⟨y,_,h1,_⟩:=hx
  cases h1
def E7{r r':Runner}(h:LeR r r'):∀ {l:List I} {e:Env} {σ:Heap} {x:Env×Heap},Vc r l e σ=some x->Vc r' l e σ=some x
 |[],_,_,_,hx=>hx
 |o::l,e,σ,x,hx=>by
  simp only[Vc,ZbI,Xs,ZbK]at hx ⊢;obtain⟨y,⟨z,hz,hy⟩,hx⟩:=hx;exact⟨y,⟨z,x8 h hz,hy⟩,E7 h hx⟩
def wm{x:Res}{f:Env->Heap->Res}{r:Ex×Env×Heap}(h:Ex.then x f=some r):(∃ e σ,x=some (.normal,e,σ)/\f e σ=some r)\/(x=some r/\∀ e σ,r≠(.normal,e,σ)):=by
 unfold Ex.then at h
 split at h
 ·rename_i e σ;exact .inl ⟨e,σ,rfl,h⟩
 rename_i hne;exact .inr ⟨h,fun e σ he=>hne e σ (by rw[h,he])⟩
def zd{r:Ex×Env×Heap}(h:∀ e σ,r≠(.normal,e,σ))(f:Env->Heap->Res):Ex.then (some r) f=some r:=by
 unfold Ex.then
 split
 ·rename_i e σ he;injection he with he
  exact absurd he (h e σ)
 rfl
def RT{x x':Res}{f f':Env->Heap->Res}(hx:∀ r,x=some r->x'=some r)(hf:∀ e σ r,f e σ=some r->f' e σ=some r){r:Ex×Env×Heap}(h:Ex.then x f=some r):Ex.then x' f'=some r:=by
 rcases wm h with⟨e,σ,h1,h2⟩|⟨h1,h2⟩
 ·rw[hx _ h1];exact hf _ _ _ h2
 rw[hx _ h1];exact zd h2 _
def Jq{f f':Env->Heap->Res}(hf:∀ e σ r,f e σ=some r->f' e σ=some r):∀ {n m:Nat},n<=m->∀ {e:Env} {σ:Heap} {r:Ex×Env×Heap},Qx f n e σ=some r->Qx f' m e σ=some r
 |0,_,_,_,_,_,h=>by simp[Qx]at h
 |n+1,m,hm,e,σ,r,h=>by
  obtain⟨m,rfl⟩:∃ k,m=k+1:=⟨m-1,by omega⟩
  simp only[Qx]at h ⊢;exact RT (hf e σ) (fun e σ r hr=>Jq hf (by omega) hr) h
def XW{r r':Runner}(h:LeR r r'){n m:Nat}(hn:n<=m):∀ (c:AC) {e:Env} {σ:Heap} {x:Ex×Env×Heap},Xh r n c e σ=some x->Xh r' m c e σ=some x
 |.skip,_,_,_,hx=>hx
 |.ops l,e,σ,x,hx=>by
  simp only[Xh]at hx ⊢;exact WM h hx
 |.par l,e,σ,x,hx=>by
  simp only[Xh,ZbK]at hx ⊢;obtain⟨y,hy,hx⟩:=hx;exact⟨y,E7 h hy,hx⟩
 |.parc ps l,e,σ,x,hx=>by
  simp only[Xh]at hx ⊢;split at hx
  ·rename_i hall;have h1:=WM h hx;rw[ZcA (fun p hp=>?_)]
   ·exact h1
   have h2:=hall p hp;rw[hx]at h2;rw[h1]
   cases hq:YX r (Xy l p) e σ with
   |none=>rw[hq]at h2;exact(Km h2).elim
   |some y=>rw[hq]at h2;rw[WM h hq];exact h2
  simp at hx
 |.bad,_,_,_,hx=>hx
 |.seq a b,e,σ,x,hx=>by
  simp only[Xh]at hx ⊢;exact RT (fun r=>XW h hn a) (fun e σ r=>XW h hn b) hx
 |.cond c a b,e,σ,x,hx=>by
  simp only[Xh]at hx ⊢;split at hx
  ·rename_i t ht
   cases t
   ·exact XW h hn b hx
   exact XW h hn a hx
  simp at hx
 |.block id b,e,σ,x,hx=>by
  simp only[Xh]at hx ⊢;split at hx
  ·rename_i j e' σ' hh;rw[XW h hn b hh];exact hx
  rename_i hne;rw[XW h hn b hx];split
  ·rename_i j e' σ' heq;rw[heq]at hx;exact absurd hx (hne j e' σ')
  rfl
 |.loop b,e,σ,x,hx=>by
  simp only[Xh]at hx ⊢;exact Jq (fun e σ r=>XW h hn b) hn hx
 |.exit id,_,_,_,hx=>hx
 |.ret,_,_,_,hx=>hx
 |.rfn g k rd,e,σ,x,hx=>by
  simp only[Xh]at hx ⊢;exact qF h hx
def ya{a:AF}{x x':Res}(h:∀ r,x=some r->x'=some r){y:V×Heap}(hy:QB a x=some y):QB a x'=some y:=by
 cases hx:x with
 |none=>rw[hx]at hy;simp[QB]at hy
 |some r=>rw[h r hx];rw[hx]at hy;exact hy
def oF{A A':AP}(hb:∀ k B,A.bods k=some B->A'.bods k=some B){r r':Runner}(h:LeR r r'){n m:Nat}(hn:n<=m){k:Nat}{args:List V}{σ:Heap}{x:V×Heap}(hx:wH A r n k args σ=some x):wH A' r' m k args σ=some x:=by
 unfold wH at hx ⊢;split at hx
 ·rename_i B b xs hB;rw[hb _ _ hB];simp only;split at hx
  ·rename_i k' rd caps hb';try rw[hb']
   try simp only
   split at hx
   ·rename_i hc;try rw[ZcA hc]
    split at hx
    ·rename_i e1 σ1 h1;rw[XW h hn _ h1];simp only;split at hx
     ·rename_i k1 rd1 caps1 hb1;try rw[hb1]
      try simp only
      split at hx
      ·rename_i ex e2 σ2 h2;rw[XW h hn _ h2];exact hx
      cases hx
     cases hx
    cases hx
   cases hx
  cases hx
 cases hx
def qA(A:AP):∀ n,LeR (XQ A n) (XQ A (n+1))
 |0=>fun f as σ x h=>by simp[XQ]at h
 |n+1=>fun f as σ x h=>by
  have ih:=qA A n;rw[XQ]at h ⊢
  cases hmk:U9 as with
  |true=>
   rw[hmk,cond_true]at h;rw[cond_true];exact oF (fun _ _ h=>h) ih (Nat.le_succ n) h
  |false=>
   rw[hmk,cond_false]at h;rw[cond_false];split at h
   ·exact h
   split at h
   ·rename_i a ha;exact ya (fun r hr=>XW ih (Nat.le_succ n) a.body hr) h
   simp at h
def XS(A:AP){n m:Nat}(h:n<=m):LeR (XQ A n) (XQ A m):=by
 induction m with
 |zero=>
  have:n=0:=by omega
  subst this;exact fun _ _ _ _ h=>h
 |succ m ih=>
  by_cases e:n=m+1
  ·subst e;exact fun _ _ _ _ h=>h
  exact fun f as σ x hx=>qA A m f as σ x (ih (by omega) f as σ x hx)
open Classical in
noncomputable def lim{α:Type}(x:Nat->Option α):Option α:=if h:∃ n r,x n=some r then x h.choose else none
def oh{α:Type}{x:Nat->Option α}(hm:∀ n m r,n<=m->x n=some r->x m=some r){n:Nat}{r:α}(h:x n=some r):lim x=some r:=by
 unfold lim;have he:∃ n r,x n=some r:=⟨n,r,h⟩
 rw[dif_pos he];obtain⟨r',hr'⟩:=he.choose_spec;have h1:=hm _ (max n he.choose) _ (Nat.le_max_left _ _) h;have h2:=hm _ (max n he.choose) _ (Nat.le_max_right _ _) hr';rw[h1]at h2;injection h2 with h2
 subst h2;exact hr'
def rK{α:Type}{x:Nat->Option α}{r:α}(h:lim x=some r):∃ n,x n=some r:=by
 unfold lim at h;split at h
 ·exact⟨_,h⟩
 simp at h
def Qt{α:Type}{x y:Option α}(h:∀ r,x=some r↔y=some r):x=y:=by
 cases x with
 |none=>
  cases y with
  |none=>rfl
  |some b=>have:=(h b).2 rfl;simp at this
 |some a=>exact((h a).1 rfl).symm
noncomputable def Run(A:AP):Runner:=fun f as σ=>lim fun n=>XQ A n f as σ
noncomputable def Ve(A:AP)(c:AC)(e:Env)(σ:Heap):Res:=lim fun n=>Xh (XQ A n) n c e σ
section
variable{A:AP}
def xn{n:Nat}{f:FuncId}{as:List V}{σ:Heap}{r:V×Heap}(h:XQ A n f as σ=some r):Run A f as σ=some r :=
 oh (fun _ _ _ hnm hx=>XS A hnm _ _ _ _ hx) h
def RG{f:FuncId}{as:List V}{σ:Heap}{r:V×Heap}(h:Run A f as σ=some r):∃ n,XQ A n f as σ=some r:=rK h
def X5{n:Nat}{c:AC}{e:Env}{σ:Heap}{r:Ex×Env×Heap}(h:Xh (XQ A n) n c e σ=some r):Ve A c e σ=some r :=
 oh (fun _ _ _ hnm hx=>XW (XS A hnm) hnm c hx) h
def Wl{c:AC}{e:Env}{σ:Heap}{r:Ex×Env×Heap}(h:Ve A c e σ=some r):∃ n,Xh (XQ A n) n c e σ=some r:=rK h
def sZ(n:Nat):LeR (XQ A n) (Run A):=fun _ _ _ _ h=>xn h
def zX{q:Bool}{v:V}{as:List V}{τ:Heap}{x:V×Heap}(hq:Y5 (Run A) q v as τ=some x):∃ n,Y5 (XQ A n) q v as τ=some x:=by
 simp only[Y5,ZbI]at hq ⊢;obtain⟨t,ht,y,hy,z,hz,hq⟩:=hq;obtain⟨n,hn⟩:=RG hz;exact⟨n,t,ht,y,hy,z,hn,hq⟩
def sE{v:V}{as:List V}{τ:Heap}{x:V×Heap}(hq:Vh (Run A) v as τ=some x):∃ n,Vh (XQ A n) v as τ=some x:=by
 simp only[Vh,ZbI]at hq ⊢;obtain⟨t,ht,y,hy,z,hz,hq⟩:=hq;obtain⟨n,hn⟩:=RG hz;exact⟨n,t,ht,y,hy,z,hn,hq⟩
def gY{o:I}{e:Env}{σ:Heap}{z:V×Heap}(hz:Y8 (Run A) o e σ=some z):∃ n,Y8 (XQ A n) o e σ=some z:=by
 have hins:∀ i e τ x,Xr (Run A) i e τ=some x->∃ n,Xr (XQ A n) i e τ=some x:=by
  intro i e τ x hi
  cases i with
  |p i=>exact⟨0,hi⟩
  |h i=>
   cases i with
   |call f as=>exact zX hi
   |callq f as=>exact zX hi
   |_=>exact⟨0,hi⟩
 obtain⟨dst,g,ins⟩:=o
 cases g with
 |none=>exact hins _ _ _ _ hz
 |some p=>
  obtain⟨t,want⟩:=p;simp only[Y8]at hz ⊢;split at hz
  ·rename_i b hb
   cases hw:b==want
   ·rw[hw]at hz;exact⟨0,hz⟩
   rw[hw]at hz;exact hins _ _ _ _ hz
  ·exact⟨0,hz⟩
  simp at hz
def jL{o:I}{e:Env}{σ:Heap}{z:Env×Heap}(hz:XO (Run A) o e σ=some z):∃ n,XO (XQ A n) o e σ=some z:=by
 simp only[Xs,ZbK]at hz ⊢;obtain⟨y,hy,hz⟩:=hz;obtain⟨n,hn⟩:=gY hy;exact⟨n,y,hn,hz⟩
def uE{o:I}{e:Env}{σ:Heap}{z:V×Heap}(hz:WZ (Run A) o e σ=some z):∃ n,WZ (XQ A n) o e σ=some z:=by
 unfold WZ at hz ⊢
 cases hc:XY o e with
 |false=>rw[hc]at hz;simp at hz
 |true=>
  rw[hc]at hz;simp only[cond_true]at hz ⊢;split at hz
  ·exact sE hz
  ·exact⟨0,hz⟩
  simp at hz
def tc:∀ {l:List I} {e:Env} {σ:Heap} {r:Ex×Env×Heap},WF (Run A) l e σ=some r->∃ n,WF (XQ A n) l e σ=some r
 |[],_,_,_,h=>⟨0,h⟩
 |o::l,e,σ,r,h=>by
  simp only[WF]at h;split at h
  ·rename_i y hy;obtain⟨n1,h1⟩:=jL hy;obtain⟨n2,h2⟩:=tc h;refine⟨max n1 n2,?_⟩;simp only[WF,JC (XS A (Nat.le_max_left n1 n2)) h1];exact q6 (XS A (Nat.le_max_right n1 n2)) h2
  simp only[ZbK]at h;obtain⟨y,hy,h⟩:=h;obtain⟨n,hn⟩:=uE hy;refine⟨n,?_⟩;simp only[WF,Ta (fun _ _ _ _ h=>h) hn,hn,Option.map_some,h]
def ZaV{k:Nat}{av:List V}{σ:Heap}{x:V×Heap}(hx:Qr (Run A) k av σ=some x):∃ n,Qr (XQ A n) k av σ=some x:=by
 simp only[Qr,ZbI]at hx;obtain⟨y,hy,z,hz,hx⟩:=hx;obtain⟨n,hn⟩:=RG hz;exact⟨n,by simp only[Qr,hy,Option.bind_some,hn,hx]⟩
def oA{k:Nat}{av:List V}{σ:Heap}{x:V×Heap}(hx:V1 (Run A) k av σ=some x):∃ n,V1 (XQ A n) k av σ=some x:=by
 simp only[V1,ZbI]at hx;obtain⟨y,hy,z,hz,hx⟩:=hx;obtain⟨n,hn⟩:=RG hz;exact⟨n,by simp only[V1,hy,Option.bind_some,hn,hx]⟩
def yldI_to{o:I}{e:Env}{σ:Heap}{x:Env×Heap}(hx:VL (Run A) o e σ=some x):∃ n,VL (XQ A n) o e σ=some x:=by
 unfold VL at hx
 cases hg:XY o e with
 |false=>rw[hg]at hx;cases hx
 |true=>
  rw[hg,cond_true]at hx;split at hx
  ·rename_i f args hins;split at hx
   ·rename_i b hb;split at hx
    ·rename_i k rd caps st hblk;simp only[ZbK]at hx;obtain⟨y,hy,hx⟩:=hx;obtain⟨n,hn⟩:=ZaV hy;exact⟨n,by unfold VL;simp only[hg,cond_true,hins,hb,hblk,hn,Option.map_some,hx]⟩
    cases hx
   cases hx
  cases hx
def Tu:∀ {l:List I} {e:Env} {σ:Heap} {r:Ex×Env×Heap},YX (Run A) l e σ=some r->∃ n,YX (XQ A n) l e σ=some r
 |[],_,_,_,h=>⟨0,h⟩
 |o::l,e,σ,r,h=>by
  simp only[YX]at h;split at h
  ·rename_i y hy;obtain⟨n1,h1⟩:=jL hy;obtain⟨n2,h2⟩:=Tu h;refine⟨max n1 n2,?_⟩;simp only[YX,JC (XS A (Nat.le_max_left n1 n2)) h1];exact WM (XS A (Nat.le_max_right n1 n2)) h2
  split at h
  ·rename_i y hy;obtain⟨n1,h1⟩:=yldI_to hy;obtain⟨n2,h2⟩:=Tu h;refine⟨max n1 n2,?_⟩;simp only[YX,zf h1,qo (XS A (Nat.le_max_left n1 n2)) h1];exact WM (XS A (Nat.le_max_right n1 n2)) h2
  simp only[ZbK]at h;obtain⟨y,hy,h⟩:=h;obtain⟨n,hn⟩:=uE hy;refine⟨n,?_⟩;simp only[YX,Ta (fun _ _ _ _ h=>h) hn,EW hn,hn,Option.map_some,h]
def opsV_to{l:List I}{e:Env}{σ:Heap}{r:Env×Heap}(h:Vc (Run A) l e σ=some r):∃ n,Vc (XQ A n) l e σ=some r:=by
 obtain⟨e',σ'⟩:=r;obtain⟨n,hn⟩:=tc (tN h);exact⟨n,w3 hn⟩
@[simp] theorem then_normal(e:Env)(σ:Heap)(f:Env->Heap->Res):Ex.then (some (.normal,e,σ)) f=f e σ:=rfl
@[simp] theorem then_exit(id:Nat)(e:Env)(σ:Heap)(f:Env->Heap->Res):Ex.then (some (.exit id,e,σ)) f=some (.exit id,e,σ):=rfl
@[simp] theorem then_panic(x:V)(e:Env)(σ:Heap)(f:Env->Heap->Res):Ex.then (some (.panic x,e,σ)) f=some (.panic x,e,σ):=rfl
@[simp] theorem then_ret(e:Env)(σ:Heap)(f:Env->Heap->Res):Ex.then (some (.ret,e,σ)) f=some (.ret,e,σ):=rfl
def gy(e:Env)(σ:Heap):Ve A .skip e σ=some (.normal,e,σ):=X5 (n:=0) rfl
def gG(id:Nat)(e:Env)(σ:Heap):Ve A (.exit id) e σ=some (.exit id,e,σ):=X5 (n:=0) rfl
def gZ(e:Env)(σ:Heap):Ve A .ret e σ=some (.ret,e,σ):=X5 (n:=0) rfl
def kW(l:List I)(e:Env)(σ:Heap):Ve A (.ops l) e σ=YX (Run A) l e σ:=by
 refine Qt fun r=>⟨fun h=>?_,fun h=>?_⟩
 ·obtain⟨n,h⟩:=Wl h;simp only[Xh]at h;exact WM (sZ n) h
 obtain⟨n,hn⟩:=Tu h;exact X5 (n:=n) (by simp only[Xh];exact hn)
def ZaI(l:List I)(e:Env)(σ:Heap):Ve A (.par l) e σ=(Vc (Run A) l e σ).map fun r=>(.normal,r.1,r.2):=by
 refine Qt fun r=>⟨fun h=>?_,fun h=>?_⟩
 ·obtain⟨n,h⟩:=Wl h;simp only[Xh,ZbK]at h ⊢;obtain⟨y,hy,h⟩:=h;exact⟨y,E7 (sZ n) hy,h⟩
 simp only[ZbK]at h;obtain⟨y,hy,h⟩:=h;obtain⟨n,hn⟩:=opsV_to hy;refine X5 (n:=n) ?_;simp only[Xh,ZbK];exact⟨y,hn,h⟩
def oa{ps:List (List Nat)}{l:List I}{e:Env}{σ:Heap}{x:Ex×Env×Heap}(hx:YX (Run A) l e σ=some x)(hall:∀ p∈ps,UV (YX (Run A) (Xy l p) e σ) (some x)):Ve A (.parc ps l) e σ=some x:=by
 obtain⟨n0,h0⟩:=Tu hx;have key:∀ qs:List (List Nat),(∀ p∈qs,UV (YX (Run A) (Xy l p) e σ) (some x))→∃ n,∀ p∈qs,UV (YX (XQ A n) (Xy l p) e σ) (some x):=by
  intro qs;induction qs with
  |nil=>exact fun _=>⟨0,by simp⟩
  |cons q qs ih=>
   intro h;obtain⟨n1,h1⟩:=ih (fun p hp=>h p (.tail _ hp));have hq:=h q (.head _)
   cases hr:YX (Run A) (Xy l q) e σ with
   |none=>rw[hr]at hq;exact(Km hq).elim
   |some y=>
    obtain⟨n2,h2⟩:=Tu hr;refine⟨max n1 n2,fun p hp=>?_⟩;rcases Zco.1 hp with rfl|hp
    ·rw[WM (XS A (Nat.le_max_right n1 n2)) h2,<-hr];exact hq
    have h3:=h1 p hp
    cases h4:YX (XQ A n1) (Xy l p) e σ with
    |none=>rw[h4]at h3;exact(Km h3).elim
    |some z=>rw[h4]at h3;rw[WM (XS A (Nat.le_max_left n1 n2)) h4];exact h3
 obtain⟨n1,h1⟩:=key ps hall;refine X5 (n:=max n0 n1) ?_;have h2:=WM (XS A (Nat.le_max_left n0 n1)) h0;simp only[Xh];rw[ZcA (fun p hp=>?_)]
 ·exact h2
 have h3:=h1 p hp;rw[h2]
 cases h4:YX (XQ A n1) (Xy l p) e σ with
 |none=>rw[h4]at h3;exact(Km h3).elim
 |some z=>rw[h4]at h3;rw[WM (XS A (Nat.le_max_right n0 n1)) h4];exact h3
def T9(a b:AC)(e:Env)(σ:Heap):Ve A (.seq a b) e σ=Ex.then (Ve A a e σ) (Ve A b):=by
 refine Qt fun r=>⟨fun h=>?_,fun h=>?_⟩
 ·obtain⟨n,h⟩:=Wl h;simp only[Xh]at h;exact RT (fun r hr=>X5 hr) (fun e σ r hr=>X5 hr) h
 rcases wm h with⟨e1,σ1,h1,h2⟩|⟨h1,h2⟩
 ·obtain⟨n1,h1⟩:=Wl h1;obtain⟨n2,h2⟩:=Wl h2;refine X5 (n:=max n1 n2) ?_;simp only[Xh];rw[XW (XS A (Nat.le_max_left n1 n2)) (Nat.le_max_left n1 n2) a h1];exact XW (XS A (Nat.le_max_right n1 n2)) (Nat.le_max_right n1 n2) b h2
 obtain⟨n1,h1⟩:=Wl h1;refine X5 (n:=n1) ?_;simp only[Xh];rw[h1];exact zd h2 _
def pF(c:O)(a b:AC)(e:Env)(σ:Heap):Ve A (.cond c a b) e σ=match c.ev e with
  |.s (.bool t)=>bif t then Ve A a e σ else Ve A b e σ
  |_=>none:=by
 refine Qt fun r=>⟨fun h=>?_,fun h=>?_⟩
 ·obtain⟨n,h⟩:=Wl h;simp only[Xh]at h;split at h
  ·rename_i t ht;rw[ht]
   cases t
   ·exact X5 h
   exact X5 h
  simp at h
 split at h
 ·rename_i t ht
  cases t
  ·obtain⟨n,h⟩:=Wl h;refine X5 (n:=n) ?_;simp only[Xh,ht];exact h
  obtain⟨n,h⟩:=Wl h;refine X5 (n:=n) ?_;simp only[Xh,ht];exact h
 simp at h
def Ex.out(id:Nat)(r:Res):Res :=
 match r with
 |some (.exit j,e,σ)=>bif j==id then some (.normal,e,σ) else some (.exit j,e,σ)
 |r=>r
@[simp] theorem out_normal(id:Nat)(e:Env)(σ:Heap):Ex.out id (some (.normal,e,σ))=some (.normal,e,σ):=rfl
@[simp] theorem out_ret(id:Nat)(e:Env)(σ:Heap):Ex.out id (some (.ret,e,σ))=some (.ret,e,σ):=rfl
@[simp] theorem out_panic(id:Nat)(x:V)(e:Env)(σ:Heap):Ex.out id (some (.panic x,e,σ))=some (.panic x,e,σ):=rfl
@[simp] theorem out_exit(id j:Nat)(e:Env)(σ:Heap):Ex.out id (some (.exit j,e,σ))=bif j==id then some (.normal,e,σ) else some (.exit j,e,σ):=rfl
def xc(r:Runner)(n id:Nat)(b:AC)(e:Env)(σ:Heap):Xh r n (.block id b) e σ=Ex.out id (Xh r n b e σ):=rfl
def Kq(id:Nat)(b:AC)(e:Env)(σ:Heap):Ve A (.block id b) e σ=Ex.out id (Ve A b e σ):=by
 refine Qt fun r=>⟨fun h=>?_,fun h=>?_⟩
 ·obtain⟨n,h⟩:=Wl h;rw[xc]at h
  cases hx:Xh (XQ A n) n b e σ with
  |none=>rw[hx]at h;simp[Ex.out]at h
  |some y=>rw[X5 hx];rw[hx]at h;exact h
 cases hx:Ve A b e σ with
 |none=>rw[hx]at h;simp[Ex.out]at h
 |some y=>
  obtain⟨n,hn⟩:=Wl hx;refine X5 (n:=n) ?_;rw[xc,hn];rw[hx]at h;exact h
def qk(b:AC)(e:Env)(σ:Heap):Ve A (.loop b) e σ=Ex.then (Ve A b e σ) (Ve A (.loop b)):=by
 refine Qt fun r=>⟨fun h=>?_,fun h=>?_⟩
 ·obtain⟨n,h⟩:=Wl h;simp only[Xh]at h
  cases n with
  |zero=>simp[Qx]at h
  |succ n=>
   simp only[Qx]at h;refine RT (fun r hr=>X5 hr) (fun e σ r hr=>?_) h;refine X5 (n:=n+1) ?_;simp only[Xh];exact Jq (fun _ _ _ h=>h) (Nat.le_succ n) hr
 rcases wm h with⟨e1,σ1,h1,h2⟩|⟨h1,h2⟩
 ·obtain⟨n1,h1⟩:=Wl h1;obtain⟨n2,h2⟩:=Wl h2;refine X5 (n:=max n1 n2+1) ?_;simp only[Xh,Qx]at h2 ⊢;rw[XW (XS A (show n1<=max n1 n2+1 by omega)) (show n1<=max n1 n2+1 by omega) b h1,then_normal];exact Jq (fun e σ r=>XW (XS A (show n2<=max n1 n2+1 by omega)) (show n2<=max n1 n2+1 by omega) b) (Nat.le_max_right n1 n2) h2
 obtain⟨n1,h1⟩:=Wl h1;refine X5 (n:=n1+1) ?_;simp only[Xh,Qx];rw[XW (XS A (Nat.le_succ n1)) (Nat.le_succ n1) b h1];exact zd h2 _
def y0{f:FuncId}{a:AF}(hp:A.prims f=none)(ha:A.fns f=some a)(as:List V)(σ:Heap)(hmk:U9 as=false:=by rfl):Run A f as σ=QB a (Ve A a.body (K4 a as) σ):=by
 refine Qt fun r=>⟨fun h=>?_,fun h=>?_⟩
 ·obtain⟨n,h⟩:=RG h
  cases n with
  |zero=>simp[XQ]at h
  |succ n=>
   simp only[XQ,hp,ha,hmk,cond_false]at h;exact ya (fun r hr=>X5 hr) h
 cases hx:Ve A a.body (K4 a as) σ with
 |none=>rw[hx]at h;simp[QB]at h
 |some y=>
  obtain⟨n,hn⟩:=Wl hx;refine xn (n:=n+1) ?_;simp only[XQ,hp,ha,hmk,cond_false];rw[hn];rw[hx]at h;exact h
def WI{f:FuncId}{pf:List V->Heap->Option (V×Heap)}(hp:A.prims f=some pf)(as:List V)(σ:Heap)(hmk:U9 as=false:=by rfl):Run A f as σ=pf as σ:=by
 refine Qt fun r=>⟨fun h=>?_,fun h=>?_⟩
 ·obtain⟨n,h⟩:=RG h
  cases n with
  |zero=>simp[XQ]at h
  |succ n=>simpa only[XQ,hp,hmk,cond_false] using h
 exact xn (n:=1) (by simp only[XQ,hp,hmk,cond_false];exact h)
end
def yX(f:FuncId):List (FuncId×AF)->Option AF
 |[]=>none
 |(k,a)::l=>bif k==f then some a else yX f l
def sw(P:Program):List (FuncId×AF)->Prop
 |[]=>True
 |(k,a)::l=>(∃ fn pc,P.funcs[k]? = some fn/\jw P pc fn=some a)/\sw P l
def wa{P:Program}{f:FuncId}{a:AF}:∀ {l:List (FuncId×AF)},sw P l->yX f l=some a->∃ fn pc,P.funcs[f]? = some fn/\jw P pc fn=some a
 |[],_,h=>by simp[yX]at h
 |(k,b)::l,hg,h=>by
  unfold yX at h
  cases hk:k==f
  ·rw[hk]at h;exact wa hg.2 h
  rw[hk]at h;simp only[cond_true,Zb4]at h;subst h;have:k=f:=by simpa using hk
  subst this;exact hg.1
def run_ok[Bas]{P:Program}{A:AP}(hA:jp P A)(hp:zD P A)(hm:P.follows .mixedOrders=true)(hB:xV P A:=by intro _ _ h;cases h):WD P (Run A):=by
 intro f args σ v σ' h;obtain⟨n,hn⟩:=RG h;exact runF_ok hA hB hp hm n f args σ v σ' hn
def pm[Bas]{P:Program}{A:AP}(hr:WD P (Run A)){f:FuncId}{args:List V}{σ σ':Heap}(h:Run A f args σ=some (.s (.bool true),σ')){ι:Inj}{W:World}{as:List Value}(hR:RelW ι σ W)(hD:Dom ι σ)(hv:VRL ι args as)(hro:∀ b,¬ mutb σ b) :
  Calls P f as.toArray W fun e W'=>e=.returned (.bool true)/\Go.RowKit.Below W.heap.size W W':=by
 obtain⟨_,hcalls⟩:=hr f args σ _ σ' h (vv hv)
 refine(hcalls ι W as hR hD hv).mono ?_
 rintro e W' ⟨ι',⟨v',rfl,hv'⟩,hp⟩
 simp only[VR,S.val]at hv'
 subst hv'
 exact⟨rfl,hp.same.os,hp.same.tape,hp.same.output,hp.same.size,fun k hk=>hp.frame k hk (fun b p _ hm=>absurd hm (hro b))⟩
end Go.Am
namespace Go.Am
open Go
abbrev FE:=Nat->V
abbrev HA:=List (Nat×Blk)
def E(N:Nat)(f:FE):Env:=(List.range N).map f
def rd(N:Nat)(f:FE)(n:Nat):V:=bif Nat.blt n N then f n else .undef
def O.fv(N:Nat)(f:FE):O->V
 |.t n=>rd N f n
 |.k v=>v
def upd(f:FE)(d:Nat)(v:V):FE:=fun i=>bif Nat.beq i d then v else f i
def Xc(f:FE)(d:Option Nat)(v:V):FE :=
 match d with
 |some d=>upd f d v
 |none=>f
def UH(N:Nat)(f:FE)(n:Nat):(E N f).getD n .undef=rd N f n:=by
 unfold E rd;rw[ZbD,Zb9];by_cases h:n<N
 ·rw[ZbZ h];have:Nat.blt n N=true:=ZbN h;simp[this]
 rw[ZbQ (by simpa using h)];have:Nat.blt n N=false:=by
  cases hb:Nat.blt n N with
  |false=>rfl
  |true=>simp at hb;omega
 simp[this]
def Y2(N:Nat)(f:FE)(x:O):x.ev (E N f)=x.fv N f:=by
 cases x with
 |t n=>exact UH N f n
 |k v=>rfl
def sH(N:Nat)(f:FE)(xs:List O):xs.map (·.ev (E N f))=xs.map (O.fv N f):=List.map_congr_left fun x _=>Y2 N f x
def R0(N:Nat)(f:FE)(d:Option Nat)(v:V):XK (E N f) d v=E N (Xc f d v):=by
 cases d with
 |none=>rfl
 |some d=>
  simp only[XK,Xc,E];refine List.ext_getElem (by simp) fun i h1 h2=>?_
  simp only[List.getElem_set,List.getElem_map,List.getElem_range,upd];by_cases h:d=i
  ·subst h;simp
  rw[Zcz h];have:Nat.beq i d=false:=by
   cases hb:Nat.beq i d with
   |false=>rfl
   |true=>exact absurd (ZbR hb).symm h
  rw[this];rfl
def yC{f:FE}{d:Nat}{v:V}(h:f d=v):upd f d v=f:=by
 funext i;unfold upd
 cases hb:Nat.beq i d with
 |false=>rfl
 |true=>rw[ZbR hb,h];rfl
def NM:(∀ a b:Int,((a==b)=true)=(a=b))/\(∀ a b:Int,((a==b)=false)=¬ (a=b))/\(∀ a b:Int,((a != b)=true)=¬ (a=b))/\(∀ a b:Int,((a != b)=false)=(a=b)) /\
  (∀ (p:Prop) [Decidable p],(decide p=true)=p)/\(∀ (p:Prop) [Decidable p],(decide p=false)=¬ p)/\(∀ a b:Int,(a > b)=(b<a))/\(∀ a b:Int,(a ≥ b)=(b<=a))/\(∀ a b:Int,(¬ a<b)=(b<=a))/\(∀ a b:Int,(¬ a<=b)=(b<a)) /\
  (∀ p:Prop,(¬¬ p)=p)/\(∀ b:Bool,(¬ b=true)=(b=false))/\(∀ b:Bool,(¬ b=false)=(b=true))/\(∀ b:Bool,((!b)=true)=(b=false))/\(∀ b:Bool,((!b)=false)=(b=true))/\(∀ a b:Bool,cond true a b=a)/\(∀ a b:Bool,cond false a b=b)/\(∀ a b:Int,(a≠b)=¬ (a=b)):=by
 refine⟨fun a b=>?_,fun a b=>?_,fun a b=>?_,fun a b=>?_,fun p _=>?_,fun p _=>?_,fun a b=>?_,fun a b=>?_,fun a b=>?_,fun a b=>?_,fun p=>?_,fun b=>?_,fun b=>?_,fun b=>?_,fun b=>?_,fun a b=>rfl,fun a b=>rfl,fun a b=>rfl⟩ <;> simp
def HL(σ:Heap)(n:Nat):HA->Prop
 |[]=>True
 |(b,B)::L=>b<n∧σ[b]? = some B∧(∀ p∈L,p.1≠b)∧HL σ n L
def Hp(σ:Heap)(n:Nat)(L:HA):Prop:=σ.length=n/\HL σ n L
def HL.mem{σ:Heap}{n:Nat}{b:Nat}{B:Blk}:∀ {L:HA},HL σ n L->(b,B)∈L->b<n/\σ[b]? = some B
 |(c,C)::L,h,hm=>by
  rcases Zco.1 hm with he|hm
  ·injection he with h1 h2
   subst h1;subst h2;exact⟨h.1,h.2.1⟩
  exact HL.mem h.2.2.2 hm
def HL.lt{σ:Heap}{n:Nat}:∀ {L:HA},HL σ n L→∀ p∈L,p.1<n
 |(c,C)::L,h,p,hm=>by
  rcases Zco.1 hm with he|hm
  ·subst he;exact h.1
  exact HL.lt h.2.2.2 p hm
def HL.keep{σ τ:Heap}{n m:Nat}(hn:n≤m):∀ {L:HA},(∀ p∈L,τ[p.1]? = σ[p.1]?)→HL σ n L→HL τ m L
 |[],_,_=>trivial
 |(c,C)::L,hk,h=>⟨by have:=h.1;omega,by rw[hk _ (.head _)];exact h.2.1,h.2.2.1,h.2.2.2.keep hn fun p hp=>hk p (.tail _ hp)⟩
def Hp.new{σ:Heap}{n:Nat}{L:HA}(h:Hp σ n L)(B:Blk):Hp (σ++[B]) (n+1) ((n,B)::L):=by
 refine⟨by simp[h.1],by omega,by rw[<-h.1];simp,fun p hp=>by have:=h.2.lt p hp;omega,h.2.keep (by omega) fun p hp=>?_⟩;rw[ZbF];have:=h.2.lt p hp;rw[h.1];exact this
def setL(b:Nat)(B:Blk):HA->HA
 |[]=>[]
 |(c,C)::L=>(c,bif Nat.beq c b then B else C)::setL b B L
def Ji{b:Nat}{B:Blk}:∀ {L:HA},(∀ p∈L,p.1≠b)→setL b B L=L
 |[],_=>rfl
 |(c,C)::L,h=>by
  have hc:Nat.beq c b=false:=by
   cases hb:Nat.beq c b with
   |false=>rfl
   |true=>exact absurd (ZbR hb) (h _ (.head _))
  simp only[setL,hc,cond_false,Ji fun p hp=>h p (.tail _ hp)]
inductive At(b:Nat)(B:Blk)(B':Blk):HA->HA->Prop
 |here {L:HA}:At b B B' ((b,B)::L) ((b,B')::L)
 |there {p:Nat×Blk} {L L':HA}:At b B B' L L'->At b B B' (p::L) (p::L')
def At.mem{b:Nat}{B B':Blk}{L L':HA}(h:At b B B' L L'):(b,B)∈L:=by
 induction h with
 |here=>exact .head _
 |there _ ih=>exact .tail _ ih
def At.fst{b:Nat}{B B':Blk}{L L':HA}(h:At b B B' L L'):∀ q∈L',∃ p∈L,p.1=q.1:=by
 induction h with
 |here=>
  intro q hq;rcases Zco.1 hq with he|hq
  ·exact⟨_,.head _,by rw[he]⟩
  exact⟨q,.tail _ hq,rfl⟩
 |there _ ih=>
  intro q hq;rcases Zco.1 hq with he|hq
  ·exact⟨_,.head _,by rw[he]⟩
  obtain⟨p,hp,e⟩:=ih q hq;exact⟨p,.tail _ hp,e⟩
def HL.set{σ:Heap}{n:Nat}{b:Nat}{B B':Blk}{L L':HA}(ha:At b B B' L L'):HL σ n L->σ.length=n->HL (σ.set b B') n L':=by
 induction ha with
 |@here L=>
  intro h hl;refine⟨h.1,by rw[ZbL (by rw[hl];exact h.1)],h.2.2.1,h.2.2.2.keep (Zcs _) fun p hp=>?_⟩;rw[ZbX (Ne.symm (h.2.2.1 p hp))]
 |@there p L L' ha ih=>
  obtain⟨c,C⟩:=p;intro h hl;have hne:c≠b:=fun e=>h.2.2.1 _ ha.mem e.symm
  refine⟨h.1,by rw[ZbX (Ne.symm hne)];exact h.2.1,fun q hq=>?_,ih h.2.2.2 hl⟩;obtain⟨p,hp,e⟩:=ha.fst q hq;rw[<-e];exact h.2.2.1 p hp
def Hp.set{σ:Heap}{n:Nat}{b:Nat}{B B':Blk}{L L':HA}(ha:At b B B' L L')(h:Hp σ n L):Hp (σ.set b B') n L':=⟨by simp[h.1],h.2.set ha h.1⟩
def Hp.drop{σ:Heap}{n:Nat}{p:Nat×Blk}{L:HA}(h:Hp σ n (p::L)):Hp σ n L:=⟨h.1,by obtain⟨c,C⟩:=p;exact h.2.2.2.2⟩
def HL.sub{σ:Heap}{n:Nat}{L L':HA}(hs:List.Sublist L' L):HL σ n L->HL σ n L':=by
 induction hs with
 |slnil=>exact fun h=>h
 |cons p hs ih=>
  obtain⟨c,C⟩:=p;exact fun h=>ih h.2.2.2
 |cons_cons p hs ih=>
  obtain⟨c,C⟩:=p;exact fun h=>⟨h.1,h.2.1,fun q hq=>h.2.2.1 q (hs.subset hq),ih h.2.2.2⟩
def Hp.sub{σ:Heap}{n:Nat}{L L':HA}(hs:List.Sublist L' L)(h:Hp σ n L):Hp σ n L':=⟨h.1,h.2.sub hs⟩
abbrev KN:=FE->Nat->HA->Prop
def outO(x:Ex)(f:FE)(n:Nat)(L:HA)(K:KN)(Zp:V->KN):Prop :=
 match x with
 |.normal=>K f n L
 |.panic v=>Zp v f n L
 |_=>False
def WO(A:AP)(N:Nat)(l:List I)(f:FE)(n:Nat)(L:HA)(K:KN)(Zp:V->KN):Prop :=
 ∀ σ,Hp σ n L->∃ x f' σ' n' L',WF (Run A) l (E N f) σ=some (x,E N f',σ')/\Hp σ' n' L'/\outO x f' n' L' K Zp
def outK(x:Ex)(f:FE)(n:Nat)(L:HA)(K:KN)(X:Nat->KN)(R:KN)(Zp:V->KN):Prop :=
 match x with
 |.normal=>K f n L
 |.exit j=>X j f n L
 |.ret=>R f n L
 |.panic v=>Zp v f n L
def WP(A:AP)(N:Nat)(c:AC)(f:FE)(n:Nat)(L:HA)(K:KN)(X:Nat->KN)(R:KN)(Zp:V->KN):Prop :=
 ∀ σ,Hp σ n L->∃ x f' σ' n' L',Ve A c (E N f) σ=some (x,E N f',σ')/\Hp σ' n' L'/\outK x f' n' L' K X R Zp
section
variable{A:AP}{N:Nat}{f:FE}{n:Nat}{L:HA}{K:KN}{Zp:V->KN}{X:Nat->KN}{R:KN}
def WP_skip(h:K f n L):WP A N .skip f n L K X R Zp:=fun σ hσ=>⟨.normal,f,σ,n,L,gy _ _,hσ,h⟩
def gv(h:R f n L):WP A N .ret f n L K X R Zp:=fun σ hσ=>⟨.ret,f,σ,n,L,gZ _ _,hσ,h⟩
def Y0{j:Nat}(h:X j f n L):WP A N (.exit j) f n L K X R Zp:=fun σ hσ=>⟨.exit j,f,σ,n,L,gG _ _ _,hσ,h⟩
def jN{l:List I}(h:WO A N l f n L K Zp):WP A N (.ops l) f n L K X R Zp:=fun σ hσ=>by
 obtain⟨x,f',σ',n',L',h1,h2,h3⟩:=h σ hσ;refine⟨x,f',σ',n',L',by rw[kW,U8 h1],h2,?_⟩
 cases x with
 |normal=>exact h3
 |panic v=>exact h3
 |exit j=>exact h3.elim
 |ret=>exact h3.elim
def WP_par{l:List I}(h:WO A N l f n L K fun _ _ _ _=>False):WP A N (.par l) f n L K X R Zp:=fun σ hσ=>by
 obtain⟨x,f',σ',n',L',h1,h2,h3⟩:=h σ hσ
 cases x with
 |normal=>exact⟨.normal,f',σ',n',L',by rw[ZaI,w3 h1];rfl,h2,h3⟩
 |panic v=>exact h3.elim
 |exit j=>exact h3.elim
 |ret=>exact h3.elim
def xI{a b:AC}(h:WP A N a f n L (fun f n L=>WP A N b f n L K X R Zp) X R Zp):WP A N (.seq a b) f n L K X R Zp:=fun σ hσ=>by
 obtain⟨x,f',σ',n',L',h1,h2,h3⟩:=h σ hσ
 cases x with
 |normal=>
  obtain⟨x,f2,σ2,n2,L2,h4,h5,h6⟩:=h3 σ' h2;exact⟨x,f2,σ2,n2,L2,by rw[T9,h1,then_normal,h4],h5,h6⟩
 |exit j=>exact⟨.exit j,f',σ',n',L',by rw[T9,h1,then_exit],h2,h3⟩
 |ret=>exact⟨.ret,f',σ',n',L',by rw[T9,h1,then_ret],h2,h3⟩
 |panic v=>exact⟨.panic v,f',σ',n',L',by rw[T9,h1,then_panic],h2,h3⟩
def wX{c:O}{a b:AC}{t:Bool}(hc:c.fv N f=.s (.bool t))(h1:t=true->WP A N a f n L K X R Zp)(h2:t=false->WP A N b f n L K X R Zp):WP A N (.cond c a b) f n L K X R Zp:=fun σ hσ=>by
 rw[pF,Y2,hc]
 cases t with
 |true=>exact h1 rfl σ hσ
 |false=>exact h2 rfl σ hσ
def Zba{id:Nat}{b:AC}(h:WP A N b f n L K (fun j f n L=>bif Nat.beq j id then K f n L else X j f n L) R Zp):WP A N (.block id b) f n L K X R Zp:=fun σ hσ=>by
 obtain⟨x,f',σ',n',L',h1,h2,h3⟩:=h σ hσ
 cases x with
 |normal=>exact⟨.normal,f',σ',n',L',by rw[Kq,h1,out_normal],h2,h3⟩
 |ret=>exact⟨.ret,f',σ',n',L',by rw[Kq,h1,out_ret],h2,h3⟩
 |panic v=>exact⟨.panic v,f',σ',n',L',by rw[Kq,h1,out_panic],h2,h3⟩
 |exit j=>
  simp only[outK]at h3
  cases hj:Nat.beq j id with
  |true=>
   rw[hj]at h3;exact⟨.normal,f',σ',n',L',by rw[Kq,h1,out_exit,ZbR hj];simp,h2,h3⟩
  |false=>
   rw[hj]at h3;refine⟨.exit j,f',σ',n',L',?_,h2,h3⟩;rw[Kq,h1,out_exit];have:(j==id)=false:=by
    cases hq:j==id with
    |false=>rfl
    |true=>
     have:=eq_of_beq hq;subst this;simp at hj
   rw[this];rfl
def Xb{j:Nat}{a b:Prop}(h:a):bif Nat.beq j j then a else b:=by
 have:Nat.beq j j=true:=by simp
 rw[this];exact h
def rP{i j:Nat}{a b:Prop}(hij:Nat.beq j i=false)(h:b):bif Nat.beq j i then a else b:=by rw[hij];exact h
def uX{c:AC}{K':KN}{X':Nat->KN}{R':KN}(h:WP A N c f n L K X R Zp)(hK:∀ f n L,K f n L->K' f n L)(hX:∀ j f n L,X j f n L->X' j f n L)(hR:∀ f n L,R f n L->R' f n L):WP A N c f n L K' X' R' Zp:=fun σ hσ=>by
 obtain⟨x,f',σ',n',L',h1,h2,h3⟩:=h σ hσ;refine⟨x,f',σ',n',L',h1,h2,?_⟩
 cases x with
 |normal=>exact hK _ _ _ h3
 |exit j=>exact hX _ _ _ _ h3
 |ret=>exact hR _ _ _ h3
 |panic v=>exact h3
def Xu{b:AC}(I:Nat->KN)(hb:∀ m f n L,I m f n L->WP A N b f n L (fun f n L=>∃ k L',k<m/\List.Sublist L' L/\I k f n L') X R Zp):∀ m {f:FE} {n:Nat} {L:HA},I m f n L->WP A N (.loop b) f n L K X R Zp:=by
 intro m;induction m using Nat.strongRecOn with
 |ind m ih=>
  intro f n L hI σ hσ;obtain⟨x,f',σ',n',L',h1,h2,h3⟩:=hb m f n L hI σ hσ;rw[qk]
  cases x with
  |normal=>
   obtain⟨k,L3,hk,hs,hIk⟩:=h3;obtain⟨x,f2,σ2,n2,L2,h4,h5,h6⟩:=ih k hk hIk σ' (h2.sub hs);exact⟨x,f2,σ2,n2,L2,by rw[h1,then_normal,h4],h5,h6⟩
  |exit j=>exact⟨.exit j,f',σ',n',L',by rw[h1,then_exit],h2,h3⟩
  |ret=>exact⟨.ret,f',σ',n',L',by rw[h1,then_ret],h2,h3⟩
  |panic v=>exact⟨.panic v,f',σ',n',L',by rw[h1,then_panic],h2,h3⟩
def tD{c:AC}{d:Nat}{v:V}(h:f d=v)(k:WP A N c (upd f d v) n L K X R Zp):WP A N c f n L K X R Zp:=by rw[yC h]at k;exact k
def Xo{c:AC}{L':HA}(hs:List.Sublist L' L)(k:WP A N c f n L' K X R Zp):WP A N c f n L K X R Zp:=fun σ hσ=>k σ (hσ.sub hs)
def vE(h:K f n L):WO A N [] f n L K Zp:=fun σ hσ=>⟨.normal,f,σ,n,L,rfl,hσ,h⟩
def WO_case{l:List I}{t:Nat}{b:Bool}(h:rd N f t=.s (.bool b))(kt:b=true->WO A N l (upd f t (.s (.bool true))) n L K Zp)(kf:b=false->WO A N l (upd f t (.s (.bool false))) n L K Zp):WO A N l f n L K Zp:=by
 have ht:f t=.s (.bool b):=by
  unfold rd at h
  cases hb:Nat.blt t N with
  |true=>rw[hb]at h;exact h
  |false=>rw[hb]at h;cases h
 cases b with
 |true=>have:=kt rfl;rw[yC ht]at this;exact this
 |false=>have:=kf rfl;rw[yC ht]at this;exact this
def WO_gt{l:List I}{d:Option Nat}{t:Nat}{want:Bool}{i:Ins}(h:rd N f t=.s (.bool want))(k:WO A N (⟨d,none,i⟩::l) f n L K Zp):WO A N (⟨d,some (t,want),i⟩::l) f n L K Zp:=fun σ hσ=>by
 obtain⟨x,f',σ',n',L',h1,h2,h3⟩:=k σ hσ;refine⟨x,f',σ',n',L',?_,h2,h3⟩;rw[<-h1];have hp:WZ (Run A) ⟨d,some (t,want),i⟩ (E N f) σ=WZ (Run A) ⟨d,none,i⟩ (E N f) σ:=by
  have e1:XY ⟨d,some (t,want),i⟩ (E N f)=true:=by simp only[XY,UH,h,beq_self_eq_true]
  have e2:XY ⟨d,none,i⟩ (E N f)=true:=rfl;simp only[WZ,e1,e2]
 simp only[WF,XO,UH,h,beq_self_eq_true,cond_true,hp]
def WO_gf{l:List I}{d:Option Nat}{t:Nat}{want b:Bool}{i:Ins}(h:rd N f t=.s (.bool b))(hb:(b==want)=false)(k:WO A N l (Xc f d (.tup [])) n L K Zp):WO A N (⟨d,some (t,want),i⟩::l) f n L K Zp:=fun σ hσ=>by
 obtain⟨x,f',σ',n',L',h1,h2,h3⟩:=k σ hσ;refine⟨x,f',σ',n',L',?_,h2,h3⟩;rw[<-h1];simp only[WF,XO,UH,h,hb,cond_false,R0]
def YJ{l:List I}{d:Option Nat}{t:Nat}{want:Bool}{i:Ins}(h:rd N f t=.tup [])(k:WO A N l (Xc f d (.tup [])) n L K Zp):WO A N (⟨d,some (t,want),i⟩::l) f n L K Zp:=fun σ hσ=>by
 obtain⟨x,f',σ',n',L',h1,h2,h3⟩:=k σ hσ;refine⟨x,f',σ',n',L',?_,h2,h3⟩;rw[<-h1];simp only[WF,XO,UH,h,R0]
def Va{l:List I}{d:Option Nat}{i:PIns}{v:V}(h:YY i (E N f)=some v)(k:WO A N l (Xc f d v) n L K Zp):WO A N (⟨d,none,.p i⟩::l) f n L K Zp:=fun σ hσ=>by
 obtain⟨x,f',σ',n',L',h1,h2,h3⟩:=k σ hσ;refine⟨x,f',σ',n',L',?_,h2,h3⟩;rw[<-h1];simp only[WF,XO,Xr,h,Option.map_some,R0]
def Xl{l:List I}{d:Option Nat}{i:HIns}{v:V}{n':Nat}{L':HA}(h:∀ σ,Hp σ n L->∃ σ',YK (Run A) i (E N f) σ=some (v,σ')/\Hp σ' n' L')(k:WO A N l (Xc f d v) n' L' K Zp):WO A N (⟨d,none,.h i⟩::l) f n L K Zp:=fun σ hσ=>by
 obtain⟨σ1,h1,h2⟩:=h σ hσ;obtain⟨x,f',σ',n',L',h3,h4,h5⟩:=k σ1 h2;refine⟨x,f',σ',n',L',?_,h4,h5⟩;rw[<-h3];simp only[WF,XO,Xr,h1,Option.map_some,R0]
end
def YZ:Nat->List Blk->HA
 |_,[]=>[]
 |k,b::l=>(k,b)::YZ (k+1) l
def vT:∀ (l:List Blk) (k:Nat),∀ p∈YZ k l,k≤p.1
 |b::l,k,p,hp=>by
  rcases Zco.1 hp with he|hp
  ·subst he;exact Zcs _
  have:=vT l (k+1) p hp;omega
def vn(σ:Heap):∀ (l:List Blk) (k:Nat),(∀ i b,l[i]? = some b->σ[k+i]? = some b)->k+l.length=σ.length->HL σ σ.length (YZ k l)
 |[],_,_,_=>trivial
 |b::l,k,h,hl=>⟨by simp at hl;omega,h 0 b rfl,fun p hp=>by have:=vT l (k+1) p hp;omega,vn σ l (k+1) (fun i c hc=>by rw[show k+1+i=k+(i+1) by omega];exact h (i+1) c hc) (by simp at hl;omega)⟩
def EE(σ:Heap):Hp σ σ.length (YZ 0 σ):=⟨rfl,vn σ σ 0 (fun i b h=>by simpa using h) (by simp)⟩
abbrev KR:=V->Nat->HA->Prop
def WR(A:AP)(fid:FuncId)(as:List V)(Bs:List Blk)(K:KR):Prop :=
 ∃ v σ' n' L',Run A fid as Bs=some (v,σ')/\Hp σ' n' L'/\K v n' L'
def RS(N:Nat)(f:FE)(L:HA):List Rv->List V->Prop
 |[],[]=>True
 |.tmp t::l,v::vs=>rd N f t=v/\RS N f L l vs
 |.cell a agg m::l,v::vs=>(∃ b o z md k g,rd N f a=.ptr b o z/\m<=z/\(b,Blk.sc md k g)∈L/\v=bif agg then .agg m (fun i=>g (o+i)) else .s (g o))/\RS N f L l vs
 |_,_=>False
def wd{N:Nat}{f:FE}{n:Nat}{L:HA}{σ:Heap}(h:Hp σ n L):∀ {rs:List Rv} {vs:List V},RS N f L rs vs->Ru (E N f) σ rs=some vs
 |[],[],_=>rfl
 |.tmp t::l,v::vs,hr=>by
  simp only[Ru,wD,UH,hr.1,wd h hr.2]
 |.cell a agg m::l,v::vs,hr=>by
  obtain⟨⟨b,o,z,md,k,g,h1,h2,h3,h4⟩,h5⟩:=hr;simp only[Ru,wD,UH,h1,ZcA h2,rdV,(h.2.mem h3).2,wd h h5,h4]
def XM{N:Nat}{f:FE}{L:HA}{a b m z:Nat}{md:Md}{k:Nat}{g:Nat->S}{l:List Rv}{vs:List V}(h:rd N f a=.ptr b 0 z)(hz:Nat.ble m z=true)(hm:(b,Blk.sc md k g)∈L)(hr:RS N f L l vs):RS N f L (.cell a true m::l) (.agg m g::vs) :=
 ⟨⟨b,0,z,md,k,g,h,ZbT hz,hm,by simp⟩,hr⟩
def kp{N:Nat}{f:FE}{L:HA}{a b m z:Nat}{md:Md}{k:Nat}{g:Nat->S}{x:S}{l:List Rv}{vs:List V}(h:rd N f a=.ptr b 0 z)(hz:Nat.ble m z=true)(hm:(b,Blk.sc md k g)∈L)(hx:g 0=x)(hr:RS N f L l vs):RS N f L (.cell a false m::l) (.s x::vs) :=
 ⟨⟨b,0,z,md,k,g,h,ZbT hz,hm,by simp[hx]⟩,hr⟩
def YH{N:Nat}{f:FE}{L:HA}{t:Nat}{v:V}{l:List Rv}{vs:List V}(h:rd N f t=v)(hr:RS N f L l vs):RS N f L (.tmp t::l) (v::vs):=⟨h,hr⟩
def YW{N:Nat}{f:FE}{L:HA}:RS N f L [] []:=trivial
def vR:List V->V
 |[x]=>x
 |l=>.tup l
def YL{A:AP}{fid:FuncId}{a:AF}{as:List V}{Bs:List Blk}{K:KR}(hp:A.prims fid=none)(ha:A.fns fid=some a)(f:FE)(hf:K4 a as=E a.nt f){m:Nat}(hm:Bs.length=m)
  (h:WP A a.nt a.body f m (YZ 0 Bs) (fun f n L=>∃ vs,RS a.nt f L a.res vs/\K (vR vs) n L) (fun _ _ _ _=>False) (fun f n L=>∃ vs,RS a.nt f L a.res vs/\K (vR vs) n L) (fun v _ n L=>K (.pan v) n L)) (hmk:U9 as=false:=by rfl):WR A fid as Bs K:=by
 subst hm
 obtain⟨x,f',σ',n',L',h1,h2,h3⟩:=h Bs (EE Bs)
 have fin:∀ vs,RS a.nt f' L' a.res vs->Eg (E a.nt f') σ' a.res=some (vR vs):=by
  intro vs hvs;unfold Eg;rw[wd h2 hvs];match vs with
  |[]=>rfl
  |[x]=>rfl
  |x::y::l=>rfl
 cases x with
 |normal=>
  obtain⟨vs,hvs,hK⟩:=h3
  exact⟨vR vs,σ',n',L',by rw[y0 hp ha as Bs hmk,hf,h1];simp[QB,fin vs hvs],h2,hK⟩
 |ret=>
  obtain⟨vs,hvs,hK⟩:=h3
  exact⟨vR vs,σ',n',L',by rw[y0 hp ha as Bs hmk,hf,h1];simp[QB,fin vs hvs],h2,hK⟩
 |exit j=>exact h3.elim
 |panic v=>exact⟨.pan v,σ',n',L',by rw[y0 hp ha as Bs hmk,hf,h1];rfl,h2,h3⟩
def YI(as:List V):FE:=fun i=>as.getD i .undef
def entry_E{a:AF}{as:List V}(h:as.length<=a.nt):K4 a as=E a.nt (YI as):=by
 unfold K4 E YI;refine List.ext_getElem (by simp;omega) fun i h1 h2=>?_
 simp only[List.getElem_map,List.getElem_range];by_cases hi:i<as.length
 ·rw[List.getElem_append_left hi,ZbD,ZbH hi];rfl
 rw[List.getElem_append_right (by omega),ZbD,ZbQ (by omega)];simp
end Go.Am
namespace Go.Am
open Go
abbrev ia(P:Nat->Int):Nat->S:=fun i=>.int .i64 (P i)
abbrev lc(l:List S):Nat->S:=fun i=>l.getD i S.zero
section
variable{A:AP}{N:Nat}{f:FE}{n:Nat}{L:HA}{K:KN}{Zp:V->KN}{l:List I}{d:Nat}
def Ed{x:O}{v:V}(h:x.fv N f=v)(k:WO A N l (upd f d v) n L K Zp):WO A N (⟨some d,none,.p (.mv x)⟩::l) f n L K Zp :=
 Va (v:=v) (by rw[YY,Y2,h]) k
def WO_pick{c a b:O}{t:Bool}{v:V}(hc:c.fv N f=.s (.bool t))(hv:(bif t then a.fv N f else b.fv N f)=v)(k:WO A N l (upd f d v) n L K Zp):WO A N (⟨some d,none,.p (.pick c a b)⟩::l) f n L K Zp :=
 Va (v:=v) (by simp only[YY,Y2,hc,hv]) k
def YG{x:O}{b o z:Nat}(h:x.fv N f=.ptr b o z)(k:WO A N l (upd f d (.ptr b o z)) n L K Zp):WO A N (⟨some d,none,.p (.nilck x)⟩::l) f n L K Zp :=
 Va (v:=.ptr b o z) (by simp only[YY,Y2,h]) k
def Re{op:BinOp}{x y:O}{a b r:S}(hx:x.fv N f=.s a)(hy:y.fv N f=.s b)(hr:Wc op a b=some r)(k:WO A N l (upd f d (.s r)) n L K Zp):WO A N (⟨some d,none,.p (.bin op x y)⟩::l) f n L K Zp :=
 Va (v:=.s r) (by simp only[YY,Y2,hx,hy,hr,Option.map_some]) k
def Ur{x y:O}{a b:Int}(hx:x.fv N f=.s (.int .i64 a))(hy:y.fv N f=.s (.int .i64 b))(hr:-9223372036854775808<=a+b/\a+b<=9223372036854775807)(k:WO A N l (upd f d (.s (.int .i64 (a+b)))) n L K Zp):WO A N (⟨some d,none,.p (.bin .add x y)⟩::l) f n L K Zp :=
 Re hx hy (by show Um .add .i64 a b=_;rw[Um,IntWalk.i64_in _ hr]) k
def jJ{x y:O}{a b:Int}(hx:x.fv N f=.s (.int .i64 a))(hy:y.fv N f=.s (.int .i64 b))(hr:-9223372036854775808<=a-b/\a-b<=9223372036854775807)(k:WO A N l (upd f d (.s (.int .i64 (a-b)))) n L K Zp):WO A N (⟨some d,none,.p (.bin .sub x y)⟩::l) f n L K Zp :=
 Re hx hy (by show Um .sub .i64 a b=_;rw[Um,IntWalk.i64_in _ hr]) k
def Wn{x y:O}{a b:Int}(hx:x.fv N f=.s (.int .i64 a))(hy:y.fv N f=.s (.int .i64 b))(hr:-9223372036854775808<=a*b/\a*b<=9223372036854775807)(k:WO A N l (upd f d (.s (.int .i64 (a*b)))) n L K Zp):WO A N (⟨some d,none,.p (.bin .mul x y)⟩::l) f n L K Zp :=
 Re hx hy (by show Um .mul .i64 a b=_;rw[Um,IntWalk.i64_in _ hr]) k
def py{x y:O}{a b:Int}(hx:x.fv N f=.s (.int .i64 a))(hy:y.fv N f=.s (.int .i64 b))(hr:0<=a/\a<=9223372036854775807/\1<=b)(k:WO A N l (upd f d (.s (.int .i64 (a/b)))) n L K Zp):WO A N (⟨some d,none,.p (.bin .quo x y)⟩::l) f n L K Zp :=
 Re hx hy (by show Um .quo .i64 a b=_;rw[Um,Zcz (by omega),IntWalk.i64_quo _ _ hr]) k
def WO_rem{x y:O}{a b:Int}(hx:x.fv N f=.s (.int .i64 a))(hy:y.fv N f=.s (.int .i64 b))(hr:0<=a/\1<=b)(k:WO A N l (upd f d (.s (.int .i64 (a%b)))) n L K Zp):WO A N (⟨some d,none,.p (.bin .rem x y)⟩::l) f n L K Zp :=
 Re hx hy (by show Um .rem .i64 a b=_;rw[Um,Zcz (by omega),Int.tmod_eq_emod_of_nonneg hr.1]) k
def eqI(n:Nat)(P Q:Nat->Int):Bool:=Xp n fun i=>decide (P i=Q i)
def Qo{P Q:Nat->Int}:∀ {n:Nat},eqI n P Q=true↔∀ i,i<n->P i=Q i
 |0=>by simp[eqI,Xp]
 |n+1=>by
  have ih:=Qo (P:=P) (Q:=Q) (n:=n);unfold eqI at ih ⊢;simp only[Xp,Zca,ih,Zb7];exact⟨fun⟨h1,h2⟩ i hi=>by
   by_cases he:i=n
   ·subst he;exact h2
   exact h1 i (by omega),fun h=>⟨fun i hi=>h i (by omega),h n (by omega)⟩⟩
def allB_true{g:Nat->Bool}(h:∀ i,g i=true):∀ n,Xp n g=true
 |0=>rfl
 |n+1=>by simp[Xp,allB_true h n,h n]
def pq{neg:Bool}{m:Nat}{x y:O}{P Q:Nat->Int}(hx:x.fv N f=.agg m (ia P))(hy:y.fv N f=.agg m (ia Q))(k:WO A N l (upd f d (.s (.bool (bif neg then !(eqI m P Q) else eqI m P Q)))) n L K Zp):WO A N (⟨some d,none,.p (.eqa neg m x y)⟩::l) f n L K Zp :=
 Va (v:=.s (.bool (bif neg then !(eqI m P Q) else eqI m P Q))) (by
  simp only[YY,Y2,hx,hy];rw[ZcA ⟨trivial,trivial⟩,allB_true (fun i=>by simp[S.fits])];rfl) k
def WO_un{op:UnOp}{x:O}{a r:S}(hx:x.fv N f=.s a)(hr:unS op a=some r)(k:WO A N l (upd f d (.s r)) n L K Zp):WO A N (⟨some d,none,.p (.un op x)⟩::l) f n L K Zp :=
 Va (v:=.s r) (by simp only[YY,Y2,hx,hr,Option.map_some]) k
def oi{x:O}{a:Int}(hx:x.fv N f=.s (.int .i64 a))(hr:-9223372036854775807<=a/\a<=9223372036854775807)(k:WO A N l (upd f d (.s (.int .i64 (-a)))) n L K Zp):WO A N (⟨some d,none,.p (.un .neg x)⟩::l) f n L K Zp :=
 WO_un hx (by show some (S.int .i64 (IntKind.i64.wrap (0-a)))=_;rw[IntWalk.i64_in _ (by omega)];simp) k
def uK{kd kd':IntKind}{x:O}{a:Int}(hx:x.fv N f=.s (.int kd' a))(hr:kd.wrap a=a)(k:WO A N l (upd f d (.s (.int kd a))) n L K Zp):WO A N (⟨some d,none,.p (.conv kd x)⟩::l) f n L K Zp :=
 Va (v:=.s (.int kd a)) (by simp only[YY,Y2,hx,hr]) k
def sX{off z:Nat}{x:O}{b o z' o':Nat}(hx:x.fv N f=.ptr b o z')(hz:Nat.ble (off+z) z'=true)(ho:o+off=o')(k:WO A N l (upd f d (.ptr b o' z)) n L K Zp):WO A N (⟨some d,none,.p (.fa off z x)⟩::l) f n L K Zp :=
 Va (v:=.ptr b o' z) (by simp only[YY,Y2,hx,ZcA (ZbT hz),ho]) k
def zm{off m:Nat}{x:O}{m':Nat}{g:Nat->S}(hx:x.fv N f=.agg m' g)(hz:Nat.ble (off+m) m'=true)(k:WO A N l (upd f d (.agg m fun i=>g (off+i))) n L K Zp):WO A N (⟨some d,none,.p (.fld true off m x)⟩::l) f n L K Zp :=
 Va (v:=.agg m fun i=>g (off+i)) (by simp only[YY,Y2,hx,ZcA (ZbT hz),cond_true]) k
def JV{off m:Nat}{x:O}{m':Nat}{g:Nat->S}{a:S}(hx:x.fv N f=.agg m' g)(hz:Nat.ble (off+m) m'=true)(ha:g off=a)(k:WO A N l (upd f d (.s a)) n L K Zp):WO A N (⟨some d,none,.p (.fld false off m x)⟩::l) f n L K Zp :=
 Va (v:=.s a) (by simp only[YY,Y2,hx,ZcA (ZbT hz),cond_false,ha]) k
def Vr{len z:Nat}{x i:O}{b o z':Nat}{kd:IntKind}{j:Int}(hx:x.fv N f=.ptr b o z')(hi:i.fv N f=.s (.int kd j))(hz:Nat.ble (len*z) z'=true)(hj:0<=j/\j<len)(k:WO A N l (upd f d (.ptr b (o+j.toNat*z) z)) n L K Zp):WO A N (⟨some d,none,.p (.ixa len z x i)⟩::l) f n L K Zp :=
 Va (v:=.ptr b (o+j.toNat*z) z) (by simp only[YY,Y2,hx,hi,ZcA (ZbT hz),ZcA hj]) k
def Dq{z:Nat}{x i:O}{b o m:Nat}{c:Cp}{kd:IntKind}{j:Int}(hx:x.fv N f=.sl b o m z c)(hi:i.fv N f=.s (.int kd j))(hj:0<=j/\j<m)(k:WO A N l (upd f d (.ptr b (o+j.toNat*z) z)) n L K Zp):WO A N (⟨some d,none,.p (.ixs z x i)⟩::l) f n L K Zp :=
 Va (v:=.ptr b (o+j.toNat*z) z) (by simp only[YY,Y2,hx,hi,if_true,ZcA hj]) k
def Tw{len z:Nat}{x i:O}{m:Nat}{g:Nat->S}{kd:IntKind}{j:Int}{a:S}(hx:x.fv N f=.agg m g)(hi:i.fv N f=.s (.int kd j))(hz:Nat.ble (len*z) m=true)(hj:0<=j/\j<len)(ha:g (j.toNat*z)=a)(k:WO A N l (upd f d (.s a)) n L K Zp):WO A N (⟨some d,none,.p (.ix len z false x i)⟩::l) f n L K Zp :=
 Va (v:=.s a) (by simp only[YY,Y2,hx,hi,ZcA (ZbT hz),ZcA hj,cond_false,ha]) k
def y7{len z:Nat}{x i:O}{m:Nat}{g:Nat->S}{kd:IntKind}{j:Int}(hx:x.fv N f=.agg m g)(hi:i.fv N f=.s (.int kd j))(hz:Nat.ble (len*z) m=true)(hj:0<=j/\j<len)(k:WO A N l (upd f d (.agg z fun i=>g (j.toNat*z+i))) n L K Zp):WO A N (⟨some d,none,.p (.ix len z true x i)⟩::l) f n L K Zp :=
 Va (v:=.agg z fun i=>g (j.toNat*z+i)) (by simp only[YY,Y2,hx,hi,ZcA (ZbT hz),ZcA hj,cond_true]) k
def XP{x i:O}{s:ByteArray}{kd:IntKind}{j:Int}(hx:x.fv N f=.s (.str s))(hi:i.fv N f=.s (.int kd j))(hj:0<=j/\j<s.size)(k:WO A N l (upd f d (.s (.int .u8 (s.data.getD j.toNat 0).toNat))) n L K Zp):WO A N (⟨some d,none,.p (.ixstr x i)⟩::l) f n L K Zp :=
 Va (v:=.s (.int .u8 (s.data.getD j.toNat 0).toNat)) (by simp only[YY,Y2,hx,hi,ZcA hj]) k
def WX{x:O}{b o m z:Nat}{c:Cp}(hx:x.fv N f=.sl b o m z c)(k:WO A N l (upd f d (.s (.int .i64 m))) n L K Zp):WO A N (⟨some d,none,.p (.len x)⟩::l) f n L K Zp :=
 Va (v:=.s (.int .i64 m)) (by simp only[YY,Y2,hx]) k
def tI{x:O}(hx:x.fv N f=.snil)(k:WO A N l (upd f d (.s (.int .i64 0))) n L K Zp):WO A N (⟨some d,none,.p (.len x)⟩::l) f n L K Zp :=
 Va (v:=.s (.int .i64 0)) (by simp only[YY,Y2,hx]) k
def Xe{x:O}{s:ByteArray}(hx:x.fv N f=.s (.str s))(k:WO A N l (upd f d (.s (.int .i64 s.size))) n L K Zp):WO A N (⟨some d,none,.p (.lenS x)⟩::l) f n L K Zp :=
 Va (v:=.s (.int .i64 s.size)) (by simp only[YY,Y2,hx]) k
def WO_ext{x:O}{i:Nat}{vs:List V}{v:V}(hx:x.fv N f=.tup vs)(hv:vs[i]? = some v)(k:WO A N l (upd f d v) n L K Zp):WO A N (⟨some d,none,.p (.ext x i)⟩::l) f n L K Zp :=
 Va (v:=v) (by simp only[YY,Y2,hx,hv]) k
def WO_mn{xs:List O}{vs:List V}{v:V}(hx:xs.map (O.fv N f)=vs)(hv:U0 (fun a b=>if b<a then b else a) vs=some v)(k:WO A N l (upd f d v) n L K Zp):WO A N (⟨some d,none,.p (.mn xs)⟩::l) f n L K Zp :=
 Va (v:=v) (by simp only[YY,sH,hx,hv]) k
def WO_mx{xs:List O}{vs:List V}{v:V}(hx:xs.map (O.fv N f)=vs)(hv:U0 (fun a b=>if a<b then b else a) vs=some v)(k:WO A N l (upd f d v) n L K Zp):WO A N (⟨some d,none,.p (.mx xs)⟩::l) f n L K Zp :=
 Va (v:=v) (by simp only[YY,sH,hx,hv]) k
def if_max(a b:Int):(if a<b then b else a)=max a b:=by rw[Int.max_def];split <;> split <;> omega
def if_min(a b:Int):(if b<a then b else a)=min a b:=by rw[Int.min_def];split <;> split <;> omega
def WO_mx2{xa xb:O}{a b:Int}(ha:xa.fv N f=.s (.int .i64 a))(hb:xb.fv N f=.s (.int .i64 b))(k:WO A N l (upd f d (.s (.int .i64 (max a b)))) n L K Zp):WO A N (⟨some d,none,.p (.mx [xa,xb])⟩::l) f n L K Zp :=
 WO_mx (vs:=[.s (.int .i64 a),.s (.int .i64 b)]) (by simp only[List.map_cons,List.map_nil,ha,hb]) (by simp only[U0,KY,if_max]) k
def Dw{xa xb:O}{a b:Int}(ha:xa.fv N f=.s (.int .i64 a))(hb:xb.fv N f=.s (.int .i64 b))(k:WO A N l (upd f d (.s (.int .i64 (min a b)))) n L K Zp):WO A N (⟨some d,none,.p (.mn [xa,xb])⟩::l) f n L K Zp :=
 WO_mn (vs:=[.s (.int .i64 a),.s (.int .i64 b)]) (by simp only[List.map_cons,List.map_nil,ha,hb]) (by simp only[U0,KY,if_min]) k
def KF{g:FuncId}{xs:List O}{vs:List V}(hx:xs.map (O.fv N f)=vs)(k:WO A N l (upd f d (.fn g vs)) n L K Zp):WO A N (⟨some d,none,.p (.mkfn g xs)⟩::l) f n L K Zp :=
 Va (v:=.fn g vs) (by simp only[YY,sH,hx]) k
def fvb(N:Nat)(f:FE)(x:Option O)(d:Nat):Option Int :=
 match x with
 |none=>some d
 |some x=>num? (x.fv N f)
def tE(x:Option O)(e:Nat):WB (E N f) x e=fvb N f x e:=by
 cases x with
 |none=>rfl
 |some x=>simp only[WB,fvb,Y2]
def Da{x:O}{lo hi:Option O}{s:ByteArray}{a b:Int}(hx:x.fv N f=.s (.str s))(hl:fvb N f lo 0=some a)(hh:fvb N f hi s.size=some b)(hab:0<=a/\a<=b/\b<=s.size)(k:WO A N l (upd f d (.s (.str (s.extract a.toNat b.toNat)))) n L K Zp):WO A N (⟨some d,none,.p (.slS x lo hi)⟩::l) f n L K Zp :=
 Va (v:=.s (.str (s.extract a.toNat b.toNat))) (by simp only[YY,Y2,hx,tE,hl,hh,ZcA hab]) k
def WO_slV{z:Nat}{x:O}{lo hi:Option O}{b o m:Nat}{c:Cp}{p q:Int}(hx:x.fv N f=.sl b o m z c)(hl:fvb N f lo 0=some p)(hh:fvb N f hi m=some q)(hc:(match c with|.ex _=>false|_=>true)=true)(hab:0<=p/\p<=q/\q<=m/\p<m)(k:WO A N l (upd f d (.sl b (o+p.toNat*z) (q.toNat-p.toNat) z .unk)) n L K Zp):WO A N (⟨some d,none,.p (.slV z x lo hi)⟩::l) f n L K Zp :=
 Va (v:=.sl b (o+p.toNat*z) (q.toNat-p.toNat) z .unk) (by
  simp only[YY,Y2,hx,tE,hl,hh,if_true]
  cases c with
  |ex c=>simp at hc
  |unk=>simp only[ZcA (show 0<=p/\p<=q/\q<=m from⟨hab.1,hab.2.1,hab.2.2.1⟩),ZcA hab.2.2.2]
  |whole=>simp only[ZcA (show 0<=p/\p<=q/\q<=m from⟨hab.1,hab.2.1,hab.2.2.1⟩),ZcA hab.2.2.2]) k
def Rr{z:Z}{ps:List (Nat×Nat×O)}{v:V}(h:Rs (E N f) z ps=some v)(k:WO A N l (upd f d v) n L K Zp):WO A N (⟨some d,none,.p (.build z ps)⟩::l) f n L K Zp :=
 Va (v:=v) (by rw[YY,h]) k
abbrev ov(P:Nat->Int)(o:Nat)(x:Int):Nat->Int:=fun i=>bif Nat.beq i o then x else P i
abbrev ovA(P:Nat->Int)(o m:Nat)(Q:Nat->Int):Nat->Int:=fun i=>bif Nat.ble o i&&Nat.blt i (o+m) then Q (i-o) else P i
def zx(P:Nat->Int)(o m:Nat)(Q:Nat->Int):WE (ia P) o m (ia Q)=ia (ovA P o m Q):=by
 funext i;unfold WE;show _=S.int .i64 (bif Nat.ble o i&&Nat.blt i (o+m) then Q (i-o) else P i)
 cases Nat.ble o i&&Nat.blt i (o+m) <;> rfl
def kv(P:Nat->Int)(o:Nat)(x:Int):WE (ia P) o 1 (fun _=>.int .i64 x)=ia (ov P o x):=by
 funext i;unfold WE;have:(Nat.ble o i&&Nat.blt i (o+1))=Nat.beq i o:=by
  rw[Zce];simp only[Zca,Nat.ble_eq,Nat.blt_eq,Nat.beq_eq];omega
 rw[this];show _=S.int .i64 (bif Nat.beq i o then x else P i)
 cases Nat.beq i o <;> rfl
abbrev cut(m:Nat)(Q:Nat->Int):Nat->Int:=ovA (fun _=>0) 0 m Q
inductive Fill(N:Nat)(f:FE):List (Nat×Nat×O)->(Nat->Int)->(Nat->Int)->Prop
 |nil {P:Nat->Int}:Fill N f [] P P
 |one {off:Nat} {x:O} {a:Int} {r:List (Nat×Nat×O)} {P Q:Nat->Int} (h:x.fv N f=.s (.int .i64 a)) (hr:Fill N f r (ov P off a) Q):Fill N f ((off,1,x)::r) P Q
 |agg {off m:Nat} {x:O} {R:Nat->Int} {r:List (Nat×Nat×O)} {P Q:Nat->Int} (h:x.fv N f=.agg m (ia R)) (hr:Fill N f r (ovA P off m R) Q):Fill N f ((off,m,x)::r) P Q
def Tj{ps:List (Nat×Nat×O)}{P Q:Nat->Int}(h:Fill N f ps P Q):WJ (E N f) ps (ia P)=some (ia Q):=by
 induction h with
 |nil=>rfl
 |one h _ ih=>simp only[WJ,Y2,h,V.scells,if_true,kv,ih]
 |agg h _ ih=>simp only[WJ,Y2,h,V.scells,if_true,zx,ih]
def pO{m:Nat}{ps:List (Nat×Nat×O)}{Q:Nat->Int}(hi:QH m ps=true)(h:Fill N f ps (fun _=>0) Q)(k:WO A N l (upd f d (.agg m (ia Q))) n L K Zp):WO A N (⟨some d,none,.p (.build (.ints m) ps)⟩::l) f n L K Zp :=
 Rr (v:=.agg m (ia Q)) (by
  simp only[Rs,Z.size,hi,if_true,Z.sc,Option.bind_some];rw[show(fun _=>S.zero:Nat->S)=ia (fun _=>0) from rfl,Tj h]) k
def tM(xs:List S)(i:Nat):lc xs i=xs[i]?.getD S.zero:=ZbD
def spl(xs:List S)(off:Nat)(l:List S):List S:=xs.take off++l++xs.drop (off+l.length)
def V8{xs ys:List S}{off m:Nat}{h:Nat->S}(hb:Nat.ble (off+m) xs.length=true)(hy:spl xs off ((List.range m).map h)=ys):WE (lc xs) off m h=lc ys:=by
 subst hy;have hb:=ZbT hb;funext i;unfold WE;rw[tM,tM];unfold spl;simp only[List.length_map,List.length_range];by_cases h1:i<off
 ·have e:(Nat.ble off i&&Nat.blt i (off+m))=false:=by
   cases hq:Nat.ble off i with
   |false=>rfl
   |true=>have:=ZbT hq;omega
  rw[e,Zb5,ZbF (by rw[Zcb];omega),List.getElem?_take,ZcA h1];rfl
 by_cases h2:i<off+m
 ·have e:(Nat.ble off i&&Nat.blt i (off+m))=true:=by
   rw[ZbN (show off<=i by omega),show Nat.blt i (off+m)=true from ZbN h2];rfl
  have hl:(xs.take off).length=off:=by rw[Zcb];omega
  rw[e,Zb5,ZbE (by omega),ZbF (by simp;omega),hl,Zb9,ZbZ (by omega)];rfl
 have e:(Nat.ble off i&&Nat.blt i (off+m))=false:=by
  cases hq:Nat.blt i (off+m) with
  |false=>simp
  |true=>exact absurd (ZbT hq) (by omega)
 have hl:(xs.take off++(List.range m).map h).length=off+m:=by rw[Zb2,Zcb,List.length_map,List.length_range];omega
 rw[e,ZbE (by omega),hl,List.getElem?_drop,show off+m+(i-(off+m))=i by omega];rfl
inductive FillL(N:Nat)(f:FE):List (Nat×Nat×O)->List S->List S->Prop
 |nil {xs:List S}:FillL N f [] xs xs
 |part {off m:Nat} {x:O} {v:V} {h:Nat->S} {r:List (Nat×Nat×O)} {xs ys zs:List S} (hx:x.fv N f=v) (hv:v.scells m=some h) (hb:Nat.ble (off+m) xs.length=true) (hy:spl xs off ((List.range m).map h)=ys) (hr:FillL N f r ys zs):FillL N f ((off,m,x)::r) xs zs
def vX{ps:List (Nat×Nat×O)}{xs zs:List S}(h:FillL N f ps xs zs):WJ (E N f) ps (lc xs)=some (lc zs):=by
 induction h with
 |nil=>rfl
 |part hx hv hb hy _ ih=>simp only[WJ,Y2,hx,hv,V8 hb hy,ih]
def Kh{m:Nat}{xs zs:List S}{ps:List (Nat×Nat×O)}(hm:xs.length=m)(hi:QH m ps=true)(h:FillL N f ps xs zs)(k:WO A N l (upd f d (.agg m (lc zs))) n L K Zp):WO A N (⟨some d,none,.p (.build (.scl xs) ps)⟩::l) f n L K Zp :=
 Rr (v:=.agg m (lc zs)) (by
  subst hm;simp only[Rs,Z.size,hi,if_true,Z.sc,Option.bind_some];rw[vX h]) k
end
end Go.Am
namespace Go.Am
open Go
section
variable{A:AP}{N:Nat}{f:FE}{n:Nat}{L:HA}{K:KN}{Zp:V->KN}{l:List I}{d:Nat}
def Jl{z:Z}{B:Blk}(hB:z.blk=B)(k:WO A N l (upd f d (.ptr n 0 z.size)) (n+1) ((n,B)::L) K Zp):WO A N (⟨some d,none,.h (.alloc z)⟩::l) f n L K Zp :=
 Xl (v:=.ptr n 0 z.size) (fun σ h=>⟨σ++[B],by simp only[YK,h.1,hB],h.new B⟩) k
def gk{m:Nat}(k:WO A N l (upd f d (.ptr n 0 m)) (n+1) ((n,.sc .var m (ia fun _=>0))::L) K Zp):WO A N (⟨some d,none,.h (.alloc (.ints m))⟩::l) f n L K Zp :=
 Jl (z:=.ints m) rfl k
def Dx{xs:List S}{m:Nat}(hm:xs.length=m)(k:WO A N l (upd f d (.ptr n 0 m)) (n+1) ((n,.sc .var m (lc xs))::L) K Zp):WO A N (⟨some d,none,.h (.alloc (.scl xs))⟩::l) f n L K Zp:=by
 subst hm;exact Jl (z:=.scl xs) rfl k
def gA{x:S}(k:WO A N l (upd f d (.ptr n 0 1)) (n+1) ((n,.sc .var 1 (fun _=>x))::L) K Zp):WO A N (⟨some d,none,.h (.alloc (.one (.s x)))⟩::l) f n L K Zp :=
 Jl (z:=.one (.s x)) rfl k
def WO_boxA{x:O}{m:Nat}{g:Nat->S}(hx:x.fv N f=.agg m g)(k:WO A N l (upd f d (.ptr n 0 m)) (n+1) ((n,.sc .var m g)::L) K Zp):WO A N (⟨some d,none,.h (.box x)⟩::l) f n L K Zp :=
 Xl (v:=.ptr n 0 m) (fun σ h=>⟨σ++[.sc .var m g],by simp only[YK,Y2,hx,D4,h.1],h.new _⟩) k
def uV{x:O}{kd:IntKind}{a:Int}(hx:x.fv N f=.s (.int kd a))(k:WO A N l (upd f d (.ptr n 0 1)) (n+1) ((n,.sc .var 1 (fun _=>.int kd a))::L) K Zp):WO A N (⟨some d,none,.h (.box x)⟩::l) f n L K Zp :=
 Xl (v:=.ptr n 0 1) (fun σ h=>⟨σ++[.sc .var 1 fun _=>.int kd a],by simp only[YK,Y2,hx,D4,h.1],h.new _⟩) k
def pP{m:Nat}{a:O}{b o z:Nat}{md:Md}{q:Nat}{g g':Nat->S}(ha:a.fv N f=.ptr b o z)(hz:Nat.ble m z=true)(hm:(b,Blk.sc md q g)∈L)(hg:(fun i=>g (o+i))=g')(k:WO A N l (upd f d (.agg m g')) n L K Zp):WO A N (⟨some d,none,.h (.load true m a)⟩::l) f n L K Zp :=
 Xl (v:=.agg m g') (fun σ h=>⟨σ,by simp only[YK,Y2,ha,ZcA (ZbT hz),rdV,(h.2.mem hm).2,cond_true,Option.map_some,hg],h⟩) k
abbrev dp(P:Nat->Int)(o:Nat):Nat->Int:=fun i=>P (o+i)
def WO_ldAI{m:Nat}{a:O}{b o z:Nat}{md:Md}{q:Nat}{P:Nat->Int}(ha:a.fv N f=.ptr b o z)(hz:Nat.ble m z=true)(hm:(b,Blk.sc md q (ia P))∈L)(k:WO A N l (upd f d (.agg m (ia (dp P o)))) n L K Zp):WO A N (⟨some d,none,.h (.load true m a)⟩::l) f n L K Zp :=
 pP ha hz hm rfl k
def WO_ldA0{m:Nat}{a:O}{b z:Nat}{md:Md}{q:Nat}{g:Nat->S}(ha:a.fv N f=.ptr b 0 z)(hz:Nat.ble m z=true)(hm:(b,Blk.sc md q g)∈L)(k:WO A N l (upd f d (.agg m g)) n L K Zp):WO A N (⟨some d,none,.h (.load true m a)⟩::l) f n L K Zp :=
 pP ha hz hm (by simp) k
def oQ{a:O}{b o z:Nat}{md:Md}{q:Nat}{g:Nat->S}{x:S}(ha:a.fv N f=.ptr b o z)(hz:Nat.ble 1 z=true)(hm:(b,Blk.sc md q g)∈L)(hg:g o=x)(k:WO A N l (upd f d (.s x)) n L K Zp):WO A N (⟨some d,none,.h (.load false 1 a)⟩::l) f n L K Zp :=
 Xl (v:=.s x) (fun σ h=>⟨σ,by simp only[YK,Y2,ha,ZcA (ZbT hz),rdV,(h.2.mem hm).2,cond_false,Option.map_some,hg],h⟩) k
def WO_ldI{a:O}{b o z:Nat}{md:Md}{q:Nat}{P:Nat->Int}{x:Int}(ha:a.fv N f=.ptr b o z)(hz:Nat.ble 1 z=true)(hm:(b,Blk.sc md q (ia P))∈L)(hg:P o=x)(k:WO A N l (upd f d (.s (.int .i64 x))) n L K Zp):WO A N (⟨some d,none,.h (.load false 1 a)⟩::l) f n L K Zp :=
 oQ ha hz hm (by rw[<-hg]) k
def VV{a:O}{b o z:Nat}{md:Md}{vs:List V}{v:V}(ha:a.fv N f=.ptr b o z)(hz:Nat.ble 1 z=true)(hm:(b,Blk.vs md vs)∈L)(hg:vs[o]? = some v)(k:WO A N l (upd f d v) n L K Zp):WO A N (⟨some d,none,.h (.load false 1 a)⟩::l) f n L K Zp :=
 Xl (v:=v) (fun σ h=>⟨σ,by simp only[YK,Y2,ha,ZcA (ZbT hz),rdV,(h.2.mem hm).2,cond_false,Option.map_some,hg],h⟩) k
def Qu{m:Nat}{a x:O}{b o z:Nat}{md:Md}{q:Nat}{g h g':Nat->S}{v:V}{L':HA}(ha:a.fv N f=.ptr b o z)(hx:x.fv N f=v)(hv:v.scells m=some h)(hz:Nat.ble m z=true)(hmd:md.mut=true)(hg:WE g o m h=g')
  (hm:At b (.sc md q g) (.sc md q g') L L') (k:WO A N l f n L' K Zp):WO A N (⟨none,none,.h (.store m a x)⟩::l) f n L K Zp :=
 Xl (v:=.undef) (fun σ hσ=>⟨σ.set b (.sc md q g'),by simp only[YK,Y2,ha,ZcA (ZbT hz),wrV,(hσ.2.mem hm.mem).2,hmd,if_true,hx,hv,Option.map_some,hg],hσ.set hm⟩) k
def WO_stI{a x:O}{b o z:Nat}{md:Md}{q:Nat}{P:Nat->Int}{y:Int}{L':HA}(ha:a.fv N f=.ptr b o z)(hx:x.fv N f=.s (.int .i64 y))(hz:Nat.ble 1 z=true)(hmd:md.mut=true)
  (hm:At b (.sc md q (ia P)) (.sc md q (ia (ov P o y))) L L') (k:WO A N l f n L' K Zp):WO A N (⟨none,none,.h (.store 1 a x)⟩::l) f n L K Zp :=
 Qu ha hx (by simp[V.scells]) hz hmd (kv P o y) hm k
def WO_stA{m:Nat}{a x:O}{b o z:Nat}{md:Md}{q:Nat}{P Q:Nat->Int}{L':HA}(ha:a.fv N f=.ptr b o z)(hx:x.fv N f=.agg m (ia Q))(hz:Nat.ble m z=true)(hmd:md.mut=true)
  (hm:At b (.sc md q (ia P)) (.sc md q (ia (ovA P o m Q))) L L') (k:WO A N l f n L' K Zp):WO A N (⟨none,none,.h (.store m a x)⟩::l) f n L K Zp :=
 Qu ha hx (by simp[V.scells]) hz hmd (zx P o m Q) hm k
def WO_st1{a x:O}{b z:Nat}{md:Md}{y w:S}{L':HA}(ha:a.fv N f=.ptr b 0 z)(hx:x.fv N f=.s y)(hz:Nat.ble 1 z=true)(hmd:md.mut=true)
  (hm:At b (.sc md 1 (fun _=>w)) (.sc md 1 (WE (fun _=>w) 0 1 fun _=>y)) L L') (k:WO A N l f n L' K Zp):WO A N (⟨none,none,.h (.store 1 a x)⟩::l) f n L K Zp :=
 Qu ha hx (by simp[V.scells]) hz hmd rfl hm k
def kh{a x:O}{b o z:Nat}{md:Md}{vs vs':List V}{v:V}{L':HA}(ha:a.fv N f=.ptr b o z)(hx:x.fv N f=v)(hv:v.vcells 1=some [v])(h1:v.one=true)(hz:Nat.ble 1 z=true)(hmd:md.mut=true)(ho:Nat.ble (o+1) vs.length=true)(hvs:vs.take o++[v]++vs.drop (o+1)=vs')
  (hm:At b (.vs md vs) (.vs md vs') L L') (k:WO A N l f n L' K Zp):WO A N (⟨none,none,.h (.store 1 a x)⟩::l) f n L K Zp :=
 Xl (v:=.undef) (fun σ hσ=>⟨σ.set b (.vs md vs'),by
  simp only[YK,Y2,ha,ZcA (ZbT hz),wrV,(hσ.2.mem hm.mem).2,hmd,if_true,hx,hv,Option.bind_some];rw[ZcA ⟨ZbT ho,by simp[h1]⟩,hvs];rfl,hσ.set hm⟩) k
def Wp{len z:Nat}{ps:List (Nat×O)}{P:Nat->Int}(hi:QH (len*z) (ps.map fun p=>(p.1*z,z,p.2))=true)(h:Fill N f (ps.map fun p=>(p.1*z,z,p.2)) (fun _=>0) P)
  (k:WO A N l (upd f d (.sl n 0 len z (.ex len))) (n+1) ((n,.sc .var (len*z) (ia P))::L) K Zp):WO A N (⟨some d,none,.h (.mksl len z (.ints z) ps)⟩::l) f n L K Zp :=
 Xl (v:=.sl n 0 len z (.ex len)) (fun σ hσ=>⟨σ++[.sc .var (len*z) (ia P)],by
  simp only[YK,Z.row,Ws,hi,if_true];rw[show(fun _=>S.zero:Nat->S)=ia (fun _=>0) from rfl,Tj h];simp only[Option.map_some,hσ.1],hσ.new _⟩) k
def XA{len:Nat}{ps:List (Nat×O)}{P:Nat->Int}(hi:QH len (ps.map fun p=>(p.1*1,1,p.2))=true)(h:Fill N f (ps.map fun p=>(p.1*1,1,p.2)) (fun _=>0) P)
  (k:WO A N l (upd f d (.sl n 0 len 1 (.ex len))) (n+1) ((n,.sc .var len (ia P))::L) K Zp):WO A N (⟨some d,none,.h (.mksl len 1 (.one (.s (.int .i64 0))) ps)⟩::l) f n L K Zp :=
 Xl (v:=.sl n 0 len 1 (.ex len)) (fun σ hσ=>⟨σ++[.sc .var len (ia P)],by
  simp only[YK,Z.row,Ws,hi,if_true];rw[show(fun _=>S.int .i64 0:Nat->S)=ia (fun _=>0) from rfl,Tj h];simp only[Option.map_some,hσ.1],hσ.new _⟩) k
def UO{b:Nat}{B:Blk}:∀ {L:HA},(b,B)∈L->At b B B L L
 |(c,C)::L,h=>by
  by_cases hc:(b,B)=(c,C)
  ·injection hc with h1 h2
   subst h1;subst h2;exact .here
  rcases Zco.1 h with h|h
  ·exact absurd h hc
  exact .there (UO h)
end
end Go.Am
