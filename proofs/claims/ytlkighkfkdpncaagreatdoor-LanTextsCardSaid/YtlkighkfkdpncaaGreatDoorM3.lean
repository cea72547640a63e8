/- Texts of this seat, joined. -/
import Derived.Shelf.Strings.Builder1
import Derived.Shelf.Strings.Builder2
import Derived.Shelf.Strings.OnBuilder
import Derived.Shelf.Small.Strs
import Derived.Shelf.Strings.Search1
import Derived.Test.YtlkighkfkdpncaaGreatDoorProg
import Derived.LoopN
import Derived.Test.YtlkighkfkdpncaaGreatDoorTie
import Derived.Lay
import Derived.LaidMore
import Derived.OpenShut
import Derived.Stop.Joined
import Derived.ProofKit
import Derived.SizedLaws
import Derived.ChangeMaps5
import Derived.Test.YtlkighkfkdpncaaGreatDoorM2
set_option linter.unusedSimpArgs false
set_option linter.unusedVariables false
namespace Go.Proofs.YtlkighkfkdpncaaGreatDoor
open Go Go.Am
def Y1 (P:Nat->Int) (t:Int):Bool:=isM t&&Xf P t
def R9 (P:Nat->Int) (t:Int):Int:=P (sqI t+1)
def U2 (P:Nat->Int) (s c:Int):List Int :=
 (if Y1 P (YT s 0 (1 - 2*c))=true then [YT s 0 (1 - 2*c)] else []) ++
 (if Wh s=1+5*c/\Y1 P (YT s 0 (1 - 2*c))=true/\Y1 P (YT s 0 (2*(1 - 2*c)))=true then [YT s 0 (2*(1 - 2*c))] else []) ++
 (Wk P s).filter fun t=>(!Xf P t&&decide (R9 P t=XT c)) || (Y1 P t&&decide (t=P 130))
def V3 (P:Nat->Int) (c t:Int):Bool:=decide (P (sqI t)=4/\P (sqI t+1)=c)
def XR (P:Nat->Int) (s k c:Int):List Int :=
 if k≠6\/s≠56*c+4\/P 129 < 0\/15 < P 129 then []
 else (if P 129 / Y4 c % 2=1/\V3 P c (s+3)=true/\Y1 P (s+1)=true/\Y1 P (s+2)=true then [s+2] else []) ++
  (if P 129 / (2*Y4 c) % 2=1/\V3 P c (s - 4)=true/\Y1 P (s - 1)=true/\Y1 P (s - 2)=true/\Y1 P (s - 3)=true then [s - 2] else [])
def U5 (P:Nat->Int) (c t:Int):Bool:=!Xf P t&&decide (R9 P t=c)
def XL (P:Nat->Int) (s k c:Int):List Int :=
 if k=1 then U2 P s c else ((Wk P s).filter fun t=>!U5 P c t)++XR P s k c
def endM (k c t:Int):Bool:=decide (k=1/\t / 8=7*(1 - c))
def toM (s k c t:Int):List Mv:=if endM k c t=true then [(s,t,2),(s,t,3),(s,t,4),(s,t,5)] else [(s,t,0)]
def Ww (P:Nat->Int) (s:Int):Bool:=Xm (P (sqI s)) (P (sqI s+1))&&decide (P (sqI s+1)=P 128)
def VT (P:Nat->Int) (s:Int):List Mv:=(XL P s (P (sqI s)) (P (sqI s+1))).flatMap (toM s (P (sqI s)) (P (sqI s+1)))
def UX (P:Nat->Int) (n:Nat):List Mv:=(Wq n).flatMap fun s=>if Ww P s=true then VT P s else []
def Ey (P:Nat->Int):List Mv:=KH (UX P 64)
def fromSv (P:Nat->Int) (s:Int):List Mv:=if (0<=s/\s < 64)/\Ww P s=true then KH (VT P s) else []
def goP (P:Nat->Int) (s t c:Int):Bool :=
 if t=s+8*(1 - 2*c) then Y1 P t
 else if t=s+16*(1 - 2*c)/\s / 8=1+5*c then Y1 P (s+8*(1 - 2*c))&&Y1 P t
 else Kv P s t&&((!Xf P t&&decide (R9 P t=XT c)) || (Y1 P t&&decide (t=P 130)))
def goC (P:Nat->Int) (s t c:Int):Bool :=
 if s≠56*c+4\/P 129 < 0\/15 < P 129 then false
 else if t=s+2 then decide (P 129 / Y4 c % 2=1)&&V3 P c (s+3)&&Y1 P (s+1)&&Y1 P (s+2)
 else decide (t=s - 2)&&decide (P 129 / (2*Y4 c) % 2=1)&&V3 P c (s - 4)&&Y1 P (s - 1)&&Y1 P (s - 2)&&Y1 P (s - 3)
def goK (P:Nat->Int) (s t k c:Int):Bool :=
 if k=1 then goP P s t c else (Kv P s t&&!U5 P c t) || (decide (k=6)&&goC P s t c)
def R6 (P:Nat->Int) (s t:Int):Bool:=Ww P s&&decide (s≠t)&&goK P s t (P (sqI s)) (P (sqI s+1))
def QS (P:Nat->Int) (s:Int) (n:Nat):List Mv:=(Wq n).flatMap fun t=>if R6 P s t=true then toM s (P (sqI s)) (P (sqI s+1)) t else []
def Rn (P:Nat->Int) (n:Nat):List Mv:=(Wq n).flatMap fun s=>QS P s 64
theorem kR {P:Nat->Int} {s t:Int} (h:Kv P s t=true):s≠t:=by
 intro e
 unfold Kv wt at h
 rw [ZcA (.inr e)] at h
 cases h
theorem yr {P:Nat->Int} {s t:Int} (h:Kv P s t=true) (hk:P (sqI s)=1):Vl (t % 8 - s % 8)=1:=by
 unfold Kv wt at h
 rw [hk] at h
 split at h
 ·cases h
 rw [ZcA rfl,Zb7] at h; exact h.1
theorem g6 {P:Nat->Int} {s t:Int} (h:Kv P s t=true) (hk:P (sqI s)=6):Vl (t % 8 - s % 8)<=1:=by
 unfold Kv wt at h
 rw [hk] at h
 split at h
 ·cases h
 rw [Zcz (by decide),Zcz (by decide),ZcA rfl,Zb7] at h; exact h.1
theorem EJ {P:Nat->Int} {s t:Int} (hs:0<=s/\s < 64):t∈Wk P s↔(0<=t/\t < 64)/\Kv P s t=true:=by
 rw [Zar]
 unfold attL
 rw [ZcA hs,Zch]
 unfold Wq
 rw [List.mem_map]
 constructor
 ·rintro ⟨⟨i,hi,rfl⟩,h⟩
  exact ⟨⟨by omega,by have:=Zck.1 hi; omega⟩,h⟩
 rintro ⟨h1,h2⟩
 exact ⟨⟨t.toNat,Zck.2 (by omega),by omega⟩,h2⟩
theorem fromS_nodup {P:Nat->Int} {s:Int}:(Wk P s).Nodup:=by
 unfold Wk
 split
 ·rename_i h
  exact (Q5 _).nodup_iff.2 (y5 h)
 exact .nil
theorem uI {P:Nat->Int} {t:Int} (h:Y1 P t=true):0<=t/\t < 64:=by
 unfold Y1 isM at h
 rw [Zca,Zb7] at h
 exact h.1
theorem KU {s d:Int} (hs:0<=s/\s < 64) (hd:-8 < d/\d < 8):YT s 0 d=if 0<=s+8*d/\s+8*d < 64 then s+8*d else -1:=by
 unfold YT atM
 rw [ZcA ⟨hs,by omega,hd⟩]
 split <;> split <;> omega
theorem Ja {p:Prop} [Decidable p] {x t:Int}:t∈(if p then [x] else [])↔p/\t=x:=by
 split
 ·rename_i h; simp [h]
 rename_i h; simp [h]
theorem rY {P:Nat->Int} {s t c:Int} (hs:0<=s/\s < 64) (hc:c=0\/c=1) (hk:P (sqI s)=1):t∈U2 P s c↔(0<=t/\t < 64)/\goP P s t c=true:=by
 unfold U2 goP
 rw [Zcg,Zcg,Ja,Ja,Zch,EJ hs,KU hs (by omega),KU hs (by omega)]
 have hr:Wh s=s / 8:=ZcA hs
 rw [hr]
 have f0:Y1 P (-1)=false:=rfl
 by_cases h1:t=s+8*(1 - 2*c)
 ·rw [ZcA h1]
  subst h1
  have na:¬ Kv P s (s+8*(1 - 2*c))=true:=fun h=>by
   have:=yr h hk
   unfold Vl at this
   split at this <;> omega
  constructor
  ·rintro ((⟨h2,h3⟩ | ⟨⟨h2,h3,h4⟩,h5⟩) | ⟨⟨_,h⟩,_⟩)
   ·split at h2
    ·rename_i hb; exact ⟨hb,h2⟩
    rw [f0] at h2; cases h2
   ·split at h4
    ·split at h5 <;> omega
    rw [f0] at h4; cases h4
   exact absurd h na
  rintro ⟨h2,h3⟩
  rw [ZcA (by omega)]
  exact .inl (.inl ⟨by rw [show s+8*(1 - 2*c)=s+8*(1 - 2*c) from rfl]; exact h3,rfl⟩)
 rw [Zcz h1]
 have n1:¬ (Y1 P (if 0<=s+8*(1 - 2*c)/\s+8*(1 - 2*c) < 64 then s+8*(1 - 2*c) else -1)=true/\t=if 0<=s+8*(1 - 2*c)/\s+8*(1 - 2*c) < 64 then s+8*(1 - 2*c) else -1):=by
  rintro ⟨h2,h3⟩
  split at h2
  ·rename_i hb; rw [ZcA hb] at h3; exact h1 h3
  rw [f0] at h2; cases h2
 by_cases h2:t=s+16*(1 - 2*c)/\s / 8=1+5*c
 ·rw [ZcA h2]
  obtain ⟨h2,h3⟩:=h2
  have na:¬ Kv P s t=true:=fun h=>by
   have:=yr h hk
   unfold Vl at this
   split at this <;> omega
  rw [ZcA (by omega),ZcA (by omega)]
  constructor
  ·rintro ((h | ⟨⟨_,h4,h5⟩,h6⟩) | ⟨⟨_,h⟩,_⟩)
   ·rw [ZcA (by omega)] at n1; exact absurd h n1
   ·refine ⟨by omega,?_⟩
    rw [h4,Bool.true_and,h6]
    exact h5
   exact absurd h na
  rintro ⟨h4,h5⟩
  rw [Zca] at h5
  refine .inl (.inr ⟨⟨h3,h5.1,?_⟩,by omega⟩)
  rw [show s+8*(2*(1 - 2*c))=t by omega]
  exact h5.2
 rw [Zcz h2]
 have n2:¬ ((s / 8=1+5*c/\Y1 P (if 0<=s+8*(1 - 2*c)/\s+8*(1 - 2*c) < 64 then s+8*(1 - 2*c) else -1)=true/\Y1 P (if 0<=s+8*(2*(1 - 2*c))/\s+8*(2*(1 - 2*c)) < 64 then s+8*(2*(1 - 2*c)) else -1)=true)/\t=if 0<=s+8*(2*(1 - 2*c))/\s+8*(2*(1 - 2*c)) < 64 then s+8*(2*(1 - 2*c)) else -1):=by
  rintro ⟨⟨h3,h4,h5⟩,h6⟩
  split at h5
  ·rename_i hb
   rw [ZcA hb] at h6
   exact h2 ⟨by omega,h3⟩
  rw [f0] at h5; cases h5
 simp only [n1,n2,false_or,Zca,and_assoc]
theorem ut {P:Nat->Int} {s c:Int} (hs:0<=s/\s < 64) (hc:c=0\/c=1) (hk:P (sqI s)=1):(U2 P s c).Nodup:=by
 have f0:Y1 P (-1)=false:=rfl
 unfold U2
 rw [List.nodup_append,List.nodup_append]
 refine ⟨⟨by split <;> simp,by split <;> simp,fun a ha b hb e=>?_⟩,fromS_nodup.filter _,fun a ha b hb e=>?_⟩
 ·rw [Ja] at ha hb
  subst e
  have h1:=uI ha.1
  have h2:=uI hb.1.2.2
  have e1:=ha.2
  have e2:=hb.2
  rw [KU hs (by omega)] at h1 e1
  rw [KU hs (by omega)] at h2 e2
  split at h1 <;> split at h2 <;> omega
 subst e
 have hb:=(EJ hs).1 (Zch.1 hb).1
 have ht:=yr hb.2 hk
 rw [Zcg,Ja,Ja,KU hs (by omega),KU hs (by omega)] at ha
 unfold Vl at ht
 have hb:=hb.1
 rcases ha with ⟨_,e⟩ | ⟨_,e⟩
 ·split at e <;> split at ht <;> omega
 split at e <;> split at ht <;> omega
theorem E2 {P:Nat->Int} {s t k c:Int} (hk:k=6):t∈XR P s k c↔goC P s t c=true:=by
 unfold XR goC
 by_cases h:s≠56*c+4\/P 129 < 0\/15 < P 129
 ·rw [ZcA h,ZcA (.inr h)]; simp
 have hn:¬ (k≠6\/s≠56*c+4\/P 129 < 0\/15 < P 129):=by
  rintro (h' | h')
  ·exact h' hk
  exact h h'
 rw [Zcz h,Zcz hn,Zcg,Ja,Ja]
 by_cases h2:t=s+2
 ·rw [ZcA h2]
  have:¬ t=s - 2:=by omega
  simp [h2,this,and_assoc]
  omega
 rw [Zcz h2]
 simp [h2,and_assoc]
 constructor
 ·rintro ⟨a,b,c,d,e,f⟩; exact ⟨f,a,b,c,d,e⟩
 rintro ⟨f,a,b,c,d,e⟩; exact ⟨a,b,c,d,e,f⟩
theorem Tx {P:Nat->Int} {s k c:Int} (hk:k≠6):XR P s k c=[]:=ZcA (.inl hk)
theorem goC_bd {P:Nat->Int} {s t c:Int} (hc:c=0\/c=1) (h:goC P s t c=true):(0<=t/\t < 64)/\s≠t:=by
 unfold goC at h
 split at h
 ·cases h
 split at h <;> simp at h <;> omega
theorem z7 {P:Nat->Int} {s t:Int} (hs:0<=s/\s < 64) (hm:Ww P s=true):t∈XL P s (P (sqI s)) (P (sqI s+1))↔(0<=t/\t < 64)/\R6 P s t=true:=by
 unfold R6
 rw [hm,Bool.true_and,Zca,Zb7]
 have hc:P (sqI s+1)=0\/P (sqI s+1)=1:=by
  unfold Ww Xm at hm
  simp only [Zca,Zb7] at hm
  omega
 unfold XL goK
 by_cases hk:P (sqI s)=1
 ·rw [ZcA hk,ZcA hk,rY hs hc hk]
  constructor
  ·rintro ⟨h1,h2⟩
   refine ⟨h1,fun e=>?_,h2⟩
   subst e
   unfold goP at h2
   rw [Zcz (by omega),Zcz (by omega),Zca] at h2
   exact kR h2.1 rfl
  rintro ⟨h1,_,h2⟩
  exact ⟨h1,h2⟩
 rw [Zcz hk,Zcz hk,Zcg,Zch,EJ hs]
 by_cases h6:P (sqI s)=6
 ·rw [E2 h6,Bool.or_eq_true,Zca,Zca,Zb7]
  constructor
  ·rintro (⟨⟨h1,h2⟩,h3⟩ | h)
   ·exact ⟨h1,kR h2,.inl ⟨h2,h3⟩⟩
   have:=goC_bd hc h
   exact ⟨this.1,this.2,.inr ⟨h6,h⟩⟩
  rintro ⟨h1,_,⟨h2,h3⟩ | ⟨_,h⟩⟩
  ·exact .inl ⟨⟨h1,h2⟩,h3⟩
  exact .inr h
 rw [Tx h6,Bool.or_eq_true,Zca,Zca,Zb7]
 constructor
 ·rintro (⟨⟨h1,h2⟩,h3⟩ | h)
  ·exact ⟨h1,kR h2,.inl ⟨h2,h3⟩⟩
  cases h
 rintro ⟨h1,_,⟨h2,h3⟩ | ⟨h,_⟩⟩
 ·exact .inl ⟨⟨h1,h2⟩,h3⟩
 exact absurd h h6
theorem jc {P:Nat->Int} {s:Int} (hs:0<=s/\s < 64) (hm:Ww P s=true):(XL P s (P (sqI s)) (P (sqI s+1))).Nodup:=by
 have hc:P (sqI s+1)=0\/P (sqI s+1)=1:=by
  unfold Ww Xm at hm
  simp only [Zca,Zb7] at hm
  omega
 unfold XL
 by_cases hk:P (sqI s)=1
 ·rw [ZcA hk]; exact ut hs hc hk
 rw [Zcz hk,List.nodup_append]
 refine ⟨fromS_nodup.filter _,?_,fun a ha b hb e=>?_⟩
 ·unfold XR
  split
  ·exact .nil
  rw [List.nodup_append]
  refine ⟨by split <;> simp,by split <;> simp,fun a ha b hb e=>?_⟩
  rw [Ja] at ha hb
  omega
 subst e
 by_cases h6:P (sqI s)=6
 ·rw [E2 h6] at hb
  have ha:=(EJ hs).1 (Zch.1 ha).1
  have hka:=g6 ha.2 h6
  have ha:=ha.1
  unfold goC at hb
  unfold Vl at hka
  split at hb
  ·cases hb
  split at hb
  ·split at hka <;> omega
  simp at hb
  split at hka <;> omega
 rw [Tx h6] at hb; cases hb
theorem JN {s k c t:Int} {m:Mv} (h:m∈toM s k c t):m.1=s/\m.2.1=t:=by
 unfold toM at h
 split at h <;> simp at h
 ·rcases h with rfl | rfl | rfl | rfl <;> exact ⟨rfl,rfl⟩
 subst h; exact ⟨rfl,rfl⟩
theorem rV (s k c t:Int):(toM s k c t).Pairwise lt3:=by
 unfold toM
 split <;> simp [lt3]
theorem Zbv (P:Nat->Int) (s:Int) (n:Nat):(QS P s n).Pairwise lt3:=by
 unfold QS
 rw [List.pairwise_flatMap]
 refine ⟨fun t _=>?_,?_⟩
 ·split
  ·exact rV _ _ _ _
  exact .nil
 unfold Wq
 rw [List.pairwise_map]
 refine List.pairwise_lt_range.imp fun h x hx y hy=>?_
 split at hx
 ·split at hy
  ·have h1:=JN hx; have h2:=JN hy
   unfold lt3; omega
  cases hy
 cases hx
theorem Jb {P:Nat->Int} {s:Int} {n:Nat} {m:Mv} (h:m∈QS P s n):m.1=s:=by
 unfold QS at h
 rw [List.mem_flatMap] at h
 obtain ⟨t,_,h⟩:=h
 split at h
 ·exact (JN h).1
 cases h
theorem tf (P:Nat->Int) (n:Nat):(Rn P n).Pairwise lt3:=by
 unfold Rn
 rw [List.pairwise_flatMap]
 refine ⟨fun s _=>Zbv P s 64,?_⟩
 unfold Wq
 rw [List.pairwise_map]
 refine List.pairwise_lt_range.imp fun h x hx y hy=>?_
 have h1:=Jb hx; have h2:=Jb hy
 unfold lt3; omega
theorem mem64 {t:Int}:t∈Wq 64↔0<=t/\t < 64:=by
 unfold Wq
 rw [List.mem_map]
 constructor
 ·rintro ⟨i,hi,rfl⟩; have:=Zck.1 hi; omega
 intro h; exact ⟨t.toNat,Zck.2 (by omega),by omega⟩
theorem JG {P:Nat->Int} {s:Int} (hs:0<=s/\s < 64) (hm:Ww P s=true) (m:Mv):m∈VT P s↔m∈QS P s 64:=by
 unfold VT QS
 rw [List.mem_flatMap,List.mem_flatMap]
 constructor
 ·rintro ⟨t,h1,h2⟩
  obtain ⟨h3,h4⟩:=(z7 hs hm).1 h1
  exact ⟨t,mem64.2 h3,by rw [ZcA h4]; exact h2⟩
 rintro ⟨t,h1,h2⟩
 split at h2
 ·rename_i h4
  exact ⟨t,(z7 hs hm).2 ⟨mem64.1 h1,h4⟩,h2⟩
 cases h2
theorem vi {P:Nat->Int} {s:Int} (hs:0<=s/\s < 64) (hm:Ww P s=true):(VT P s).Nodup:=by
 unfold VT
 unfold List.Nodup
 rw [List.pairwise_flatMap]
 refine ⟨fun t _=>(rV _ _ _ _).imp fun h e=>by subst e; exact we _ _ h h,(jc hs hm).imp fun h x hx y hy e=>?_⟩
 subst e
 exact h ((JN hx).2.symm.trans (JN hy).2)
theorem sO {P:Nat->Int} {s:Int} (hm:¬ Ww P s=true) (n:Nat):QS P s n=[]:=by
 unfold QS
 rw [List.flatMap_eq_nil_iff]
 intro t _
 rw [Zcz]
 unfold R6
 simp [hm]
theorem allS_is (P:Nat->Int):Ey P=Rn P 64:=by
 unfold Ey
 refine srt3_is ?_ (tf P 64) fun m=>?_
 ·unfold UX List.Nodup
  rw [List.pairwise_flatMap]
  refine ⟨fun s hs=>?_,?_⟩
  ·split
   ·rename_i hm; exact vi (mem64.1 hs) hm
   exact .nil
  unfold Wq
  rw [List.pairwise_map]
  refine List.pairwise_lt_range.imp_of_mem fun {a b} ha hb h x hx y hy e=>?_
  subst e
  split at hx
  ·split at hy
   ·rename_i m1 m2
    have ha:=Zck.1 ha
    have hb:=Zck.1 hb
    have h1:=Jb ((JG (by omega) m1 _).1 hx)
    have h2:=Jb ((JG (by omega) m2 _).1 hy)
    omega
   cases hy
  cases hx
 unfold UX Rn
 rw [List.mem_flatMap,List.mem_flatMap]
 constructor
 ·rintro ⟨s,hs,h⟩
  split at h
  ·rename_i hm; exact ⟨s,hs,(JG (mem64.1 hs) hm m).1 h⟩
  cases h
 rintro ⟨s,hs,h⟩
 by_cases hm:Ww P s=true
 ·exact ⟨s,hs,by rw [ZcA hm]; exact (JG (mem64.1 hs) hm m).2 h⟩
 rw [sO hm] at h; cases h
open Go Go.Am
def Qd (p:Nat->Bool):Nat->Int
 | 0=>-1
 | n+1=>if Qd p n=-1 then (if p n=true then n else -1) else Qd p n
theorem DQ {p:Nat->Bool}:∀ {n:Nat},(∀ j,j < n->p j=false)->Qd p n=-1
 | 0,_=>rfl
 | n+1,h=>by
  unfold Qd
  rw [ZcA (DQ fun j hj=>h j (by omega)),h n (by omega)]; rfl
theorem ti {p:Nat->Bool} {i:Nat}:∀ {n:Nat},i < n->p i=true->(∀ j,j < i->p j=false)->Qd p n=i
 | 0,h,_,_=>by omega
 | n+1,h,hp,hn=>by
  unfold Qd
  by_cases e:i=n
  ·subst e
   rw [ZcA (DQ hn),ZcA hp]
  rw [ti (by omega) hp hn,Zcz (by omega)]
theorem tF {p:Nat->Bool}:∀ {n:Nat},0<=Qd p n↔∃ i,i < n/\p i=true
 | 0=>by simp [Qd]
 | n+1=>by
  have ih:=tF (p:=p) (n:=n)
  unfold Qd
  by_cases h:Qd p n=-1
  ·rw [ZcA h]
   have hn:¬ ∃ i,i < n/\p i=true:=fun hx=>by have:=ih.2 hx; omega
   by_cases hp:p n=true
   ·rw [ZcA hp]; exact ⟨fun _=>⟨n,by omega,hp⟩,fun _=>by omega⟩
   rw [Zcz hp]
   constructor
   ·intro h; omega
   rintro ⟨i,hi,hx⟩
   by_cases e:i=n
   ·subst e; exact absurd hx hp
   exact absurd ⟨i,by omega,hx⟩ hn
  rw [Zcz h,ih]
  constructor
  ·rintro ⟨i,hi,h⟩; exact ⟨i,by omega,h⟩
  rintro ⟨i,hi,hp⟩
  by_cases e:i=n
  ·have hlo:-1<=Qd p n:=fstI_lo n
   exact ih.1 (by omega)
  exact ⟨i,by omega,hp⟩
 where
 fstI_lo:∀ n,-1<=Qd p n
  | 0=>Int.le_refl _
  | n+1=>by
   have:=fstI_lo n
   unfold Qd
   split
   ·split <;> omega
   exact this
theorem sh {md:Md} (M:Nat->Int) (t:Int):WR AM 190 [.s (.int .i64 t),.ptr 0 0 136] [.sc md 136 (ia M)] (fun v _ L=>v=.s (.bool (!Y1 M t))/\(0,Blk.sc md 136 (ia M))∈L):=by
 refine YL (a:=a190) rfl rfl (YI _) (ZQ rfl) (m:=1) rfl (Ze (Yq rfl (Zf (Zj rfl (Yt rfl (U4 _) rfl rfl rfl (Yv (r:=.bool _) rfl rfl (Zk rfl (Ys (t:=7) rfl (fun h1=>?_) (fun h1=>?_))))))))) <;> simp only [NM] at h1
 ·try simp only [isM,Zb7,ZbJ] at h1
  refine ZE rfl (ZD rfl (ZC rfl (Zq rfl (Zk rfl (Zg rfl (⟨ZI ?_,ZM⟩))))))
  unfold Y1 isM
  (rw [Zci (by assumption)]; rfl)
 try simp only [isM,Zb7,ZbJ] at h1
 refine Yb rfl (Zj rfl (Yb rfl (Zy rfl (Yb rfl (Zy rfl (Yb rfl (Zw rfl rfl rfl (Yb rfl (Yp rfl rfl ZM (Yb rfl (YB rfl .nil (Yb rfl (Yw rfl rfl (Zq rfl (Zk rfl (Zg rfl (⟨ZI ?_,ZM⟩)))))))))))))))))
 unfold Y1 isM
 (rw [Zcl (by assumption),Bool.true_and]; rfl)
theorem ud {md md2:Md} {q:Nat} {c:Cp} (K M:Nat->Int) (nn:Nat) (hnn:nn<=1000000):WR AM 174 [.sl 0 0 nn 1 c,.fn 190 [.ptr 1 0 136]] [.sc md q (ia K),.sc md2 136 (ia M)] (fun v _ L=>v=.s (.int .i64 (Qd (fun j=>!Y1 M (K j)) nn))/\(0,Blk.sc md q (ia K))∈L/\(1,Blk.sc md2 136 (ia M))∈L):=by
 refine YL (a:=a174) rfl rfl (YI _) (ZQ rfl) (m:=2) rfl (Ze (Yq rfl (Yc (Ye (Ze (Zn rfl (WX rfl (Yq rfl (Yc (Yk (Xo (.refl _) (Xu (fun m f _ L=>∃ (i:Nat),(i<=nn)/\(m=nn - i)/\(∀ j,j < i->(!Y1 M (K j))=false)/\(f 0=.sl 0 0 nn 1 c)/\(f 1=.fn 190 [.ptr 1 0 136])/\(f 7=.s (.int .i64 nn))/\(f 8=.s (.int .i64 i))/\(L=[(0,.sc md q (ia K)),(1,.sc md2 136 (ia M))])) (fun m f nb L hI=>?_) (nn) (⟨0,by omega,by omega,fun j hj=>by omega,rfl,rfl,rfl,rfl,rfl⟩)))))))))))))
 obtain ⟨i,hi,hm,hn,k0,k1,k7,k8,rfl⟩:=hI
 refine Za 0 k0 (Za 1 k1 (Za 7 k7 (Za 8 k8 (Ze (Zr rfl (Yc (Ye (Yj rfl (fun h2=>?_) (fun h2=>?_))))))))) <;> simp only [NM] at h2
 ·refine Yh (Ye (Yk (Ze (Zj rfl (Zj rfl (Zf (Yq (v:=.fn _ _) rfl (Zn rfl (Zj rfl (Zx rfl rfl (Ym (x:=K i) rfl rfl ZM (by rw [show 0+(i:Int).toNat*1=i by omega]) (Wr (rs:=[1]) (Bs:=[.sc md2 136 (ia M)]) rfl (V4 (sh M (K i))) rfl rfl (YF rfl) (fun _ h=>h) rfl ⟨ZN,⟨_,_,_,rfl⟩,trivial⟩ rfl rfl rfl (.cons (.there .here) .nil) (Yc (Yj rfl (fun h3=>?_) (fun h3=>?_))))))))))))))) <;> simp only [NM] at h3
  ·refine Ze (Zj rfl (Zj rfl (Yc (Yi (⟨_,ZL rfl,?_⟩)))))
   refine ⟨ZJ ?_,ZM,ZN⟩
   exact (ti (i:=i) (by omega) (by simp [*]) hn).symm
  refine Yh (Yf (Zs rfl rfl (Zj rfl (Yc (⟨nn - (i+1),_,by omega,(.refl _),i+1,by omega,rfl,?_,rfl,rfl,rfl,rfl,rfl⟩)))))
  intro j hj
  by_cases e:j=i
  ·subst e; simp [*]
  exact hn j (by omega)
 refine Y0 (Xb (Ze (Yq rfl (Yc (Yi (⟨_,ZL rfl,?_⟩))))))
 refine ⟨ZJ ?_,ZM,ZN⟩
 exact (DQ fun j hj=>hn j (by omega)).symm
theorem wC {md md2:Md} {q:Nat} {c:Cp} (K M:Nat->Int) (nn:Nat) (hnn:nn<=1000000):WR AM 189 [.sl 0 0 nn 1 c,.fn 190 [.ptr 1 0 136]] [.sc md q (ia K),.sc md2 136 (ia M)] (fun v _ L=>v=.s (.bool (decide (0<=Qd (fun j=>!Y1 M (K j)) nn)))/\(0,Blk.sc md q (ia K))∈L/\(1,Blk.sc md2 136 (ia M))∈L):=by
 refine YL (a:=a189) rfl rfl (YI _) (ZQ rfl) (m:=2) rfl (Ze (Yq rfl (Zf (Zn rfl (Yq (v:=.fn _ _) rfl (Vy (rs:=[0,1]) (Bs:=[.sc md q (ia K),.sc md2 136 (ia M)]) rfl (kZ (ud K M nn hnn)) rfl rfl (YF rfl) (fun _ h=>h) rfl ⟨ZM,⟨_,_,_,rfl⟩,ZN,⟨_,_,_,rfl⟩,trivial⟩ rfl rfl rfl (.cons .here (.cons (.there .here) .nil)) (Zr rfl (Zk rfl (Zg rfl ?_)))))))))
 exact ⟨rfl,ZM,ZN⟩
theorem o9 {md:Md} {q:Nat} {c:Cp} (K M:Nat->Int) (nn:Nat) (hnn:nn<=1000000):WR AM 173 [.agg 136 (ia M),.sl 0 0 nn 1 c] [.sc md q (ia K)] (fun v _ L=>v=.s (.bool (!decide (0<=Qd (fun j=>!Y1 M (K j)) nn)))/\(0,Blk.sc md q (ia K))∈L):=by
 refine YL (a:=a173) rfl rfl (YI _) (ZQ rfl) (m:=1) rfl (Ze (YC rfl (Yq rfl (Zf (Zn rfl (KF rfl (Vy (rs:=[0,1]) (Bs:=[.sc md q (ia K),.sc .var 136 (ia M)]) rfl (kZ (wC K M nn hnn)) rfl rfl (YF rfl) (fun _ h=>h) rfl ⟨ZN,⟨_,_,_,rfl⟩,ZM,⟨_,_,_,rfl⟩,trivial⟩ rfl rfl rfl (.cons (.there .here) (.cons .here .nil)) (Yv (r:=.bool _) rfl rfl (Zk rfl (Zg rfl ?_))))))))))
 exact ⟨rfl,ZN⟩
theorem free_l {M K:Nat->Int} {l:List Int} (hK:∀ i,i < l.length->K i=l.getD i 0):(!decide (0<=Qd (fun j=>!Y1 M (K j)) l.length))=l.all (Y1 M):=by
 rw [Zce,Zb6,ZbJ,tF,Zcc]
 constructor
 ·intro h x hx
  obtain ⟨j,hj,rfl⟩:=List.mem_iff_getElem.1 hx
  cases hf:Y1 M l[j] with
  | true=>rfl
  | false=>exact absurd ⟨j,hj,by rw [hK j hj,ZbD,ZbH hj]; simp [hf]⟩ h
 rintro h ⟨j,hj,hx⟩
 rw [hK j hj,ZbD,ZbH hj] at hx
 have:=h _ (List.getElem_mem hj)
 simp [this] at hx
theorem free_rb {md:Md} {q:Nat} {c:Cp} (K M:Nat->Int) (l:List Int) (hK:∀ i,i < l.length->K i=l.getD i 0) (hl:l.length<=1000000):RB AM 173 [.agg 136 (ia M),.sl 0 0 l.length 1 c] [.sc md q (ia K)] (.s (.bool (l.all (Y1 M)))) [.sc md q (ia K)]:=by
 have:=V4 (o9 (md:=md) (q:=q) (c:=c) K M l.length hl)
 rw [free_l hK] at this
 exact this
open Go Go.Am
theorem eqI_cut {n:Nat} {Y Z:Nat->Int}:eqI n (ovA (fun _=>0) 0 n Y) Z=eqI n Y Z:=by
 rw [Zce,Qo,Qo]
 exact ⟨fun h i hi=>by have:=h i hi; rwa [X3 (by omega),Nat.sub_zero] at this,fun h i hi=>by rw [X3 (by omega),Nat.sub_zero]; exact h i hi⟩
def Wa (M:Nat->Int) (c t:Int):Bool:=(!Xf M t&&decide (R9 M t=XT c)) || (Y1 M t&&decide (t=M 130))
theorem Ky {M:Nat->Int} {c t:Int} (h:Y1 M t=true) (h2:t=M 130):Wa M c t=true:=by
 unfold Wa; rw [h,Zcl h2]; simp
theorem K8 (M:Nat->Int) (s c:Int):U2 M s c=(if Y1 M (YT s 0 (1 - 2*c))=true then [YT s 0 (1 - 2*c)] else [])++(if Wh s=1+5*c/\Y1 M (YT s 0 (1 - 2*c))=true/\Y1 M (YT s 0 (2*(1 - 2*c)))=true then [YT s 0 (2*(1 - 2*c))] else [])++(Wk M s).filter (Wa M c):=rfl
theorem QX {P:Nat->Int} {s t:Int} (h:t∈Wk P s):0<=t/\t < 64:=by
 unfold Wk at h
 split at h
 ·exact tA (srtM_mem.1 h)
 cases h
theorem Jg (P:Nat->Int) (s:Int):(Wk P s).length<=64:=by
 unfold Wk
 split
 ·rw [(Q5 _).length_eq]; exact DR P s
 exact Zct _
theorem Zak {l:List Int} {i:Nat} (hi:i < l.length):l.getD i 0∈l:=by
 rw [ZbD,ZbH hi]
 exact List.getElem_mem hi
theorem DD {p:Int->Bool} {r:List Int} {i:Nat} (hi:i < r.length) (h:p (r.getD i 0)=true):(r.take (i+1)).filter p=(r.take i).filter p++[r.getD i 0]:=by
 rw [VX 0 hi,List.filter_append,List.filter_cons,h,ZcA rfl]; rfl
theorem TW {p:Int->Bool} {r:List Int} {i:Nat} (hi:i < r.length) (h:p (r.getD i 0)=false):(r.take (i+1)).filter p=(r.take i).filter p:=by
 rw [VX 0 hi,List.filter_append,List.filter_cons,h,Zcz (by decide)]; simp
theorem UG {p:Prop} [Decidable p] (x:Int):(if p then [x] else []).length<=1:=by split <;> simp
theorem KX {md:Md} {q:Nat} {c:Cp} (n:Nat) (K M:Nat->Int) (l:List Int) (hn:l.length=n) (hK:∀ i,i < l.length->K i=l.getD i 0) (hl:n<=1000000):RB AM 173 [.agg 136 (ia M),.sl 0 0 n 1 c] [.sc md q (ia K)] (.s (.bool (l.all (Y1 M)))) [.sc md q (ia K)]:=by
 subst hn; exact free_rb K M l hK hl
theorem QR {p:Int->Bool} {x:Int}:[x].all p=p x:=by simp
theorem QN {p:Int->Bool} {x y:Int}:[x,y].all p=(p x&&p y):=by simp
theorem QQ {p:Int->Bool} {x y z:Int}:[x,y,z].all p=(p x&&(p y&&p z)):=by simp
theorem gU (M:Nat->Int) (ha:0<=M 133/\M 133 < 64) (hc:M 135=0\/M 135=1):RtR AM 154 1 [.agg 136 (ia M)] [] (U2 M (M 133) (M 135)) []:=by
 refine Qq (YL (a:=a154) rfl rfl (YI _) (ZQ rfl) (m:=0) rfl (Ze (YC rfl (Yq rfl (Zf (Yd (o':=134) rfl rfl rfl (Yd (o':=135) rfl rfl rfl (Ym rfl rfl ZM rfl (Wn rfl rfl (by omega) (Zt rfl rfl (Zj rfl (Yc (Ye (Yg (Yd (o':=133) rfl rfl rfl (Ym rfl rfl ZM rfl (Zj rfl (Yu rfl (UC _ _ _) rfl rfl rfl (Yd (o':=133) rfl rfl rfl (Ym rfl rfl ZM rfl (Zj rfl (Wn rfl rfl (by omega) (Yt rfl (UC _ _ _) rfl rfl rfl (Zj rfl (Zj rfl (Yc (Wz (fun f n L=>∃ (vA:V) (ownA:HA),(Rw 1 ((if Y1 M (YT (M 133) 0 (1 - 2*(M 135)))=true then [(YT (M 133) 0 (1 - 2*(M 135)))] else [])) vA ownA)/\(f 1=.ptr 0 0 136)/\(f 2=vA)/\(f 4=.s (.int .i64 (YT (M 133) 0 (1 - 2*(M 135)))))/\(f 5=.s (.int .i64 (YT (M 133) 0 (2*(1 - 2*(M 135))))))/\(L=(ownA++[(0,.sc .var 136 (ia M))]))) ?_ (fun f nb L hI=>?_))))))))))))))))))))))))))))
 ·refine Ze (Yo rfl rfl ZM (Zj rfl (XA rfl (.one rfl .nil) (Vy (rs:=[1]) (Bs:=[_]) (av:=[.agg 136 (ia M),.sl (1) 0 1 1 (.ex 1)]) rfl (KX (c:=.ex 1) 1 _ M [(YT (M 133) 0 (1 - 2*(M 135)))] rfl jv (YF rfl)) rfl rfl (YF rfl) (fun _ h=>h) (by simp [rnL,V.renL,V.ren,pos]) ⟨ZM,⟨_,_,_,rfl⟩,trivial⟩ rfl rfl rfl (.cons .here .nil) (Yc (Yj rfl (fun h1=>?_) (fun h1=>?_)))))))
  ·try simp only [QR,QN,QQ,Zca,ZbO] at h1
   refine Yf (Yq (v:=.snil) rfl (Zj rfl (XA rfl (.one rfl .nil) (XZ (c:=[(YT (M 133) 0 (1 - 2*(M 135)))]) rfl (Rw.nil rfl) rfl ZM (Dr.here (own:=[])) (by decide) (by decide) rfl (Jn) (by simp only [List.length_nil]; omega) (fun v1 own1 n1 hr1=>Yq (v:=v1) rfl (Yc (⟨_,(ZbY (.refl _) (.cons _ (.cons _ (.refl _)))),_,own1,?_,rfl,rfl,rfl,rfl,rfl⟩)))))))
   (rw [ZcA (by assumption)]; exact hr1)
  try simp only [QR,QN,QQ,Zca,ZbO] at h1
  refine Yh (⟨_,(.cons _ (.refl _)),_,[],?_,rfl,rfl,rfl,rfl,rfl⟩)
  (rw [Zcz (by simp [*])]; exact (Rw.nil rfl))
 obtain ⟨vA,ownA,hrA,k1,k2,k4,k5,rfl⟩:=hI
 refine Za 1 k1 (Za 2 k2 (Za 4 k4 (Za 5 k5 (Wz (fun f n L=>∃ (vA:V) (ownA:HA),(Rw 1 ((if Y1 M (YT (M 133) 0 (1 - 2*(M 135)))=true then [(YT (M 133) 0 (1 - 2*(M 135)))] else [])++(if Wh (M 133)=1+5*(M 135)/\Y1 M (YT (M 133) 0 (1 - 2*(M 135)))=true/\Y1 M (YT (M 133) 0 (2*(1 - 2*(M 135))))=true then [(YT (M 133) 0 (2*(1 - 2*(M 135))))] else [])) vA ownA)/\(f 1=.ptr 0 0 136)/\(f 2=vA)/\(L=(ownA++[(0,.sc .var 136 (ia M))]))) ?_ (fun f nb L hI=>?_)))))
 ·refine Ye (Yg (Yd (o':=133) rfl rfl rfl (Ym rfl rfl (ZbM _ ZM) rfl (Yu rfl (KG _) rfl rfl rfl (Yd (o':=134) rfl rfl rfl (Yd (o':=135) rfl rfl rfl (Ym rfl rfl (ZbM _ ZM) rfl (Wn rfl rfl (by omega) (Zs rfl rfl (Zr rfl (Zk rfl (Ys (t:=40) rfl (fun h2=>?_) (fun h2=>?_))))))))))))) <;> simp only [NM] at h2
  ·refine Yb rfl (Yo rfl rfl (ZbM _ ZM) (Yb rfl (Zj rfl (Yb rfl (Zj rfl (Yb rfl (XA rfl (.one rfl (.one rfl .nil)) (Yb rfl (Vy (rs:=[nb]) (Bs:=[_]) (av:=[.agg 136 (ia M),.sl (nb) 0 2 1 (.ex 2)]) rfl (KX (c:=.ex 2) 2 _ M [(YT (M 133) 0 (1 - 2*(M 135))),(YT (M 133) 0 (2*(1 - 2*(M 135))))] rfl sP (YF rfl)) rfl rfl (YF rfl) (fun _ h=>h) (by simp [rnL,V.renL,V.ren,pos]) ⟨ZM,⟨_,_,_,rfl⟩,trivial⟩ rfl rfl rfl (.cons .here .nil) (Zq rfl (Yc (Yj rfl (fun h3=>?_) (fun h3=>?_)))))))))))))
   ·try simp only [QR,QN,QQ,Zca,ZbO] at h3
    refine Yf (Yq (v:=vA) rfl (Zj rfl (XA rfl (.one rfl .nil) (XZ (c:=[(YT (M 133) 0 (2*(1 - 2*(M 135))))]) rfl hrA rfl ZM (.there (.there .here)) (by decide) (by decide) rfl (Jn) (by have:=UG (p:=Y1 M (YT (M 133) 0 (1 - 2*(M 135)))=true) (YT (M 133) 0 (1 - 2*(M 135))); omega) (fun v2 own2 n2 hr2=>Yq (v:=v2) rfl (Yc (⟨_,(ZbY (.refl _) (.cons _ (.cons _ (.refl _)))),_,own2,?_,rfl,rfl,rfl⟩)))))))
    (rw [ZcA (c:=Wh (M 133)=1+5*(M 135)/\_/\_) ⟨by assumption,by assumption⟩]; exact hr2)
   try simp only [QR,QN,QQ,Zca,ZbO] at h3
   refine Yh (⟨_,(.cons _ (ZbY (.refl _) (.refl _))),_,ownA,?_,rfl,rfl,rfl⟩)
   (rw [Zcz (c:=Wh (M 133)=1+5*(M 135)/\_/\_) (by rintro ⟨a1,a2,a3⟩; simp_all),Zcf]; exact hrA)
  refine ZE rfl (ZC rfl (Zq rfl (Yc (ZB rfl (Yh (⟨_,(ZbY (.refl _) (.refl _)),_,ownA,?_,rfl,rfl,rfl⟩))))))
  (rw [Zcz (c:=Wh (M 133)=1+5*(M 135)/\_/\_) (by rintro ⟨a1,a2,a3⟩; simp_all),Zcf]; exact hrA)
 obtain ⟨vA,ownA,hrA,k1,k2,rfl⟩:=hI
 refine Za 1 k1 (Za 2 k2 (Ye (Ze (Zy rfl (Yo rfl rfl (ZbM _ ZM) (Yd (o':=133) rfl rfl rfl (Ym rfl rfl (ZbM _ ZM) rfl ?_)))))))
 obtain ⟨r,hreq⟩:∃ r,r=Wk M (M 133):=⟨_,rfl⟩
 have hfrom:=tO M (M 133)
 rw [<- hreq] at hfrom
 have hrl:r.length<=64:=by rw [hreq]; exact Jg _ _
 refine YE rfl (hfrom) rfl rfl (fun v3 own3 n3 hr3=>Xk rfl hr3.rx (by decide) Te (Yq rfl (Yc (Yk (wQ (Dr.appR _ .here).all (Xo (ZbY (.refl _) (ZbY (.refl _) (.refl _))) (Xu (fun m f _ L=>∃ (i:Nat) (vO:V) (ownO:HA),(i<=r.length)/\(m=r.length - i)/\(Rw 1 ((if Y1 M (YT (M 133) 0 (1 - 2*(M 135)))=true then [(YT (M 133) 0 (1 - 2*(M 135)))] else [])++(if Wh (M 133)=1+5*(M 135)/\Y1 M (YT (M 133) 0 (1 - 2*(M 135)))=true/\Y1 M (YT (M 133) 0 (2*(1 - 2*(M 135))))=true then [(YT (M 133) 0 (2*(1 - 2*(M 135))))] else [])++(r.take i).filter (Wa M (M 135))) vO ownO)/\(f 1=.ptr 0 0 136)/\(f 2=vO)/\(f 55=v3)/\(f 56=.s (.int .i64 r.length))/\(f 57=.s (.int .i64 i))/\(L=(ownO++(own3++[(0,.sc .var 136 (ia M))])))) (fun m f nb L hI=>?_) (r.length) (⟨0,vA,ownA,by omega,by omega,by rw [List.take_zero,List.filter_nil,Zcf]; exact hrA,rfl,rfl,rfl,rfl,rfl,rfl⟩))))))))
 obtain ⟨i,vO,ownO,hi,hm,hrO,k1,k2,k55,k56,k57,rfl⟩:=hI
 refine Za 1 k1 (Za 2 k2 (Za 55 k55 (Za 56 k56 (Za 57 k57 (Ze (Zr rfl (Yc (Ye (Yj rfl (fun h4=>?_) (fun h4=>?_)))))))))) <;> simp only [NM] at h4
 ·refine Yh (Ye (Yk (Ze ?_)))
  have htb:0<=r.getD i 0/\r.getD i 0 < 64:=QX (P:=M) (s:=M 133) (by rw [<- hreq]; exact Zak (by omega))
  obtain ⟨b3,q3,md3,c3,F3,rfl,rfl,hF3⟩:=hr3.rx.at (by decide) Te (by omega)
  refine Zx rfl rfl (Ym (x:=(r.getD i 0)) rfl rfl (ZbM _ ZM) (ld1 hF3 (by omega)) (Zj rfl (Zf (Zj rfl (Zy rfl (Zy rfl (Zw rfl rfl rfl (Yp rfl rfl (ZbM _ ZN) (Yy (Yz rfl rfl rfl rfl .here (Yc (Ye (Yg (Yo rfl rfl ZM (YB rfl .nil (Yx (b:=!Xf M (r.getD i 0)) rfl rfl (congrArg (fun b=>!b) eqI_cut) (Zk rfl (Ys (t:=69) rfl (fun h5=>?_) (fun h5=>?_))))))))))))))))))) <;> simp only [NM] at h5
  ·refine Yb rfl (Zz rfl (Yb rfl (Ym (x:=R9 M (r.getD i 0)) rfl rfl ZM (rfl) (Yb rfl (Yd (o':=134) rfl rfl rfl (Yb rfl (Yd (o':=135) rfl rfl rfl (Yb rfl (Ym rfl rfl (.tail _ (ZbM _ ZN)) rfl (Yb rfl (Yu rfl (YP (VW _)) rfl rfl rfl (Yb rfl (Zr rfl (Zq rfl (Zk rfl (Ys (t:=78) rfl (fun h6=>?_) (fun h6=>?_))))))))))))))))) <;> simp only [NM] at h6
   ·refine ZE rfl (ZC rfl (YJ rfl (YJ rfl (YJ rfl (YJ rfl (YJ rfl (ZC rfl (Zq rfl (Yc (ZA rfl (Yf (Yq (v:=vO) rfl (Zj rfl (XA rfl (.one rfl .nil) (XZ (c:=[(r.getD i 0)]) rfl hrO rfl ZM (.there (.there .here)) (by decide) (by decide) rfl (Jn) (by rw [Zb2,Zb2]; have:=UG (p:=Y1 M (YT (M 133) 0 (1 - 2*(M 135)))=true) (YT (M 133) 0 (1 - 2*(M 135))); have:=UG (p:=Wh (M 133)=1+5*(M 135)/\Y1 M (YT (M 133) 0 (1 - 2*(M 135)))=true/\Y1 M (YT (M 133) 0 (2*(1 - 2*(M 135))))=true) (YT (M 133) 0 (2*(1 - 2*(M 135)))); have:=ZbU (Wa M (M 135)) (r.take i); rw [Zcb] at this; omega) (fun v4 own4 n4 hr4=>Yq (v:=v4) rfl (Yc (Yf (Zs rfl rfl (Zj rfl (Yc (⟨r.length - (i+1),_,by omega,(ZbY (.refl _) (.cons _ (.cons _ (.refl _)))),i+1,_,_,by omega,rfl,?_,rfl,rfl,rfl,rfl,rfl,rfl⟩))))))))))))))))))))))
    (rw [DD (p:=Wa M (M 135)) (i:=i) (by omega) (by first | exact Ky (by assumption) (by assumption) | (unfold Wa; simp [*,-hreq,-List.getD_eq_getElem?_getD]) | (unfold Wa; simp_all [-hreq,-List.getD_eq_getElem?_getD])),<- Zb5]; exact hr4)
   refine Yb rfl (Yo rfl rfl (.tail _ (ZbM _ ZN)) (Yb rfl (Zj rfl (Yb rfl (XA rfl (.one rfl .nil) (Yb rfl (Vy (rs:=[nb+1]) (Bs:=[_]) (av:=[.agg 136 (ia M),.sl (nb+1) 0 1 1 (.ex 1)]) rfl (KX (c:=.ex 1) 1 _ M [(r.getD i 0)] rfl jv (YF rfl)) rfl rfl (YF rfl) (fun _ h=>h) (by simp [rnL,V.renL,V.ren,pos]) ⟨ZM,⟨_,_,_,rfl⟩,trivial⟩ rfl rfl rfl (.cons .here .nil) (Yb rfl (Zk rfl (Ys (t:=83) rfl (fun h7=>?_) (fun h7=>?_)))))))))))
   ·try simp only [QR,QN,QQ,Zca,ZbO] at h7
    refine Yb rfl (Zj rfl (Yb rfl (Zy rfl (Yb rfl (Yd (o':=130) rfl rfl rfl (Yb rfl (Ym rfl rfl (.tail _ (.tail _ (ZbM _ ZN))) rfl (Yb rfl (Zr rfl (Yb rfl (Zq rfl (Zq rfl (Yc (Yj rfl (fun h8=>?_) (fun h8=>?_))))))))))))))) <;> simp only [NM] at h8
    ·refine Yf (Yq (v:=vO) rfl (Zj rfl (XA rfl (.one rfl .nil) (XZ (c:=[(r.getD i 0)]) rfl hrO rfl ZM (.there (.there (.there .here))) (by decide) (by decide) rfl (Jn) (by rw [Zb2,Zb2]; have:=UG (p:=Y1 M (YT (M 133) 0 (1 - 2*(M 135)))=true) (YT (M 133) 0 (1 - 2*(M 135))); have:=UG (p:=Wh (M 133)=1+5*(M 135)/\Y1 M (YT (M 133) 0 (1 - 2*(M 135)))=true/\Y1 M (YT (M 133) 0 (2*(1 - 2*(M 135))))=true) (YT (M 133) 0 (2*(1 - 2*(M 135)))); have:=ZbU (Wa M (M 135)) (r.take i); rw [Zcb] at this; omega) (fun v5 own5 n5 hr5=>Yq (v:=v5) rfl (Yc (Yf (Zs rfl rfl (Zj rfl (Yc (⟨r.length - (i+1),_,by omega,(ZbY (.refl _) (.cons _ (.cons _ (.cons _ (.refl _))))),i+1,_,_,by omega,rfl,?_,rfl,rfl,rfl,rfl,rfl,rfl⟩)))))))))))
     (rw [DD (p:=Wa M (M 135)) (i:=i) (by omega) (by first | exact Ky (by assumption) (by assumption) | (unfold Wa; simp [*,-hreq,-List.getD_eq_getElem?_getD]) | (unfold Wa; simp_all [-hreq,-List.getD_eq_getElem?_getD])),<- Zb5]; exact hr5)
    refine Yh (Yf (Zs rfl rfl (Zj rfl (Yc (⟨r.length - (i+1),_,by omega,(.cons _ (.cons _ (ZbY (.refl _) (.refl _)))),i+1,_,_,by omega,rfl,?_,rfl,rfl,rfl,rfl,rfl,rfl⟩)))))
    (rw [TW (p:=Wa M (M 135)) (i:=i) (by omega) (by first | exact Ky (by assumption) (by assumption) | (unfold Wa; simp [*,-hreq,-List.getD_eq_getElem?_getD]) | (unfold Wa; simp_all [-hreq,-List.getD_eq_getElem?_getD]))]; exact hrO)
   try simp only [QR,QN,QQ,Zca,ZbO] at h7
   refine ZE rfl (ZC rfl (Yb rfl (Zq rfl (Zq rfl (Yc (ZB rfl (Yh (Yf (Zs rfl rfl (Zj rfl (Yc (⟨r.length - (i+1),_,by omega,(.cons _ (.cons _ (ZbY (.refl _) (.refl _)))),i+1,_,_,by omega,rfl,?_,rfl,rfl,rfl,rfl,rfl,rfl⟩))))))))))))
   (rw [TW (p:=Wa M (M 135)) (i:=i) (by omega) (by first | exact Ky (by assumption) (by assumption) | (unfold Wa; simp [*,-hreq,-List.getD_eq_getElem?_getD]) | (unfold Wa; simp_all [-hreq,-List.getD_eq_getElem?_getD]))]; exact hrO)
  refine ZE rfl (ZD rfl (ZC rfl (Zq rfl (Zk rfl (Yb rfl (Yo rfl rfl (.tail _ (ZbM _ ZN)) (Yb rfl (Zj rfl (Yb rfl (XA rfl (.one rfl .nil) (Yb rfl (Vy (rs:=[nb+1]) (Bs:=[_]) (av:=[.agg 136 (ia M),.sl (nb+1) 0 1 1 (.ex 1)]) rfl (KX (c:=.ex 1) 1 _ M [(r.getD i 0)] rfl jv (YF rfl)) rfl rfl (YF rfl) (fun _ h=>h) (by simp [rnL,V.renL,V.ren,pos]) ⟨ZM,⟨_,_,_,rfl⟩,trivial⟩ rfl rfl rfl (.cons .here .nil) (Yb rfl (Zk rfl (Ys (t:=83) rfl (fun h9=>?_) (fun h9=>?_))))))))))))))))
  ·try simp only [QR,QN,QQ,Zca,ZbO] at h9
   refine Yb rfl (Zj rfl (Yb rfl (Zy rfl (Yb rfl (Yd (o':=130) rfl rfl rfl (Yb rfl (Ym rfl rfl (.tail _ (.tail _ (ZbM _ ZN))) rfl (Yb rfl (Zr rfl (Yb rfl (Zq rfl (Zq rfl (Yc (Yj rfl (fun h10=>?_) (fun h10=>?_))))))))))))))) <;> simp only [NM] at h10
   ·refine Yf (Yq (v:=vO) rfl (Zj rfl (XA rfl (.one rfl .nil) (XZ (c:=[(r.getD i 0)]) rfl hrO rfl ZM (.there (.there (.there .here))) (by decide) (by decide) rfl (Jn) (by rw [Zb2,Zb2]; have:=UG (p:=Y1 M (YT (M 133) 0 (1 - 2*(M 135)))=true) (YT (M 133) 0 (1 - 2*(M 135))); have:=UG (p:=Wh (M 133)=1+5*(M 135)/\Y1 M (YT (M 133) 0 (1 - 2*(M 135)))=true/\Y1 M (YT (M 133) 0 (2*(1 - 2*(M 135))))=true) (YT (M 133) 0 (2*(1 - 2*(M 135)))); have:=ZbU (Wa M (M 135)) (r.take i); rw [Zcb] at this; omega) (fun v6 own6 n6 hr6=>Yq (v:=v6) rfl (Yc (Yf (Zs rfl rfl (Zj rfl (Yc (⟨r.length - (i+1),_,by omega,(ZbY (.refl _) (.cons _ (.cons _ (.cons _ (.refl _))))),i+1,_,_,by omega,rfl,?_,rfl,rfl,rfl,rfl,rfl,rfl⟩)))))))))))
    (rw [DD (p:=Wa M (M 135)) (i:=i) (by omega) (by first | exact Ky (by assumption) (by assumption) | (unfold Wa; simp [*,-hreq,-List.getD_eq_getElem?_getD]) | (unfold Wa; simp_all [-hreq,-List.getD_eq_getElem?_getD])),<- Zb5]; exact hr6)
   refine Yh (Yf (Zs rfl rfl (Zj rfl (Yc (⟨r.length - (i+1),_,by omega,(.cons _ (.cons _ (ZbY (.refl _) (.refl _)))),i+1,_,_,by omega,rfl,?_,rfl,rfl,rfl,rfl,rfl,rfl⟩)))))
   (rw [TW (p:=Wa M (M 135)) (i:=i) (by omega) (by first | exact Ky (by assumption) (by assumption) | (unfold Wa; simp [*,-hreq,-List.getD_eq_getElem?_getD]) | (unfold Wa; simp_all [-hreq,-List.getD_eq_getElem?_getD]))]; exact hrO)
  try simp only [QR,QN,QQ,Zca,ZbO] at h9
  refine ZE rfl (ZC rfl (Yb rfl (Zq rfl (Zq rfl (Yc (ZB rfl (Yh (Yf (Zs rfl rfl (Zj rfl (Yc (⟨r.length - (i+1),_,by omega,(.cons _ (.cons _ (ZbY (.refl _) (.refl _)))),i+1,_,_,by omega,rfl,?_,rfl,rfl,rfl,rfl,rfl,rfl⟩))))))))))))
  (rw [TW (p:=Wa M (M 135)) (i:=i) (by omega) (by first | exact Ky (by assumption) (by assumption) | (unfold Wa; simp [*,-hreq,-List.getD_eq_getElem?_getD]) | (unfold Wa; simp_all [-hreq,-List.getD_eq_getElem?_getD]))]; exact hrO)
 refine Y0 (Xb (Ze (Yq (v:=vO) rfl (Yq (v:=vO) rfl (Yc (Yi (⟨_,YH (v:=vO) rfl (YW),?_⟩)))))))
 obtain rfl:i=r.length:=by omega
 rw [List.take_length,hreq,<- K8] at hrO
 exact ⟨_,hrO,(fun _ h=>(ZbV _ h))⟩
theorem gd {x c:Int} (h:0<=x/\x<=15) (hc:c=0\/c=1):Wc .shr (.int .i64 x) (.int .i64 (2*c))=some (.int .i64 (x / Y4 c)):=by
 obtain ⟨n,rfl⟩:∃ n:Nat,x=n:=⟨x.toNat,by omega⟩
 have:n=0\/n=1\/n=2\/n=3\/n=4\/n=5\/n=6\/n=7\/n=8\/n=9\/n=10\/n=11\/n=12\/n=13\/n=14\/n=15:=by omega
 rcases hc with rfl | rfl <;> rcases this with rfl | rfl | rfl | rfl | rfl | rfl | rfl | rfl | rfl | rfl | rfl | rfl | rfl | rfl | rfl | rfl <;> rfl
theorem ks {c:Int}:Y4 c=1\/Y4 c=4:=by unfold Y4; split <;> simp
theorem gh {x c:Int} (h:0<=x/\x<=15):0<=x / Y4 c/\x / Y4 c<=15:=by
 rcases ks (c:=c) with e | e <;> rw [e] <;> omega
theorem Za6 {x c:Int} (h:0<=x/\x<=15):Wc .neq (.int .i64 (KW (x / Y4 c) 1)) (.int .i64 0)=some (.bool (decide (x / Y4 c % 2=1))):=by
 have e:=ka (C:=x / Y4 c) (s:=1) (gh h) (.inl rfl)
 rw [Int.ediv_one] at e
 show some (S.bool (KW (x / Y4 c) 1 != 0))=_
 rw [show (KW (x / Y4 c) 1 != 0)=decide (x / Y4 c % 2=1) by rw [Zce,bne_iff_ne,Zb7]; exact e]
theorem Zbt {x c:Int} (h:0<=x/\x<=15):Wc .neq (.int .i64 (KW (x / Y4 c) 2)) (.int .i64 0)=some (.bool (decide (x / (2*Y4 c) % 2=1))):=by
 have e:=ka (C:=x / Y4 c) (s:=2) (gh h) (.inr (.inl rfl))
 have e2:x / Y4 c / 2=x / (2*Y4 c):=by rcases ks (c:=c) with e | e <;> rw [e] <;> omega
 rw [e2] at e
 show some (S.bool (KW (x / Y4 c) 2 != 0))=_
 rw [show (KW (x / Y4 c) 2 != 0)=decide (x / (2*Y4 c) % 2=1) by rw [Zce,bne_iff_ne,Zb7]; exact e]
theorem kU {M:Nat->Int} {c t:Int}:eqI 2 (dp M (sqI t)) (ovA (fun _=>0) 0 2 (ov (ov (fun _=>0) 0 4) 1 c))=V3 M c t:=by
 rw [Zce,Qo]; unfold V3; rw [Zb7]
 exact ⟨fun h=>⟨h 0 (by omega),h 1 (by omega)⟩,fun h i hi=>by
  obtain rfl | rfl:i=0\/i=1:=by omega
  ·exact h.1
  exact h.2⟩
theorem Ko {M:Nat->Int} {s k c:Int} (hk:k=6) (hs:s=56*c+4) (h:0<=M 129/\M 129<=15):XR M s k c=(if M 129 / Y4 c % 2=1/\V3 M c ((56*c+4)+3)=true/\Y1 M ((56*c+4)+1)=true/\Y1 M ((56*c+4)+2)=true then [(56*c+4)+2] else [])++(if M 129 / (2*Y4 c) % 2=1/\V3 M c ((56*c+4) - 4)=true/\Y1 M ((56*c+4) - 1)=true/\Y1 M ((56*c+4) - 2)=true/\Y1 M ((56*c+4) - 3)=true then [(56*c+4) - 2] else []):=by
 unfold XR
 rw [Zcz (by omega),hs]
theorem QO {M:Nat->Int} {s k c:Int} (h:k≠6\/s≠56*c+4\/M 129 < 0\/15 < M 129):XR M s k c=[]:=ZcA h
theorem kC (M:Nat->Int) (ha:0<=M 133/\M 133 < 64) (hc:M 135=0\/M 135=1):RtR AM 158 1 [.agg 136 (ia M)] [] (XR M (M 133) (M 134) (M 135)) []:=by
 refine Qq (YL (a:=a158) rfl rfl (YI _) (ZQ rfl) (m:=0) rfl (Ze (YC rfl (Yq rfl (Zf (Yd (o':=134) rfl rfl rfl (Yd (o':=135) rfl rfl rfl (Ym rfl rfl ZM rfl (Wn rfl rfl (by omega) (Zs rfl rfl (Zj rfl (Yc (Ye (Ze (Yd (o':=134) rfl rfl rfl (Yd (o':=134) rfl rfl rfl (Ym rfl rfl ZM rfl (Zr rfl (Zk rfl (Ys (t:=15) rfl (fun h11=>?_) (fun h11=>?_))))))))))))))))))))) <;> simp only [NM] at h11
 ·refine ZE rfl (Zq rfl (Zk rfl (ZE rfl (Zq rfl (Zk rfl (ZE rfl (Zq rfl (Yc (ZA rfl (Ze (Yq rfl (Yc (Yi (⟨_,YH (v:=.snil) rfl (YW),?_⟩))))))))))))))
  refine ⟨[],Rw.nil (QO (by omega)),fun _ h=>nomatch h⟩
 refine Yb rfl (Yd (o':=133) rfl rfl rfl (Yb rfl (Ym rfl rfl ZM rfl (Yb rfl (Zj rfl (Yb rfl (Zr rfl (Zq rfl (Zk rfl (Ys (t:=21) rfl (fun h12=>?_) (fun h12=>?_))))))))))) <;> simp only [NM] at h12
 ·refine ZE rfl (Zq rfl (Zk rfl (ZE rfl (Zq rfl (Yc (ZA rfl (Ze (Yq rfl (Yc (Yi (⟨_,YH (v:=.snil) rfl (YW),?_⟩)))))))))))
  refine ⟨[],Rw.nil (QO (by omega)),fun _ h=>nomatch h⟩
 refine Yb rfl (Zy rfl (Yb rfl (Yd (o':=129) rfl rfl rfl (Yb rfl (Ym rfl rfl ZM rfl (Yb rfl (Zr rfl (Zq rfl (Zk rfl (Ys (t:=27) rfl (fun h13=>?_) (fun h13=>?_))))))))))) <;> simp only [NM] at h13
 ·refine ZE rfl (Zq rfl (Yc (ZA rfl (Ze (Yq rfl (Yc (Yi (⟨_,YH (v:=.snil) rfl (YW),?_⟩))))))))
  refine ⟨[],Rw.nil (QO (by omega)),fun _ h=>nomatch h⟩
 refine Yb rfl (Zy rfl (Yb rfl (Yd (o':=129) rfl rfl rfl (Yb rfl (Ym rfl rfl ZM rfl (Yb rfl (Zr rfl (Zq rfl (Yc (Yj rfl (fun h14=>?_) (fun h14=>?_))))))))))) <;> simp only [NM] at h14
 ·refine Ze (Yq rfl (Yc (Yi (⟨_,YH (v:=.snil) rfl (YW),?_⟩))))
  refine ⟨[],Rw.nil (QO (by omega)),fun _ h=>nomatch h⟩
 refine Yh (Ze (Yd (o':=134) rfl rfl rfl (Yd (o':=135) rfl rfl rfl (Ym rfl rfl ZM rfl (YB rfl (.one rfl (.one rfl .nil)) (Yy (Yz rfl rfl rfl rfl .here (Zf (Zy rfl (Yd (o':=129) rfl rfl rfl (Ym rfl rfl ZN rfl (Yd (o':=134) rfl rfl rfl (Yd (o':=135) rfl rfl rfl (Ym rfl rfl ZN rfl (Wn rfl rfl (by omega) (Yr rfl rfl (gd (by omega) hc) (Zj rfl (Yc (Wz (fun f n L=>∃ (vA:V) (ownA:HA),(Rw 1 ((if M 129 / Y4 (M 135) % 2=1/\V3 M (M 135) ((56*(M 135)+4)+3)=true/\Y1 M ((56*(M 135)+4)+1)=true/\Y1 M ((56*(M 135)+4)+2)=true then [(56*(M 135)+4)+2] else [])) vA ownA)/\(f 1=.ptr 0 0 136)/\(f 2=vA)/\(f 3=.s (.int .i64 (56*(M 135)+4)))/\(f 4=.ptr 1 0 2)/\(f 5=.s (.int .i64 (M 129 / Y4 (M 135))))/\(L=(ownA++[(1,.sc .var 2 (ia (ovA (fun _=>0) 0 2 (ov (ov (fun _=>0) 0 4) 1 (M 135))))),(0,.sc .var 136 (ia M))]))) ?_ (fun f nb L hI=>?_))))))))))))))))))))
 ·refine Ye (Yg (Zj rfl (Yr rfl rfl rfl (Yr rfl rfl (Za6 (by omega)) (Zk rfl (Ys (t:=48) rfl (fun h15=>?_) (fun h15=>?_))))))) <;> simp only [NM] at h15
  ·refine Yb rfl (Zj rfl (Yb rfl (Zs rfl rfl (Yb rfl (Zy rfl (Yb rfl (Zy rfl (Yb rfl (Zw rfl rfl rfl (Yb rfl (Yp rfl rfl ZN (Yb rfl (Yo rfl rfl ZM (Yb rfl (Yx (b:=V3 M (M 135) ((56*(M 135)+4)+3)) rfl rfl (kU) (Zq rfl (Zk rfl (Ys (t:=58) rfl (fun h16=>?_) (fun h16=>?_)))))))))))))))))))
   ·refine Yb rfl (Yo rfl rfl ZN (Yb rfl (Zj rfl (Yb rfl (Zs rfl rfl (Yb rfl (Zj rfl (Yb rfl (Zs rfl rfl (Yb rfl (XA rfl (.one rfl (.one rfl .nil)) (Yb rfl (Vy (rs:=[2]) (Bs:=[_]) (av:=[.agg 136 (ia M),.sl (2) 0 2 1 (.ex 2)]) rfl (KX (c:=.ex 2) 2 _ M [(56*(M 135)+4)+1,(56*(M 135)+4)+2] rfl sP (YF rfl)) rfl rfl (YF rfl) (fun _ h=>h) (by simp [rnL,V.renL,V.ren,pos]) ⟨ZM,⟨_,_,_,rfl⟩,trivial⟩ rfl rfl rfl (.cons .here .nil) (Zq rfl (Yc (Yj rfl (fun h17=>?_) (fun h17=>?_)))))))))))))))))
    ·try simp only [QR,QN,QQ,Zca,ZbO] at h17
     refine Yf (Yq (v:=.snil) rfl (Zj rfl (Zs rfl rfl (XA rfl (.one rfl .nil) (XZ (c:=[(56*(M 135)+4)+2]) rfl (Rw.nil rfl) rfl ZM (Dr.here (own:=[])) (by decide) (by decide) rfl (Jn) (by simp only [List.length_nil]; omega) (fun v1 own1 n1 hr1=>Yq (v:=v1) rfl (Yc (⟨_,(ZbY (.refl _) (.cons _ (.cons _ (.refl _)))),_,own1,?_,rfl,rfl,rfl,rfl,rfl,rfl⟩))))))))
     (rw [ZcA ⟨by assumption,by assumption,by assumption⟩]; exact hr1)
    try simp only [QR,QN,QQ,Zca,ZbO] at h17
    refine Yh (⟨_,(.cons _ (.refl _)),_,[],?_,rfl,rfl,rfl,rfl,rfl,rfl⟩)
    (rw [Zcz (by rintro ⟨a1,a2,a3⟩; simp_all only [or_self,and_true,and_false,false_or,not_true_eq_false,reduceCtorEq])]; exact (Rw.nil rfl))
   refine Ya rfl rfl (ZE rfl (ZD rfl (Zq rfl (Yc (ZB rfl (Yh (⟨_,(.refl _),_,[],?_,rfl,rfl,rfl,rfl,rfl,rfl⟩)))))))
   (rw [Zcz (by rintro ⟨a1,a2,a3⟩; simp_all only [or_self,and_true,and_false,false_or,not_true_eq_false,reduceCtorEq])]; exact (Rw.nil rfl))
  refine ZF rfl (Zq rfl (Zk rfl (ZE rfl (ZD rfl (ZC rfl (Zq rfl (Yc (ZB rfl (Yh (⟨_,(.refl _),_,[],?_,rfl,rfl,rfl,rfl,rfl,rfl⟩))))))))))
  (rw [Zcz (by rintro ⟨a1,a2,a3⟩; simp_all only [or_self,and_true,and_false,false_or,not_true_eq_false,reduceCtorEq])]; exact (Rw.nil rfl))
 obtain ⟨vA,ownA,hrA,k1,k2,k3,k4,k5,rfl⟩:=hI
 refine Za 1 k1 (Za 2 k2 (Za 3 k3 (Za 4 k4 (Za 5 k5 (Ye (Ye (Yg (Zj rfl (Yr rfl rfl rfl (Yr rfl rfl (Zbt (by omega)) (Zk rfl (Ys (t:=75) rfl (fun h18=>?_) (fun h18=>?_))))))))))))) <;> simp only [NM] at h18
 ·refine Yb rfl (Zj rfl (Yb rfl (Zt rfl rfl (Yb rfl (Zy rfl (Yb rfl (Zy rfl (Yb rfl (Zw rfl rfl rfl (Yb rfl (Yp rfl rfl (ZbM _ ZN) (Yb rfl (Yo rfl rfl (ZbM _ ZM) (Yb rfl (Yx (b:=V3 M (M 135) ((56*(M 135)+4) - 4)) rfl rfl (kU) (Zq rfl (Zk rfl (Ys (t:=85) rfl (fun h19=>?_) (fun h19=>?_)))))))))))))))))))
  ·refine Yb rfl (Yo rfl rfl (ZbM _ ZN) (Yb rfl (Zj rfl (Yb rfl (Zt rfl rfl (Yb rfl (Zj rfl (Yb rfl (Zt rfl rfl (Yb rfl (Zj rfl (Yb rfl (Zt rfl rfl (Yb rfl (XA rfl (.one rfl (.one rfl (.one rfl .nil))) (Yb rfl (Vy (rs:=[nb]) (Bs:=[_]) (av:=[.agg 136 (ia M),.sl (nb) 0 3 1 (.ex 3)]) rfl (KX (c:=.ex 3) 3 _ M [(56*(M 135)+4) - 1,(56*(M 135)+4) - 2,(56*(M 135)+4) - 3] rfl lit3r (YF rfl)) rfl rfl (YF rfl) (fun _ h=>h) (by simp [rnL,V.renL,V.ren,pos]) ⟨ZM,⟨_,_,_,rfl⟩,trivial⟩ rfl rfl rfl (.cons .here .nil) (Zq rfl (Yc (Yj rfl (fun h20=>?_) (fun h20=>?_)))))))))))))))))))))
   ·try simp only [QR,QN,QQ,Zca,ZbO] at h20
    refine Yf (Yq (v:=vA) rfl (Zj rfl (Zt rfl rfl (XA rfl (.one rfl .nil) (XZ (c:=[(56*(M 135)+4) - 2]) rfl hrA rfl ZM (.there (.there .here)) (by decide) (by decide) rfl (Jn) (by have:=UG (p:=M 129 / Y4 (M 135) % 2=1/\V3 M (M 135) ((56*(M 135)+4)+3)=true/\Y1 M ((56*(M 135)+4)+1)=true/\Y1 M ((56*(M 135)+4)+2)=true) ((56*(M 135)+4)+2); omega) (fun v2 own2 n2 hr2=>Yq (v:=v2) rfl (Zf (Yq (v:=v2) rfl (Yq (v:=v2) rfl (Yc (Yi (⟨_,YH (v:=v2) rfl (YW),?_⟩))))))))))))
    rw [Ko (by omega) (by omega) (by omega)]
    exact ⟨_,by first | (rw [ZcA (c:=M 129 / (2*_) % 2=1/\_) ⟨by assumption,by assumption,by assumption⟩]; exact hr2) | (rw [Zcz (c:=M 129 / (2*_) % 2=1/\_) (by rintro ⟨a1,a2,a3⟩; simp_all only [or_self,and_true,and_false,false_or,not_true_eq_false,reduceCtorEq]),Zcf]; exact hr2),(fun _ h=>(ZbV _ h))⟩
   try simp only [QR,QN,QQ,Zca,ZbO] at h20
   refine Yh (Ze (Yq (v:=vA) rfl (Yq (v:=vA) rfl (Yc (Yi (⟨_,YH (v:=vA) rfl (YW),?_⟩))))))
   rw [Ko (by omega) (by omega) (by omega)]
   exact ⟨_,by first | (rw [ZcA (c:=M 129 / (2*_) % 2=1/\_) ⟨by assumption,by assumption,by assumption⟩]; exact hrA) | (rw [Zcz (c:=M 129 / (2*_) % 2=1/\_) (by rintro ⟨a1,a2,a3⟩; simp_all only [or_self,and_true,and_false,false_or,not_true_eq_false,reduceCtorEq]),Zcf]; exact hrA),(fun _ h=>(.tail _ (ZbV _ h)))⟩
  refine Ya rfl rfl (ZF rfl (Zq rfl (Yc (ZB rfl (Yh (Ze (Yq (v:=vA) rfl (Yq (v:=vA) rfl (Yc (Yi (⟨_,YH (v:=vA) rfl (YW),?_⟩)))))))))))
  rw [Ko (by omega) (by omega) (by omega)]
  exact ⟨_,by first | (rw [ZcA (c:=M 129 / (2*_) % 2=1/\_) ⟨by assumption,by assumption,by assumption⟩]; exact hrA) | (rw [Zcz (c:=M 129 / (2*_) % 2=1/\_) (by rintro ⟨a1,a2,a3⟩; simp_all only [or_self,and_true,and_false,false_or,not_true_eq_false,reduceCtorEq]),Zcf]; exact hrA),(fun _ h=>(ZbV _ h))⟩
 refine ZF rfl (Zq rfl (Zk rfl (ZF rfl (ZC rfl (Zq rfl (Yc (ZB rfl (Yh (Ze (Yq (v:=vA) rfl (Yq (v:=vA) rfl (Yc (Yi (⟨_,YH (v:=vA) rfl (YW),?_⟩))))))))))))))
 rw [Ko (by omega) (by omega) (by omega)]
 exact ⟨_,by first | (rw [ZcA (c:=M 129 / (2*_) % 2=1/\_) ⟨by assumption,by assumption,by assumption⟩]; exact hrA) | (rw [Zcz (c:=M 129 / (2*_) % 2=1/\_) (by rintro ⟨a1,a2,a3⟩; simp_all only [or_self,and_true,and_false,false_or,not_true_eq_false,reduceCtorEq]),Zcf]; exact hrA),(fun _ h=>(ZbV _ h))⟩
open Go Go.Am
theorem E0 (M:Nat->Int) (s k c:Int):(XR M s k c).length<=2:=by
 unfold XR
 split
 ·exact Zct _
 rw [Zb2]
 have h1:=UG (p:=M 129 / Y4 c % 2=1/\V3 M c (s+3)=true/\Y1 M (s+1)=true/\Y1 M (s+2)=true) (s+2)
 have h2:=UG (p:=M 129 / (2*Y4 c) % 2=1/\V3 M c (s - 4)=true/\Y1 M (s - 1)=true/\Y1 M (s - 2)=true/\Y1 M (s - 3)=true) (s - 2)
 omega
theorem own_is {M:Nat->Int} {t:Int} (ht:0<=t/\t < 64):UT (ia M) t=U5 M (M 135) t:=by
 have hq:sqI t=0+t.toNat*2:=rfl
 have e:Xf M t=(decide (M (t.toNat*2)=0)&&decide (M (t.toNat*2+1)=0)):=by
  rw [Zce,Zca,Zb7,Zb7]
  unfold Xf
  rw [Qo,hq,Zcp]
  exact ⟨fun h=>⟨h 0 (by omega),h 1 (by omega)⟩,fun h i hi=>by
   obtain rfl | rfl:i=0\/i=1:=by omega
   ·exact h.1
   exact h.2⟩
 unfold UT U5 R9
 rw [e,hq,Zcp]; rfl
theorem allB_true' {p:Nat->Bool}:∀ {n:Nat},(∀ i,i < n->p i=true)->Xp n p=true
 | 0,_=>rfl
 | n+1,h=>by
  show (Xp n p&&p n)=true
  rw [h n (Nat.lt_succ_self n),allB_true' fun i hi=>h i (Nat.lt_succ_of_lt hi)]; rfl
theorem K2 {p q:Int→Bool}:∀ {l:List Int},(∀ t∈l,p t=q t)→l.filter p=l.filter q
 | [],_=>rfl
 | t::l,h=>by rw [List.filter_cons,List.filter_cons,h t ZM,K2 fun u hu=>h u (.tail _ hu)]
theorem tG {l:List Int} {i:Nat} (hi:i < l.length):l.getD i 0∈l:=by
 rw [ZbD,ZbH hi]
 exact List.getElem_mem hi
theorem th {md:Md} (M:Nat->Int):RB AM 156 [.snil,.fn 155 [.ptr 0 0 136]] [.sc md 136 (ia M)] .snil [.sc md 136 (ia M)]:=by
 refine ⟨[_],?_,rfl,⟨_,_,_,rfl⟩,trivial⟩
 rw [WI (pf:=Tz 155) rfl _ _ rfl]; rfl
theorem uD {md:Md} (M F:Nat→Int) (l:List Int) (m q:Nat) (hl:l.length=m) (hF:∀ i,i < l.length→F i=l.getD i 0) (hb:∀ t∈l,0≤t∧t < 64) (hm:m≤1000000) :
  ∃ q' F',(∀ i,i < (l.filter fun t=>!U5 M (M 135) t).length->F' i=(l.filter fun t=>!U5 M (M 135) t).getD i 0)/\RNd AM 156 [.sl 0 0 m 1 .whole,.fn 155 [.ptr 1 0 136]] [.sc .grow q (ia F),.sc md 136 (ia M)] (fun b=>.sl b 0 (l.filter fun t=>!U5 M (M 135) t).length 1 .whole) (.sc .grow q' (ia F')) [.dead,.sc md 136 (ia M)]:=by
 have hn:=qM hl hF
 have he:(X1 (ia F) m).filter (fun t=>!UT (ia M) t)=l.filter fun t=>!U5 M (M 135) t:=by
  rw [hn]; exact K2 fun t ht=>by rw [own_is (hb t ht)]
 have h1:Xp m (fun i=>VJ (ia F i)&&(decide (0<=Wm (ia F i))&&decide (Wm (ia F i) < 64)))=true:=allB_true' fun i hi=>by
  have hx:=hb _ (tG (l:=l) (i:=i) (by omega))
  rw [<- hF i (by omega)] at hx
  show (true&&(decide (0<=F i)&&decide (F i < 64)))=true
  rw [Zcl hx.1,Zcl hx.2]; rfl
 have h2:Xp 136 (fun i=>VJ (ia M i))=true:=allI 136
 have h3:Nat.ble m 4611686018427387904=true:=ZbN (by omega)
 refine ⟨_,fun i=>(l.filter fun t=>!U5 M (M 135) t).getD i 0,fun i _=>rfl,2,[.dead,.sc md 136 (ia M),.sc .grow (l.filter fun t=>!U5 M (M 135) t).length (ia fun i=>(l.filter fun t=>!U5 M (M 135) t).getD i 0)],?_,Zcs _,rfl,rfl,rfl,rfl,rfl,trivial⟩
 rw [WI (pf:=Tz 155) rfl _ _ rfl]
 show (bif (decide (0≠1)&&(Xp m (fun i=>VJ (ia F i)&&(decide (0<=Wm (ia F i))&&decide (Wm (ia F i) < 64)))&&(Xp 136 (fun i=>VJ (ia M i))&&Nat.ble m 4611686018427387904))) then
  some (V.sl 2 0 ((X1 (ia F) m).filter fun t=>!UT (ia M) t).length 1 .whole,[Blk.dead,.sc md 136 (ia M)]++[.sc .grow ((X1 (ia F) m).filter fun t=>!UT (ia M) t).length fun i=>.int .i64 (((X1 (ia F) m).filter fun t=>!UT (ia M) t).getD i 0)]) else none)=_
 rw [h1,h2,h3,he]; rfl
theorem xd (M:Nat->Int) (ha:0<=M 133/\M 133 < 64) (hc:M 135=0\/M 135=1):RtR AM 127 1 [.agg 136 (ia M)] [] (XL M (M 133) (M 134) (M 135)) []:=by
 refine Qq (YL (a:=a127) rfl rfl (YI _) (ZQ rfl) (m:=0) rfl (Ze (YC rfl (Yq rfl (Yc (Ye (Ze (Yd (o':=134) rfl rfl rfl (Yd (o':=134) rfl rfl rfl (Ym rfl rfl ZM rfl (Zr rfl (Yc (Yj rfl (fun h1=>?_) (fun h1=>?_)))))))))))))) <;> simp only [NM] at h1
 ·refine Ze (Yo rfl rfl ZM (YE rfl (gU M ha hc) rfl rfl (fun v1 own1 n1 hr1=>Yq (v:=v1) rfl (Yc (Yi (⟨_,YH (v:=v1) rfl (YW),?_⟩))))))
  have e:XL M (M 133) (M 134) (M 135)=U2 M (M 133) (M 135):=ZcA (by assumption)
  exact ⟨_,e ▸ hr1,(fun _ h=>(ZbV _ h))⟩
 refine Yh (Ze (KF rfl (Yq (v:=.fn _ _) rfl (Yc (Ye (Zbb [0,1,2,3] [4,5,6,7,8,9,10] [[4,5,6,7,8,9,10],[4,5,7,6,8,9,10],[5,4,6,7,8,9,10],[5,4,7,6,8,9,10],[7,4,5,6,8,9,10],[5,7,4,6,8,9,10]] rfl (by decide +kernel) ?_))))))
 simp only [Xy,List.getElem?_cons_zero,List.getElem?_cons_succ]
 have hfrom:=tO M (M 133)
 have hcast:=kC M ha hc
 have hl1:=Jg M (M 133)
 have hl2:=ZbU (fun t=>!U5 M (M 135) t) (Wk M (M 133))
 have hl3:=E0 M (M 133) (M 134) (M 135)
 refine Zy rfl (Yo rfl rfl ZM (Yd (o':=133) rfl rfl rfl (Ym rfl rfl ZM rfl (Yc (⟨?_,Vd ?_⟩)))))
 ·refine Zay (fun l=>TS (b:=0) (B:=.sc .var 136 (ia M)) (v:=.fn 155 [.ptr 0 0 136]) rfl rfl ZM (fun σ _=>rfl) (YE rfl hfrom rfl rfl (fun v own n2 hr=>Yc (ZbM _ ZM))) l) (fun l=>TS (b:=0) (B:=.sc .var 136 (ia M)) (v:=.agg 136 fun i=>ia M (0+i)) rfl rfl ZM (fun σ h=>DV (z:=136) (o:=0) rfl rfl (by simp only [rdV,h,cond_true]))  (YE rfl hfrom rfl rfl (fun v own n2 hr=>Yc (ZbM _ ZM))) l) rfl
   (YE rfl hfrom rfl rfl (fun v own n2 hr=>Yc trivial)) (Yq (v:=.fn 155 [.ptr 0 0 136]) rfl (Yc fun l=>TS (b:=0) (B:=.sc .var 136 (ia M)) (v:=.agg 136 fun i=>ia M (0+i)) rfl rfl ZM (fun σ h=>DV (z:=136) (o:=0) rfl rfl (by simp only [rdV,h,cond_true]))  (YE rfl hfrom rfl rfl (fun v own n2 hr=>Yc (ZbM _ ZM))) l))
   (YE rfl hfrom rfl rfl (fun v own n2 hr=>Yq (v:=.fn 155 [.ptr 0 0 136]) rfl (Yc fun l=>TS (b:=0) (B:=.sc .var 136 (ia M)) (v:=.agg 136 fun i=>ia M (0+i)) rfl rfl (ZbM _ ZM) (fun σ h=>DV (z:=136) (o:=0) rfl rfl (by simp only [rdV,h,cond_true]))  (xm (l':=(Wk M (M 133)).filter fun t=>!U5 M (M 135) t) rfl rfl hr .here ZM ⟨_,_,_,rfl⟩ (fun h=>⟨by rw [h]; rfl,th M⟩) (fun m q F h1 h2=>uD M F (Wk M (M 133)) m q h1 h2 (fun t ht=>QX ht) (by have:=Jg M (M 133); omega)) (fun v2 own2 n3 hr2=>Yc (ZbM _ ZM))) l)))
 refine YE rfl (hfrom) rfl rfl (fun v2 own2 n2 hr2=>Yq (v:=.fn _ _) rfl (xm (l':=(Wk M (M 133)).filter fun t=>!U5 M (M 135) t) rfl rfl hr2 .here ZM ⟨_,_,_,rfl⟩ (fun h=>⟨by rw [h]; rfl,th M⟩) (fun m q F h1 h2=>uD M F (Wk M (M 133)) m q h1 h2 (fun t ht=>QX ht) (by have:=Jg M (M 133); omega)) (fun v3 own3 n3 hr3=>Yo rfl rfl (ZbM _ ZM) (YE rfl (hcast) rfl rfl (fun v4 own4 n4 hr4=>yN rfl hr3 rfl (hr4.rx) (fun _ h=>(ZbV _ h)) (Dr.appR _ .here) (by decide) (by omega) (fun v5 own5 n5 hr5=>Yq (v:=v5) rfl (Yc (Yi (⟨_,YH (v:=v5) rfl (YW),?_⟩)))))))))
 have e:XL M (M 133) (M 134) (M 135)=((Wk M (M 133)).filter fun t=>!U5 M (M 135) t)++XR M (M 133) (M 134) (M 135):=Zcz (by assumption)
 exact ⟨_,e ▸ hr5,(fun _ h=>(ZbV _ h))⟩
open Go Go.Am
theorem jB {Q:Nat->Int} {x y z:Int} (h0:Q 0=x) (h1:Q 1=y) (h2:Q 2=z):∀ i,i < [x,y,z].length->ovA (fun _=>0) (0*3) 3 Q (0+i)=[x,y,z].getD i 0
 | 0,_=>h0
 | 1,_=>h1
 | 2,_=>h2
 | i+3,h=>absurd (show i+3 < 3 from h) (by omega)
theorem RU (a b:List Mv):YV (a++b)=YV a++YV b:=by unfold YV; exact List.flatMap_append
theorem toM_len (s k c t:Int):(toM s k c t).length<=4:=by
 unfold toM
 split
 ·exact Zcs 4
 exact YF rfl
theorem ky (s k c:Int):∀ l:List Int,(l.flatMap (toM s k c)).length<=l.length*4
 | []=>Zct _
 | t::l=>by
  have h1:=toM_len s k c t
  have h2:=ky s k c l
  rw [Zb8,Zb2,Zcd]
  omega
theorem Kn (s k c:Int) (l:List Int):(YV (l.flatMap (toM s k c))).length<=l.length*12:=by
 have:=ky s k c l
 rw [YQ]; omega
theorem wB {s k c:Int} {l:List Int} {i:Nat} (hi:i < l.length):YV ((l.take (i+1)).flatMap (toM s k c))=YV ((l.take i).flatMap (toM s k c))++YV (toM s k c (l.getD i 0)):=by
 rw [VX 0 hi,List.flatMap_append,RU]; simp
def Em (s t:Int) (j:Nat):List Int:=YV ((([2,3,4,5]:List Int).take j).map fun p=>(s,t,p))
theorem r7 (s t:Int):∀ j,j < 4->Em s t (j+1)=Em s t j++[s,t,2+(j:Int)]
 | 0,_=>rfl
 | 1,_=>rfl
 | 2,_=>rfl
 | 3,_=>rfl
 | j+4,h=>absurd h (by omega)
theorem Zaq (s t:Int) (j:Nat):(Em s t j).length<=12:=by
 unfold Em
 rw [YQ,List.length_map,Zcb]
 show min j 4*3<=12
 omega
theorem to_end {s k c t:Int} (hb:0<=t/\t < 64) (hk:k=1) (ht:Wh t=7*(1 - c)):YV (toM s k c t)=Em s t 4:=by
 unfold Wh at ht
 rw [ZcA hb] at ht
 unfold toM endM
 rw [ZcA (Zcl ⟨hk,ht⟩)]; rfl
theorem rE {s k c t:Int} (hb:0<=t/\t < 64) (h:k≠1\/Wh t≠7*(1 - c)):YV (toM s k c t)=[s,t,0]:=by
 unfold Wh at h
 rw [ZcA hb] at h
 unfold toM endM
 rw [Zcz (by rw [Zb7]; omega)]; rfl
theorem to_rt (M:Nat→Int) (hM:M 135=0∨M 135=1) (l:List Int) (hlen:l.length≤1000) (hb:∀ t∈l,0≤t∧t < 64):wS AM 126 1 3 [.agg 136 (ia M)] [] l (YV (l.flatMap (toM (M 133) (M 134) (M 135)))):=by
 refine yk fun v Bs hc=>?_
 refine YL (a:=a126) rfl rfl (YI _) (ZQ rfl) rfl ?_ (by first | rfl | (cases hc <;> rfl))
 have hr0:=hc.rx
 rw [show YZ 0 Bs=YZ 0 Bs++[] from (Zcf _).symm]
 generalize hown:YZ 0 Bs=own0 at hr0 ⊢
 refine Ze (YC rfl (Yq rfl (Yc (Ye (Ze (Yq (v:=v) rfl (Xk rfl hr0 (by decide) Te (Yq rfl (Yc (Yk (Xo (.cons_cons _ (ZbY (.refl _) .slnil)) (Xu (fun m f _ L=>∃ (i:Nat) (vO:V) (ownO:HA),(i<=l.length)/\(m=l.length - i)/\(Rw 3 (YV ((l.take i).flatMap (toM (M 133) (M 134) (M 135)))) vO ownO)/\(f 2=.ptr Bs.length 0 136)/\(f 4=vO)/\(f 8=v)/\(f 9=.s (.int .i64 l.length))/\(f 10=.s (.int .i64 i))/\(L=(ownO++(Bs.length,.sc .var 136 (ia M))::(own0++[])))) (fun m f nb L hI=>?_) (l.length) (⟨0,.snil,[],by omega,rfl,.nil rfl,rfl,rfl,rfl,rfl,rfl,rfl⟩)))))))))))))
 obtain ⟨i,vO,ownO,hi,hm,hrO,k2,k4,k8,k9,k10,rfl⟩:=hI
 refine Za 2 k2 (Za 4 k4 (Za 8 k8 (Za 9 k9 (Za 10 k10 (Ze (Zr rfl (Yc (Ye (Yj rfl (fun h1=>?_) (fun h1=>?_)))))))))) <;> simp only [NM] at h1
 ·refine Yh (Ye (Yk (Ze ?_)))
  have htb:0<=l.getD i 0/\l.getD i 0 < 64:=hb _ (tG (by omega))
  obtain ⟨b0,q0,md0,c0,F0,rfl,rfl,hF0⟩:=hr0.at (by decide) Te (by omega)
  refine Zx rfl rfl (Ym (x:=(l.getD i 0)) rfl rfl (ZbM _ ZN) (ld1 hF0 (by omega)) (Zj rfl (Yc (Ye (Ye (Yg (Yd (o':=134) rfl rfl rfl (Yd (o':=134) rfl rfl rfl (Ym rfl rfl (ZbM _ ZM) rfl (Zr rfl (Zk rfl (Ys (t:=18) rfl (fun h2=>?_) (fun h2=>?_))))))))))))) <;> simp only [NM] at h2
  ·refine ZF rfl (Zq rfl (Yc (ZA rfl (Ze (Yq (v:=vO) rfl (Yd (o':=133) rfl rfl rfl (Ym rfl rfl (ZbM _ ZM) rfl (Zj rfl (YB rfl (.one rfl (.one rfl .nil)) (Wp rfl (.agg rfl .nil) (XZ (c:=[(M 133),(l.getD i 0),0]) rfl hrO rfl ZM (.there .here) (by decide) (by decide) rfl ((jB rfl rfl rfl)) (by have e1:=Kn (M 133) (M 134) (M 135) (l.take i); rw [Zcb] at e1; omega) (fun v1 own1 n1 hr1=>Yq (v:=v1) rfl (Yc (Y0 (Xb (Yf (Zs rfl rfl (Zj rfl (Yc (⟨l.length - (i+1),_,by omega,(ZbY (.refl _) (.cons _ (.refl _))),i+1,_,_,by omega,rfl,?_,rfl,rfl,rfl,rfl,rfl,rfl⟩))))))))))))))))))))
   rw [wB (l:=l) (i:=i) (by omega)]
   (rw [rE htb (by first | exact .inl (by assumption) | exact .inr (by assumption))]; exact hr1)
  refine Yb rfl (Zj rfl (Yb rfl (Yu rfl (KG _) rfl rfl rfl (Yb rfl (Yd (o':=134) rfl rfl rfl (Yb rfl (Yd (o':=135) rfl rfl rfl (Yb rfl (Ym rfl rfl (ZbM _ ZM) rfl (Yb rfl (Zt rfl rfl (Yb rfl (Wn rfl rfl (by omega) (Yb rfl (Zr rfl (Zq rfl (Yc (Yj rfl (fun h3=>?_) (fun h3=>?_))))))))))))))))))) <;> simp only [NM] at h3
  ·refine Ze (Yq (v:=vO) rfl (Yd (o':=133) rfl rfl rfl (Ym rfl rfl (ZbM _ ZM) rfl (Zj rfl (YB rfl (.one rfl (.one rfl .nil)) (Wp rfl (.agg rfl .nil) (XZ (c:=[(M 133),(l.getD i 0),0]) rfl hrO rfl ZM (.there .here) (by decide) (by decide) rfl ((jB rfl rfl rfl)) (by have e1:=Kn (M 133) (M 134) (M 135) (l.take i); rw [Zcb] at e1; omega) (fun v2 own2 n2 hr2=>Yq (v:=v2) rfl (Yc (Y0 (Xb (Yf (Zs rfl rfl (Zj rfl (Yc (⟨l.length - (i+1),_,by omega,(ZbY (.refl _) (.cons _ (.refl _))),i+1,_,_,by omega,rfl,?_,rfl,rfl,rfl,rfl,rfl,rfl⟩))))))))))))))))
   rw [wB (l:=l) (i:=i) (by omega)]
   (rw [rE htb (by first | exact .inl (by assumption) | exact .inr (by assumption))]; exact hr2)
  refine Yh (Ze (Yq rfl (Yc (Yk (Xo (ZbY (.refl _) (.refl _)) (Xu (fun m f _ L=>∃ (j:Nat) (vP:V) (ownP:HA),(j<=4)/\(m=4 - j)/\(Rw 3 (YV ((l.take i).flatMap (toM (M 133) (M 134) (M 135)))++Em (M 133) (l.getD i 0) j) vP ownP)/\(f 2=.ptr Bs.length 0 136)/\(f 4=vP)/\(f 6=.s (.int .i64 (l.getD i 0)))/\(f 7=.s (.int .i64 (2+(j:Int))))/\(f 8=.sl b0 0 l.length 1 c0)/\(f 9=.s (.int .i64 l.length))/\(f 10=.s (.int .i64 i))/\(L=(ownP++[(Bs.length,.sc .var 136 (ia M)),(b0,.sc md0 q0 (ia F0))]))) (fun m f nb L hI=>?_) (4) (⟨0,vO,ownO,by omega,by omega,by rw [show Em (M 133) (l.getD i 0) 0=[] from rfl,Zcf]; exact hrO,rfl,rfl,rfl,rfl,rfl,rfl,rfl,rfl⟩)))))))
  obtain ⟨j,vP,ownP,hj,hm2,hrP,k2,k4,k6,k7,k8,k9,k10,rfl⟩:=hI
  refine Za 2 k2 (Za 4 k4 (Za 6 k6 (Za 7 k7 (Za 8 k8 (Za 9 k9 (Za 10 k10 (Ye (Ze (Zj rfl (Zr rfl (Yc (Yj rfl (fun h4=>?_) (fun h4=>?_))))))))))))) <;> simp only [NM] at h4
  ·refine Yh (Ye (Yk (Yf (Yq (v:=vP) rfl (Yd (o':=133) rfl rfl rfl (Ym rfl rfl (ZbM _ ZM) rfl (Zj rfl (Zj rfl (YB rfl (.one rfl (.one rfl (.one rfl .nil))) (Wp rfl (.agg rfl .nil) (XZ (c:=[(M 133),(l.getD i 0),2+(j:Int)]) rfl hrP rfl ZM (.there .here) (by decide) (by decide) rfl ((jB rfl rfl rfl)) (by have e1:=Kn (M 133) (M 134) (M 135) (l.take i); rw [Zcb] at e1; have e2:=Zaq (M 133) (l.getD i 0) j; rw [Zb2]; omega) (fun v3 own3 n3 hr3=>Yq (v:=v3) rfl (Yc (Yf (Zj rfl (Zs rfl rfl (Zj rfl (Yc (⟨4 - (j+1),_,by omega,(ZbY (.refl _) (.cons _ (.refl _))),j+1,_,_,by omega,rfl,?_,rfl,rfl,rfl,by rw [show (2:Int)+((j+1:Nat):Int)=2+(j:Int)+1 by omega]; rfl,rfl,rfl,rfl,rfl⟩)))))))))))))))))))
   rw [r7 _ _ _ (by omega),<- Zb5]; exact hr3
  refine Y0 (Xb (Yf (Zs rfl rfl (Zj rfl (Yc (⟨l.length - (i+1),_,by omega,(ZbY (.refl _) (.refl _)),i+1,_,_,by omega,rfl,?_,rfl,rfl,rfl,rfl,rfl,rfl⟩))))))
  rw [wB (l:=l) (i:=i) (by omega)]
  (rw [to_end htb (by assumption) (by assumption)]; obtain rfl:j=4:=(by omega); exact hrP)
 refine Y0 (Xb (Ze (Yq (v:=vO) rfl (Yq (v:=vO) rfl (Yc (Yi (⟨_,YH (v:=vO) rfl (YW),?_⟩)))))))
 obtain rfl:i=l.length:=by omega
 rw [List.take_length] at hrO
 exact ⟨_,_,hrO,.here,(fun _ h=>(.tail _ h))⟩
open Go Go.Am
theorem KJ:∀ {l:List Mv} {i:Nat},i < l.length->(YV l).getD (3*i) 0=(l.getD i (0,0,0)).1/\(YV l).getD (3*i+1) 0=(l.getD i (0,0,0)).2.1/\(YV l).getD (3*i+2) 0=(l.getD i (0,0,0)).2.2
 | x::l,0,_=>⟨rfl,rfl,rfl⟩
 | x::l,i+1,h=>by
  have ih:=KJ (l:=l) (i:=i) (by simpa using h)
  have e:YV (x::l)=x.1::x.2.1::x.2.2::YV l:=rfl
  rw [e,show 3*(i+1)=3*i+1+1+1 by omega]
  exact ih
theorem mvOf_is {F:Nat->Int} {l:List Mv} {m:Nat} (hl:(YV l).length=m*3) (hF:∀ i,i < (YV l).length->F i=(YV l).getD i 0):VE (ia F) m=l:=by
 have hm:l.length=m:=by rw [YQ] at hl; omega
 unfold VE
 refine List.ext_getElem (by simp [hm]) fun i h1 h2=>?_
 rw [List.getElem_map,List.getElem_range]
 obtain ⟨e1,e2,e3⟩:=KJ h2
 have hb:3*i+2 < (YV l).length:=by rw [YQ]; omega
 rw [<- hF _ (by omega)] at e1 e2 e3
 have hg:l.getD i (0,0,0)=l[i]:=by rw [ZbD,ZbH h2]; rfl
 rw [hg] at e1 e2 e3
 show (F (3*i),F (3*i+1),F (3*i+2))=_
 rw [e1,e2,e3]
theorem Zbx (l:List Mv) (hlen:l.length<=1000000):StR AM 128 3 [] [.fn 129 []] (YV l) (YV (KH l)):=by
 have hp:=(Qa l).length_eq
 refine ⟨by rw [YQ,YQ,hp],fun _=>⟨[],?_,trivial⟩,fun m q F hl hF=>⟨_,gB (F:=F),[_],?_,rfl,⟨_,_,_,rfl⟩,trivial⟩⟩
 ·rw [WI (pf:=RH 129) rfl _ _ rfl]; rfl
 rw [WI (pf:=RH 129) rfl _ _ rfl]
 have hm:l.length=m:=by rw [YQ] at hl; omega
 have hlt:Nat.blt m 4611686018427387904=true:=ZbN (by omega)
 show (bif Xp (m*3) (fun i=>VJ (ia F i))&&Nat.blt m 4611686018427387904 then some (V.tup [],[Blk.sc .grow q (EL (YV (KH (VE (ia F) m))) (ia F))]) else none)=_
 rw [allI,hlt,mvOf_is hl hF,uR]; rfl
theorem rh (P:Nat->Int):WR AM 125 [.agg 133 (ia P)] [] (fun v n L=>v=.fn 153 [.ptr 0 0 133]/\n=1/\L=[(0,.sc .var 133 (ia P))]):=by
 refine YL (a:=a125) rfl rfl (YI _) (ZQ rfl) (m:=0) rfl (Ye (Yf (YC rfl (Yq rfl (Yc (Ye (Yf (KF rfl (Yq rfl (Yc ?_))))))))))
 exact Yi ⟨_,YH rfl YW,rfl,rfl,rfl⟩
def ww (M:Nat->Int):List Mv:=(XL M (M 133) (M 134) (M 135)).flatMap (toM (M 133) (M 134) (M 135))
def VB (g0 g4:Nat->S) (c:Nat):List V:=[.agg 133 g0,.ptr 1 0 133,.ptr 2 0 1,.undef,.agg 133 g4,.fn 153 [.ptr c 0 133],.undef,.undef,.undef,.undef,.undef,.undef,.undef,.undef,.undef,.undef]
section
variable (g0 g4 g1:Nat->S) (Q:Nat->Int)
noncomputable def Jy (c st:Nat):Blk:=.lp 6 Kx (VB g0 g4 c) st
theorem Dd (M:Nat→Int) (ha:0≤(ovA (fun _=>0) 0 136 M) 133∧(ovA (fun _=>0) 0 136 M) 133 < 64) (hc:(ovA (fun _=>0) 0 136 M) 135=0∨(ovA (fun _=>0) 0 136 M) 135=1) (hb:∀ t∈XL (ovA (fun _=>0) 0 136 M) ((ovA (fun _=>0) 0 136 M) 133) ((ovA (fun _=>0) 0 136 M) 134) ((ovA (fun _=>0) 0 136 M) 135),0≤t∧t < 64) (hl:(XL (ovA (fun _=>0) 0 136 M) ((ovA (fun _=>0) 0 136 M) 133) ((ovA (fun _=>0) 0 136 M) 134) ((ovA (fun _=>0) 0 136 M) 135)).length≤1000) :
  WR AM 6 [.pan .undef,.yv 0,.agg 136 (ia M)] [Jy g0 g4 3 0,.sc .var 133 g1,.vs .var [.snil],.sc .var 133 (ia Q)] (fun v n L=>v=.s (.bool true)/\ED L [Jy g0 g4 3 0,.sc .var 133 g1] [.sc .var 133 (ia Q)] (YV (ww (ovA (fun _=>0) 0 136 M)))):=by
 refine TF (N:=16) (B:=B100) (f:=YI ((VB g0 g4 3).set 6 (.agg 136 (ia M)))) (caps:=VB g0 g4 3) rfl rfl rfl (Dn rfl) rfl (Yf (Yy (Yz rfl rfl rfl rfl .here (Yc (⟨6,Kx,VB g0 g4 3,rfl,?_⟩)))))
 refine Yk (Yg (VV (v:=.snil) rfl rfl ZP rfl (Yo rfl rfl ZM (Yo rfl rfl ZM (QC rfl (xd (ovA (fun _=>0) 0 136 M) ha hc) rfl rfl (fun v1 own1 n1 hr1=>DW (caps:=[]) rfl (to_rt (ovA (fun _=>0) 0 136 M) hc _ hl hb) rfl hr1.rx (fun p hp=>ZbV _ hp) rfl rfl (fun v2 own2 n2 hr2=>?_)))))))
 have hroom:=Kn ((ovA (fun _=>0) 0 136 M) 133) ((ovA (fun _=>0) 0 136 M) 134) ((ovA (fun _=>0) 0 136 M) 135) (XL (ovA (fun _=>0) 0 136 M) ((ovA (fun _=>0) 0 136 M) 133) ((ovA (fun _=>0) 0 136 M) 134) ((ovA (fun _=>0) 0 136 M) 135))
 refine Et rfl (Rw.nil rfl) rfl hr2.rx (fun p hp=>ZbV _ hp) (Dr.here (own:=[])) (by decide) (by rw [List.length_nil]; omega) (fun v3 own3 n3 hr3 hn3=>TK (b:=2) (u:=.snil) (v:=v3) rfl rfl hr3.isrow (.appR _ (.appR _ (.appR _ (.appR _ (.there (.there (.there .here))))))) (Vj (L':=own3++[(0,.lp 6 Kx (VB g0 g4 3) 1),(1,.sc .var 133 g1),(2,.vs .var [v3]),(3,.sc .var 133 (ia Q))]) (ZbY (.refl _) (ZbB (ZbB (ZbB (.cons _ (.refl _)))))) (VA List.perm_append_comm (Yc ⟨6,Kx,VB g0 g4 3,rfl,rfl,?_⟩))))
 have h4:∀ p∈own3,4 < p.1:=fun p hp=>hn3 p hp (4,_) (ZbM _ (ZbM _ ZM))
 rw [List.nil_append] at hr3
 refine JI hr3 ⟨.head _,.tail _ ZM,.tail _ ZN,.tail _ ZO,trivial⟩ (fun p hp=>⟨.tail _ (.tail _ (.tail _ (.tail _ ?_))),Nat.le_of_lt (h4 p hp)⟩)
 show p∈setL 0 _ own3
 rw [Ji (fun p hp=>by have:=h4 p hp; omega)]; exact hp
theorem D2 (M:Nat→Int) (ha:0≤(ovA (fun _=>0) 0 136 M) 133∧(ovA (fun _=>0) 0 136 M) 133 < 64) (hc:(ovA (fun _=>0) 0 136 M) 135=0∨(ovA (fun _=>0) 0 136 M) 135=1) (hb:∀ t∈XL (ovA (fun _=>0) 0 136 M) ((ovA (fun _=>0) 0 136 M) 133) ((ovA (fun _=>0) 0 136 M) 134) ((ovA (fun _=>0) 0 136 M) 135),0≤t∧t < 64) (hl:(XL (ovA (fun _=>0) 0 136 M) ((ovA (fun _=>0) 0 136 M) 133) ((ovA (fun _=>0) 0 136 M) 134) ((ovA (fun _=>0) 0 136 M) 135)).length≤1000) (l:List Int) (m q:Nat) (F:Nat→Int) (hlm:l.length=m*3) (hF:∀ i,i < l.length→F i=l.getD i 0) (hll:l.length≤1000000) :
  WR AM 6 [.pan .undef,.yv 0,.agg 136 (ia M)] [Jy g0 g4 4 0,.sc .var 133 g1,Vk .var 3 m 3,.sc .grow q (ia F),.sc .var 133 (ia Q)] (fun v n L=>v=.s (.bool true)/\ED L [Jy g0 g4 4 0,.sc .var 133 g1] [.dead,.sc .var 133 (ia Q)] (l++YV (ww (ovA (fun _=>0) 0 136 M)))):=by
 refine TF (N:=16) (B:=B100) (f:=YI ((VB g0 g4 4).set 6 (.agg 136 (ia M)))) (caps:=VB g0 g4 4) rfl rfl rfl (Dn rfl) rfl (Yf (Yy (Yz rfl rfl rfl rfl .here (Yc (⟨6,Kx,VB g0 g4 4,rfl,?_⟩)))))
 refine Yk (Yg (VV (v:=.sl 3 0 m 3 .whole) rfl rfl ZP rfl (Yo rfl rfl ZM (Yo rfl rfl ZM (QC rfl (xd (ovA (fun _=>0) 0 136 M) ha hc) rfl rfl (fun v1 own1 n1 hr1=>DW (caps:=[]) rfl (to_rt (ovA (fun _=>0) 0 136 M) hc _ hl hb) rfl hr1.rx (fun p hp=>ZbV _ hp) rfl rfl (fun v2 own2 n2 hr2=>?_)))))))
 have hroom:=Kn ((ovA (fun _=>0) 0 136 M) 133) ((ovA (fun _=>0) 0 136 M) 134) ((ovA (fun _=>0) 0 136 M) 135) (XL (ovA (fun _=>0) 0 136 M) ((ovA (fun _=>0) 0 136 M) 133) ((ovA (fun _=>0) 0 136 M) 134) ((ovA (fun _=>0) 0 136 M) 135))
 refine Et rfl (Rw.row hlm hF) rfl hr2.rx (fun p hp=>ZbV _ hp) (.appR _ (.appR _ (.there (.there (.there (.there .here)))))) (by decide) (by omega) (fun v3 own3 n3 hr3 hn3=>TK (b:=2) (u:=.sl 3 0 m 3 .whole) (v:=v3) rfl rfl hr3.isrow (.appR _ (.there (.appR _ (.appR _ (.appR _ (.there (.there (.there .here)))))))) (Vj (L':=own3++[(3,.dead),(0,.lp 6 Kx (VB g0 g4 4) 1),(1,.sc .var 133 g1),(2,.vs .var [v3]),(4,.sc .var 133 (ia Q))]) (ZbY (.refl _) (.cons_cons _ (ZbB (ZbB (.cons _ (.refl _)))))) (VA List.perm_append_comm (Yc ⟨6,Kx,VB g0 g4 4,rfl,rfl,?_⟩))))
 have h4:∀ p∈own3,5 < p.1:=fun p hp=>hn3 p hp (5,_) (ZbM _ (ZbM _ ZM))
 refine JI hr3 ⟨.tail _ ZM,.tail _ ZN,.tail _ ZO,.head _,.tail _ ZP,trivial⟩ (fun p hp=>⟨.tail _ (.tail _ (.tail _ (.tail _ (.tail _ ?_)))),Nat.le_of_lt (h4 p hp)⟩)
 show p∈setL 0 _ own3
 rw [Ji (fun p hp=>by have:=h4 p hp; omega)]; exact hp
end
end Go.Proofs.YtlkighkfkdpncaaGreatDoor
namespace Go.Proofs.YtlkighkfkdpncaaGreatDoor
open Go Go.Am Go.RowKit Go.Sort Go.Lib
theorem zC (x y:Mv):ltOf wu x y=decide (lt3 x y):=by
 obtain ⟨a,b,c⟩:=x
 obtain ⟨a',b',c'⟩:=y
 unfold ltOf wu or3M Lib.compareInt lt3
 refine decide_eq_decide.2 ?_
 dsimp only
 repeat' split
 all_goals omega
theorem swo3:SWO (ltOf wu) where
 irrefl x:=by rw [zC]; exact Zci fun h=>we x x h h
 trans x y z h1 h2:=by
  rw [zC,Zb7] at *
  unfold lt3 at *; omega
 ntrans x y z h1 h2:=by
  rw [zC,ZbJ] at *
  unfold lt3 at *; omega
theorem qf (l:List Mv) {i:Nat} (hi:i < l.length*3):(flatK TX 3 l.toArray)[i]! = .int .i64 ((YV l).getD i 0):=by
 rw [get_flatK _ _ _ _ (by simpa using hi)]
 have h:=KJ (l:=l) (i:=i / 3) (by omega)
 have hg:l.toArray[i / 3]! = l.getD (i / 3) (0,0,0):=by
  rw [ZbD,ZbH (by omega),getElem!_pos l.toArray (i / 3) (by simp; omega)]; simp
 rw [hg]
 have h3:i % 3=0\/i % 3=1\/i % 3=2:=by omega
 rcases h3 with e | e | e
 ·rw [e,show i=3*(i / 3) by omega,show 3*(i / 3) / 3=i / 3 by omega,h.1]; rfl
 ·rw [e,show i=3*(i / 3)+1 by omega,show (3*(i / 3)+1) / 3=i / 3 by omega,h.2.1]; rfl
 rw [e,show i=3*(i / 3)+2 by omega,show (3*(i / 3)+2) / 3=i / 3 by omega,h.2.2]; rfl
section
variable {σ σ':Heap} {args:List V} {v:V} {ι:Inj} {W:World} {av:List Value}
theorem srt3_ok [Bas] (h:RH 129 args σ=some (v,σ')) (hR:RelW ι σ W) (hD:Dom ι σ) (hv:VRL ι args av) :
  Calls Tryz.prog 128 av.toArray W fun e W'=>∃ ι' v',e=.returned v'/\VR ι' v v'/\Post ι σ W ι' σ' W':=by
 have eg:∀ args w,(callFunc 129 args).run Tryz.prog w=.ok (.enter 129 args) w:=enters_of Tryz.func129 (by kernel_rfl) rfl
 unfold RH at h
 split at h
 ·split at h
  ·injection h with h
   injection h with h1 h2
   subst h1; subst h2
   simp only [VRL,VR] at hv
   obtain ⟨_,_,rfl,rfl,_,_,rfl,⟨cs,rfl,rfl⟩,rfl⟩:=hv
   refine Calls.mono (Zag _ W) ?_
   rintro e W' ⟨rfl,rfl⟩
   exact ⟨ι,_,rfl,⟨[],rfl,rfl⟩,(QPost.refl hR).post⟩
  cases h
 ·rename_i b m f
  split at h
  ·rename_i q g hb
   cases hcond:(decide (f=129)&&(Xp (m*3) (fun i=>VJ (g i))&&Nat.blt m 4611686018427387904)) with
   | false=>rw [hcond] at h; cases h
   | true =>
    rw [hcond,cond_true] at h
    injection h with h
    injection h with h1 h2
    subst h1; subst h2
    simp only [Zca,Zb7] at hcond
    obtain ⟨rfl,hg,hm⟩:=hcond
    have hm:m < 4611686018427387904:=YF hm
    simp only [VRL,VR] at hv
    obtain ⟨_,_,rfl,⟨p,cap,hp,hle,rfl,hcap⟩,_,_,rfl,⟨cs,rfl,rfl⟩,rfl⟩:=hv
    have hB:=hR.blk b p _ hp hb
    have hlt:=hR.lt b p hp
    have hq:m*3<=q:=by have:=hB.1; omega
    have hml:(VE g m).length=m:=by simp [VE]
    have hnum:∀ i,i < m*3->(YV (VE g m)).getD i 0=Wm (g i):=fun i hi=>by
     have h:=KJ (l:=VE g m) (i:=i / 3) (by omega)
     have hg:(VE g m).getD (i / 3) (0,0,0)=(Wm (g (3*(i / 3))),Wm (g (3*(i / 3)+1)),Wm (g (3*(i / 3)+2))):=by
      unfold VE
      rw [ZbD,Zb9,ZbZ (by omega)]; rfl
     rw [hg] at h
     have h3:i % 3=0\/i % 3=1\/i % 3=2:=by omega
     rcases h3 with e | e | e
     ·have e':i=3*(i / 3):=by omega
      rw [e']; exact h.1
     ·have e':i=3*(i / 3)+1:=by omega
      rw [e']; exact h.2.1
     have e':i=3*(i / 3)+2:=by omega
     rw [e']; exact h.2.2
    have hH:HoldsK TX 3 W p.c (p.base+0) (VE g m).toArray:=fun j hj=>by
     have hj:j < m*3:=by simpa [hml] using hj
     obtain ⟨c1,c2,c3⟩:=hB
     obtain ⟨hb0,hle',cs,T,hc,hs,hT⟩:=c3 rfl
     refine ⟨?_,Lib.frozen_of_heap hc _⟩
     rw [Nat.add_zero,c2 j (by omega),D5 (JX hg j hj)]
     show some _=some ((flatK TX 3 (VE g m).toArray)[j]!)
     rw [qf _ (by rw [hml]; exact hj),hnum j hj]
    have hcon:=AnyQ.slices_SortFunc Tryz.laysSF 3 Tryz.isAgg31 Tryz.sizeOf31 TX (fun _=>rfl) (fun x v hv=>by simp [TX] at hv; rcases hv with rfl | rfl | rfl <;> rfl) wu swo3 129 #[] p.c (p.base+0) cap (VE g m).toArray W eg (fun _ _ _ _ x y=>rF x y _) hH hlt (by simp [hml]; exact hm)
    rw [show (VE g m).toArray.size=m by simp [hml]] at hcon
    refine Calls.mono hcon ?_
    rintro e W' ⟨rfl,d',n,os,hpm,hso,rfl⟩
    have hds:d'.size=m:=by have:=hpm.1; simpa [hml] using this
    have hperm:d'.toList.Perm (VE g m):=by
     have:=hpm.2.2
     rw [show d'.extract 0 m=d' by rw [<- hds]; simp,show (VE g m).toArray.extract 0 m=(VE g m).toArray from (by have h0:List.take m (VE g m)=VE g m:=List.take_of_length_le (by omega); simp [h0])] at this
     simpa using this
    have hsorted:d'.toList.Pairwise (fun x y=>¬ lt3 y x):=by
     rw [List.pairwise_iff_getElem]
     intro i j hi hj hij
     have:=hso i j (Zct _) hij (by simpa [hds] using hj)
     rw [zC,ZbJ,getElem!_pos d' i (by simpa using hi),getElem!_pos d' j (by simpa using hj)] at this
     simpa using this
    have hd:d'.toList=KH (VE g m):=go hperm hsorted
    have hd2:d'=(KH (VE g m)).toArray:=by rw [<- hd]
    have hsl:(KH (VE g m)).length=m:=by rw [(Qa _).length_eq,hml]
    have hrp:=wA hB id (flatK TX 3 d') (YV (KH (VE g m))) (by simp [hds,YQ,hsl]) (by rw [YQ,hsl]; exact hq) (fun i hi=>by
     rw [hd2]
     exact qf _ (by rw [YQ] at hi; exact hi)) n os hlt
    obtain ⟨r1,r2⟩:=hrp
    refine ⟨ι,_,rfl,⟨[],rfl,rfl⟩,?_⟩
    change Post _ _ _ _ _ (Sort.grow (Sort.putRow id (Sort.ahead W n) p.c p.base (flatK TX 3 d')) os)
    refine vg hR hp hb rfl ⟨rfl,rfl,rfl,?_⟩ r2 r1
    simp [Sort.grow,Sort.putRow,Sort.mapBlock,Sort.ahead]
  cases h
 cases h
end
end Go.Proofs.YtlkighkfkdpncaaGreatDoor
namespace Go.Proofs
open Go.Shelf
def Tryz.lays165_ren:Go.Shelf.Ren:=⟨fun | 165=>75 | 240=>83 | 241=>103 | 276=>111 | 277=>130 | n=>n,fun | 70=>49 | 3=>3 | 0=>0 | 4=>4 | 9=>9 | 20=>20 | 72=>52 | 37=>50 | 164=>145 | 5=>5 | n=>n,fun | n=>n⟩
def Tryz.lays159_ren:Go.Shelf.Ren:=⟨fun | 159=>40 | 165=>75 | 166=>46 | 167=>76 | 169=>26 | 230=>77 | 204=>78 | 240=>83 | 241=>103 | 197=>104 | 118=>105 | 168=>106 | 270=>107 | 262=>108 | 276=>111 | 277=>130 | 260=>131 | 242=>132 | 313=>133 | 278=>164 | 274=>165 | 275=>166 | n=>n,fun | 9=>9 | 4=>4 | 3=>3 | 5=>5 | 72=>52 | 0=>0 | 76=>85 | 75=>84 | 107=>118 | 70=>49 | 20=>20 | 37=>50 | 127=>102 | 21=>21 | 105=>138 | 164=>145 | 162=>167 | 203=>165 | 119=>189 | 46=>147 | 139=>192 | 138=>191 | 51=>193 | 160=>194 | 208=>217 | 206=>215 | 80=>67 | n=>n,fun | 13=>0 | 3=>2 | 4=>3 | n=>n⟩
theorem Tryz.lays159:Go.Proofs.Lays.n159 Tryz.prog Tryz.lays159_ren:={
 mixed:=by kernel_rfl
 f118:=Tryz.func105.trans (congrArg some (by kernel_rfl))
 f159:=Tryz.func40.trans (congrArg some (by kernel_rfl))
 f165:=Tryz.func75.trans (congrArg some (by kernel_rfl))
 f166:=Tryz.func46.trans (congrArg some (by kernel_rfl))
 f167:=Tryz.func76.trans (congrArg some (by kernel_rfl))
 f168:=Tryz.func106.trans (congrArg some (by kernel_rfl))
 f169:=Tryz.func26.trans (congrArg some (by kernel_rfl))
 f197:=Tryz.func104.trans (congrArg some (by kernel_rfl))
 f204:=Tryz.func78.trans (congrArg some (by kernel_rfl))
 f230:=Tryz.func77.trans (congrArg some (by kernel_rfl))
 f240:=Tryz.func83.trans (congrArg some (by kernel_rfl))
 f241:=Tryz.func103.trans (congrArg some (by kernel_rfl))
 f242:=Tryz.func132.trans (congrArg some (by kernel_rfl))
 f260:=Tryz.func131.trans (congrArg some (by kernel_rfl))
 f262:=Tryz.func108.trans (congrArg some (by kernel_rfl))
 f270:=Tryz.func107.trans (congrArg some (by kernel_rfl))
 f274:=Tryz.func165.trans (congrArg some (by kernel_rfl))
 f275:=Tryz.func166.trans (congrArg some (by kernel_rfl))
 f276:=Tryz.func111.trans (congrArg some (by kernel_rfl))
 f277:=Tryz.func130.trans (congrArg some (by kernel_rfl))
 f278:=Tryz.func164.trans (congrArg some (by kernel_rfl))
 f313:=Tryz.func133.trans (congrArg some (by kernel_rfl))
 t0:=Tryz.underlying0
 a0:=Tryz.isAgg0
 z0:=Tryz.sizeOf0
 v0:=Tryz.zeroValue0
 t3:=Tryz.underlying3
 a3:=Tryz.isAgg3
 z3:=Tryz.sizeOf3
 v3:=Tryz.zeroValue3
 t4:=Tryz.underlying4
 a4:=Tryz.isAgg4
 z4:=Tryz.sizeOf4
 v4:=Tryz.zeroValue4
 t5:=Tryz.underlying5
 a5:=Tryz.isAgg5
 z5:=Tryz.sizeOf5
 v5:=Tryz.zeroValue5
 t9:=Tryz.underlying9
 a9:=Tryz.isAgg9
 z9:=Tryz.sizeOf9
 v9:=Tryz.zeroValue9
 t20:=Tryz.underlying20
 a20:=Tryz.isAgg20
 z20:=Tryz.sizeOf20
 v20:=Tryz.zeroValue20
 t21:=Tryz.underlying21
 a21:=Tryz.isAgg21
 z21:=Tryz.sizeOf21
 v21:=Tryz.zeroValue21
 t37:=Tryz.underlying50
 a37:=Tryz.isAgg50
 z37:=Tryz.sizeOf50
 v37:=Tryz.zeroValue50
 t46:=Tryz.underlying147
 a46:=Tryz.isAgg147
 z46:=Tryz.sizeOf147
 v46:=Tryz.zeroValue147
 t51:=Tryz.underlying193
 a51:=Tryz.isAgg193
 z51:=Tryz.sizeOf193
 v51:=Tryz.zeroValue193
 t70:=Tryz.underlying49
 a70:=Tryz.isAgg49
 z70:=Tryz.sizeOf49
 v70:=Tryz.zeroValue49
 t72:=Tryz.underlying52
 a72:=Tryz.isAgg52
 z72:=Tryz.sizeOf52
 v72:=Tryz.zeroValue52
 t75:=Tryz.underlying84
 a75:=Tryz.isAgg84
 z75:=Tryz.sizeOf84
 v75:=Tryz.zeroValue84
 t76:=Tryz.underlying85
 a76:=Tryz.isAgg85
 z76:=Tryz.sizeOf85
 v76:=Tryz.zeroValue85
 t105:=Tryz.underlying138
 a105:=Tryz.isAgg138
 z105:=Tryz.sizeOf138
 v105:=Tryz.zeroValue138
 t107:=Tryz.underlying118
 a107:=Tryz.isAgg118
 z107:=Tryz.sizeOf118
 v107:=Tryz.zeroValue118
 t119:=Tryz.underlying189
 a119:=Tryz.isAgg189
 z119:=Tryz.sizeOf189
 t127:=Tryz.underlying102
 a127:=Tryz.isAgg102
 z127:=Tryz.sizeOf102
 v127:=Tryz.zeroValue102
 t138:=Tryz.underlying191
 a138:=Tryz.isAgg191
 z138:=Tryz.sizeOf191
 v138:=Tryz.zeroValue191
 t139:=Tryz.underlying192
 a139:=Tryz.isAgg192
 z139:=Tryz.sizeOf192
 v139:=Tryz.zeroValue192
 t160:=Tryz.underlying194
 a160:=Tryz.isAgg194
 z160:=Tryz.sizeOf194
 v160:=Tryz.zeroValue194
 t162:=Tryz.underlying167
 a162:=Tryz.isAgg167
 z162:=Tryz.sizeOf167
 v162:=Tryz.zeroValue167
 t164:=Tryz.underlying145
 a164:=Tryz.isAgg145
 z164:=Tryz.sizeOf145
 v164:=Tryz.zeroValue145
 t203:=Tryz.underlying165
 a203:=Tryz.isAgg165
 z203:=Tryz.sizeOf165
 v203:=Tryz.zeroValue165
 t206:=Tryz.underlying215
 a206:=Tryz.isAgg215
 z206:=Tryz.sizeOf215
 v206:=Tryz.zeroValue215
 t208:=Tryz.underlying217
 a208:=Tryz.isAgg217
 z208:=Tryz.sizeOf217
 v208:=Tryz.zeroValue217
 g3:=by kernel_rfl
 g4:=by kernel_rfl
 g13:=by kernel_rfl }
theorem Tryz.Builder_Extra_159:Builder.Extra Tryz.prog Tryz.lays159_ren:={
 sizeBuilder:=by kernel_rfl
 liesBuilder:=by kernel_rfl
 t5:=Tryz.underlying5
 a5:=Tryz.isAgg5
 z5:=Tryz.sizeOf5
 v5:=Tryz.zeroValue5
 infoByte:=by kernel_rfl
 cellsByte:=by kernel_rfl
 sizeByte:=by kernel_rfl
 neB5:=by decide }
open Go.RowKit in
theorem Tryz.strings_ToLower_ascii (s:ByteArray) (w:World) (hs:s.size<=140737488355328) (hascii:∀ (j:Nat) (b:UInt8),s.data.toList[j]? = some b->b.toNat < 128) :
 Calls Tryz.prog 40 #[.string s] w fun e w'=>e=.returned (.string ⟨(Lib.toLowerA s.data.toList).toArray⟩)/\Below w.heap.size w w':=Any.strings_ToLower_ascii Tryz.lays159 Tryz.Builder_Extra_159 s w hs hascii
def Tryz.lays137_ren:Go.Shelf.Ren:=⟨fun | 137=>82 | 217=>110 | 266=>135 | n=>n,fun | 9=>9 | 5=>5 | 3=>3 | n=>n,fun | n=>n⟩
theorem Tryz.lays137:Go.Proofs.Lays.n137 Tryz.prog Tryz.lays137_ren:={
 mixed:=by kernel_rfl
 f137:=Tryz.func82.trans (congrArg some (by kernel_rfl))
 f217:=Tryz.func110.trans (congrArg some (by kernel_rfl))
 f266:=Tryz.func135.trans (congrArg some (by kernel_rfl))
 t3:=Tryz.underlying3
 a3:=Tryz.isAgg3
 z3:=Tryz.sizeOf3
 v3:=Tryz.zeroValue3
 t5:=Tryz.underlying5
 a5:=Tryz.isAgg5
 z5:=Tryz.sizeOf5
 v5:=Tryz.zeroValue5
 t9:=Tryz.underlying9
 a9:=Tryz.isAgg9
 z9:=Tryz.sizeOf9
 v9:=Tryz.zeroValue9 }
open Go.RowKit in
theorem Tryz.strings_IndexByte (s:ByteArray) (c:Int) (w:World) :
 Calls Tryz.prog 82 #[.string s,.int .u8 c] w fun e w'=>e=.returned (.int .i64 (Lib.indexByte s.data.toList c.toNat.toUInt8))/\w'=w:=Any.strings_IndexByte Tryz.lays137 s c w
end Go.Proofs
namespace Go.Proofs
open Go Go.Shelf Go.RowKit
set_option maxHeartbeats 1000000 in
set_option maxRecDepth 100000 in
theorem Tryz.copyFresh (b:Nat) (w:World) (h0:w.cell? ⟨b,0,none⟩=some (.pointer none)) (hsh:w.shape? b=some (54,2)) (hfz:w.frozen? ⟨b,0,none⟩=false) :
  Calls Tryz.prog 83 #[.pointer (some ⟨b,0,none⟩)] w fun e w'=>e=.returned (.tuple #[])/\w'=w.setCell ⟨b,0,none⟩ (.pointer (some ⟨b,0,none⟩)):=by
 have hl:liesAt Tryz.prog Tryz.prog.depth 54 (2 / Tryz.prog.cellsOf 54) 0 52 1=true:=by kernel_rfl
 obtain ⟨j,hj,hjs⟩:=Go.Am.ZbK.1 Tryz.Builder_Extra_159.sizeBuilder
 have hj':Tryz.prog.info? 52=some j:=hj
 have mixed:=Tryz.lays159.mixed
 go_enter Tryz.func83,Tryz.ntmps83
 go_wp2
 rw [Lib.run_to_unsafe w ⟨b,0,none⟩ (show Tryz.prog.underlying 49=some (.pointer 52) from Tryz.lays159.t70) (show Tryz.prog.underlying 145=some .unsafePointer from Tryz.lays159.t164) hj' (by rw [hjs]; decide) hsh (Nat.zero_lt_succ 1)]
 simp only [Result.andThen]
 rw [Oper.upon_value]
 go_wp2
 rw [run_callFunc_extern Tryz.func111 (by kernel_rfl) (by kernel_rfl) (by kernel_rfl) (e:=Extern.AbiNoEscape.same) (by kernel_rfl)]
 rw [Lib.run_noEscape]
 simp only [Result.andThen]
 rw [Oper.upon_value]
 go_wp2
 rw [Lib.run_from_unsafe w ⟨b,0,none⟩ (show Tryz.prog.underlying 145=some .unsafePointer from Tryz.lays159.t164) (show Tryz.prog.underlying 49=some (.pointer 52) from Tryz.lays159.t70) hj' hsh hl]
 simp only [Result.andThen]
 rw [Oper.upon_value]
 go_wp2
 go_end0
 exact ⟨rfl,rfl⟩
theorem Tryz.copyUsed (b:Nat) (w:World) (h0:w.cell? ⟨b,0,none⟩=some (.pointer (some ⟨b,0,none⟩))) :
  Calls Tryz.prog 83 #[.pointer (some ⟨b,0,none⟩)] w fun e w'=>e=.returned (.tuple #[])/\w'=w :=
 Any.Builder_copyCheck_used (ρ:=Tryz.lays159_ren) { Tryz.lays159 with } Tryz.Builder_Extra_159.toX72 b w h0
set_option maxHeartbeats 1000000 in
set_option maxRecDepth 100000 in
theorem Tryz.readAll (b g cap:Nat) (p:Value) (cur:Array Value) (l:List UInt8) (w:World) (hbk:w.heap[b]? = some (.cells #[p,.slice (some ⟨g,0,none⟩) l.length cap] 54 (0,0))) (hg:w.heap[g]? = some (.cells cur 5 (0,0)))
  (h0:l≠[]) (hc:l.length<=cap) (hm:l.length<=maxLen) (hcs:cur.size=cap) (hl:∀ (j:Nat) x,l[j]? = some x->cur[j]? = some (.int .u8 x.toNat)) :
  Calls Tryz.prog 26 #[.pointer (some ⟨b,0,none⟩)] w fun e w'=>e=.returned (.string ⟨l.toArray⟩)/\w'=w.drew.freeze ⟨g,0,none⟩ l.length:=by
 have hl0:l.length≠0:=by simpa using h0
 have c1:w.drew.cell? ⟨b,1,none⟩=some (.slice (some ⟨g,0,none⟩) l.length cap):=by
  have:w.drew.heap[b]? = some (.cells #[p,.slice (some ⟨g,0,none⟩) l.length cap] 54 (0,0)):=hbk
  rw [Lib.cell_of_heap this]; rfl
 have hSD:(Builtin.unsafeSliceData_ #[50] 102 #[.slice (some ⟨g,0,none⟩) l.length cap]).run Tryz.prog w.drew=.ok (.pointer (some ⟨g,0,none⟩)) w.drew :=
  Lib.run_unsafeSliceData_row _ _ _ _ _ _ (by omega)
 have hUS:(Builtin.unsafeString_ #[102,3] 9 #[.pointer (some ⟨g,0,none⟩),.int .i64 l.length]).run Tryz.prog w.drew=.ok (.string ⟨l.toArray⟩) (w.drew.freeze ⟨g,0,none⟩ l.length):=by
  refine Lib.run_unsafeString_row w.drew 102 3 9 5 Tryz.underlying102 Tryz.Builder_Extra_159.cellsByte g cur.size (by have hg':w.drew.heap[g]? = some (.cells cur 5 (0,0)):=hg; simp [World.shape?,hg']) l h0 (by omega) (by unfold maxLen at hm; omega) ?_
  intro j x hx
  have hg':w.drew.heap[g]? = some (.cells cur 5 (0,0)):=hg
  have ea:Addr.add ⟨g,0,none⟩ j=⟨g,j,none⟩:=by
   unfold Addr.add
   split
   ·rename_i h; rw [h]
   simp
  rw [ea,Lib.cell_of_heap hg']
  exact hl j x hx
 have mixed:=Tryz.lays159.mixed
 go_enter Tryz.func26,Tryz.ntmps26
 go_wp2
 go_region_o
 all_goals (go_wp2; go_ret; exact ⟨rfl,rfl⟩)
end Go.Proofs
namespace Go.Proofs
open Go Go.Shelf Go.RowKit
set_option maxHeartbeats 1000000 in
set_option maxRecDepth 100000 in
theorem Tryz.readNone (b:Nat) (p:Value) (w:World) (hbk:w.heap[b]? = some (.cells #[p,.slice none 0 0] 54 (0,0))) :
  Calls Tryz.prog 26 #[.pointer (some ⟨b,0,none⟩)] w fun e w'=>e=.returned (.string ⟨#[]⟩)/\w'=w.drew:=by
 have c1:w.drew.cell? ⟨b,1,none⟩=some (.slice none 0 0):=by
  have:w.drew.heap[b]? = some (.cells #[p,.slice none 0 0] 54 (0,0)):=hbk
  rw [Lib.cell_of_heap this]; rfl
 have hSD:(Builtin.unsafeSliceData_ #[50] 102 #[.slice none 0 0]).run Tryz.prog w.drew=.ok (.pointer none) w.drew:=Lib.run_unsafeSliceData_nil _ _ _ _ _
 have hUS:(Builtin.unsafeString_ #[102,3] 9 #[.pointer none,.int .i64 0]).run Tryz.prog w.drew=.ok (.string ⟨#[]⟩) w.drew:=Lib.run_unsafeString_none _ _ _ _ _
 have mixed:=Tryz.lays159.mixed
 go_enter Tryz.func26,Tryz.ntmps26
 go_wp2
 go_region_o
 all_goals (go_wp2; go_ret; exact ⟨rfl,rfl⟩)
end Go.Proofs
namespace Go.Proofs.YtlkighkfkdpncaaGreatDoor
open Go Go.Am Go.RowKit
theorem xk [Bas] {ι:Inj} {σ:Heap} {W W':World} (hR:RelW ι σ W) (hb:Below W.heap.size W W'):Post ι σ W ι σ W' :=
 QPost.post ⟨⟨hb.os,hb.tape,hb.output,hb.size⟩,.refl ι,⟨fun b p h=>Zb3 (hR.lt b p h) hb.size,fun b p x h hx=>(hR.blk b p x h hx).keep (.refl ι) (hb.block _ (hR.lt b p h)),hR.sep,hR.gap,Zcq hR.bsz hb.size,fun c hc=>(hb.block c (Zb3 hc hR.bsz)).trans (hR.bas c hc)⟩,⟨[],by simp⟩,fun c hc=>hb.block c hc,fun b p h hn=>by rw [h] at hn; cases hn⟩
section
variable {σ σ':Heap} {args:List V} {v:V} {ι:Inj} {W:World} {av:List Value}
theorem idx_ok [Bas] (h:TE args σ=some (v,σ')) (hR:RelW ι σ W) (hv:VRL ι args av) :
  Calls Tryz.prog 82 av.toArray W fun e W'=>∃ ι' v',e=.returned v'/\VR ι' v v'/\Post ι σ W ι' σ' W':=by
 unfold TE at h
 split at h
 ·injection h with h
  injection h with h1 h2
  subst h1; subst h2
  simp only [VRL,VR,S.val] at hv
  obtain ⟨_,_,rfl,rfl,_,_,rfl,rfl,rfl⟩:=hv
  refine (Tryz.strings_IndexByte _ _ W).mono ?_
  rintro e W' ⟨rfl,rfl⟩
  exact ⟨ι,_,rfl,by simp only [VR,S.val],(QPost.refl hR).post⟩
 cases h
theorem low_one {c:UInt8} (h0:65<=c.toNat) (h1:c.toNat<=90):Lib.toLowerA [c]=[c+32]:=by
 have h:∀ k:Fin 26,Lib.toLowerA [UInt8.ofNat (k.val+65)]=[UInt8.ofNat (k.val+65)+32]:=by decide +kernel
 have:=h ⟨c.toNat - 65,by omega⟩
 simp only at this
 rw [show c.toNat - 65+65=c.toNat by omega,UInt8.ofNat_toNat] at this
 exact this
theorem low_ok [Bas] (h:zn args σ=some (v,σ')) (hR:RelW ι σ W) (hv:VRL ι args av) :
  Calls Tryz.prog 40 av.toArray W fun e W'=>∃ ι' v',e=.returned v'/\VR ι' v v'/\Post ι σ W ι' σ' W':=by
 unfold zn at h
 split at h
 ·rename_i t
  split at h
  ·rename_i h0
   injection h with h
   injection h with h1 h2
   subst h1; subst h2
   simp only [VRL,VR,S.val] at hv
   obtain ⟨_,_,rfl,rfl,rfl⟩:=hv
   have ht:t=⟨#[]⟩:=by
    obtain ⟨⟨l⟩⟩:=t
    match l,h0 with
    | [],_=>rfl
   rw [ht]
   refine (Tryz.strings_ToLower_ascii ⟨#[]⟩ W (by decide) (fun j b hj=>by simp at hj)).mono ?_
   rintro e W' ⟨rfl,hbl⟩
   exact ⟨ι,_,rfl,rfl,xk hR hbl⟩
  split at h
  ·rename_i hb
   injection h with h
   injection h with h1 h2
   subst h1; subst h2
   simp only [VRL,VR,S.val] at hv
   obtain ⟨_,_,rfl,rfl,rfl⟩:=hv
   have ht:t=⟨#[t.data.getD 0 0]⟩:=by
    obtain ⟨⟨l⟩⟩:=t
    match l,hb.1 with
    | [x],_=>rfl
   obtain ⟨c,hc⟩:∃ c,c=t.data.getD 0 0:=⟨_,rfl⟩
   rw [<- hc] at ht hb ⊢
   rw [ht]
   refine (Tryz.strings_ToLower_ascii ⟨#[c]⟩ W (by simp [ByteArray.size]) (fun j b hj=>?_)).mono ?_
   ·match j,hj with
    | 0,hj=>simp at hj; subst hj; omega
    | j+1,hj=>simp at hj
   rintro e W' ⟨rfl,hbl⟩
   exact ⟨ι,_,rfl,by simp only [VR,S.val]; exact congrArg (fun l:List UInt8=>Value.string ⟨l.toArray⟩) (low_one hb.2.1 hb.2.2),xk hR hbl⟩
  cases h
 cases h
theorem zh {t:TypeId} {b:Nat} {x y:V} {p:Am.Place} [Bas] (hR:RelW ι σ W) (hp:ι b=some p) (hb:σ[b]? = some (.vs (.ty t) [x,y])) :
  p.base=0/\p.n=2/\∃ u0 u1,W.heap[p.c]? = some (.cells #[u0,u1] t (0,0))/\VR ι x u0/\VR ι y u1:=by
 obtain ⟨h1,h2,h3⟩:=hR.blk b p _ hp hb
 obtain ⟨hb0,hle,cs,T,hc,hs,hT,hsz⟩:=h3 rfl
 obtain rfl:T=t:=hT
 have hn:p.n=2:=h1.symm
 have h0:=h2 0 x rfl
 have h1':=h2 1 y rfl
 obtain ⟨u0,hu0,r0⟩:=h0
 obtain ⟨u1,hu1,r1⟩:=h1'
 have hcs:cs.size=2:=by omega
 rw [hb0] at hu0 hu1
 rw [Lib.cell_of_heap hc] at hu0 hu1
 obtain ⟨l⟩:=cs
 match l,hcs with
 | [a,c],_ =>
  simp at hu0 hu1
  subst hu0; subst hu1
  exact ⟨hb0,hn,a,c,hc,r0,r1⟩
theorem copy_ok [Bas] (h:Rp 54 args σ=some (v,σ')) (hR:RelW ι σ W) (hv:VRL ι args av) :
  Calls Tryz.prog 83 av.toArray W fun e W'=>∃ ι' v',e=.returned v'/\VR ι' v v'/\Post ι σ W ι' σ' W':=by
 unfold Rp at h
 split at h
 ·rename_i b
  simp only [VRL,VR] at hv
  obtain ⟨_,_,rfl,⟨p,hp,hz,rfl⟩,rfl⟩:=hv
  split at h
  ·rename_i t x hb
   split at h
   ·rename_i ht
    subst ht
    injection h with h
    injection h with h1 h2
    subst h1; subst h2
    obtain ⟨hb0,hn,u0,u1,hc,r0,r1⟩:=zh hR hp hb
    simp only [VR] at r0
    subst r0
    rw [hb0,Zcp]
    refine (Tryz.copyFresh p.c W (by rw [Lib.cell_of_heap hc]; rfl) (by simp [World.shape?,hc]) (Lib.frozen_of_heap hc 0)).mono ?_
    rintro e W' ⟨rfl,rfl⟩
    have hw:(W.setCell ⟨p.c,0,none⟩ (.pointer (some ⟨p.c,0,none⟩))).heap[p.c]? = some (.cells #[.pointer (some ⟨p.c,0,none⟩),u1] 54 (0,0)):=by
     simp [World.setCell,Array.getElem?_modify,hc]
    refine ⟨ι,_,rfl,⟨[],rfl,rfl⟩,Qw hR hp hb rfl ⟨rfl,rfl,rfl,by simp⟩ (fun c hne=>by simp [World.setCell,Array.getElem?_modify,Ne.symm hne]) ⟨hn.symm,fun i y hy=>?_,fun _=>⟨hb0,by have:=hR.blk b p _ hp hb; obtain ⟨_,_,h3⟩:=this; exact (h3 rfl).2.1,_,_,hw,?_,rfl,?_⟩⟩⟩
    ·rw [hb0,Zcp,Lib.cell_of_heap hw]
     match i,hy with
     | 0,hy=>simp at hy; subst hy; exact ⟨_,rfl,by simp only [VR]; exact ⟨p,hp,hz,by rw [hb0]; rfl⟩⟩
     | 1,hy=>simp at hy; subst hy; exact ⟨_,rfl,r1⟩
     | i+2,hy=>simp at hy
    ·obtain ⟨_,_,h3⟩:=hR.blk b p _ hp hb
     obtain ⟨_,_,cs,T,hc2,hs,_,hsz⟩:=h3 rfl
     rw [hsz,hn]; rfl
    obtain ⟨_,_,h3⟩:=hR.blk b p _ hp hb
    obtain ⟨_,_,cs,T,hc2,hs,_,hsz⟩:=h3 rfl
    exact hsz
   cases h
  ·rename_i t c x hb
   split at h
   ·rename_i ht
    obtain ⟨rfl,rfl⟩:=ht
    injection h with h
    injection h with h1 h2
    subst h1; subst h2
    obtain ⟨hb0,hn,u0,u1,hc,r0,r1⟩:=zh hR hp hb
    simp only [VR] at r0
    obtain ⟨p',hp',_,rfl⟩:=r0
    rw [hp] at hp'
    injection hp' with hp'
    subst hp'
    rw [hb0,Zcp]
    rw [hb0] at hc
    refine (Tryz.copyUsed p.c W (by rw [Lib.cell_of_heap hc]; rfl)).mono ?_
    rintro e W' ⟨rfl,rfl⟩
    exact ⟨ι,_,rfl,⟨[],rfl,rfl⟩,(QPost.refl hR).post⟩
   cases h
  cases h
 cases h
theorem tR {x:S} (h:Ro x=true):x.val=.int .u8 (UInt8.ofNat (Am.byteOf x)).toNat:=by
 cases x with
 | int k n =>
  cases k <;> simp [Ro] at h
  have:(UInt8.ofNat n.toNat).toNat=n.toNat:=by
   rw [UInt8.toNat_ofNat']
   omega
  simp only [Am.byteOf,S.val,this]
  rw [Int.toNat_of_nonneg h.1]
 | bool b=>simp [Ro] at h
 | str s=>simp [Ro] at h
theorem str_ok [Bas] (h:JQ 54 5 args σ=some (v,σ')) (hR:RelW ι σ W) (hv:VRL ι args av) :
  Calls Tryz.prog 26 av.toArray W fun e W'=>∃ ι' v',e=.returned v'/\VR ι' v v'/\Post ι σ W ι' σ' W':=by
 unfold JQ at h
 split at h
 ·rename_i b
  simp only [VRL,VR] at hv
  obtain ⟨_,_,rfl,⟨p,hp,hz,rfl⟩,rfl⟩:=hv
  split at h
  ·rename_i t x g m hb
   split at h
   ·rename_i e q f hg
    split at h
    ·rename_i ht
     obtain ⟨rfl,rfl,hm0,hm,hall⟩:=ht
     injection h with h
     injection h with h1 h2
     subst h1; subst h2
     obtain ⟨hb0,hn,u0,u1,hc,r0,r1⟩:=zh hR hp hb
     simp only [VR,Jt] at r1
     obtain ⟨pg,cap,hpg,hle,rfl,_,hgb,hcp,hmc,hcs,hmn⟩:=r1
     obtain ⟨hq,hcell,hown⟩:=hR.blk g pg _ hpg hg
     obtain ⟨_,_,cur,T,hgc,hcz,hT⟩:=hown rfl
     obtain rfl:T=5:=hT
     rw [hb0,Zcp]
     rw [hgb,Zcp] at hc
     have hlen:(bytesOf f m).length=m:=by simp [bytesOf]
     refine (Tryz.readAll p.c pg.c cap u0 cur (bytesOf f m) W (by rw [hlen]; exact hc) hgc (fun e=>hm0 (by rw [<- hlen,e]; rfl)) (by omega) (by unfold maxLen; omega) (by omega) (fun j y hy=>?_)).mono ?_
     ·have hj:j < m:=by
       rw [<- hlen]
       exact (List.getElem?_eq_some_iff.1 hy).1
      have h1:=hcell j (by omega)
      rw [hgb,Zcp,Lib.cell_of_heap hgc] at h1
      rw [h1,tR (Zcc.1 hall j (Zck.2 hj))]
      have:(bytesOf f m)[j]? = some (UInt8.ofNat (Am.byteOf (f j))):=by simp [bytesOf,hj]
      rw [this] at hy
      injection hy with hy
      rw [hy]
     rintro e W' ⟨rfl,rfl⟩
     have hk:∀ c,c≠pg.c->(W.drew.freeze ⟨pg.c,0,none⟩ (bytesOf f m).length).heap[c]? = W.heap[c]?:=fun c hne=>by
      unfold World.freeze
      rw [Zcz (by rw [hlen]; exact hm0)]
      simp only [Array.getElem?_modify]
      rw [Zcz (Ne.symm hne)]
      rfl
     have hs:(W.drew.freeze ⟨pg.c,0,none⟩ (bytesOf f m).length).heap.size=W.heap.size:=by
      unfold World.freeze
      split
      ·rfl
      simp
     have ho:(W.drew.freeze ⟨pg.c,0,none⟩ (bytesOf f m).length).os=W.os/\(W.drew.freeze ⟨pg.c,0,none⟩ (bytesOf f m).length).tape=W.tape/\(W.drew.freeze ⟨pg.c,0,none⟩ (bytesOf f m).length).output=W.output:=by
      unfold World.freeze
      split <;> exact ⟨rfl,rfl,rfl⟩
     exact ⟨ι,_,rfl,rfl,Qw hR hpg hg rfl ⟨ho.1,ho.2.1,ho.2.2,by rw [hs]; exact Zcs _⟩ hk trivial⟩
    cases h
   cases h
  ·rename_i t x hb
   split at h
   ·rename_i ht
    subst ht
    injection h with h
    injection h with h1 h2
    subst h1; subst h2
    obtain ⟨hb0,hn,u0,u1,hc,r0,r1⟩:=zh hR hp hb
    simp only [VR] at r1
    subst r1
    rw [hb0,Zcp]
    refine (Tryz.readNone p.c u0 W hc).mono ?_
    rintro e W' ⟨rfl,rfl⟩
    exact ⟨ι,_,rfl,rfl,(QPost.refl hR.toDrew).ofDrew.post⟩
   cases h
  cases h
 cases h
end
end Go.Proofs.YtlkighkfkdpncaaGreatDoor
set_option maxRecDepth 100000
namespace Go.Proofs.YtlkighkfkdpncaaGreatDoor
open Go Go.Am Go.RowKit
theorem primsOK [Bas]:zD Tryz.prog AM:=fun f pf hb args σ v σ' h=>by
 have hb:sR f=some pf:=hb
 unfold sR primL at hb
 simp only [sy] at hb
 cases h0:Nat.beq f 175 with
 | true =>
  rw [h0,cond_true] at hb; injection hb with hb; subst hb
  obtain rfl:=ZbR h0
  exact ⟨⟨_,Tryz.func175,by kernel_rfl,by decide⟩,fun ι W av hR hD hv=>srt_ok h hR hD hv⟩
 | false =>
 rw [h0,cond_false] at hb
 skip
 cases h0:Nat.beq f 128 with
 | true =>
  rw [h0,cond_true] at hb; injection hb with hb; subst hb
  obtain rfl:=ZbR h0
  exact ⟨⟨_,Tryz.func128,by kernel_rfl,by decide⟩,fun ι W av hR hD hv=>srt3_ok h hR hD hv⟩
 | false =>
 rw [h0,cond_false] at hb
 skip
 cases h0:Nat.beq f 156 with
 | true =>
  rw [h0,cond_true] at hb; injection hb with hb; subst hb
  obtain rfl:=ZbR h0
  exact ⟨⟨_,Tryz.func156,by kernel_rfl,by decide⟩,fun ι W av hR hD hv=>del_ok h hR hD hv⟩
 | false =>
 rw [h0,cond_false] at hb
 skip
 cases h0:Nat.beq f 167 with
 | true =>
  rw [h0,cond_true] at hb; injection hb with hb; subst hb
  obtain rfl:=ZbR h0
  exact ⟨⟨_,Tryz.func167,by kernel_rfl,by decide⟩,fun ι W av hR hD hv=>grw_ok h hR hD hv⟩
 | false =>
 rw [h0,cond_false] at hb
 skip
 cases h0:Nat.beq f 82 with
 | true =>
  rw [h0,cond_true] at hb; injection hb with hb; subst hb
  obtain rfl:=ZbR h0
  exact ⟨⟨_,Tryz.func82,by kernel_rfl,by decide⟩,fun ι W av hR _ hv=>idx_ok h hR hv⟩
 | false =>
 rw [h0,cond_false] at hb
 skip
 cases h0:Nat.beq f 40 with
 | true =>
  rw [h0,cond_true] at hb; injection hb with hb; subst hb
  obtain rfl:=ZbR h0
  exact ⟨⟨_,Tryz.func40,by kernel_rfl,by decide⟩,fun ι W av hR _ hv=>low_ok h hR hv⟩
 | false =>
 rw [h0,cond_false] at hb
 skip
 cases h0:Nat.beq f 83 with
 | true =>
  rw [h0,cond_true] at hb; injection hb with hb; subst hb
  obtain rfl:=ZbR h0
  exact ⟨⟨_,Tryz.func83,by kernel_rfl,by decide⟩,fun ι W av hR _ hv=>copy_ok h hR hv⟩
 | false =>
 rw [h0,cond_false] at hb
 skip
 cases h0:Nat.beq f 26 with
 | true =>
  rw [h0,cond_true] at hb; injection hb with hb; subst hb
  obtain rfl:=ZbR h0
  exact ⟨⟨_,Tryz.func26,by kernel_rfl,by decide⟩,fun ι W av hR _ hv=>str_ok h hR hv⟩
 | false =>
 rw [h0,cond_false] at hb
 cases hb
theorem runOK [Bas]:WD Tryz.prog (Run AM):=run_ok fnsOK primsOK (by kernel_rfl) bodsOK
end Go.Proofs.YtlkighkfkdpncaaGreatDoor
namespace Go.Proofs.YtlkighkfkdpncaaGreatDoor
open Go Go.Am Go.ChangeShapes Go.WideShapes Go.ChangeAt Go.RowKit
theorem Tryz.own:ownKnob Tryz.prog.godebug=none:=by kernel_rfl
theorem Tryz.laidOut:laidOutB Tryz.prog=true:=by kernel_rfl
abbrev Ep : List (String × DataW Unit) := [("unicode/utf8.acceptRanges", Rows.laid_unicode_utf8_acceptRanges), ("unicode.CaseRanges", Rows.laid_unicode_CaseRanges), ("unicode/utf8.first", Rows.laid_unicode_utf8_first)]
@[reducible] def basOf (W:World):Bas:={ w:=W }
theorem Zap (os:Os) (args:Array Value):laidMetH Tryz.prog Ep ((World.laidAll Tryz.prog os Ep).forCall (fun _ _=>0) ⟨#[],args,[]⟩).memory:=by
 rw [MakeChecks.laidMetH_plain _ _ _ (by kernel_rfl)]
 exact laidMet_laidAll _ (by kernel_rfl) (by kernel_rfl)
def zeros (n:Nat):Value:=.agg (Array.replicate n (.int .i64 0))
end Go.Proofs.YtlkighkfkdpncaaGreatDoor
namespace Go.Proofs.YtlkighkfkdpncaaGreatDoor
open Go Go.Am Go.ChangeShapes Go.WideShapes Go.ChangeAt Go.RowKit
def DN (R:Nat->Int) (n:Nat):List Mv:=(List.range n).map fun i=>(R (3*i),R (3*i+1),R (3*i+2))
theorem yF (R:Nat->Int) (n:Nat):(DN R n).length=n:=by unfold DN; rw [List.length_map,List.length_range]
theorem tabV_at (R:Nat->Int) {n i:Nat} (h:i < n):(DN R n).getD i (0,0,0)=(R (3*i),R (3*i+1),R (3*i+2)):=by
 unfold DN
 rw [ZbD,Zb9,ZbZ h]; rfl
theorem pn (R:Nat->Int) (n:Nat):∀ i,i < (YV (DN R n)).length->R i=(YV (DN R n)).getD i 0:=fun i hi=>by
 rw [YQ,yF] at hi
 obtain ⟨e0,e1,e2⟩:=KJ (l:=DN R n) (i:=i / 3) (by rw [yF]; omega)
 rw [tabV_at R (by omega)] at e0 e1 e2
 have:i % 3=0\/i % 3=1\/i % 3=2:=by omega
 rcases this with h | h | h
 ·rw [show 3*(i / 3)=i by omega] at e0; exact e0.symm
 ·rw [show 3*(i / 3)+1=i by omega] at e1; exact e1.symm
 rw [show 3*(i / 3)+2=i by omega] at e2; exact e2.symm
theorem gP {H:Type} {enc:TypeId × Value->H} {P:Program} {W:World} {base:Nat} {t e:TypeId} {v:Value} {d:DataW H} {ps:List MemPlace} (ht:P.underlying t=some (.slice e)) (hz:P.cellsOf e=3)
  (hflat:∀ (n:Nat) (cs:List Value) (y:DataW H × List MemPlace),DataW.trod enc P W 0 (fun _=>true) true n e cs=some y->∀ i,i < 3->∃ x,cs[i]? = some (.int .i64 x)/\-9223372036854775808<=x/\x<=9223372036854775807)
  (hok:Value.okWide P W .any base t v) (h:DataW.Trod enc P W 0 (fun _=>true) true t v d ps) :
  ∃ l:List Mv,(l=[]/\∀ ι,VR ι .snil v)\/((∃ es sp,d=.slice es sp/\es.length=l.length)/\∃ (p:Go.Am.Place) (R:Nat->Int),p.n=l.length*3/\p.c < W.heap.size/\(∀ i,i < p.n->W.cell? ⟨p.c,p.base+i,none⟩=some (.int .i64 (R i))) /\
   (∀ i,i < (YV l).length->R i=(YV l).getD i 0)/\∀ ι b,ι b=some p->VR ι (.sl b 0 l.length 3 .unk) v):=by
 have hd:∀ a len cap,v=.slice (some a) len cap->∃ es sp,d=.slice es sp/\es.length=len:=by
  rintro a len cap rfl
  obtain ⟨fuel,hf⟩:=h
  rcases DataW.trod_slice ht hf with ⟨h1,_⟩ | ⟨ad,len',cap',elems,rest,n,_,h1,h2,_,_,_,hlen,_⟩
  ·simp [Value.cells] at h1
  have h1:Value.slice (some a) len cap=.slice (some ad) len' cap':=by simpa [Value.cells] using h1
  injection h1 with _ e2 _
  injection h2 with e3 _
  exact ⟨_,_,e3,by rw [List.length_map,hlen,e2]⟩
 rcases gO ht hz (by omega) hflat hok h with h1 | h1 | ⟨n,p,R,hn,hpn,hlt,hc,_,hs⟩
 ·exact ⟨[],.inl ⟨rfl,h1⟩⟩
 ·obtain ⟨a,c,rfl⟩:=h1 fun _=>none
  refine ⟨[],.inr ⟨hd _ _ _ rfl,⟨a.block,a.off,0,0,0⟩,fun _=>0,rfl,?_,fun i hi=>by simp at hi,fun i hi=>by simp [YV] at hi,fun ι b hb=>?_⟩⟩
  ·simp only [Value.okWide,ht,Cell.okWide,Cell.ok] at hok
   obtain ⟨_,_,_,_,row,cells,hsh,_⟩:=hok
   unfold World.shape? at hsh
   split at hsh
   ·rename_i hq; exact (Array.getElem?_eq_some_iff.1 hq).1
   simp at hsh
  have hsp:a.spot=none:=by
   simp only [Value.okWide,ht,Cell.okWide,Cell.ok] at hok
   exact hok.2.2.2.1
  simp only [VR]
  refine ⟨_,c,hb,by simp,?_,Zct _⟩
  cases a
  simp only at hsp
  subst hsp
  rfl
 obtain ⟨q,c,hq,_,e,_⟩:=hs (fun _=>some p) 0 rfl
 have hl:=yF R n
 refine ⟨DN R n,.inr ⟨?_,p,R,by rw [hl,hpn],hlt,fun i hi=>hc i (by omega),pn R n,by rw [hl]; exact hs⟩⟩
 rw [hl]
 exact hd _ _ _ e
theorem kH {n:Nat} (h:n<=reachBytes):n<=1000000000000000:=by
 have:=reachBytes_lt
 omega
open Go Go.Am
theorem tJ (own:Bool):BC AM own 83 [] 54 (.tup []):=by
 refine ⟨[.vs (.ty 54) [.ptr 0 0 2,.snil]],?_,rfl⟩
 refine (WI (A:=AM) (pf:=Rp 54) rfl _ _ rfl).trans ?_
 cases own <;> rfl
theorem copy_BU (m:Nat) (g:Nat->S):BU AM 83 [] 54 5 m g (.tup []):=by
 refine ⟨[.vs (.ty 54) [.ptr 0 0 2,.sl 1 0 m 1 .whole],.sc (.gty 5) m g],?_,rfl,rfl⟩
 refine (WI (A:=AM) (pf:=Rp 54) rfl _ _ rfl).trans ?_
 rfl
theorem s9 (s:ByteArray):bytesOf (Xv s) s.size=s.data.toList:=by
 refine List.ext_getElem (by simp [bytesOf]) fun i h1 h2=>?_
 have hi:i < s.data.size:=by simpa using h2
 simp only [bytesOf,List.getElem_map,List.getElem_range,Xv,Am.byteOf,Array.getElem_toList]
 rw [ZbC,ZbG hi,Option.getD_some]
 simp
theorem ok_strS (s:ByteArray) (m:Nat):(List.range m).all (fun i=>Ro (Xv s i))=true:=by
 rw [Zcc]
 intro i _
 simp only [Xv,Ro,Zb7]
 have:=(s.data.getD i 0).toNat_lt
 omega
theorem E9 (s:ByteArray) (h0:s.size≠0) (h1:s.size<=140737488355328):BE AM 26 [] 54 5 s.size (Xv s) (.s (.str s)):=by
 refine ⟨[.vs (.ty 54) [.ptr 0 0 2,.sl 1 0 s.size 1 .whole],.dead],?_,rfl,rfl⟩
 refine (WI (A:=AM) (pf:=JQ 54 5) rfl _ _ rfl).trans ?_
 simp only [JQ,List.getElem?_cons_zero,List.getElem?_cons_succ]
 rw [ZcA ⟨trivial,trivial,h0,h1,ok_strS s _⟩,s9]
 rfl
theorem T0 (own:Bool) (t:ByteArray) (h0:t.size≠0) (hr:t.size<=140737488355328):BN AM own 46 [.s (.str t)] 54 5 (.tup [.s (.int .i64 t.size),.inil]) t.size (Xv t):=by
 suffices h:WR AM 46 [.ptr 0 0 2,.s (.str t)] [.vs (.ty 54) [KA own 0,.snil]] (fun v _ L=>v=.tup [.s (.int .i64 t.size),.inil]/\(0,Blk.vs (.ty 54) [.ptr 0 0 2,.sl 1 0 t.size 1 .whole])∈L/\(1,Blk.sc (.gty 5) t.size (Xv t))∈L) by
  obtain ⟨v,σ',n',L',h1,h2,rfl,h3,h4⟩:=h
  exact ⟨σ',1,h1,(h2.2.mem h3).2,Zcs _,(h2.2.mem h4).2⟩
 refine YL (a:=a46) rfl rfl (YI _) (ZQ rfl) (m:=1) rfl (Ye (Yf (Yq rfl (Yq rfl (Yc (Ye (Yf (Yq rfl (wZ (own:=own) (tJ own) rfl rfl rfl rfl .here (Yc (Ye (Yf (Yq rfl (Yq rfl (YG rfl (Zz rfl (VV rfl rfl ZM rfl (Yq rfl (kz (t:=t) rfl rfl h0 (by simpa [XC] using hr) (YG rfl (Zz rfl (kh rfl rfl rfl rfl rfl rfl rfl rfl (.there .here) (Yc (Ye (Yf (Yq rfl (Xe rfl (Yq rfl (Yq rfl (Yc (Yi ?_)))))))))))))))))))))))))))))))
 exact ⟨_,YH rfl (YH rfl YW),rfl,.tail _ ZM,.head _⟩
theorem WY (s t:ByteArray) (hr:s.size+t.size<=140737488355328):BW AM 46 [.s (.str t)] 54 5 s.size (Xv s) (.tup [.s (.int .i64 t.size),.inil]) (s++t).size (Xv (s++t)):=by
 have hsz:(s++t).size=s.size+t.size:=ZbP
 suffices h:WR AM 46 [.ptr 0 0 2,.s (.str t)] [.vs (.ty 54) [.ptr 0 0 2,.sl 1 0 s.size 1 .whole],.sc (.gty 5) s.size (Xv s)] (fun v _ L=>v=.tup [.s (.int .i64 t.size),.inil]/\(0,Blk.vs (.ty 54) [.ptr 0 0 2,.sl 2 0 (s.size+t.size) 1 .whole])∈L/\(1,Blk.dead)∈L/\(2,Blk.sc (.gty 5) (s.size+t.size) (fun i=>bif Nat.blt i s.size then Xv s i else Xv t (i - s.size)))∈L) by
  obtain ⟨v,σ',n',L',h1,h2,rfl,h3,h4,h5⟩:=h
  rw [hsz,<- Tp]
  exact ⟨σ',2,h1,(h2.2.mem h3).2,Zcs _,(h2.2.mem h4).2,(h2.2.mem h5).2⟩
 refine YL (a:=a46) rfl rfl (YI _) (ZQ rfl) (m:=2) rfl (Ye (Yf (Yq rfl (Yq rfl (Yc (Ye (Yf (Yq rfl (WO_bldU (copy_BU _ _) rfl rfl rfl rfl ZM ZN (Yc (Ye (Yf (Yq rfl (Yq rfl (YG rfl (Zz rfl (VV rfl rfl ZM rfl (Yq rfl (Zax (t:=t) rfl rfl (by simpa [XC] using hr) (.there .here) (YG rfl (Zz rfl (kh rfl rfl rfl rfl rfl rfl rfl rfl (.there .here) (Yc (Ye (Yf (Yq rfl (Xe rfl (Yq rfl (Yq rfl (Yc (Yi ?_)))))))))))))))))))))))))))))))
 exact ⟨_,YH rfl (YH rfl YW),rfl,.tail _ ZM,.tail _ ZN,.head _⟩
theorem Zbe (own:Bool) (t:ByteArray) (h0:t.size=0):BC AM own 46 [.s (.str t)] 54 (.tup [.s (.int .i64 0),.inil]):=by
 suffices h:WR AM 46 [.ptr 0 0 2,.s (.str t)] [.vs (.ty 54) [KA own 0,.snil]] (fun v _ L=>v=.tup [.s (.int .i64 0),.inil]/\(0,Blk.vs (.ty 54) [.ptr 0 0 2,.snil])∈L) by
  obtain ⟨v,σ',n',L',h1,h2,rfl,h3⟩:=h
  exact ⟨σ',h1,(h2.2.mem h3).2⟩
 refine YL (a:=a46) rfl rfl (YI _) (ZQ rfl) (m:=1) rfl (Ye (Yf (Yq rfl (Yq rfl (Yc (Ye (Yf (Yq rfl (wZ (own:=own) (tJ own) rfl rfl rfl rfl .here (Yc (Ye (Yf (Yq rfl (Yq rfl (YG rfl (Zz rfl (VV rfl rfl ZM rfl (Yq rfl (jS (t:=t) rfl rfl h0 (YG rfl (Zz rfl (kh rfl rfl rfl rfl rfl rfl rfl rfl .here (Yc (Ye (Yf (Yq rfl (Xe rfl (Yq rfl (Yq rfl (Yc (Yi ?_)))))))))))))))))))))))))))))))
 exact ⟨_,YH (v:=.s (.int .i64 0)) (by show V.s (.int .i64 t.size)=_; rw [h0]; rfl) (YH rfl YW),rfl,.head _⟩
theorem str_B0:RL AM 26 [.ptr 0 0 2] [.vs (.ty 54) [.pnil,.snil]] (.s (.str ⟨#[]⟩)) [.vs (.ty 54) [.pnil,.snil]]:=by
 refine ⟨[.vs (.ty 54) [.pnil,.snil]],?_,rfl,rfl,trivial⟩
 refine (WI (A:=AM) (pf:=JQ 54 5) rfl _ _ rfl).trans ?_
 rfl
open Go Go.Am
theorem ki (g:Nat->S) (cp:Cp) (a:ByteArray) (h0:g 0=.str a) (hn:a.size≠0) (hr:a.size<=140737488355328):D0 AM 20 [.ptr 0 0 2,.sl 1 0 1 1 cp] [.vs (.ty 54) [.pnil,.snil],.sc .var 1 g] 54 5 (.tup []) (a).size (Xv (a)) [.sc .var 1 g]:=by
 refine YL (a:=a20) rfl rfl (YI _) (ZQ rfl) (m:=2) rfl (Ze (Zn rfl (WX rfl (Yq rfl (Yc (Yk (YO (Ze (Yr (r:=.bool true) rfl rfl rfl (Yc (Ye (ZA rfl (Yh (Ye (Yk (Ze (Zx rfl rfl (Yn (x:=.str a) rfl rfl ZN h0 (Yq (v:=.s _) rfl (Yc (Yf (Zl rfl (YG rfl (Zy rfl (Yq (v:=.s _) rfl (zE (own:=false) (T0 false a hn (by omega)) rfl rfl rfl rfl .here (Yc (Yf (Zs rfl rfl ?_)))))))))))))))))))))))))))))
 refine Zj rfl (Yc (YO (Ze (Yr (r:=.bool false) rfl rfl rfl (Yc (Ye (ZB rfl (Y0 (Xb (⟨_,YW,?_⟩))))))))))
 refine ⟨rfl,2,YF rfl,⟨ZN,ZO,trivial⟩,ZM⟩
theorem kS (g:Nat->S) (cp:Cp) (a b c:ByteArray) (h0:g 0=.str a) (h1:g 1=.str b) (h2:g 2=.str c) (hn:a.size≠0) (hr:a.size+b.size+c.size<=140737488355328):D0 AM 20 [.ptr 0 0 2,.sl 1 0 3 1 cp] [.vs (.ty 54) [.pnil,.snil],.sc .var 3 g] 54 5 (.tup []) (((a++b)++c)).size (Xv (((a++b)++c))) [.sc .var 3 g]:=by
 refine YL (a:=a20) rfl rfl (YI _) (ZQ rfl) (m:=2) rfl (Ze (Zn rfl (WX rfl (Yq rfl (Yc (Yk (YO (Ze (Yr (r:=.bool true) rfl rfl rfl (Yc (Ye (ZA rfl (Yh (Ye (Yk (Ze (Zx rfl rfl (Yn (x:=.str a) rfl rfl ZN h0 (Yq (v:=.s _) rfl (Yc (Yf (Zl rfl (YG rfl (Zy rfl (Yq (v:=.s _) rfl (zE (own:=false) (T0 false a hn (by omega)) rfl rfl rfl rfl .here (Yc (Yf (Zs rfl rfl ?_)))))))))))))))))))))))))))))
 refine Zj rfl (Yc (YO (Ze (Yr (r:=.bool true) rfl rfl rfl (Yc (Ye (ZA rfl (Yh (Ye (Yk (Ze (Zx rfl rfl (Yn (x:=.str b) rfl rfl ZO h1 (Yq (v:=.s _) rfl (Yc (Yf (Zl rfl (YG rfl (Zy rfl (Yq (v:=.s _) rfl (Vx (WY a b (by omega)) rfl rfl rfl rfl (.there .here) ZM .here (Yc (Yf (Zs rfl rfl (Zj rfl (Yc (YO (Ze (Yr (r:=.bool true) rfl rfl rfl ?_)))))))))))))))))))))))))))))
 refine Yc (Ye (ZA rfl (Yh (Ye (Yk (Ze (Zx rfl rfl (Yn (x:=.str c) rfl rfl ZP h2 (Yq (v:=.s _) rfl (Yc (Yf (Zl rfl (YG rfl (Zy rfl (Yq (v:=.s _) rfl (Vx (WY (a++b) c (by simp only [ZbP]; omega)) rfl rfl rfl rfl (.there (.there .here)) ZM .here (Yc (Yf (Zs rfl rfl (Zj rfl (Yc (YO (Ze (Yr (r:=.bool false) rfl rfl rfl (Yc (Ye (ZB rfl (Y0 (Xb ?_)))))))))))))))))))))))))))))
 refine ⟨_,YW,?_⟩
 refine ⟨rfl,4,YF rfl,⟨ZP,(.tail _ ZP),trivial⟩,ZM⟩
theorem Es (g:Nat->S) (cp:Cp) (a b c d:ByteArray) (h0:g 0=.str a) (h1:g 1=.str b) (h2:g 2=.str c) (h3:g 3=.str d) (hn:a.size≠0) (hr:a.size+b.size+c.size+d.size<=140737488355328):D0 AM 20 [.ptr 0 0 2,.sl 1 0 4 1 cp] [.vs (.ty 54) [.pnil,.snil],.sc .var 4 g] 54 5 (.tup []) ((((a++b)++c)++d)).size (Xv ((((a++b)++c)++d))) [.sc .var 4 g]:=by
 refine YL (a:=a20) rfl rfl (YI _) (ZQ rfl) (m:=2) rfl (Ze (Zn rfl (WX rfl (Yq rfl (Yc (Yk (YO (Ze (Yr (r:=.bool true) rfl rfl rfl (Yc (Ye (ZA rfl (Yh (Ye (Yk (Ze (Zx rfl rfl (Yn (x:=.str a) rfl rfl ZN h0 (Yq (v:=.s _) rfl (Yc (Yf (Zl rfl (YG rfl (Zy rfl (Yq (v:=.s _) rfl (zE (own:=false) (T0 false a hn (by omega)) rfl rfl rfl rfl .here (Yc (Yf (Zs rfl rfl ?_)))))))))))))))))))))))))))))
 refine Zj rfl (Yc (YO (Ze (Yr (r:=.bool true) rfl rfl rfl (Yc (Ye (ZA rfl (Yh (Ye (Yk (Ze (Zx rfl rfl (Yn (x:=.str b) rfl rfl ZO h1 (Yq (v:=.s _) rfl (Yc (Yf (Zl rfl (YG rfl (Zy rfl (Yq (v:=.s _) rfl (Vx (WY a b (by omega)) rfl rfl rfl rfl (.there .here) ZM .here (Yc (Yf (Zs rfl rfl (Zj rfl (Yc (YO (Ze (Yr (r:=.bool true) rfl rfl rfl ?_)))))))))))))))))))))))))))))
 refine Yc (Ye (ZA rfl (Yh (Ye (Yk (Ze (Zx rfl rfl (Yn (x:=.str c) rfl rfl ZP h2 (Yq (v:=.s _) rfl (Yc (Yf (Zl rfl (YG rfl (Zy rfl (Yq (v:=.s _) rfl (Vx (WY (a++b) c (by simp only [ZbP]; omega)) rfl rfl rfl rfl (.there (.there .here)) ZM .here (Yc (Yf (Zs rfl rfl (Zj rfl (Yc (YO (Ze (Yr (r:=.bool true) rfl rfl rfl (Yc (Ye (ZA rfl (Yh (Ye ?_)))))))))))))))))))))))))))))
 refine Yk (Ze (Zx rfl rfl (Yn (x:=.str d) rfl rfl (.tail _ ZP) h3 (Yq (v:=.s _) rfl (Yc (Yf (Zl rfl (YG rfl (Zy rfl (Yq (v:=.s _) rfl (Vx (WY ((a++b)++c) d (by simp only [ZbP]; omega)) rfl rfl rfl rfl (.there (.there (.there .here))) ZM .here (Yc (Yf (Zs rfl rfl (Zj rfl (Yc (YO (Ze (Yr (r:=.bool false) rfl rfl rfl (Yc (Ye (ZB rfl (Y0 (Xb (⟨_,YW,?_⟩)))))))))))))))))))))))))
 refine ⟨rfl,5,YF rfl,⟨(.tail _ ZP),(.tail _ (.tail _ ZP)),trivial⟩,ZM⟩
theorem Tb (g:Nat->S) (cp:Cp) (a b c d:ByteArray) (h0:g 0=.str a) (h1:g 1=.str b) (h2:g 2=.str c) (h3:g 3=.str d) (he0:a.size=0) (hn:b.size≠0) (hr:b.size+c.size+d.size<=140737488355328):D0 AM 20 [.ptr 0 0 2,.sl 1 0 4 1 cp] [.vs (.ty 54) [.pnil,.snil],.sc .var 4 g] 54 5 (.tup []) (((b++c)++d)).size (Xv (((b++c)++d))) [.sc .var 4 g]:=by
 refine YL (a:=a20) rfl rfl (YI _) (ZQ rfl) (m:=2) rfl (Ze (Zn rfl (WX rfl (Yq rfl (Yc (Yk (YO (Ze (Yr (r:=.bool true) rfl rfl rfl (Yc (Ye (ZA rfl (Yh (Ye (Yk (Ze (Zx rfl rfl (Yn (x:=.str a) rfl rfl ZN h0 (Yq (v:=.s _) rfl (Yc (Yf (Zl rfl (YG rfl (Zy rfl (Yq (v:=.s _) rfl (wZ (own:=false) (Zbe false a he0) rfl rfl rfl rfl .here (Yc (Yf (Zs rfl rfl ?_)))))))))))))))))))))))))))))
 refine Zj rfl (Yc (YO (Ze (Yr (r:=.bool true) rfl rfl rfl (Yc (Ye (ZA rfl (Yh (Ye (Yk (Ze (Zx rfl rfl (Yn (x:=.str b) rfl rfl ZN h1 (Yq (v:=.s _) rfl (Yc (Yf (Zl rfl (YG rfl (Zy rfl (Yq (v:=.s _) rfl (zE (own:=true) (T0 true b hn (by omega)) rfl rfl rfl rfl .here (Yc (Yf (Zs rfl rfl (Zj rfl (Yc (YO (Ze (Yr (r:=.bool true) rfl rfl rfl ?_)))))))))))))))))))))))))))))
 refine Yc (Ye (ZA rfl (Yh (Ye (Yk (Ze (Zx rfl rfl (Yn (x:=.str c) rfl rfl ZO h2 (Yq (v:=.s _) rfl (Yc (Yf (Zl rfl (YG rfl (Zy rfl (Yq (v:=.s _) rfl (Vx (WY b c (by omega)) rfl rfl rfl rfl (.there .here) ZM .here (Yc (Yf (Zs rfl rfl (Zj rfl (Yc (YO (Ze (Yr (r:=.bool true) rfl rfl rfl (Yc (Ye (ZA rfl (Yh (Ye ?_)))))))))))))))))))))))))))))
 refine Yk (Ze (Zx rfl rfl (Yn (x:=.str d) rfl rfl ZP h3 (Yq (v:=.s _) rfl (Yc (Yf (Zl rfl (YG rfl (Zy rfl (Yq (v:=.s _) rfl (Vx (WY (b++c) d (by simp only [ZbP]; omega)) rfl rfl rfl rfl (.there (.there .here)) ZM .here (Yc (Yf (Zs rfl rfl (Zj rfl (Yc (YO (Ze (Yr (r:=.bool false) rfl rfl rfl (Yc (Ye (ZB rfl (Y0 (Xb (⟨_,YW,?_⟩)))))))))))))))))))))))))
 refine ⟨rfl,4,YF rfl,⟨ZP,(.tail _ ZP),trivial⟩,ZM⟩
theorem yo (g:Nat->S) (cp:Cp) (a:ByteArray) (s:ByteArray) (h0:g 0=.str a) (hr:s.size+a.size<=140737488355328):D0 AM 20 [.ptr 0 0 2,.sl 2 0 1 1 cp] [UU 54 0 1 s.size,.sc (.gty 5) s.size (Xv s),.sc .var 1 g] 54 5 (.tup []) ((s++a)).size (Xv ((s++a))) [.dead,.sc .var 1 g]:=by
 refine YL (a:=a20) rfl rfl (YI _) (ZQ rfl) (m:=3) rfl (Ze (Zn rfl (WX rfl (Yq rfl (Yc (Yk (YO (Ze (Yr (r:=.bool true) rfl rfl rfl (Yc (Ye (ZA rfl (Yh (Ye (Yk (Ze (Zx rfl rfl (Yn (x:=.str a) rfl rfl ZO h0 (Yq (v:=.s _) rfl (Yc (Yf (Zl rfl (YG rfl (Zy rfl (Yq (v:=.s _) rfl (Vx (WY s a (by omega)) rfl rfl rfl rfl .here ZN (.there .here) (Yc (Yf (Zs rfl rfl ?_)))))))))))))))))))))))))))))
 refine Zj rfl (Yc (YO (Ze (Yr (r:=.bool false) rfl rfl rfl (Yc (Ye (ZB rfl (Y0 (Xb (⟨_,YW,?_⟩))))))))))
 refine ⟨rfl,3,YF rfl,⟨ZN,ZO,ZP,trivial⟩,ZM⟩
theorem U1 (g:Nat->S) (cp:Cp) (a b:ByteArray) (s:ByteArray) (h0:g 0=.str a) (h1:g 1=.str b) (hr:s.size+a.size+b.size<=140737488355328):D0 AM 20 [.ptr 0 0 2,.sl 2 0 2 1 cp] [UU 54 0 1 s.size,.sc (.gty 5) s.size (Xv s),.sc .var 2 g] 54 5 (.tup []) (((s++a)++b)).size (Xv (((s++a)++b))) [.dead,.sc .var 2 g]:=by
 refine YL (a:=a20) rfl rfl (YI _) (ZQ rfl) (m:=3) rfl (Ze (Zn rfl (WX rfl (Yq rfl (Yc (Yk (YO (Ze (Yr (r:=.bool true) rfl rfl rfl (Yc (Ye (ZA rfl (Yh (Ye (Yk (Ze (Zx rfl rfl (Yn (x:=.str a) rfl rfl ZO h0 (Yq (v:=.s _) rfl (Yc (Yf (Zl rfl (YG rfl (Zy rfl (Yq (v:=.s _) rfl (Vx (WY s a (by omega)) rfl rfl rfl rfl .here ZN (.there .here) (Yc (Yf (Zs rfl rfl ?_)))))))))))))))))))))))))))))
 refine Zj rfl (Yc (YO (Ze (Yr (r:=.bool true) rfl rfl rfl (Yc (Ye (ZA rfl (Yh (Ye (Yk (Ze (Zx rfl rfl (Yn (x:=.str b) rfl rfl ZP h1 (Yq (v:=.s _) rfl (Yc (Yf (Zl rfl (YG rfl (Zy rfl (Yq (v:=.s _) rfl (Vx (WY (s++a) b (by simp only [ZbP]; omega)) rfl rfl rfl rfl (.there .here) ZM .here (Yc (Yf (Zs rfl rfl (Zj rfl (Yc (YO (Ze (Yr (r:=.bool false) rfl rfl rfl ?_)))))))))))))))))))))))))))))
 refine Yc (Ye (ZB rfl (Y0 (Xb (⟨_,YW,?_⟩)))))
 refine ⟨rfl,4,YF rfl,⟨ZO,ZP,(.tail _ ZP),trivial⟩,ZM⟩
theorem Zac (g:Nat->S) (cp:Cp) (a b c:ByteArray) (s:ByteArray) (h0:g 0=.str a) (h1:g 1=.str b) (h2:g 2=.str c) (hr:s.size+a.size+b.size+c.size<=140737488355328):D0 AM 20 [.ptr 0 0 2,.sl 2 0 3 1 cp] [UU 54 0 1 s.size,.sc (.gty 5) s.size (Xv s),.sc .var 3 g] 54 5 (.tup []) ((((s++a)++b)++c)).size (Xv ((((s++a)++b)++c))) [.dead,.sc .var 3 g]:=by
 refine YL (a:=a20) rfl rfl (YI _) (ZQ rfl) (m:=3) rfl (Ze (Zn rfl (WX rfl (Yq rfl (Yc (Yk (YO (Ze (Yr (r:=.bool true) rfl rfl rfl (Yc (Ye (ZA rfl (Yh (Ye (Yk (Ze (Zx rfl rfl (Yn (x:=.str a) rfl rfl ZO h0 (Yq (v:=.s _) rfl (Yc (Yf (Zl rfl (YG rfl (Zy rfl (Yq (v:=.s _) rfl (Vx (WY s a (by omega)) rfl rfl rfl rfl .here ZN (.there .here) (Yc (Yf (Zs rfl rfl ?_)))))))))))))))))))))))))))))
 refine Zj rfl (Yc (YO (Ze (Yr (r:=.bool true) rfl rfl rfl (Yc (Ye (ZA rfl (Yh (Ye (Yk (Ze (Zx rfl rfl (Yn (x:=.str b) rfl rfl ZP h1 (Yq (v:=.s _) rfl (Yc (Yf (Zl rfl (YG rfl (Zy rfl (Yq (v:=.s _) rfl (Vx (WY (s++a) b (by simp only [ZbP]; omega)) rfl rfl rfl rfl (.there .here) ZM .here (Yc (Yf (Zs rfl rfl (Zj rfl (Yc (YO (Ze (Yr (r:=.bool true) rfl rfl rfl ?_)))))))))))))))))))))))))))))
 refine Yc (Ye (ZA rfl (Yh (Ye (Yk (Ze (Zx rfl rfl (Yn (x:=.str c) rfl rfl (.tail _ ZP) h2 (Yq (v:=.s _) rfl (Yc (Yf (Zl rfl (YG rfl (Zy rfl (Yq (v:=.s _) rfl (Vx (WY ((s++a)++b) c (by simp only [ZbP]; omega)) rfl rfl rfl rfl (.there (.there .here)) ZM .here (Yc (Yf (Zs rfl rfl (Zj rfl (Yc (YO (Ze (Yr (r:=.bool false) rfl rfl rfl (Yc (Ye (ZB rfl (Y0 (Xb ?_)))))))))))))))))))))))))))))
 refine ⟨_,YW,?_⟩
 refine ⟨rfl,5,YF rfl,⟨ZP,(.tail _ ZP),(.tail _ (.tail _ ZP)),trivial⟩,ZM⟩
open Go Go.Am
theorem xY {P Q:Nat->Int} (h:∀ i,i < 133->Q i=P i) {s:Int} (hs:0<=s/\s < 64):Wk Q s=Wk P s:=by
 unfold Wk
 rw [ZcA hs,ZcA hs,zc h hs]
theorem Uv {P Q:Nat->Int} (h:∀ i,i < 133->Q i=P i) (t:Int):Y1 Q t=Y1 P t:=by
 unfold Y1
 cases ht:isM t with
 | false=>rfl
 | true =>
  have:0<=t/\t < 64:=by simpa [isM] using ht
  rw [Jz h this]
theorem qB {P Q:Nat->Int} (h:∀ i,i < 133->Q i=P i) {t:Int} (ht:0<=t/\t < 64):R9 Q t=R9 P t:=by
 have hq:sqI t=0+t.toNat*2:=rfl
 exact h _ (by omega)
theorem q7 {P Q:Nat->Int} (h:∀ i,i < 133->Q i=P i) {c t:Int} (ht:0<=t/\t < 64):V3 Q c t=V3 P c t:=by
 have hq:sqI t=0+t.toNat*2:=rfl
 unfold V3
 rw [h (sqI t) (by omega),h (sqI t+1) (by omega)]
theorem t7 {P Q:Nat->Int} (h:∀ i,i < 133->Q i=P i) {s c:Int} (hs:0<=s/\s < 64):U2 Q s c=U2 P s c:=by
 rw [K8,K8,xY h hs,Uv h,Uv h]
 refine congrArg _ (K2 fun t ht=>?_)
 have hb:=QX ht
 unfold Wa
 rw [Jz h hb,qB h hb,Uv h,h 130 (by omega)]
theorem wV {P Q:Nat->Int} (h:∀ i,i < 133->Q i=P i) {s k c:Int} (hc:c=0\/c=1):XR Q s k c=XR P s k c:=by
 unfold XR
 rw [h 129 (by omega)]
 split
 ·rfl
 rename_i hn
 have hs:0<=s - 4/\s+3 < 64:=by omega
 rw [Uv h,Uv h,Uv h,Uv h,Uv h,q7 h (t:=s+3) (by omega),q7 h (t:=s - 4) (by omega)]
theorem jE {P Q:Nat->Int} (h:∀ i,i < 133->Q i=P i) {s k c:Int} (hs:0<=s/\s < 64) (hc:c=0\/c=1):XL Q s k c=XL P s k c:=by
 unfold XL
 rw [t7 h hs,xY h hs,wV h hc]
 refine congrArg (fun l=>if k=1 then U2 P s c else l++XR P s k c) (K2 fun t ht=>?_)
 have hb:=QX ht
 unfold U5
 rw [Jz h hb,qB h hb]
theorem EM {P:Nat->Int} {t:Int} (h:Y1 P t=true):0<=t/\t < 64:=by
 unfold Y1 isM at h
 rw [Zca,Zb7] at h
 exact h.1
theorem y8 {p:Prop} [Decidable p] {x y:Int} (h:y∈if p then [x] else []):p/\y=x:=by
 split at h
 ·exact ⟨by assumption,by simpa using h⟩
 cases h
theorem Kw {P:Nat->Int} {s k c t:Int} (h:t∈XL P s k c):0<=t/\t < 64:=by
 unfold XL at h
 split at h
 ·rw [K8] at h
  rcases Zcg.1 h with h | h
  ·rcases Zcg.1 h with h | h
   ·obtain ⟨h1,rfl⟩:=y8 h; exact EM h1
   obtain ⟨h1,rfl⟩:=y8 h; exact EM h1.2.2
  exact QX ((Zch.1 h).1)
 rcases Zcg.1 h with h | h
 ·exact QX ((Zch.1 h).1)
 unfold XR at h
 split at h
 ·cases h
 rcases Zcg.1 h with h | h
 ·obtain ⟨h1,rfl⟩:=y8 h; exact EM h1.2.2.2
 obtain ⟨h1,rfl⟩:=y8 h; exact EM h1.2.2.2.1
theorem QD (P:Nat->Int) (s k c:Int):(XL P s k c).length<=66:=by
 unfold XL
 have h0:=Jg P s
 split
 ·rw [K8,Zb2,Zb2]
  have h1:=UG (p:=Y1 P (YT s 0 (1 - 2*c))=true) (YT s 0 (1 - 2*c))
  have h2:=UG (p:=Wh s=1+5*c/\Y1 P (YT s 0 (1 - 2*c))=true/\Y1 P (YT s 0 (2*(1 - 2*c)))=true) (YT s 0 (2*(1 - 2*c)))
  have h3:=ZbU (Wa P c) (Wk P s)
  omega
 rw [Zb2]
 have h1:=E0 P s k c
 have h2:=ZbU (fun t=>!U5 P c t) (Wk P s)
 omega
theorem pd {P D:Nat->Int} {i:Int} (hi:0<=i/\i < 64) (h:∀ j,j < 133->D j=P j) (h1:D 133=i) (h2:D 134=P (sqI i)) (h3:D 135=P (sqI i+1)) (hc:P (sqI i+1)=0\/P (sqI i+1)=1):ww D=VT P i:=by
 unfold ww VT
 rw [h1,h2,h3,jE h hi hc]
theorem sD (P:Nat->Int) (i:Int):(VT P i).length<=264:=by
 have h1:=QD P i (P (sqI i)) (P (sqI i+1))
 have h2:=ky i (P (sqI i)) (P (sqI i+1)) (XL P i (P (sqI i)) (P (sqI i+1)))
 unfold VT; omega
theorem Dy {P:Nat->Int} {i:Nat}:UX P (i+1)=UX P i++if Ww P i=true then VT P i else []:=by
 unfold UX Wq
 rw [List.range_succ,List.map_append,List.flatMap_append]
 simp
theorem T7 (P:Nat->Int):∀ i:Nat,(UX P i).length<=i*264
 | 0=>Zct _
 | i+1=>by
  have h1:=T7 P i
  have h2:(if Ww P i=true then VT P i else []).length<=264:=by
   split
   ·exact sD P i
   exact Zct _
  rw [Dy,Zb2]; omega
theorem zZ (P:Nat->Int) {i:Nat} (hi:i<=64):(YV (UX P i)).length<=60000:=by
 have:=T7 P i
 rw [YQ]; omega
def Uj (P:Nat->Int) (i:Nat):Nat->Int:=ovA (ov (ovA (fun _=>0) 0 133 P) 133 (i:Int)) 134 2 (ovA (fun _=>0) 0 2 (fun j=>P ((i:Int).toNat*2+j)))
theorem qp (P:Nat->Int) (i:Nat):(∀ j,j < 133->ovA (fun _=>0) 0 136 (Uj P i) j=P j)/\ovA (fun _=>0) 0 136 (Uj P i) 133=i/\ovA (fun _=>0) 0 136 (Uj P i) 134=P (sqI i)/\ovA (fun _=>0) 0 136 (Uj P i) 135=P (sqI i+1):=by
 have hq:sqI (i:Int)=0+(i:Int).toNat*2:=rfl
 refine ⟨fun j hj=>?_,rfl,?_,?_⟩
 ·rw [X3 (by omega),Nat.sub_zero]
  unfold Uj
  rw [Wb (by omega),XF (by omega),X3 (by omega),Nat.sub_zero]
 ·show P ((i:Int).toNat*2)=_
  exact congrArg P (by omega)
 show P ((i:Int).toNat*2+1)=_
 exact congrArg P (by omega)
theorem qt {P:Nat->Int} {i:Nat} (h1:1<=P (sqI i)) (h2:P (sqI i)<=6) (h3:P (sqI i+1)=0\/P (sqI i+1)=1) (h4:P (sqI i+1)=P 128):Ww P i=true:=by
 unfold Ww Xm
 rw [Zca,Zb7,Zb7]; omega
theorem Rt {P:Nat->Int} {i:Nat} (h:¬ (1<=P (sqI i)/\P (sqI i)<=6/\(P (sqI i+1)=0\/P (sqI i+1)=1)/\P (sqI i+1)=P 128)):Ww P i=false:=by
 unfold Ww Xm
 rw [ZbO,ZbJ,ZbJ]; omega
theorem uL {P:Nat->Int} {i:Nat} {D:Nat->Int} (h:Ww P i=true) (hD:ww D=VT P i):YV (UX P i)++YV (ww D)=YV (UX P (i+1)):=by
 rw [Dy,ZcA h,RU,hD]
theorem TG {P:Nat->Int} {i:Nat} (h:Ww P i=false):YV (UX P (i+1))=YV (UX P i):=by
 rw [Dy,Zcz (by rw [h]; decide),Zcf]
theorem gL (g0 g4 g1:Nat->S) (P:Nat->Int):WR AM 153 [.yv 0,.ptr 3 0 133] [(Jy g0 g4 3 0),.sc .var 133 g1,.vs .var [.snil],.sc .var 133 (ia P)] (fun v _ L=>v=.tup []/\ED L [(Jy g0 g4 3 0),.sc .var 133 g1] [.sc .var 133 (ia P)] (YV (UX P 64))):=by
 refine YL (a:=a153) rfl rfl (YI _) (ZQ rfl) (m:=4) rfl (Ze (Zy rfl (Yo rfl rfl ZP (Yq rfl (Yc (Yk (Xo (.refl _) (Xu (fun m f _ L=>∃ (i:Nat) (vO:V) (ownO:HA),(i≤64)∧(m=64 - i)∧(∀ p∈ownO,4≤p.1)∧(Rw 3 (YV (UX P i)) vO ownO)∧(f 0=.yv 0)∧(f 1=.ptr 3 0 133)∧(f 7=.agg 128 (ia P))∧(f 8=.s (.int .i64 i))∧(L=(ownO++[(0,(Jy g0 g4 3 0)),(1,.sc .var 133 g1),(2,.vs .var [vO]),(3,.sc .var 133 (ia P))]))) (fun m f nb L hI=>?_) (64) (⟨0,.snil,[],by omega,by omega,(fun p (hp:p∈([]:HA))=>(by cases hp)),Rw.nil rfl,rfl,rfl,rfl,rfl,rfl⟩)))))))))
 obtain ⟨i,vO,ownO,hi,hm,hgO,hrO,k0,k1,k7,k8,rfl⟩:=hI
 refine Za 0 k0 (Za 1 k1 (Za 7 k7 (Za 8 k8 (Ze (Zr rfl (Yc (Ye (Yj rfl (fun h1=>?_) (fun h1=>?_))))))))) <;> simp only [NM] at h1
 ·refine Yh (Ye (Yk (Ze (Zj rfl (y7 rfl rfl rfl (by omega) (Yy (Zj rfl (Yz rfl rfl rfl rfl .here (Zf (Zy rfl (Ym (x:=P (sqI i)) rfl rfl ZM (show P ((i:Int).toNat*2)=_ from congrArg P (by have hq:sqI (i:Int)=0+(i:Int).toNat*2:=rfl; omega)) (Zr rfl (Zk rfl (Ys (t:=15) rfl (fun h2=>?_) (fun h2=>?_))))))))))))))) <;> simp only [NM] at h2
  ·refine Yb rfl (Zy rfl (Yb rfl (Ym (x:=P (sqI i)) rfl rfl ZM (show P ((i:Int).toNat*2)=_ from congrArg P (by have hq:sqI (i:Int)=0+(i:Int).toNat*2:=rfl; omega)) (Yb rfl (Zr rfl (Zq rfl (Zk rfl (Ys (t:=20) rfl (fun h3=>?_) (fun h3=>?_))))))))) <;> simp only [NM] at h3
   ·refine Yb rfl (Zz rfl (Yb rfl (Ym (x:=P (sqI i+1)) rfl rfl ZM (show P ((i:Int).toNat*2+1)=_ from congrArg P (by have hq:sqI (i:Int)=0+(i:Int).toNat*2:=rfl; omega)) (Yb rfl (Zr rfl (Yb rfl (Zk rfl (Ys (t:=24) rfl (fun h4=>?_) (fun h4=>?_))))))))) <;> simp only [NM] at h4
    ·refine ZD rfl (ZC rfl (Yb rfl (Zq rfl (Zq rfl (Zk rfl (Yc (Ye (JJ (KE (l1:=[_,_,_,_,_,_,_,_,_,_,_,_,_,_]) (l2:=[_,_,_]) (Zk rfl (Zk rfl (Yb rfl (Zz rfl (Yb rfl (Ym (x:=P (sqI i+1)) rfl rfl ZM (show P ((i:Int).toNat*2+1)=_ from congrArg P (by have hq:sqI (i:Int)=0+(i:Int).toNat*2:=rfl; omega)) (Yb rfl (Yd (o':=128) rfl rfl rfl (Yb rfl (Ym rfl rfl (.tail _ (ZbM _ ZP)) rfl (Yb rfl (Zr rfl (Zq rfl (Zk rfl (Ys (t:=38) rfl (fun h5=>?_) (fun h5=>?_))))))))))))))))))))))))) <;> simp only [NM] at h5
     ·refine Yb rfl (Yq (v:=.yv _) rfl (Yb rfl (Yo rfl rfl (.tail _ (ZbM _ ZP)) (Yb rfl (Zj rfl (Yb rfl (Yo rfl rfl ZM (Yb rfl (YB (Q:=Uj P i) rfl (.agg rfl (.one rfl (.agg rfl .nil))) (Yc (Q2 (.cons _ (ZbY (.refl _) (.refl _))) (DB rfl ?_))))))))))))
      obtain ⟨x0,x1,x2,x3⟩:=qp P i
      have hx4:P (sqI i+1)=0\/P (sqI i+1)=1:=by omega
      have hmv:=pd (P:=P) (i:=i) (by omega) x0 x1 x2 x3 hx4
      have hll:=zZ P (i:=i) (by omega)
      refine TR (caps:=VB g0 g4) (xa:=[.agg 136 (ia (Uj P i))]) (L0:=[]) rfl (fun _=>rfl) rfl rfl (fun _ _ _=>rfl) (YF rfl) (YF rfl) rfl rfl hrO (.refl _) (fun e=>by have h:=Dd g0 g4 g1 P (Uj P i) (by omega) (by omega) (fun t ht=>Kw ht) (Zcq (QD _ _ _ _) (YF rfl)); rw [e]; exact h) (fun m q F h1 h2=>D2 g0 g4 g1 P (Uj P i) (by omega) (by omega) (fun t ht=>Kw ht) (Zcq (QD _ _ _ _) (YF rfl)) _ m q F h1 h2 (by omega)) (fun v1 own1 n1 hr1 hge1=>Vd ?_)
      rw [uL (qt (by assumption) (by assumption) hx4 (by assumption)) hmv] at hr1
      refine Yb rfl (Yv (r:=.bool _) rfl rfl (Zq rfl (Yc (ZB rfl (Yh (Yf (Zs rfl rfl (Zj rfl (Yc (⟨64 - (i+1),_,by omega,(ZbY (.refl _) (.refl _)),i+1,_,_,by omega,rfl,hge1,?_,rfl,rfl,rfl,rfl,rfl⟩))))))))))
      exact hr1
     refine ZE rfl (ZC rfl (Yc (Vd (ZD rfl (Zq rfl (Yc (ZB rfl (Yh (Yf (Zs rfl rfl (Zj rfl (Yc (⟨64 - (i+1),_,by omega,(.cons _ (ZbY (.refl _) (.refl _))),i+1,_,_,by omega,rfl,hgO,?_,rfl,rfl,rfl,rfl,rfl⟩)))))))))))))
     (rw [TG (Rt (by omega))]; exact hrO)
    refine Yb rfl (Zz rfl (Yb rfl (Ym (x:=P (sqI i+1)) rfl rfl ZM (show P ((i:Int).toNat*2+1)=_ from congrArg P (by have hq:sqI (i:Int)=0+(i:Int).toNat*2:=rfl; omega)) (Yb rfl (Zr rfl (Yb rfl (Zq rfl (Zq rfl (Zk rfl (Yc (Ye (JJ (KE (l1:=[_,_,_,_,_,_,_,_,_,_,_,_,_,_]) (l2:=[_,_,_]) (Zk rfl (Zk rfl (Ys (t:=31) rfl (fun h6=>?_) (fun h6=>?_))))))))))))))))) <;> simp only [NM] at h6
    ·refine Yb rfl (Zz rfl (Yb rfl (Ym (x:=P (sqI i+1)) rfl rfl ZM (show P ((i:Int).toNat*2+1)=_ from congrArg P (by have hq:sqI (i:Int)=0+(i:Int).toNat*2:=rfl; omega)) (Yb rfl (Yd (o':=128) rfl rfl rfl (Yb rfl (Ym rfl rfl (.tail _ (ZbM _ ZP)) rfl (Yb rfl (Zr rfl (Zq rfl (Zk rfl (Ys (t:=38) rfl (fun h7=>?_) (fun h7=>?_))))))))))))) <;> simp only [NM] at h7
     ·refine Yb rfl (Yq (v:=.yv _) rfl (Yb rfl (Yo rfl rfl (.tail _ (ZbM _ ZP)) (Yb rfl (Zj rfl (Yb rfl (Yo rfl rfl ZM (Yb rfl (YB (Q:=Uj P i) rfl (.agg rfl (.one rfl (.agg rfl .nil))) (Yc (Q2 (.cons _ (ZbY (.refl _) (.refl _))) (DB rfl ?_))))))))))))
      obtain ⟨x0,x1,x2,x3⟩:=qp P i
      have hx4:P (sqI i+1)=0\/P (sqI i+1)=1:=by omega
      have hmv:=pd (P:=P) (i:=i) (by omega) x0 x1 x2 x3 hx4
      have hll:=zZ P (i:=i) (by omega)
      refine TR (caps:=VB g0 g4) (xa:=[.agg 136 (ia (Uj P i))]) (L0:=[]) rfl (fun _=>rfl) rfl rfl (fun _ _ _=>rfl) (YF rfl) (YF rfl) rfl rfl hrO (.refl _) (fun e=>by have h:=Dd g0 g4 g1 P (Uj P i) (by omega) (by omega) (fun t ht=>Kw ht) (Zcq (QD _ _ _ _) (YF rfl)); rw [e]; exact h) (fun m q F h1 h2=>D2 g0 g4 g1 P (Uj P i) (by omega) (by omega) (fun t ht=>Kw ht) (Zcq (QD _ _ _ _) (YF rfl)) _ m q F h1 h2 (by omega)) (fun v2 own2 n2 hr2 hge2=>Vd ?_)
      rw [uL (qt (by assumption) (by assumption) hx4 (by assumption)) hmv] at hr2
      refine Yb rfl (Yv (r:=.bool _) rfl rfl (Zq rfl (Yc (ZB rfl (Yh (Yf (Zs rfl rfl (Zj rfl (Yc (⟨64 - (i+1),_,by omega,(ZbY (.refl _) (.refl _)),i+1,_,_,by omega,rfl,hge2,?_,rfl,rfl,rfl,rfl,rfl⟩))))))))))
      exact hr2
     refine ZE rfl (ZC rfl (Yc (Vd (ZD rfl (Zq rfl (Yc (ZB rfl (Yh (Yf (Zs rfl rfl (Zj rfl (Yc (⟨64 - (i+1),_,by omega,(.cons _ (ZbY (.refl _) (.refl _))),i+1,_,_,by omega,rfl,hgO,?_,rfl,rfl,rfl,rfl,rfl⟩)))))))))))))
     (rw [TG (Rt (by omega))]; exact hrO)
    refine ZE rfl (ZC rfl (Zq rfl (Zk rfl (ZE rfl (ZC rfl (Yc (Vd (ZD rfl (Zq rfl (Yc (ZB rfl (Yh (Yf (Zs rfl rfl (Zj rfl (Yc (⟨64 - (i+1),_,by omega,(.cons _ (ZbY (.refl _) (.refl _))),i+1,_,_,by omega,rfl,hgO,?_,rfl,rfl,rfl,rfl,rfl⟩)))))))))))))))))
    (rw [TG (Rt (by omega))]; exact hrO)
   refine ZE rfl (YJ rfl (YJ rfl (YJ rfl (ZC rfl (Zq rfl (Zk rfl (Yc (Ye (JJ (KE (l1:=[_,_,_,_,_,_,_,_,_,_,_,_,_,_]) (l2:=[_,_,_]) (Zk rfl (Zk rfl (ZE rfl (ZC rfl (Zq rfl (Zk rfl (ZE rfl (ZC rfl (Yc (Vd (ZD rfl (Zq rfl (Yc (ZB rfl (Yh (Yf (Zs rfl rfl (Zj rfl (Yc ?_)))))))))))))))))))))))))))))
   refine ⟨64 - (i+1),_,by omega,(.cons _ (ZbY (.refl _) (.refl _))),i+1,_,_,by omega,rfl,hgO,?_,rfl,rfl,rfl,rfl,rfl⟩
   (rw [TG (Rt (by omega))]; exact hrO)
  refine ZD rfl (ZC rfl (Zq rfl (Zk rfl (ZE rfl (YJ rfl (YJ rfl (YJ rfl (ZC rfl (Zq rfl (Zk rfl (Yc (Ye (JJ (KE (l1:=[_,_,_,_,_,_,_,_,_,_,_,_,_,_]) (l2:=[_,_,_]) (Zk rfl (Zk rfl (ZE rfl (ZC rfl (Zq rfl (Zk rfl (ZE rfl (ZC rfl (Yc (Vd (ZD rfl (Zq rfl (Yc (ZB rfl (Yh ?_)))))))))))))))))))))))))))))
  refine Yf (Zs rfl rfl (Zj rfl (Yc (⟨64 - (i+1),_,by omega,(.cons _ (ZbY (.refl _) (.refl _))),i+1,_,_,by omega,rfl,hgO,?_,rfl,rfl,rfl,rfl,rfl⟩))))
  (rw [TG (Rt (by omega))]; exact hrO)
 refine Y0 (Xb (⟨_,YW,?_⟩))
 obtain rfl:i=64:=by omega
 exact ⟨rfl,JI hrO ⟨(ZbM _ ZM),(ZbM _ ZN),(ZbM _ ZO),(ZbM _ ZP),trivial⟩ (fun p hp=>⟨ZbV _ hp,hgO p hp⟩)⟩
open Go Go.Am
theorem all_rt (P:Nat->Int):RtR AM 100 3 [.agg 133 (ia P)] [] (YV (Ey P)) []:=by
 refine Qq (gx (a:=a100) rfl rfl (YI _) (ZQ rfl) (m:=0) (c0:=2) rfl rfl (Ye (Yf (YC rfl (Jl (z:=.one .snil) rfl (Yc (Ye (Ye (Yf (Yo rfl rfl ZN (vm (fv:=.fn 125 []) (rs:=[]) (vs:=[.agg 133 (ia P)]) (Bs:=[]) rfl rfl rfl rfl (Qm (rh P) ?_))))))))))))
 rintro v9 n9 L9 ⟨rfl,rfl,rfl⟩
 refine ⟨.fn 153 [.ptr 2 0 133],[],[.sc .var 133 (ia P)],rfl,?_⟩
 refine Yc (Yk ?_)
 have fin:∀ (f:FE) (n:Nat) (v:V) (own:HA),f 2=.ptr 1 0 1->Rw 3 (YV (UX P 64)) v own->WP AM a100.nt (.seq (.ops [ZZ 13 false 1 2,ZU 14 (.h (.call (.k (.fn 128 [])) [(.t 13),(.k (.fn 129 []))]))]) (.seq (.ops [ZZ 15 false 1 2,Z1 1 2 15]) .ret)) f n (own++[(1,.vs .var [v])])
   (fun _ _ _=>False) (fun _ _ _ _=>False) (fun f n L=>∃ b md v,rd a100.nt f 2=.ptr b 0 1∧(b,Blk.vs md [v])∈L∧∃ own,Rw 3 (YV (Ey P)) v own∧∀ p∈own,p∈L) (fun _ _ _ _=>False):=fun f n v own h2 hr=>by
  refine Za 2 h2 (Ye (Yf (VV (v:=v) rfl rfl (ZbM _ ZM) rfl (qq (caps:=[]) rfl (Zbx (UX P 64) (Zcq (T7 P 64) (YF rfl))) rfl hr .here rfl rfl (fun own2 hr2=>Yc (Ye (Yf (VV (v:=v) rfl rfl (ZbM _ ZM) rfl (TK (b:=1) (u:=v) (v:=v) rfl rfl hr2.isrow (.appR _ .here) ?_)))))))))
  exact Yc (Yi ⟨1,.var,v,rfl,ZbM _ ZM,own2,hr2,fun p hp=>ZbV _ hp⟩)
 refine wI (Lr:=[(0,_),(1,_),(2,_)]) (L0:=[]) (vs:=[.yv 0,.ptr 3 0 133]) (Bs:=[Jy (ia P) (ia P) 3 0,.sc .var 133 (ia P),.vs .var [.snil],.sc .var 133 (ia P)]) (List.reverse_perm [_,_,_]) rfl rfl rfl rfl rfl (Qm (gL (ia P) (ia P) (ia P) P) ?_)
 rintro r n1 L1 ⟨rfl,ho⟩
 rcases ho with ⟨e1,e2⟩ | ⟨b,m,q,F,e1,e2,e3,e4,e5⟩
 ·refine .inl ⟨_,.tup [],_,e2,rfl,rfl,rfl,rfl,6,Kx,_,0,_,.refl _,?_⟩
  refine Xo (.cons _ (.cons_cons _ (.cons _ .slnil))) ?_
  exact fin _ _ .snil [] rfl (.nil e1)
 refine .inr ⟨[Jy (ia P) (ia P) 3 0,.sc .var 133 (ia P)],[.sc .var 133 (ia P)],b,m,3,q,.var,.grow,ia F,.tup [],_,_,e3,rfl,e1,e2,rfl,rfl,rfl,rfl,rfl,(YF rfl),6,Kx,_,0,_,.swap _ _ _,?_⟩
 refine Xo (.cons_cons _ (.cons _ (.cons_cons _ (.cons _ .slnil)))) ?_
 exact fin _ _ _ [(_,_)] rfl (.row e4 e5)
open Go Go.Am
def fnzM:List Int->Int
 | []=>0
 | x::l=>if x=0 then fnzM l else x
def cmpM (x y:Int):Int:=if x < y then -1 else if y < x then 1 else 0
open Go Go.Am
theorem RC {a b:Int} (h:a=b):Wc .eql (.int .i64 a) (.int .i64 b)=some (.bool true):=by
 subst h
 show (if IntKind.i64=IntKind.i64 then some (S.bool (a == a)) else none)=_
 simp
theorem wM {a b:Int} (h:a=b):Wc .neq (.int .i64 a) (.int .i64 b)=some (.bool false):=by
 subst h
 show (if IntKind.i64=IntKind.i64 then some (S.bool (a != a)) else none)=_
 simp
theorem tg {a b:Int} (h:a≠b):Wc .neq (.int .i64 a) (.int .i64 b)=some (.bool true):=by
 show (if IntKind.i64=IntKind.i64 then some (S.bool (a != b)) else none)=_
 simp [h]
theorem three {A B:Nat->Int} (h0:A 0=B 0) (h1:A 1=B 1) (h2:A 2=B 2):∀ i,i < 3->A i=B i
 | 0,_=>h0
 | 1,_=>h1
 | 2,_=>h2
 | i+3,h=>by omega
end Go.Proofs.YtlkighkfkdpncaaGreatDoor
