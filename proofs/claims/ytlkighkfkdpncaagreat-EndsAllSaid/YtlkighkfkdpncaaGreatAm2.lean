/- Texts of this seat, joined. -/
import Derived.Below
import Derived.IntWalk
import Derived.Test.YtlkighkfkdpncaaGreatAm0
import Derived.Test.YtlkighkfkdpncaaGreatAm1
set_option linter.unusedSimpArgs false
set_option linter.unusedVariables false
namespace Go.Am
open Go
def LeR (r r':Runner):Prop:=∀ f as σ x,r f as σ = some x→r' f as σ = some x
theorem TX {r r':Runner} (h:LeR r r') {q:Bool} {v:V} {args:List V} {σ:Heap} {x:V × Heap} (hx:Y4 r q v args σ = some x):Y4 r' q v args σ = some x:=by
 simp only [Y4,Option.bind_eq_some_iff] at hx ⊢
 obtain ⟨t,ht,y,hy,z,hz,hx⟩:=hx
 exact ⟨t,ht,y,hy,z,h _ _ _ _ hz,hx⟩
theorem w9 {r r':Runner} (h:LeR r r') {v:V} {args:List V} {σ:Heap} {x:V × Heap} (hx:W9 r v args σ = some x):W9 r' v args σ = some x:=by
 simp only [W9,Option.bind_eq_some_iff] at hx ⊢
 obtain ⟨t,ht,y,hy,z,hz,hx⟩:=hx
 exact ⟨t,ht,y,hy,z,h _ _ _ _ hz,hx⟩
theorem wR {r r':Runner} (h:LeR r r') {v:V} {args:List V} {σ:Heap} {x:V × Heap} (hx:W9 r v args σ = some x) (q:Bool) (hq:q = false):Y4 r' q v args σ = none:=by
 subst hq
 simp only [W9,Option.bind_eq_some_iff] at hx
 obtain ⟨t,ht,y,hy,z,hz,hx⟩:=hx
 simp only [Y4,ht,Option.bind_some,hy,h _ _ _ _ hz]
 obtain ⟨z1,z2⟩:=z
 simp only at hx ⊢
 split at hx
 ·exact JZ
 ·simp at hx
theorem x4 {r r':Runner} (h:LeR r r') {i:Ins} {e:Env} {σ:Heap} {x:V × Heap} (hx:Xk r i e σ = some x):Xk r' i e σ = some x:=by
 cases i with
 | p i=>exact hx
 | h i =>
  cases i with
  | call f as=>exact TX h hx
  | callq f as=>exact TX h hx
  | _=>exact hx
theorem yh {r r':Runner} (h:LeR r r') {o:I} {e:Env} {σ:Heap} {x:V × Heap} (hx:Y1 r o e σ = some x):Y1 r' o e σ = some x:=by
 obtain ⟨dst,g,ins⟩:=o
 cases g with
 | none=>exact x4 h hx
 | some p =>
  obtain ⟨t,want⟩:=p
  simp only [Y1] at hx ⊢
  split at hx
  ·rename_i b hb
   cases hw:b == want
   ·rw [hw] at hx; exact hx
   ·rw [hw] at hx; exact x4 h hx
  ·exact hx
  ·simp at hx
theorem KS {r r':Runner} (h:LeR r r') {o:I} {e:Env} {σ:Heap} {x:Env × Heap} (hx:XA r o e σ = some x):XA r' o e σ = some x:=by
 rw [Xl,Option.map_eq_some_iff] at hx ⊢
 obtain ⟨y,hy,hx⟩:=hx
 exact ⟨y,yh h hy,hx⟩
theorem xu {r r':Runner} (h:LeR r r') {o:I} {e:Env} {σ:Heap} {x:V × Heap} (hx:WH r o e σ = some x):WH r' o e σ = some x:=by
 unfold WH at hx ⊢
 cases hc:XN o e with
 | false=>rw [hc] at hx; simp at hx
 | true =>
  rw [hc] at hx
  simp only [cond_true] at hx ⊢
  split at hx
  ·exact w9 h hx
  ·exact hx
  ·simp at hx
theorem JR {r r':Runner} (h:LeR r r') {o:I} {e:Env} {σ:Heap} {x:V × Heap} (hx:WH r o e σ = some x):XA r' o e σ = none:=by
 have hins:∀ i:Ins,(match i with
  | .h (.call f args)=>W9 r (f.ev e) (args.map (·.ev e)) σ
  | .h (.pnc x)=>match x.ev e with
   | .iface t y=>some (.iface t y,σ)
   | _=>none
  | _=>none) = some x→Xk r' i e σ = none:=by
  intro i hi
  split at hi
  ·exact wR h hi false rfl
  ·rfl
  ·simp at hi
 obtain ⟨dst,g,ins⟩:=o
 cases g with
 | none =>
  unfold WH XN at hx
  simp only [cond_true] at hx
  simp only [XA,hins ins hx,Option.map_none]
 | some p =>
  obtain ⟨t,want⟩:=p
  unfold WH XN at hx
  simp only [XA] at hx ⊢
  generalize e.getD t .undef = u at hx ⊢
  cases u with
  | s y =>
   cases y with
   | bool b =>
    simp only at hx ⊢
    cases hw:b == want with
    | false=>rw [hw] at hx; simp at hx
    | true =>
     rw [hw] at hx
     simp only [cond_true] at hx ⊢
     rw [hins ins hx,Option.map_none]
   | _=>simp at hx
  | _=>simp at hx
theorem va {r r':Runner} (h:LeR r r') {k:Nat} {av:List V} {σ:Heap} {x:V × Heap} (hx:U2 r k av σ = some x):U2 r' k av σ = some x:=by
 simp only [U2,Option.bind_eq_some_iff] at hx ⊢
 obtain ⟨y,hy,z,hz,hx⟩:=hx
 exact ⟨y,hy,z,h _ _ _ _ hz,hx⟩
theorem jI {r r':Runner} (h:LeR r r') {k:Nat} {av:List V} {σ:Heap} {x:V × Heap} (hx:VG r k av σ = some x):VG r' k av σ = some x:=by
 simp only [VG,Option.bind_eq_some_iff] at hx ⊢
 obtain ⟨y,hy,z,hz,hx⟩:=hx
 exact ⟨y,hy,z,h _ _ _ _ hz,hx⟩
theorem xY {r r':Runner} (h:LeR r r') {g:O} {k:Nat} {rd:RD} {e:Env} {σ:Heap} {x:Ex × Env × Heap} (hx:UH r g k rd e σ = some x):UH r' g k rd e σ = some x:=by
 unfold UH at hx ⊢
 split at hx
 ·rename_i gf caps hg
  split at hx
  ·rename_i y hy
   rw [jI h hy]
   exact hx
  ·cases hx
 ·cases hx
theorem xO {r r':Runner} (h:LeR r r') {o:I} {e:Env} {σ:Heap} {x:Env × Heap} (hx:Vz r o e σ = some x):Vz r' o e σ = some x:=by
 unfold Vz at hx ⊢
 cases hg:XN o e with
 | false=>rw [hg] at hx; cases hx
 | true =>
  rw [hg,cond_true] at hx
  rw [cond_true]
  split at hx
  ·split at hx
   ·split at hx
    ·simp only [Option.map_eq_some_iff] at hx ⊢
     obtain ⟨y,hy,hx⟩:=hx
     exact ⟨y,va h hy,hx⟩
    ·cases hx
   ·cases hx
  ·cases hx
theorem EW {r r':Runner} {o:I} {e:Env} {σ:Heap} {x:Env × Heap} (hx:Vz r o e σ = some x):XA r' o e σ = none:=by
 obtain ⟨dst,g,ins⟩:=o
 unfold Vz at hx
 cases hg:XN ⟨dst,g,ins⟩ e with
 | false=>rw [hg] at hx; cases hx
 | true =>
  rw [hg,cond_true] at hx
  split at hx
  ·rename_i f args hins
   have hins:ins = .h (.call f args):=hins
   subst hins
   split at hx
   ·rename_i b hb
    have hcw:Xk r' (.h (.call f args)) e σ = none:=by
     show Y4 r' false (f.ev e) (args.map (·.ev e)) σ = none
     rw [hb]; rfl
    cases g with
    | none=>simp only [XA,hcw,Option.map_none]
    | some p =>
     obtain ⟨t,want⟩:=p
     simp only [XN] at hg
     simp only [XA]
     split at hg
     ·rename_i b2 hb2
      rw [hb2]
      simp only [hg,cond_true,hcw,Option.map_none]
     ·cases hg
   ·cases hx
  ·cases hx
theorem RT {r r':Runner} {o:I} {e:Env} {σ:Heap} {x:V × Heap} (hx:WH r o e σ = some x):Vz r' o e σ = none:=by
 unfold WH at hx
 unfold Vz
 cases hg:XN o e with
 | false=>rw [hg] at hx; cases hx
 | true =>
  rw [hg,cond_true] at hx
  rw [cond_true]
  split
  ·rename_i f args hins
   rw [hins] at hx
   simp only at hx
   split
   ·rename_i b hb
    rw [hb] at hx
    simp [W9,target] at hx
   ·rfl
  ·rfl
theorem WB {r r':Runner} (h:LeR r r'):∀ {l:List I} {e:Env} {σ:Heap} {x:Ex × Env × Heap},YQ r l e σ = some x→YQ r' l e σ = some x
 | [],_,_,_,hx=>hx
 | o::l,e,σ,x,hx=>by
  simp only [YQ] at hx ⊢
  split at hx
  ·rename_i y hy
   rw [KS h hy]
   exact WB h hx
  ·split at hx
   ·rename_i y hy
    rw [EW hy,xO h hy]
    exact WB h hx
   ·simp only [Option.map_eq_some_iff] at hx
    obtain ⟨y,hy,hx⟩:=hx
    rw [JR h hy,RT hy,xu h hy]
    simp only [Option.map_some,hx]
theorem UV {r:Runner}:∀ {l:List I} {e:Env} {σ:Heap} {x:Ex × Env × Heap},Ww r l e σ = some x→YQ r l e σ = some x
 | [],_,_,_,hx=>hx
 | o::l,e,σ,x,hx=>by
  simp only [Ww] at hx
  simp only [YQ]
  split at hx
  ·exact UV hx
  ·simp only [Option.map_eq_some_iff] at hx
   obtain ⟨y,hy,hx⟩:=hx
   rw [RT hy,hy]
   simp only [Option.map_some,hx]
theorem wj {r r':Runner} (h:LeR r r'):∀ {l:List I} {e:Env} {σ:Heap} {x:Ex × Env × Heap},Ww r l e σ = some x→Ww r' l e σ = some x
 | [],_,_,_,hx=>hx
 | o::l,e,σ,x,hx=>by
  simp only [Ww] at hx ⊢
  split at hx
  ·rename_i y hy
   rw [KS h hy]
   exact wj h hx
  ·simp only [Option.map_eq_some_iff] at hx
   obtain ⟨y,hy,hx⟩:=hx
   rw [JR h hy,xu h hy]
   simp only [Option.map_some,hx]
theorem kS {r:Runner}:∀ {l:List I} {e e':Env} {σ σ':Heap},WW r l e σ = some (e',σ')→Ww r l e σ = some (.normal,e',σ')
 | [],_,_,_,_,hx=>by
  simp only [WW,Option.some.injEq,Prod.mk.injEq] at hx
  obtain ⟨rfl,rfl⟩:=hx
  rfl
 | o::l,e,e',σ,σ',hx=>by
  simp only [WW,Option.bind_eq_some_iff] at hx
  obtain ⟨y,hy,hx⟩:=hx
  simp only [Ww,hy]
  exact kS hx
theorem yJ {r:Runner}:∀ {l:List I} {e e':Env} {σ σ':Heap},Ww r l e σ = some (.normal,e',σ')→WW r l e σ = some (e',σ')
 | [],_,_,_,_,hx=>by
  simp only [Ww,Option.some.injEq,Prod.mk.injEq,true_and] at hx
  obtain ⟨rfl,rfl⟩:=hx
  rfl
 | o::l,e,e',σ,σ',hx=>by
  simp only [Ww] at hx
  split at hx
  ·rename_i y hy
   simp only [WW,hy,Option.bind_some]
   exact yJ hx
  ·simp only [Option.map_eq_some_iff,Prod.mk.injEq] at hx
   obtain ⟨y,_,h1,_⟩:=hx
   cases h1
theorem EK {r r':Runner} (h:LeR r r'):∀ {l:List I} {e:Env} {σ:Heap} {x:Env × Heap},WW r l e σ = some x→WW r' l e σ = some x
 | [],_,_,_,hx=>hx
 | o::l,e,σ,x,hx=>by
  simp only [WW,Option.bind_eq_some_iff,Xl,Option.map_eq_some_iff] at hx ⊢
  obtain ⟨y,⟨z,hz,hy⟩,hx⟩:=hx
  exact ⟨y,⟨z,yh h hz,hy⟩,EK h hx⟩
theorem yW {x:Res} {f:Env→Heap→Res} {r:Ex × Env × Heap} (h:Ex.then x f = some r):(∃ e σ,x = some (.normal,e,σ)∧f e σ = some r)∨(x = some r∧∀ e σ,r ≠ (.normal,e,σ)):=by
 unfold Ex.then at h
 split at h
 ·rename_i e σ; exact .inl ⟨e,σ,rfl,h⟩
 ·rename_i hne; exact .inr ⟨h,fun e σ he=>hne e σ (by rw [h,he])⟩
theorem En {r:Ex × Env × Heap} (h:∀ e σ,r ≠ (.normal,e,σ)) (f:Env→Heap→Res):Ex.then (some r) f = some r:=by
 unfold Ex.then
 split
 ·rename_i e σ he
  injection he with he
  exact absurd he (h e σ)
 ·rfl
theorem JJ {x x':Res} {f f':Env→Heap→Res} (hx:∀ r,x = some r→x' = some r) (hf:∀ e σ r,f e σ = some r→f' e σ = some r) {r:Ex × Env × Heap} (h:Ex.then x f = some r):Ex.then x' f' = some r:=by
 rcases yW h with ⟨e,σ,h1,h2⟩ | ⟨h1,h2⟩
 ·rw [hx _ h1]
  exact hf _ _ _ h2
 ·rw [hx _ h1]
  exact En h2 _
theorem KW {f f':Env→Heap→Res} (hf:∀ e σ r,f e σ = some r→f' e σ = some r):∀ {n m:Nat},n≤m→∀ {e:Env} {σ:Heap} {r:Ex × Env × Heap},U8 f n e σ = some r→U8 f' m e σ = some r
 | 0,_,_,_,_,_,h=>by simp [U8] at h
 | n+1,m,hm,e,σ,r,h=>by
  obtain ⟨m,rfl⟩:∃ k,m = k+1:=⟨m - 1,by omega⟩
  simp only [U8] at h ⊢
  exact JJ (hf e σ) (fun e σ r hr=>KW hf (by omega) hr) h
theorem XH {r r':Runner} (h:LeR r r') {n m:Nat} (hn:n≤m):∀ (c:AC) {e:Env} {σ:Heap} {x:Ex × Env × Heap},Xa r n c e σ = some x→Xa r' m c e σ = some x
 | .skip,_,_,_,hx=>hx
 | .ops l,e,σ,x,hx=>by
  simp only [Xa] at hx ⊢
  exact WB h hx
 | .par l,e,σ,x,hx=>by
  simp only [Xa,Option.map_eq_some_iff] at hx ⊢
  obtain ⟨y,hy,hx⟩:=hx
  exact ⟨y,EK h hy,hx⟩
 | .parc ps l,e,σ,x,hx=>by
  simp only [Xa] at hx ⊢
  split at hx
  ·rename_i hall
   have h1:=WB h hx
   rw [if_pos (fun p hp=>?_)]
   ·exact h1
   ·have h2:=hall p hp
    rw [hx] at h2
    rw [h1]
    cases hq:YQ r (Xr l p) e σ with
    | none=>rw [hq] at h2; exact (QV h2).elim
    | some y=>rw [hq] at h2; rw [WB h hq]; exact h2
  ·simp at hx
 | .bad,_,_,_,hx=>hx
 | .seq a b,e,σ,x,hx=>by
  simp only [Xa] at hx ⊢
  exact JJ (fun r=>XH h hn a) (fun e σ r=>XH h hn b) hx
 | .cond c a b,e,σ,x,hx=>by
  simp only [Xa] at hx ⊢
  split at hx
  ·rename_i t ht
   cases t
   ·exact XH h hn b hx
   ·exact XH h hn a hx
  ·simp at hx
 | .block id b,e,σ,x,hx=>by
  simp only [Xa] at hx ⊢
  split at hx
  ·rename_i j e' σ' hh
   rw [XH h hn b hh]
   exact hx
  ·rename_i hne
   rw [XH h hn b hx]
   split
   ·rename_i j e' σ' heq
    rw [heq] at hx
    exact absurd hx (hne j e' σ')
   ·rfl
 | .loop b,e,σ,x,hx=>by
  simp only [Xa] at hx ⊢
  exact KW (fun e σ r=>XH h hn b) hn hx
 | .exit id,_,_,_,hx=>hx
 | .ret,_,_,_,hx=>hx
 | .rfn g k rd,e,σ,x,hx=>by
  simp only [Xa] at hx ⊢
  exact xY h hx
theorem Dn {a:AF} {x x':Res} (h:∀ r,x = some r→x' = some r) {y:V × Heap} (hy:Qc a x = some y):Qc a x' = some y:=by
 cases hx:x with
 | none=>rw [hx] at hy; simp [Qc] at hy
 | some r=>rw [h r hx]; rw [hx] at hy; exact hy
theorem gF {A A':AP} (hb:∀ k B,A.bods k = some B→A'.bods k = some B) {r r':Runner} (h:LeR r r') {n m:Nat} (hn:n≤m) {k:Nat} {args:List V} {σ:Heap} {x:V × Heap} (hx:yU A r n k args σ = some x):yU A' r' m k args σ = some x:=by
 unfold yU at hx ⊢
 split at hx
 ·rename_i B b xs hB
  rw [hb _ _ hB]
  simp only
  split at hx
  ·rename_i k' rd caps hb'
   try rw [hb']
   try simp only
   split at hx
   ·rename_i hc
    try rw [if_pos hc]
    split at hx
    ·rename_i e1 σ1 h1
     rw [XH h hn _ h1]
     simp only
     split at hx
     ·rename_i k1 rd1 caps1 hb1
      try rw [hb1]
      try simp only
      split at hx
      ·rename_i ex e2 σ2 h2
       rw [XH h hn _ h2]
       exact hx
      ·cases hx
     ·cases hx
    ·cases hx
   ·cases hx
  ·cases hx
 ·cases hx
theorem xz (A:AP):∀ n,LeR (XB A n) (XB A (n+1))
 | 0=>fun f as σ x h=>by simp [XB] at h
 | n+1=>fun f as σ x h=>by
  have ih:=xz A n
  rw [XB] at h ⊢
  cases hmk:UK as with
  | true =>
   rw [hmk,cond_true] at h
   rw [cond_true]
   exact gF (fun _ _ h=>h) ih (Nat.le_succ n) h
  | false =>
   rw [hmk,cond_false] at h
   rw [cond_false]
   split at h
   ·exact h
   ·split at h
    ·rename_i a ha
     exact Dn (fun r hr=>XH ih (Nat.le_succ n) a.body hr) h
    ·simp at h
theorem XD (A:AP) {n m:Nat} (h:n≤m):LeR (XB A n) (XB A m):=by
 induction m with
 | zero =>
  have:n = 0:=by omega
  subst this
  exact fun _ _ _ _ h=>h
 | succ m ih =>
  by_cases e:n = m+1
  ·subst e; exact fun _ _ _ _ h=>h
  ·exact fun f as σ x hx=>xz A m f as σ x (ih (by omega) f as σ x hx)
open Classical in
noncomputable def lim {α:Type} (x:Nat→Option α):Option α:=if h:∃ n r,x n = some r then x h.choose else none
theorem u4 {α:Type} {x:Nat→Option α} (hm:∀ n m r,n≤m→x n = some r→x m = some r) {n:Nat} {r:α} (h:x n = some r):lim x = some r:=by
 unfold lim
 have he:∃ n r,x n = some r:=⟨n,r,h⟩
 rw [dif_pos he]
 obtain ⟨r',hr'⟩:=he.choose_spec
 have h1:=hm _ (max n he.choose) _ (Nat.le_max_left _ _) h
 have h2:=hm _ (max n he.choose) _ (Nat.le_max_right _ _) hr'
 rw [h1] at h2
 injection h2 with h2
 subst h2
 exact hr'
theorem sM {α:Type} {x:Nat→Option α} {r:α} (h:lim x = some r):∃ n,x n = some r:=by
 unfold lim at h
 split at h
 ·exact ⟨_,h⟩
 ·simp at h
theorem U1 {α:Type} {x y:Option α} (h:∀ r,x = some r↔y = some r):x = y:=by
 cases x with
 | none =>
  cases y with
  | none=>rfl
  | some b=>have:=(h b).2 rfl; simp at this
 | some a=>exact ((h a).1 rfl).symm
noncomputable def Run (A:AP):Runner:=fun f as σ=>lim fun n=>XB A n f as σ
noncomputable def WS (A:AP) (c:AC) (e:Env) (σ:Heap):Res:=lim fun n=>Xa (XB A n) n c e σ
section
variable {A:AP}
theorem yx {n:Nat} {f:FuncId} {as:List V} {σ:Heap} {r:V × Heap} (h:XB A n f as σ = some r):Run A f as σ = some r :=
 u4 (fun _ _ _ hnm hx=>XD A hnm _ _ _ _ hx) h
theorem Jv {f:FuncId} {as:List V} {σ:Heap} {r:V × Heap} (h:Run A f as σ = some r):∃ n,XB A n f as σ = some r:=sM h
theorem XO {n:Nat} {c:AC} {e:Env} {σ:Heap} {r:Ex × Env × Heap} (h:Xa (XB A n) n c e σ = some r):WS A c e σ = some r :=
 u4 (fun _ _ _ hnm hx=>XH (XD A hnm) hnm c hx) h
theorem Wa {c:AC} {e:Env} {σ:Heap} {r:Ex × Env × Heap} (h:WS A c e σ = some r):∃ n,Xa (XB A n) n c e σ = some r:=sM h
theorem ve (n:Nat):LeR (XB A n) (Run A):=fun _ _ _ _ h=>yx h
theorem DF {q:Bool} {v:V} {as:List V} {τ:Heap} {x:V × Heap} (hq:Y4 (Run A) q v as τ = some x):∃ n,Y4 (XB A n) q v as τ = some x:=by
 simp only [Y4,Option.bind_eq_some_iff] at hq ⊢
 obtain ⟨t,ht,y,hy,z,hz,hq⟩:=hq
 obtain ⟨n,hn⟩:=Jv hz
 exact ⟨n,t,ht,y,hy,z,hn,hq⟩
theorem vZ {v:V} {as:List V} {τ:Heap} {x:V × Heap} (hq:W9 (Run A) v as τ = some x):∃ n,W9 (XB A n) v as τ = some x:=by
 simp only [W9,Option.bind_eq_some_iff] at hq ⊢
 obtain ⟨t,ht,y,hy,z,hz,hq⟩:=hq
 obtain ⟨n,hn⟩:=Jv hz
 exact ⟨n,t,ht,y,hy,z,hn,hq⟩
theorem rS {o:I} {e:Env} {σ:Heap} {z:V × Heap} (hz:Y1 (Run A) o e σ = some z):∃ n,Y1 (XB A n) o e σ = some z:=by
 have hins:∀ i e τ x,Xk (Run A) i e τ = some x→∃ n,Xk (XB A n) i e τ = some x:=by
  intro i e τ x hi
  cases i with
  | p i=>exact ⟨0,hi⟩
  | h i =>
   cases i with
   | call f as=>exact DF hi
   | callq f as=>exact DF hi
   | _=>exact ⟨0,hi⟩
 obtain ⟨dst,g,ins⟩:=o
 cases g with
 | none=>exact hins _ _ _ _ hz
 | some p =>
  obtain ⟨t,want⟩:=p
  simp only [Y1] at hz ⊢
  split at hz
  ·rename_i b hb
   cases hw:b == want
   ·rw [hw] at hz; exact ⟨0,hz⟩
   ·rw [hw] at hz; exact hins _ _ _ _ hz
  ·exact ⟨0,hz⟩
  ·simp at hz
theorem w7 {o:I} {e:Env} {σ:Heap} {z:Env × Heap} (hz:XA (Run A) o e σ = some z):∃ n,XA (XB A n) o e σ = some z:=by
 simp only [Xl,Option.map_eq_some_iff] at hz ⊢
 obtain ⟨y,hy,hz⟩:=hz
 obtain ⟨n,hn⟩:=rS hy
 exact ⟨n,y,hn,hz⟩
theorem kJ {o:I} {e:Env} {σ:Heap} {z:V × Heap} (hz:WH (Run A) o e σ = some z):∃ n,WH (XB A n) o e σ = some z:=by
 unfold WH at hz ⊢
 cases hc:XN o e with
 | false=>rw [hc] at hz; simp at hz
 | true =>
  rw [hc] at hz
  simp only [cond_true] at hz ⊢
  split at hz
  ·exact vZ hz
  ·exact ⟨0,hz⟩
  ·simp at hz
theorem kQ:∀ {l:List I} {e:Env} {σ:Heap} {r:Ex × Env × Heap},Ww (Run A) l e σ = some r→∃ n,Ww (XB A n) l e σ = some r
 | [],_,_,_,h=>⟨0,h⟩
 | o::l,e,σ,r,h=>by
  simp only [Ww] at h
  split at h
  ·rename_i y hy
   obtain ⟨n1,h1⟩:=w7 hy
   obtain ⟨n2,h2⟩:=kQ h
   refine ⟨max n1 n2,?_⟩
   simp only [Ww,KS (XD A (Nat.le_max_left n1 n2)) h1]
   exact wj (XD A (Nat.le_max_right n1 n2)) h2
  ·simp only [Option.map_eq_some_iff] at h
   obtain ⟨y,hy,h⟩:=h
   obtain ⟨n,hn⟩:=kJ hy
   refine ⟨n,?_⟩
   simp only [Ww,JR (fun _ _ _ _ h=>h) hn,hn,Option.map_some,h]
theorem rY {k:Nat} {av:List V} {σ:Heap} {x:V × Heap} (hx:U2 (Run A) k av σ = some x):∃ n,U2 (XB A n) k av σ = some x:=by
 simp only [U2,Option.bind_eq_some_iff] at hx
 obtain ⟨y,hy,z,hz,hx⟩:=hx
 obtain ⟨n,hn⟩:=Jv hz
 exact ⟨n,by simp only [U2,hy,Option.bind_some,hn,hx]⟩
theorem uC {k:Nat} {av:List V} {σ:Heap} {x:V × Heap} (hx:VG (Run A) k av σ = some x):∃ n,VG (XB A n) k av σ = some x:=by
 simp only [VG,Option.bind_eq_some_iff] at hx
 obtain ⟨y,hy,z,hz,hx⟩:=hx
 obtain ⟨n,hn⟩:=Jv hz
 exact ⟨n,by simp only [VG,hy,Option.bind_some,hn,hx]⟩
theorem yldI_to {o:I} {e:Env} {σ:Heap} {x:Env × Heap} (hx:Vz (Run A) o e σ = some x):∃ n,Vz (XB A n) o e σ = some x:=by
 unfold Vz at hx
 cases hg:XN o e with
 | false=>rw [hg] at hx; cases hx
 | true =>
  rw [hg,cond_true] at hx
  split at hx
  ·rename_i f args hins
   split at hx
   ·rename_i b hb
    split at hx
    ·rename_i k rd caps st hblk
     simp only [Option.map_eq_some_iff] at hx
     obtain ⟨y,hy,hx⟩:=hx
     obtain ⟨n,hn⟩:=rY hy
     exact ⟨n,by unfold Vz; simp only [hg,cond_true,hins,hb,hblk,hn,Option.map_some,hx]⟩
    ·cases hx
   ·cases hx
  ·cases hx
theorem Ri:∀ {l:List I} {e:Env} {σ:Heap} {r:Ex × Env × Heap},YQ (Run A) l e σ = some r→∃ n,YQ (XB A n) l e σ = some r
 | [],_,_,_,h=>⟨0,h⟩
 | o::l,e,σ,r,h=>by
  simp only [YQ] at h
  split at h
  ·rename_i y hy
   obtain ⟨n1,h1⟩:=w7 hy
   obtain ⟨n2,h2⟩:=Ri h
   refine ⟨max n1 n2,?_⟩
   simp only [YQ,KS (XD A (Nat.le_max_left n1 n2)) h1]
   exact WB (XD A (Nat.le_max_right n1 n2)) h2
  ·split at h
   ·rename_i y hy
    obtain ⟨n1,h1⟩:=yldI_to hy
    obtain ⟨n2,h2⟩:=Ri h
    refine ⟨max n1 n2,?_⟩
    simp only [YQ,EW h1,xO (XD A (Nat.le_max_left n1 n2)) h1]
    exact WB (XD A (Nat.le_max_right n1 n2)) h2
   ·simp only [Option.map_eq_some_iff] at h
    obtain ⟨y,hy,h⟩:=h
    obtain ⟨n,hn⟩:=kJ hy
    refine ⟨n,?_⟩
    simp only [YQ,JR (fun _ _ _ _ h=>h) hn,RT hn,hn,Option.map_some,h]
theorem opsV_to {l:List I} {e:Env} {σ:Heap} {r:Env × Heap} (h:WW (Run A) l e σ = some r):∃ n,WW (XB A n) l e σ = some r:=by
 obtain ⟨e',σ'⟩:=r
 obtain ⟨n,hn⟩:=kQ (kS h)
 exact ⟨n,yJ hn⟩
@[simp] theorem then_normal (e:Env) (σ:Heap) (f:Env→Heap→Res):Ex.then (some (.normal,e,σ)) f = f e σ:=rfl
@[simp] theorem then_exit (id:Nat) (e:Env) (σ:Heap) (f:Env→Heap→Res):Ex.then (some (.exit id,e,σ)) f = some (.exit id,e,σ):=rfl
@[simp] theorem then_panic (x:V) (e:Env) (σ:Heap) (f:Env→Heap→Res):Ex.then (some (.panic x,e,σ)) f = some (.panic x,e,σ):=rfl
@[simp] theorem then_ret (e:Env) (σ:Heap) (f:Env→Heap→Res):Ex.then (some (.ret,e,σ)) f = some (.ret,e,σ):=rfl
theorem tj (e:Env) (σ:Heap):WS A .skip e σ = some (.normal,e,σ):=XO (n:=0) rfl
theorem tw (id:Nat) (e:Env) (σ:Heap):WS A (.exit id) e σ = some (.exit id,e,σ):=XO (n:=0) rfl
theorem s7 (e:Env) (σ:Heap):WS A .ret e σ = some (.ret,e,σ):=XO (n:=0) rfl
theorem jb (l:List I) (e:Env) (σ:Heap):WS A (.ops l) e σ = YQ (Run A) l e σ:=by
 refine U1 fun r=>⟨fun h=>?_,fun h=>?_⟩
 ·obtain ⟨n,h⟩:=Wa h
  simp only [Xa] at h
  exact WB (ve n) h
 ·obtain ⟨n,hn⟩:=Ri h
  exact XO (n:=n) (by simp only [Xa]; exact hn)
theorem rp (l:List I) (e:Env) (σ:Heap):WS A (.par l) e σ = (WW (Run A) l e σ).map fun r=>(.normal,r.1,r.2):=by
 refine U1 fun r=>⟨fun h=>?_,fun h=>?_⟩
 ·obtain ⟨n,h⟩:=Wa h
  simp only [Xa,Option.map_eq_some_iff] at h ⊢
  obtain ⟨y,hy,h⟩:=h
  exact ⟨y,EK (ve n) hy,h⟩
 ·simp only [Option.map_eq_some_iff] at h
  obtain ⟨y,hy,h⟩:=h
  obtain ⟨n,hn⟩:=opsV_to hy
  refine XO (n:=n) ?_
  simp only [Xa,Option.map_eq_some_iff]
  exact ⟨y,hn,h⟩
theorem sb {ps:List (List Nat)} {l:List I} {e:Env} {σ:Heap} {x:Ex × Env × Heap} (hx:YQ (Run A) l e σ = some x) (hall:∀ p∈ps,UF (YQ (Run A) (Xr l p) e σ) (some x)):WS A (.parc ps l) e σ = some x:=by
 obtain ⟨n0,h0⟩:=Ri hx
 have key:∀ qs:List (List Nat),(∀ p∈qs,UF (YQ (Run A) (Xr l p) e σ) (some x))→∃ n,∀ p∈qs,UF (YQ (XB A n) (Xr l p) e σ) (some x):=by
  intro qs
  induction qs with
  | nil=>exact fun _=>⟨0,by simp⟩
  | cons q qs ih =>
   intro h
   obtain ⟨n1,h1⟩:=ih (fun p hp=>h p (.tail _ hp))
   have hq:=h q (.head _)
   cases hr:YQ (Run A) (Xr l q) e σ with
   | none=>rw [hr] at hq; exact (QV hq).elim
   | some y =>
    obtain ⟨n2,h2⟩:=Ri hr
    refine ⟨max n1 n2,fun p hp=>?_⟩
    rcases List.mem_cons.1 hp with rfl | hp
    ·rw [WB (XD A (Nat.le_max_right n1 n2)) h2,← hr]; exact hq
    ·have h3:=h1 p hp
     cases h4:YQ (XB A n1) (Xr l p) e σ with
     | none=>rw [h4] at h3; exact (QV h3).elim
     | some z=>rw [h4] at h3; rw [WB (XD A (Nat.le_max_left n1 n2)) h4]; exact h3
 obtain ⟨n1,h1⟩:=key ps hall
 refine XO (n:=max n0 n1) ?_
 have h2:=WB (XD A (Nat.le_max_left n0 n1)) h0
 simp only [Xa]
 rw [if_pos (fun p hp=>?_)]
 ·exact h2
 ·have h3:=h1 p hp
  rw [h2]
  cases h4:YQ (XB A n1) (Xr l p) e σ with
  | none=>rw [h4] at h3; exact (QV h3).elim
  | some z=>rw [h4] at h3; rw [WB (XD A (Nat.le_max_right n0 n1)) h4]; exact h3
theorem RR (a b:AC) (e:Env) (σ:Heap):WS A (.seq a b) e σ = Ex.then (WS A a e σ) (WS A b):=by
 refine U1 fun r=>⟨fun h=>?_,fun h=>?_⟩
 ·obtain ⟨n,h⟩:=Wa h
  simp only [Xa] at h
  exact JJ (fun r hr=>XO hr) (fun e σ r hr=>XO hr) h
 ·rcases yW h with ⟨e1,σ1,h1,h2⟩ | ⟨h1,h2⟩
  ·obtain ⟨n1,h1⟩:=Wa h1
   obtain ⟨n2,h2⟩:=Wa h2
   refine XO (n:=max n1 n2) ?_
   simp only [Xa]
   rw [XH (XD A (Nat.le_max_left n1 n2)) (Nat.le_max_left n1 n2) a h1]
   exact XH (XD A (Nat.le_max_right n1 n2)) (Nat.le_max_right n1 n2) b h2
  ·obtain ⟨n1,h1⟩:=Wa h1
   refine XO (n:=n1) ?_
   simp only [Xa]
   rw [h1]
   exact En h2 _
theorem uE (c:O) (a b:AC) (e:Env) (σ:Heap):WS A (.cond c a b) e σ = match c.ev e with
  | .s (.bool t)=>bif t then WS A a e σ else WS A b e σ
  | _=>none:=by
 refine U1 fun r=>⟨fun h=>?_,fun h=>?_⟩
 ·obtain ⟨n,h⟩:=Wa h
  simp only [Xa] at h
  split at h
  ·rename_i t ht
   rw [ht]
   cases t
   ·exact XO h
   ·exact XO h
  ·simp at h
 ·split at h
  ·rename_i t ht
   cases t
   ·obtain ⟨n,h⟩:=Wa h
    refine XO (n:=n) ?_
    simp only [Xa,ht]
    exact h
   ·obtain ⟨n,h⟩:=Wa h
    refine XO (n:=n) ?_
    simp only [Xa,ht]
    exact h
  ·simp at h
def Ex.out (id:Nat) (r:Res):Res :=
 match r with
 | some (.exit j,e,σ)=>bif j == id then some (.normal,e,σ) else some (.exit j,e,σ)
 | r=>r
@[simp] theorem out_normal (id:Nat) (e:Env) (σ:Heap):Ex.out id (some (.normal,e,σ)) = some (.normal,e,σ):=rfl
@[simp] theorem out_ret (id:Nat) (e:Env) (σ:Heap):Ex.out id (some (.ret,e,σ)) = some (.ret,e,σ):=rfl
@[simp] theorem out_panic (id:Nat) (x:V) (e:Env) (σ:Heap):Ex.out id (some (.panic x,e,σ)) = some (.panic x,e,σ):=rfl
@[simp] theorem out_exit (id j:Nat) (e:Env) (σ:Heap):Ex.out id (some (.exit j,e,σ)) = bif j == id then some (.normal,e,σ) else some (.exit j,e,σ):=rfl
theorem yo (r:Runner) (n id:Nat) (b:AC) (e:Env) (σ:Heap):Xa r n (.block id b) e σ = Ex.out id (Xa r n b e σ):=rfl
theorem QQ (id:Nat) (b:AC) (e:Env) (σ:Heap):WS A (.block id b) e σ = Ex.out id (WS A b e σ):=by
 refine U1 fun r=>⟨fun h=>?_,fun h=>?_⟩
 ·obtain ⟨n,h⟩:=Wa h
  rw [yo] at h
  cases hx:Xa (XB A n) n b e σ with
  | none=>rw [hx] at h; simp [Ex.out] at h
  | some y=>rw [XO hx]; rw [hx] at h; exact h
 ·cases hx:WS A b e σ with
  | none=>rw [hx] at h; simp [Ex.out] at h
  | some y =>
   obtain ⟨n,hn⟩:=Wa hx
   refine XO (n:=n) ?_
   rw [yo,hn]
   rw [hx] at h
   exact h
theorem xV (b:AC) (e:Env) (σ:Heap):WS A (.loop b) e σ = Ex.then (WS A b e σ) (WS A (.loop b)):=by
 refine U1 fun r=>⟨fun h=>?_,fun h=>?_⟩
 ·obtain ⟨n,h⟩:=Wa h
  simp only [Xa] at h
  cases n with
  | zero=>simp [U8] at h
  | succ n =>
   simp only [U8] at h
   refine JJ (fun r hr=>XO hr) (fun e σ r hr=>?_) h
   refine XO (n:=n+1) ?_
   simp only [Xa]
   exact KW (fun _ _ _ h=>h) (Nat.le_succ n) hr
 ·rcases yW h with ⟨e1,σ1,h1,h2⟩ | ⟨h1,h2⟩
  ·obtain ⟨n1,h1⟩:=Wa h1
   obtain ⟨n2,h2⟩:=Wa h2
   refine XO (n:=max n1 n2+1) ?_
   simp only [Xa,U8] at h2 ⊢
   rw [XH (XD A (show n1≤max n1 n2+1 by omega)) (show n1≤max n1 n2+1 by omega) b h1,then_normal]
   exact KW (fun e σ r=>XH (XD A (show n2≤max n1 n2+1 by omega)) (show n2≤max n1 n2+1 by omega) b) (Nat.le_max_right n1 n2) h2
  ·obtain ⟨n1,h1⟩:=Wa h1
   refine XO (n:=n1+1) ?_
   simp only [Xa,U8]
   rw [XH (XD A (Nat.le_succ n1)) (Nat.le_succ n1) b h1]
   exact En h2 _
theorem yq {f:FuncId} {a:AF} (hp:A.prims f = none) (ha:A.fns f = some a) (as:List V) (σ:Heap) (hmk:UK as = false:=by rfl):Run A f as σ = Qc a (WS A a.body (Kp a as) σ):=by
 refine U1 fun r=>⟨fun h=>?_,fun h=>?_⟩
 ·obtain ⟨n,h⟩:=Jv h
  cases n with
  | zero=>simp [XB] at h
  | succ n =>
   simp only [XB,hp,ha,hmk,cond_false] at h
   exact Dn (fun r hr=>XO hr) h
 ·cases hx:WS A a.body (Kp a as) σ with
  | none=>rw [hx] at h; simp [Qc] at h
  | some y =>
   obtain ⟨n,hn⟩:=Wa hx
   refine yx (n:=n+1) ?_
   simp only [XB,hp,ha,hmk,cond_false]
   rw [hn]
   rw [hx] at h
   exact h
theorem Qm {f:FuncId} {pf:List V→Heap→Option (V × Heap)} (hp:A.prims f = some pf) (as:List V) (σ:Heap) (hmk:UK as = false:=by rfl):Run A f as σ = pf as σ:=by
 refine U1 fun r=>⟨fun h=>?_,fun h=>?_⟩
 ·obtain ⟨n,h⟩:=Jv h
  cases n with
  | zero=>simp [XB] at h
  | succ n=>simpa only [XB,hp,hmk,cond_false] using h
 ·exact yx (n:=1) (by simp only [XB,hp,hmk,cond_false]; exact h)
end
def zw (f:FuncId):List (FuncId × AF)→Option AF
 | []=>none
 | (k,a)::l=>bif k == f then some a else zw f l
def vG (P:Program):List (FuncId × AF)→Prop
 | []=>True
 | (k,a)::l=>(∃ fn pc,P.funcs[k]? = some fn∧wK P pc fn = some a)∧vG P l
theorem zg {P:Program} {f:FuncId} {a:AF}:∀ {l:List (FuncId × AF)},vG P l→zw f l = some a→∃ fn pc,P.funcs[f]? = some fn∧wK P pc fn = some a
 | [],_,h=>by simp [zw] at h
 | (k,b)::l,hg,h=>by
  unfold zw at h
  cases hk:k == f
  ·rw [hk] at h; exact zg hg.2 h
  ·rw [hk] at h
   simp only [cond_true,Option.some.injEq] at h
   subst h
   have:k = f:=by simpa using hk
   subst this
   exact hg.1
theorem run_ok [Bas] {P:Program} {A:AP} (hA:wB P A) (hp:E2 P A) (hm:P.follows .mixedOrders = true) (hB:z7 P A:=by intro _ _ h; cases h):Wu P (Run A):=by
 intro f args σ v σ' h
 obtain ⟨n,hn⟩:=Jv h
 exact runF_ok hA hB hp hm n f args σ v σ' hn
theorem ul [Bas] {P:Program} {A:AP} (hr:Wu P (Run A)) {f:FuncId} {args:List V} {σ σ':Heap} (h:Run A f args σ = some (.s (.bool true),σ')) {ι:Inj} {W:World} {as:List Value} (hR:RelW ι σ W) (hD:Dom ι σ) (hv:VRL ι args as) (hro:∀ b,¬ mutb σ b) :
  Calls P f as.toArray W fun e W'=>e = .returned (.bool true)∧Go.RowKit.Below W.heap.size W W':=by
 obtain ⟨_,hcalls⟩:=hr f args σ _ σ' h (qU hv)
 refine (hcalls ι W as hR hD hv).mono ?_
 rintro e W' ⟨ι',⟨v',rfl,hv'⟩,hp⟩
 simp only [VR,S.val] at hv'
 subst hv'
 exact ⟨rfl,hp.same.os,hp.same.tape,hp.same.output,hp.same.size,fun k hk=>hp.frame k hk (fun b p _ hm=>absurd hm (hro b))⟩
end Go.Am
namespace Go.Am
open Go
abbrev FE:=Nat→V
abbrev HA:=List (Nat × Blk)
def E (N:Nat) (f:FE):Env:=(List.range N).map f
def rd (N:Nat) (f:FE) (n:Nat):V:=bif Nat.blt n N then f n else .undef
def O.fv (N:Nat) (f:FE):O→V
 | .t n=>rd N f n
 | .k v=>v
def upd (f:FE) (d:Nat) (v:V):FE:=fun i=>bif Nat.beq i d then v else f i
def Y8 (f:FE) (d:Option Nat) (v:V):FE :=
 match d with
 | some d=>upd f d v
 | none=>f
theorem Uq (N:Nat) (f:FE) (n:Nat):(E N f).getD n .undef = rd N f n:=by
 unfold E rd
 rw [List.getD_eq_getElem?_getD,List.getElem?_map]
 by_cases h:n < N
 ·rw [List.getElem?_range h]
  have:Nat.blt n N = true:=Nat.ble_eq_true_of_le h
  simp [this]
 ·rw [List.getElem?_eq_none (by simpa using h)]
  have:Nat.blt n N = false:=by
   cases hb:Nat.blt n N with
   | false=>rfl
   | true=>simp at hb; omega
  simp [this]
theorem Y7 (N:Nat) (f:FE) (x:O):x.ev (E N f) = x.fv N f:=by
 cases x with
 | t n=>exact Uq N f n
 | k v=>rfl
theorem ua (N:Nat) (f:FE) (xs:List O):xs.map (·.ev (E N f)) = xs.map (O.fv N f):=List.map_congr_left fun x _=>Y7 N f x
theorem JE (N:Nat) (f:FE) (d:Option Nat) (v:V):Xz (E N f) d v = E N (Y8 f d v):=by
 cases d with
 | none=>rfl
 | some d =>
  simp only [Xz,Y8,E]
  refine List.ext_getElem (by simp) fun i h1 h2=>?_
  simp only [List.getElem_set,List.getElem_map,List.getElem_range,upd]
  by_cases h:d = i
  ·subst h; simp
  ·rw [if_neg h]
   have:Nat.beq i d = false:=by
    cases hb:Nat.beq i d with
    | false=>rfl
    | true=>exact absurd (Nat.eq_of_beq_eq_true hb).symm h
   rw [this]; rfl
theorem DZ {f:FE} {d:Nat} {v:V} (h:f d = v):upd f d v = f:=by
 funext i
 unfold upd
 cases hb:Nat.beq i d with
 | false=>rfl
 | true=>rw [Nat.eq_of_beq_eq_true hb,h]; rfl
theorem NM:(∀ a b:Int,((a == b) = true) = (a = b))∧(∀ a b:Int,((a == b) = false) = ¬ (a = b))∧(∀ a b:Int,((a != b) = true) = ¬ (a = b))∧(∀ a b:Int,((a != b) = false) = (a = b)) ∧
  (∀ (p:Prop) [Decidable p],(decide p = true) = p)∧(∀ (p:Prop) [Decidable p],(decide p = false) = ¬ p)∧(∀ a b:Int,(a > b) = (b < a))∧(∀ a b:Int,(a ≥ b) = (b≤a))∧(∀ a b:Int,(¬ a < b) = (b≤a))∧(∀ a b:Int,(¬ a≤b) = (b < a)) ∧
  (∀ p:Prop,(¬¬ p) = p)∧(∀ b:Bool,(¬ b = true) = (b = false))∧(∀ b:Bool,(¬ b = false) = (b = true))∧(∀ b:Bool,((!b) = true) = (b = false))∧(∀ b:Bool,((!b) = false) = (b = true))∧(∀ a b:Bool,cond true a b = a)∧(∀ a b:Bool,cond false a b = b)∧(∀ a b:Int,(a ≠ b) = ¬ (a = b)):=by
 refine ⟨fun a b=>?_,fun a b=>?_,fun a b=>?_,fun a b=>?_,fun p _=>?_,fun p _=>?_,fun a b=>?_,fun a b=>?_,fun a b=>?_,fun a b=>?_,fun p=>?_,fun b=>?_,fun b=>?_,fun b=>?_,fun b=>?_,fun a b=>rfl,fun a b=>rfl,fun a b=>rfl⟩ <;> simp
def HL (σ:Heap) (n:Nat):HA→Prop
 | []=>True
 | (b,B)::L=>b < n∧σ[b]? = some B∧(∀ p∈L,p.1 ≠ b)∧HL σ n L
def Hp (σ:Heap) (n:Nat) (L:HA):Prop:=σ.length = n∧HL σ n L
theorem HL.mem {σ:Heap} {n:Nat} {b:Nat} {B:Blk}:∀ {L:HA},HL σ n L→(b,B)∈L→b < n∧σ[b]? = some B
 | (c,C)::L,h,hm=>by
  rcases List.mem_cons.1 hm with he | hm
  ·injection he with h1 h2
   subst h1; subst h2
   exact ⟨h.1,h.2.1⟩
  ·exact HL.mem h.2.2.2 hm
theorem HL.lt {σ:Heap} {n:Nat}:∀ {L:HA},HL σ n L→∀ p∈L,p.1 < n
 | (c,C)::L,h,p,hm=>by
  rcases List.mem_cons.1 hm with he | hm
  ·subst he; exact h.1
  ·exact HL.lt h.2.2.2 p hm
theorem HL.keep {σ τ:Heap} {n m:Nat} (hn:n≤m):∀ {L:HA},(∀ p∈L,τ[p.1]? = σ[p.1]?)→HL σ n L→HL τ m L
 | [],_,_=>trivial
 | (c,C)::L,hk,h=>⟨by have:=h.1; omega,by rw [hk _ (.head _)]; exact h.2.1,h.2.2.1,h.2.2.2.keep hn fun p hp=>hk p (.tail _ hp)⟩
theorem Hp.new {σ:Heap} {n:Nat} {L:HA} (h:Hp σ n L) (B:Blk):Hp (σ++[B]) (n+1) ((n,B)::L):=by
 refine ⟨by simp [h.1],by omega,by rw [← h.1]; simp,fun p hp=>by have:=h.2.lt p hp; omega,h.2.keep (by omega) fun p hp=>?_⟩
 rw [List.getElem?_append_left]
 have:=h.2.lt p hp
 rw [h.1]; exact this
def setL (b:Nat) (B:Blk):HA→HA
 | []=>[]
 | (c,C)::L=>(c,bif Nat.beq c b then B else C)::setL b B L
theorem Kv {b:Nat} {B:Blk}:∀ {L:HA},(∀ p∈L,p.1 ≠ b)→setL b B L = L
 | [],_=>rfl
 | (c,C)::L,h=>by
  have hc:Nat.beq c b = false:=by
   cases hb:Nat.beq c b with
   | false=>rfl
   | true=>exact absurd (Nat.eq_of_beq_eq_true hb) (h _ (.head _))
  simp only [setL,hc,cond_false,Kv fun p hp=>h p (.tail _ hp)]
inductive At (b:Nat) (B:Blk) (B':Blk):HA→HA→Prop
 | here {L:HA}:At b B B' ((b,B)::L) ((b,B')::L)
 | there {p:Nat × Blk} {L L':HA}:At b B B' L L'→At b B B' (p::L) (p::L')
theorem At.mem {b:Nat} {B B':Blk} {L L':HA} (h:At b B B' L L'):(b,B)∈L:=by
 induction h with
 | here=>exact .head _
 | there _ ih=>exact .tail _ ih
theorem At.fst {b:Nat} {B B':Blk} {L L':HA} (h:At b B B' L L'):∀ q∈L',∃ p∈L,p.1 = q.1:=by
 induction h with
 | here =>
  intro q hq
  rcases List.mem_cons.1 hq with he | hq
  ·exact ⟨_,.head _,by rw [he]⟩
  ·exact ⟨q,.tail _ hq,rfl⟩
 | there _ ih =>
  intro q hq
  rcases List.mem_cons.1 hq with he | hq
  ·exact ⟨_,.head _,by rw [he]⟩
  ·obtain ⟨p,hp,e⟩:=ih q hq
   exact ⟨p,.tail _ hp,e⟩
theorem HL.set {σ:Heap} {n:Nat} {b:Nat} {B B':Blk} {L L':HA} (ha:At b B B' L L'):HL σ n L→σ.length = n→HL (σ.set b B') n L':=by
 induction ha with
 | @here L =>
  intro h hl
  refine ⟨h.1,by rw [List.getElem?_set_self (by rw [hl]; exact h.1)],h.2.2.1,h.2.2.2.keep (Nat.le_refl _) fun p hp=>?_⟩
  rw [List.getElem?_set_ne (Ne.symm (h.2.2.1 p hp))]
 | @there p L L' ha ih =>
  obtain ⟨c,C⟩:=p
  intro h hl
  have hne:c ≠ b:=fun e=>h.2.2.1 _ ha.mem e.symm
  refine ⟨h.1,by rw [List.getElem?_set_ne (Ne.symm hne)]; exact h.2.1,fun q hq=>?_,ih h.2.2.2 hl⟩
  obtain ⟨p,hp,e⟩:=ha.fst q hq
  rw [← e]
  exact h.2.2.1 p hp
theorem Hp.set {σ:Heap} {n:Nat} {b:Nat} {B B':Blk} {L L':HA} (ha:At b B B' L L') (h:Hp σ n L):Hp (σ.set b B') n L':=⟨by simp [h.1],h.2.set ha h.1⟩
theorem Hp.drop {σ:Heap} {n:Nat} {p:Nat × Blk} {L:HA} (h:Hp σ n (p::L)):Hp σ n L:=⟨h.1,by obtain ⟨c,C⟩:=p; exact h.2.2.2.2⟩
theorem HL.sub {σ:Heap} {n:Nat} {L L':HA} (hs:List.Sublist L' L):HL σ n L→HL σ n L':=by
 induction hs with
 | slnil=>exact fun h=>h
 | cons p hs ih =>
  obtain ⟨c,C⟩:=p
  exact fun h=>ih h.2.2.2
 | cons_cons p hs ih =>
  obtain ⟨c,C⟩:=p
  exact fun h=>⟨h.1,h.2.1,fun q hq=>h.2.2.1 q (hs.subset hq),ih h.2.2.2⟩
theorem Hp.sub {σ:Heap} {n:Nat} {L L':HA} (hs:List.Sublist L' L) (h:Hp σ n L):Hp σ n L':=⟨h.1,h.2.sub hs⟩
abbrev KN:=FE→Nat→HA→Prop
def outO (x:Ex) (f:FE) (n:Nat) (L:HA) (K:KN) (Zp:V→KN):Prop :=
 match x with
 | .normal=>K f n L
 | .panic v=>Zp v f n L
 | _=>False
def WO (A:AP) (N:Nat) (l:List I) (f:FE) (n:Nat) (L:HA) (K:KN) (Zp:V→KN):Prop :=
 ∀ σ,Hp σ n L→∃ x f' σ' n' L',Ww (Run A) l (E N f) σ = some (x,E N f',σ')∧Hp σ' n' L'∧outO x f' n' L' K Zp
def outK (x:Ex) (f:FE) (n:Nat) (L:HA) (K:KN) (X:Nat→KN) (R:KN) (Zp:V→KN):Prop :=
 match x with
 | .normal=>K f n L
 | .exit j=>X j f n L
 | .ret=>R f n L
 | .panic v=>Zp v f n L
def WP (A:AP) (N:Nat) (c:AC) (f:FE) (n:Nat) (L:HA) (K:KN) (X:Nat→KN) (R:KN) (Zp:V→KN):Prop :=
 ∀ σ,Hp σ n L→∃ x f' σ' n' L',WS A c (E N f) σ = some (x,E N f',σ')∧Hp σ' n' L'∧outK x f' n' L' K X R Zp
section
variable {A:AP} {N:Nat} {f:FE} {n:Nat} {L:HA} {K:KN} {Zp:V→KN} {X:Nat→KN} {R:KN}
theorem WP_skip (h:K f n L):WP A N .skip f n L K X R Zp:=fun σ hσ=>⟨.normal,f,σ,n,L,tj _ _,hσ,h⟩
theorem u3 (h:R f n L):WP A N .ret f n L K X R Zp:=fun σ hσ=>⟨.ret,f,σ,n,L,s7 _ _,hσ,h⟩
theorem YZ {j:Nat} (h:X j f n L):WP A N (.exit j) f n L K X R Zp:=fun σ hσ=>⟨.exit j,f,σ,n,L,tw _ _ _,hσ,h⟩
theorem qi {l:List I} (h:WO A N l f n L K Zp):WP A N (.ops l) f n L K X R Zp:=fun σ hσ=>by
 obtain ⟨x,f',σ',n',L',h1,h2,h3⟩:=h σ hσ
 refine ⟨x,f',σ',n',L',by rw [jb,UV h1],h2,?_⟩
 cases x with
 | normal=>exact h3
 | panic v=>exact h3
 | exit j=>exact h3.elim
 | ret=>exact h3.elim
theorem WP_par {l:List I} (h:WO A N l f n L K fun _ _ _ _=>False):WP A N (.par l) f n L K X R Zp:=fun σ hσ=>by
 obtain ⟨x,f',σ',n',L',h1,h2,h3⟩:=h σ hσ
 cases x with
 | normal=>exact ⟨.normal,f',σ',n',L',by rw [rp,yJ h1]; rfl,h2,h3⟩
 | panic v=>exact h3.elim
 | exit j=>exact h3.elim
 | ret=>exact h3.elim
theorem zH {a b:AC} (h:WP A N a f n L (fun f n L=>WP A N b f n L K X R Zp) X R Zp):WP A N (.seq a b) f n L K X R Zp:=fun σ hσ=>by
 obtain ⟨x,f',σ',n',L',h1,h2,h3⟩:=h σ hσ
 cases x with
 | normal =>
  obtain ⟨x,f2,σ2,n2,L2,h4,h5,h6⟩:=h3 σ' h2
  exact ⟨x,f2,σ2,n2,L2,by rw [RR,h1,then_normal,h4],h5,h6⟩
 | exit j=>exact ⟨.exit j,f',σ',n',L',by rw [RR,h1,then_exit],h2,h3⟩
 | ret=>exact ⟨.ret,f',σ',n',L',by rw [RR,h1,then_ret],h2,h3⟩
 | panic v=>exact ⟨.panic v,f',σ',n',L',by rw [RR,h1,then_panic],h2,h3⟩
theorem yF {c:O} {a b:AC} {t:Bool} (hc:c.fv N f = .s (.bool t)) (h1:t = true→WP A N a f n L K X R Zp) (h2:t = false→WP A N b f n L K X R Zp):WP A N (.cond c a b) f n L K X R Zp:=fun σ hσ=>by
 rw [uE,Y7,hc]
 cases t with
 | true=>exact h1 rfl σ hσ
 | false=>exact h2 rfl σ hσ
theorem rq {id:Nat} {b:AC} (h:WP A N b f n L K (fun j f n L=>bif Nat.beq j id then K f n L else X j f n L) R Zp):WP A N (.block id b) f n L K X R Zp:=fun σ hσ=>by
 obtain ⟨x,f',σ',n',L',h1,h2,h3⟩:=h σ hσ
 cases x with
 | normal=>exact ⟨.normal,f',σ',n',L',by rw [QQ,h1,out_normal],h2,h3⟩
 | ret=>exact ⟨.ret,f',σ',n',L',by rw [QQ,h1,out_ret],h2,h3⟩
 | panic v=>exact ⟨.panic v,f',σ',n',L',by rw [QQ,h1,out_panic],h2,h3⟩
 | exit j =>
  simp only [outK] at h3
  cases hj:Nat.beq j id with
  | true =>
   rw [hj] at h3
   exact ⟨.normal,f',σ',n',L',by rw [QQ,h1,out_exit,Nat.eq_of_beq_eq_true hj]; simp,h2,h3⟩
  | false =>
   rw [hj] at h3
   refine ⟨.exit j,f',σ',n',L',?_,h2,h3⟩
   rw [QQ,h1,out_exit]
   have:(j == id) = false:=by
    cases hq:j == id with
    | false=>rfl
    | true =>
     have:=eq_of_beq hq
     subst this
     simp at hj
   rw [this]; rfl
theorem Xc {j:Nat} {a b:Prop} (h:a):bif Nat.beq j j then a else b:=by
 have:Nat.beq j j = true:=by simp
 rw [this]; exact h
theorem xthere {i j:Nat} {a b:Prop} (hij:Nat.beq j i = false) (h:b):bif Nat.beq j i then a else b:=by rw [hij]; exact h
theorem kL {c:AC} {K':KN} {X':Nat→KN} {R':KN} (h:WP A N c f n L K X R Zp) (hK:∀ f n L,K f n L→K' f n L) (hX:∀ j f n L,X j f n L→X' j f n L) (hR:∀ f n L,R f n L→R' f n L):WP A N c f n L K' X' R' Zp:=fun σ hσ=>by
 obtain ⟨x,f',σ',n',L',h1,h2,h3⟩:=h σ hσ
 refine ⟨x,f',σ',n',L',h1,h2,?_⟩
 cases x with
 | normal=>exact hK _ _ _ h3
 | exit j=>exact hX _ _ _ _ h3
 | ret=>exact hR _ _ _ h3
 | panic v=>exact h3
theorem Xg {b:AC} (I:Nat→KN) (hb:∀ m f n L,I m f n L→WP A N b f n L (fun f n L=>∃ k L',k < m∧List.Sublist L' L∧I k f n L') X R Zp):∀ m {f:FE} {n:Nat} {L:HA},I m f n L→WP A N (.loop b) f n L K X R Zp:=by
 intro m
 induction m using Nat.strongRecOn with
 | ind m ih =>
  intro f n L hI σ hσ
  obtain ⟨x,f',σ',n',L',h1,h2,h3⟩:=hb m f n L hI σ hσ
  rw [xV]
  cases x with
  | normal =>
   obtain ⟨k,L3,hk,hs,hIk⟩:=h3
   obtain ⟨x,f2,σ2,n2,L2,h4,h5,h6⟩:=ih k hk hIk σ' (h2.sub hs)
   exact ⟨x,f2,σ2,n2,L2,by rw [h1,then_normal,h4],h5,h6⟩
  | exit j=>exact ⟨.exit j,f',σ',n',L',by rw [h1,then_exit],h2,h3⟩
  | ret=>exact ⟨.ret,f',σ',n',L',by rw [h1,then_ret],h2,h3⟩
  | panic v=>exact ⟨.panic v,f',σ',n',L',by rw [h1,then_panic],h2,h3⟩
theorem pI {c:AC} {d:Nat} {v:V} (h:f d = v) (k:WP A N c (upd f d v) n L K X R Zp):WP A N c f n L K X R Zp:=by rw [DZ h] at k; exact k
theorem Xe {c:AC} {L':HA} (hs:List.Sublist L' L) (k:WP A N c f n L' K X R Zp):WP A N c f n L K X R Zp:=fun σ hσ=>k σ (hσ.sub hs)
theorem qA (h:K f n L):WO A N [] f n L K Zp:=fun σ hσ=>⟨.normal,f,σ,n,L,rfl,hσ,h⟩
theorem WO_case {l:List I} {t:Nat} {b:Bool} (h:rd N f t = .s (.bool b)) (kt:b = true→WO A N l (upd f t (.s (.bool true))) n L K Zp) (kf:b = false→WO A N l (upd f t (.s (.bool false))) n L K Zp):WO A N l f n L K Zp:=by
 have ht:f t = .s (.bool b):=by
  unfold rd at h
  cases hb:Nat.blt t N with
  | true=>rw [hb] at h; exact h
  | false=>rw [hb] at h; cases h
 cases b with
 | true=>have:=kt rfl; rw [DZ ht] at this; exact this
 | false=>have:=kf rfl; rw [DZ ht] at this; exact this
theorem WO_gt {l:List I} {d:Option Nat} {t:Nat} {want:Bool} {i:Ins} (h:rd N f t = .s (.bool want)) (k:WO A N (⟨d,none,i⟩::l) f n L K Zp):WO A N (⟨d,some (t,want),i⟩::l) f n L K Zp:=fun σ hσ=>by
 obtain ⟨x,f',σ',n',L',h1,h2,h3⟩:=k σ hσ
 refine ⟨x,f',σ',n',L',?_,h2,h3⟩
 rw [← h1]
 have hp:WH (Run A) ⟨d,some (t,want),i⟩ (E N f) σ = WH (Run A) ⟨d,none,i⟩ (E N f) σ:=by
  have e1:XN ⟨d,some (t,want),i⟩ (E N f) = true:=by simp only [XN,Uq,h,beq_self_eq_true]
  have e2:XN ⟨d,none,i⟩ (E N f) = true:=rfl
  simp only [WH,e1,e2]
 simp only [Ww,XA,Uq,h,beq_self_eq_true,cond_true,hp]
theorem WO_gf {l:List I} {d:Option Nat} {t:Nat} {want b:Bool} {i:Ins} (h:rd N f t = .s (.bool b)) (hb:(b == want) = false) (k:WO A N l (Y8 f d (.tup [])) n L K Zp):WO A N (⟨d,some (t,want),i⟩::l) f n L K Zp:=fun σ hσ=>by
 obtain ⟨x,f',σ',n',L',h1,h2,h3⟩:=k σ hσ
 refine ⟨x,f',σ',n',L',?_,h2,h3⟩
 rw [← h1]
 simp only [Ww,XA,Uq,h,hb,cond_false,JE]
theorem YG {l:List I} {d:Option Nat} {t:Nat} {want:Bool} {i:Ins} (h:rd N f t = .tup []) (k:WO A N l (Y8 f d (.tup [])) n L K Zp):WO A N (⟨d,some (t,want),i⟩::l) f n L K Zp:=fun σ hσ=>by
 obtain ⟨x,f',σ',n',L',h1,h2,h3⟩:=k σ hσ
 refine ⟨x,f',σ',n',L',?_,h2,h3⟩
 rw [← h1]
 simp only [Ww,XA,Uq,h,JE]
theorem Vu {l:List I} {d:Option Nat} {i:PIns} {v:V} (h:YT i (E N f) = some v) (k:WO A N l (Y8 f d v) n L K Zp):WO A N (⟨d,none,.p i⟩::l) f n L K Zp:=fun σ hσ=>by
 obtain ⟨x,f',σ',n',L',h1,h2,h3⟩:=k σ hσ
 refine ⟨x,f',σ',n',L',?_,h2,h3⟩
 rw [← h1]
 simp only [Ww,XA,Xk,h,Option.map_some,JE]
theorem Wj {l:List I} {d:Option Nat} {i:HIns} {v:V} {n':Nat} {L':HA} (h:∀ σ,Hp σ n L→∃ σ',YJ (Run A) i (E N f) σ = some (v,σ')∧Hp σ' n' L') (k:WO A N l (Y8 f d v) n' L' K Zp):WO A N (⟨d,none,.h i⟩::l) f n L K Zp:=fun σ hσ=>by
 obtain ⟨σ1,h1,h2⟩:=h σ hσ
 obtain ⟨x,f',σ',n',L',h3,h4,h5⟩:=k σ1 h2
 refine ⟨x,f',σ',n',L',?_,h4,h5⟩
 rw [← h3]
 simp only [Ww,XA,Xk,h1,Option.map_some,JE]
end
def Xj:Nat→List Blk→HA
 | _,[]=>[]
 | k,b::l=>(k,b)::Xj (k+1) l
theorem wT:∀ (l:List Blk) (k:Nat),∀ p∈Xj k l,k≤p.1
 | b::l,k,p,hp=>by
  rcases List.mem_cons.1 hp with he | hp
  ·subst he; exact Nat.le_refl _
  ·have:=wT l (k+1) p hp; omega
theorem qL (σ:Heap):∀ (l:List Blk) (k:Nat),(∀ i b,l[i]? = some b→σ[k+i]? = some b)→k+l.length = σ.length→HL σ σ.length (Xj k l)
 | [],_,_,_=>trivial
 | b::l,k,h,hl=>⟨by simp at hl; omega,h 0 b rfl,fun p hp=>by have:=wT l (k+1) p hp; omega,qL σ l (k+1) (fun i c hc=>by rw [show k+1+i = k+(i+1) by omega]; exact h (i+1) c hc) (by simp at hl; omega)⟩
theorem R1 (σ:Heap):Hp σ σ.length (Xj 0 σ):=⟨rfl,qL σ σ 0 (fun i b h=>by simpa using h) (by simp)⟩
abbrev KR:=V→Nat→HA→Prop
def WR (A:AP) (fid:FuncId) (as:List V) (Bs:List Blk) (K:KR):Prop :=
 ∃ v σ' n' L',Run A fid as Bs = some (v,σ')∧Hp σ' n' L'∧K v n' L'
def RS (N:Nat) (f:FE) (L:HA):List Rv→List V→Prop
 | [],[]=>True
 | .tmp t::l,v::vs=>rd N f t = v∧RS N f L l vs
 | .cell a agg m::l,v::vs=>(∃ b o z md k g,rd N f a = .ptr b o z∧m≤z∧(b,Blk.sc md k g)∈L∧v = bif agg then .agg m (fun i=>g (o+i)) else .s (g o))∧RS N f L l vs
 | _,_=>False
theorem y5 {N:Nat} {f:FE} {n:Nat} {L:HA} {σ:Heap} (h:Hp σ n L):∀ {rs:List Rv} {vs:List V},RS N f L rs vs→Jw (E N f) σ rs = some vs
 | [],[],_=>rfl
 | .tmp t::l,v::vs,hr=>by
  simp only [Jw,y8,Uq,hr.1,y5 h hr.2]
 | .cell a agg m::l,v::vs,hr=>by
  obtain ⟨⟨b,o,z,md,k,g,h1,h2,h3,h4⟩,h5⟩:=hr
  simp only [Jw,y8,Uq,h1,if_pos h2,rdV,(h.2.mem h3).2,y5 h h5,h4]
theorem X5 {N:Nat} {f:FE} {L:HA} {a b m z:Nat} {md:Md} {k:Nat} {g:Nat→S} {l:List Rv} {vs:List V} (h:rd N f a = .ptr b 0 z) (hz:Nat.ble m z = true) (hm:(b,Blk.sc md k g)∈L) (hr:RS N f L l vs):RS N f L (.cell a true m::l) (.agg m g::vs) :=
 ⟨⟨b,0,z,md,k,g,h,Nat.le_of_ble_eq_true hz,hm,by simp⟩,hr⟩
theorem ju {N:Nat} {f:FE} {L:HA} {a b m z:Nat} {md:Md} {k:Nat} {g:Nat→S} {x:S} {l:List Rv} {vs:List V} (h:rd N f a = .ptr b 0 z) (hz:Nat.ble m z = true) (hm:(b,Blk.sc md k g)∈L) (hx:g 0 = x) (hr:RS N f L l vs):RS N f L (.cell a false m::l) (.s x::vs) :=
 ⟨⟨b,0,z,md,k,g,h,Nat.le_of_ble_eq_true hz,hm,by simp [hx]⟩,hr⟩
theorem YK {N:Nat} {f:FE} {L:HA} {t:Nat} {v:V} {l:List Rv} {vs:List V} (h:rd N f t = v) (hr:RS N f L l vs):RS N f L (.tmp t::l) (v::vs):=⟨h,hr⟩
theorem YS {N:Nat} {f:FE} {L:HA}:RS N f L [] []:=trivial
def qh:List V→V
 | [x]=>x
 | l=>.tup l
theorem YI {A:AP} {fid:FuncId} {a:AF} {as:List V} {Bs:List Blk} {K:KR} (hp:A.prims fid = none) (ha:A.fns fid = some a) (f:FE) (hf:Kp a as = E a.nt f) {m:Nat} (hm:Bs.length = m)
  (h:WP A a.nt a.body f m (Xj 0 Bs) (fun f n L=>∃ vs,RS a.nt f L a.res vs∧K (qh vs) n L) (fun _ _ _ _=>False) (fun f n L=>∃ vs,RS a.nt f L a.res vs∧K (qh vs) n L) (fun v _ n L=>K (.pan v) n L)) (hmk:UK as = false:=by rfl):WR A fid as Bs K:=by
 subst hm
 obtain ⟨x,f',σ',n',L',h1,h2,h3⟩:=h Bs (R1 Bs)
 have fin:∀ vs,RS a.nt f' L' a.res vs→Tx (E a.nt f') σ' a.res = some (qh vs):=by
  intro vs hvs
  unfold Tx
  rw [y5 h2 hvs]
  match vs with
  | []=>rfl
  | [x]=>rfl
  | x::y::l=>rfl
 cases x with
 | normal =>
  obtain ⟨vs,hvs,hK⟩:=h3
  exact ⟨qh vs,σ',n',L',by rw [yq hp ha as Bs hmk,hf,h1]; simp [Qc,fin vs hvs],h2,hK⟩
 | ret =>
  obtain ⟨vs,hvs,hK⟩:=h3
  exact ⟨qh vs,σ',n',L',by rw [yq hp ha as Bs hmk,hf,h1]; simp [Qc,fin vs hvs],h2,hK⟩
 | exit j=>exact h3.elim
 | panic v=>exact ⟨.pan v,σ',n',L',by rw [yq hp ha as Bs hmk,hf,h1]; rfl,h2,h3⟩
def YH (as:List V):FE:=fun i=>as.getD i .undef
theorem entry_E {a:AF} {as:List V} (h:as.length≤a.nt):Kp a as = E a.nt (YH as):=by
 unfold Kp E YH
 refine List.ext_getElem (by simp; omega) fun i h1 h2=>?_
 simp only [List.getElem_map,List.getElem_range]
 by_cases hi:i < as.length
 ·rw [List.getElem_append_left hi,List.getD_eq_getElem?_getD,List.getElem?_eq_getElem hi]; rfl
 ·rw [List.getElem_append_right (by omega),List.getD_eq_getElem?_getD,List.getElem?_eq_none (by omega)]; simp
end Go.Am
namespace Go.Am
open Go
abbrev ia (P:Nat→Int):Nat→S:=fun i=>.int .i64 (P i)
abbrev lc (l:List S):Nat→S:=fun i=>l.getD i S.zero
section
variable {A:AP} {N:Nat} {f:FE} {n:Nat} {L:HA} {K:KN} {Zp:V→KN} {l:List I} {d:Nat}
theorem Tl {x:O} {v:V} (h:x.fv N f = v) (k:WO A N l (upd f d v) n L K Zp):WO A N (⟨some d,none,.p (.mv x)⟩::l) f n L K Zp :=
 Vu (v:=v) (by rw [YT,Y7,h]) k
theorem WO_pick {c a b:O} {t:Bool} {v:V} (hc:c.fv N f = .s (.bool t)) (hv:(bif t then a.fv N f else b.fv N f) = v) (k:WO A N l (upd f d v) n L K Zp):WO A N (⟨some d,none,.p (.pick c a b)⟩::l) f n L K Zp :=
 Vu (v:=v) (by simp only [YT,Y7,hc,hv]) k
theorem YR {x:O} {b o z:Nat} (h:x.fv N f = .ptr b o z) (k:WO A N l (upd f d (.ptr b o z)) n L K Zp):WO A N (⟨some d,none,.p (.nilck x)⟩::l) f n L K Zp :=
 Vu (v:=.ptr b o z) (by simp only [YT,Y7,h]) k
theorem JC {op:BinOp} {x y:O} {a b r:S} (hx:x.fv N f = .s a) (hy:y.fv N f = .s b) (hr:WX op a b = some r) (k:WO A N l (upd f d (.s r)) n L K Zp):WO A N (⟨some d,none,.p (.bin op x y)⟩::l) f n L K Zp :=
 Vu (v:=.s r) (by simp only [YT,Y7,hx,hy,hr,Option.map_some]) k
theorem WZ {x y:O} {a b:Int} (hx:x.fv N f = .s (.int .i64 a)) (hy:y.fv N f = .s (.int .i64 b)) (hr:-9223372036854775808≤a+b∧a+b≤9223372036854775807) (k:WO A N l (upd f d (.s (.int .i64 (a+b)))) n L K Zp):WO A N (⟨some d,none,.p (.bin .add x y)⟩::l) f n L K Zp :=
 JC hx hy (by show V1 .add .i64 a b = _; rw [V1,IntWalk.i64_in _ hr]) k
theorem qR {x y:O} {a b:Int} (hx:x.fv N f = .s (.int .i64 a)) (hy:y.fv N f = .s (.int .i64 b)) (hr:-9223372036854775808≤a - b∧a - b≤9223372036854775807) (k:WO A N l (upd f d (.s (.int .i64 (a - b)))) n L K Zp):WO A N (⟨some d,none,.p (.bin .sub x y)⟩::l) f n L K Zp :=
 JC hx hy (by show V1 .sub .i64 a b = _; rw [V1,IntWalk.i64_in _ hr]) k
theorem X9 {x y:O} {a b:Int} (hx:x.fv N f = .s (.int .i64 a)) (hy:y.fv N f = .s (.int .i64 b)) (hr:-9223372036854775808≤a*b∧a*b≤9223372036854775807) (k:WO A N l (upd f d (.s (.int .i64 (a*b)))) n L K Zp):WO A N (⟨some d,none,.p (.bin .mul x y)⟩::l) f n L K Zp :=
 JC hx hy (by show V1 .mul .i64 a b = _; rw [V1,IntWalk.i64_in _ hr]) k
theorem tv {x y:O} {a b:Int} (hx:x.fv N f = .s (.int .i64 a)) (hy:y.fv N f = .s (.int .i64 b)) (hr:0≤a∧a≤9223372036854775807∧1≤b) (k:WO A N l (upd f d (.s (.int .i64 (a / b)))) n L K Zp):WO A N (⟨some d,none,.p (.bin .quo x y)⟩::l) f n L K Zp :=
 JC hx hy (by show V1 .quo .i64 a b = _; rw [V1,if_neg (by omega),IntWalk.i64_quo _ _ hr]) k
theorem WO_rem {x y:O} {a b:Int} (hx:x.fv N f = .s (.int .i64 a)) (hy:y.fv N f = .s (.int .i64 b)) (hr:0≤a∧1≤b) (k:WO A N l (upd f d (.s (.int .i64 (a % b)))) n L K Zp):WO A N (⟨some d,none,.p (.bin .rem x y)⟩::l) f n L K Zp :=
 JC hx hy (by show V1 .rem .i64 a b = _; rw [V1,if_neg (by omega),Int.tmod_eq_emod_of_nonneg hr.1]) k
theorem kw {x y:O} {a b:Bool} (hx:x.fv N f = .s (.bool a)) (hy:y.fv N f = .s (.bool b)) (h:a = b) (k:WO A N l (upd f d (.s (.bool true))) n L K Zp):WO A N (⟨some d,none,.p (.eqb false x y)⟩::l) f n L K Zp :=
 Vu (v:=.s (.bool true)) (by subst h; simp only [YT,Y7,hx,hy,cond_false,beq_self_eq_true]) k
def eqI (n:Nat) (P Q:Nat→Int):Bool:=Xi n fun i=>decide (P i = Q i)
theorem Qx {P Q:Nat→Int}:∀ {n:Nat},eqI n P Q = true↔∀ i,i < n→P i = Q i
 | 0=>by simp [eqI,Xi]
 | n+1=>by
  have ih:=Qx (P:=P) (Q:=Q) (n:=n)
  unfold eqI at ih ⊢
  simp only [Xi,Bool.and_eq_true,ih,decide_eq_true_eq]
  exact ⟨fun ⟨h1,h2⟩ i hi=>by
   by_cases he:i = n
   ·subst he; exact h2
   ·exact h1 i (by omega),fun h=>⟨fun i hi=>h i (by omega),h n (by omega)⟩⟩
theorem allB_true {g:Nat→Bool} (h:∀ i,g i = true):∀ n,Xi n g = true
 | 0=>rfl
 | n+1=>by simp [Xi,allB_true h n,h n]
theorem uW {neg:Bool} {m:Nat} {x y:O} {P Q:Nat→Int} (hx:x.fv N f = .agg m (ia P)) (hy:y.fv N f = .agg m (ia Q)) (k:WO A N l (upd f d (.s (.bool (bif neg then !(eqI m P Q) else eqI m P Q)))) n L K Zp):WO A N (⟨some d,none,.p (.eqa neg m x y)⟩::l) f n L K Zp :=
 Vu (v:=.s (.bool (bif neg then !(eqI m P Q) else eqI m P Q))) (by
  simp only [YT,Y7,hx,hy]
  rw [if_pos ⟨trivial,trivial⟩,allB_true (fun i=>by simp [S.fits])]
  rfl) k
theorem WO_un {op:UnOp} {x:O} {a r:S} (hx:x.fv N f = .s a) (hr:unS op a = some r) (k:WO A N l (upd f d (.s r)) n L K Zp):WO A N (⟨some d,none,.p (.un op x)⟩::l) f n L K Zp :=
 Vu (v:=.s r) (by simp only [YT,Y7,hx,hr,Option.map_some]) k
theorem qo {x:O} {a:Int} (hx:x.fv N f = .s (.int .i64 a)) (hr:-9223372036854775807≤a∧a≤9223372036854775807) (k:WO A N l (upd f d (.s (.int .i64 (-a)))) n L K Zp):WO A N (⟨some d,none,.p (.un .neg x)⟩::l) f n L K Zp :=
 WO_un hx (by show some (S.int .i64 (IntKind.i64.wrap (0 - a))) = _; rw [IntWalk.i64_in _ (by omega)]; simp) k
theorem vU {off z:Nat} {x:O} {b o z' o':Nat} (hx:x.fv N f = .ptr b o z') (hz:Nat.ble (off+z) z' = true) (ho:o+off = o') (k:WO A N l (upd f d (.ptr b o' z)) n L K Zp):WO A N (⟨some d,none,.p (.fa off z x)⟩::l) f n L K Zp :=
 Vu (v:=.ptr b o' z) (by simp only [YT,Y7,hx,if_pos (Nat.le_of_ble_eq_true hz),ho]) k
theorem E4 {off m:Nat} {x:O} {m':Nat} {g:Nat→S} (hx:x.fv N f = .agg m' g) (hz:Nat.ble (off+m) m' = true) (k:WO A N l (upd f d (.agg m fun i=>g (off+i))) n L K Zp):WO A N (⟨some d,none,.p (.fld true off m x)⟩::l) f n L K Zp :=
 Vu (v:=.agg m fun i=>g (off+i)) (by simp only [YT,Y7,hx,if_pos (Nat.le_of_ble_eq_true hz),cond_true]) k
theorem K6 {off m:Nat} {x:O} {m':Nat} {g:Nat→S} {a:S} (hx:x.fv N f = .agg m' g) (hz:Nat.ble (off+m) m' = true) (ha:g off = a) (k:WO A N l (upd f d (.s a)) n L K Zp):WO A N (⟨some d,none,.p (.fld false off m x)⟩::l) f n L K Zp :=
 Vu (v:=.s a) (by simp only [YT,Y7,hx,if_pos (Nat.le_of_ble_eq_true hz),cond_false,ha]) k
theorem XL {len z:Nat} {x i:O} {b o z':Nat} {kd:IntKind} {j:Int} (hx:x.fv N f = .ptr b o z') (hi:i.fv N f = .s (.int kd j)) (hz:Nat.ble (len*z) z' = true) (hj:0≤j∧j < len) (k:WO A N l (upd f d (.ptr b (o+j.toNat*z) z)) n L K Zp):WO A N (⟨some d,none,.p (.ixa len z x i)⟩::l) f n L K Zp :=
 Vu (v:=.ptr b (o+j.toNat*z) z) (by simp only [YT,Y7,hx,hi,if_pos (Nat.le_of_ble_eq_true hz),if_pos hj]) k
theorem T2 {z:Nat} {x i:O} {b o m:Nat} {c:Cp} {kd:IntKind} {j:Int} (hx:x.fv N f = .sl b o m z c) (hi:i.fv N f = .s (.int kd j)) (hj:0≤j∧j < m) (k:WO A N l (upd f d (.ptr b (o+j.toNat*z) z)) n L K Zp):WO A N (⟨some d,none,.p (.ixs z x i)⟩::l) f n L K Zp :=
 Vu (v:=.ptr b (o+j.toNat*z) z) (by simp only [YT,Y7,hx,hi,if_true,if_pos hj]) k
theorem zj {len z:Nat} {x i:O} {m:Nat} {g:Nat→S} {kd:IntKind} {j:Int} {a:S} (hx:x.fv N f = .agg m g) (hi:i.fv N f = .s (.int kd j)) (hz:Nat.ble (len*z) m = true) (hj:0≤j∧j < len) (ha:g (j.toNat*z) = a) (k:WO A N l (upd f d (.s a)) n L K Zp):WO A N (⟨some d,none,.p (.ix len z false x i)⟩::l) f n L K Zp :=
 Vu (v:=.s a) (by simp only [YT,Y7,hx,hi,if_pos (Nat.le_of_ble_eq_true hz),if_pos hj,cond_false,ha]) k
theorem zq {len z:Nat} {x i:O} {m:Nat} {g:Nat→S} {kd:IntKind} {j:Int} (hx:x.fv N f = .agg m g) (hi:i.fv N f = .s (.int kd j)) (hz:Nat.ble (len*z) m = true) (hj:0≤j∧j < len) (k:WO A N l (upd f d (.agg z fun i=>g (j.toNat*z+i))) n L K Zp):WO A N (⟨some d,none,.p (.ix len z true x i)⟩::l) f n L K Zp :=
 Vu (v:=.agg z fun i=>g (j.toNat*z+i)) (by simp only [YT,Y7,hx,hi,if_pos (Nat.le_of_ble_eq_true hz),if_pos hj,cond_true]) k
theorem QR {x:O} {b o m z:Nat} {c:Cp} (hx:x.fv N f = .sl b o m z c) (k:WO A N l (upd f d (.s (.int .i64 m))) n L K Zp):WO A N (⟨some d,none,.p (.len x)⟩::l) f n L K Zp :=
 Vu (v:=.s (.int .i64 m)) (by simp only [YT,Y7,hx]) k
theorem WO_lenN {x:O} (hx:x.fv N f = .snil) (k:WO A N l (upd f d (.s (.int .i64 0))) n L K Zp):WO A N (⟨some d,none,.p (.len x)⟩::l) f n L K Zp :=
 Vu (v:=.s (.int .i64 0)) (by simp only [YT,Y7,hx]) k
theorem WO_ext {x:O} {i:Nat} {vs:List V} {v:V} (hx:x.fv N f = .tup vs) (hv:vs[i]? = some v) (k:WO A N l (upd f d v) n L K Zp):WO A N (⟨some d,none,.p (.ext x i)⟩::l) f n L K Zp :=
 Vu (v:=v) (by simp only [YT,Y7,hx,hv]) k
theorem WO_mn {xs:List O} {vs:List V} {v:V} (hx:xs.map (O.fv N f) = vs) (hv:UI (fun a b=>if b < a then b else a) vs = some v) (k:WO A N l (upd f d v) n L K Zp):WO A N (⟨some d,none,.p (.mn xs)⟩::l) f n L K Zp :=
 Vu (v:=v) (by simp only [YT,ua,hx,hv]) k
theorem WO_mx {xs:List O} {vs:List V} {v:V} (hx:xs.map (O.fv N f) = vs) (hv:UI (fun a b=>if a < b then b else a) vs = some v) (k:WO A N l (upd f d v) n L K Zp):WO A N (⟨some d,none,.p (.mx xs)⟩::l) f n L K Zp :=
 Vu (v:=v) (by simp only [YT,ua,hx,hv]) k
theorem if_max (a b:Int):(if a < b then b else a) = max a b:=by rw [Int.max_def]; split <;> split <;> omega
theorem if_min (a b:Int):(if b < a then b else a) = min a b:=by rw [Int.min_def]; split <;> split <;> omega
theorem WO_mx2 {xa xb:O} {a b:Int} (ha:xa.fv N f = .s (.int .i64 a)) (hb:xb.fv N f = .s (.int .i64 b)) (k:WO A N l (upd f d (.s (.int .i64 (max a b)))) n L K Zp):WO A N (⟨some d,none,.p (.mx [xa,xb])⟩::l) f n L K Zp :=
 WO_mx (vs:=[.s (.int .i64 a),.s (.int .i64 b)]) (by simp only [List.map_cons,List.map_nil,ha,hb]) (by simp only [UI,Q0,if_max]) k
theorem T7 {xa xb:O} {a b:Int} (ha:xa.fv N f = .s (.int .i64 a)) (hb:xb.fv N f = .s (.int .i64 b)) (k:WO A N l (upd f d (.s (.int .i64 (min a b)))) n L K Zp):WO A N (⟨some d,none,.p (.mn [xa,xb])⟩::l) f n L K Zp :=
 WO_mn (vs:=[.s (.int .i64 a),.s (.int .i64 b)]) (by simp only [List.map_cons,List.map_nil,ha,hb]) (by simp only [UI,Q0,if_min]) k
theorem Qz {g:FuncId} {xs:List O} {vs:List V} (hx:xs.map (O.fv N f) = vs) (k:WO A N l (upd f d (.fn g vs)) n L K Zp):WO A N (⟨some d,none,.p (.mkfn g xs)⟩::l) f n L K Zp :=
 Vu (v:=.fn g vs) (by simp only [YT,ua,hx]) k
def fvb (N:Nat) (f:FE) (x:Option O) (d:Nat):Option Int :=
 match x with
 | none=>some d
 | some x=>num? (x.fv N f)
theorem bound_E (x:Option O) (e:Nat):Wr (E N f) x e = fvb N f x e:=by
 cases x with
 | none=>rfl
 | some x=>simp only [Wr,fvb,Y7]
theorem jm {z:Z} {ps:List (Nat × Nat × O)} {v:V} (h:Ji (E N f) z ps = some v) (k:WO A N l (upd f d v) n L K Zp):WO A N (⟨some d,none,.p (.build z ps)⟩::l) f n L K Zp :=
 Vu (v:=v) (by rw [YT,h]) k
abbrev ov (P:Nat→Int) (o:Nat) (x:Int):Nat→Int:=fun i=>bif Nat.beq i o then x else P i
abbrev ovA (P:Nat→Int) (o m:Nat) (Q:Nat→Int):Nat→Int:=fun i=>bif Nat.ble o i && Nat.blt i (o+m) then Q (i - o) else P i
theorem ky (P:Nat→Int) (o m:Nat) (Q:Nat→Int):WU (ia P) o m (ia Q) = ia (ovA P o m Q):=by
 funext i
 unfold WU
 show _ = S.int .i64 (bif Nat.ble o i && Nat.blt i (o+m) then Q (i - o) else P i)
 cases Nat.ble o i && Nat.blt i (o+m) <;> rfl
theorem w0 (P:Nat→Int) (o:Nat) (x:Int):WU (ia P) o 1 (fun _=>.int .i64 x) = ia (ov P o x):=by
 funext i
 unfold WU
 have:(Nat.ble o i && Nat.blt i (o+1)) = Nat.beq i o:=by
  rw [Bool.eq_iff_iff]
  simp only [Bool.and_eq_true,Nat.ble_eq,Nat.blt_eq,Nat.beq_eq]
  omega
 rw [this]
 show _ = S.int .i64 (bif Nat.beq i o then x else P i)
 cases Nat.beq i o <;> rfl
abbrev cut (m:Nat) (Q:Nat→Int):Nat→Int:=ovA (fun _=>0) 0 m Q
inductive Fill (N:Nat) (f:FE):List (Nat × Nat × O)→(Nat→Int)→(Nat→Int)→Prop
 | nil {P:Nat→Int}:Fill N f [] P P
 | one {off:Nat} {x:O} {a:Int} {r:List (Nat × Nat × O)} {P Q:Nat→Int} (h:x.fv N f = .s (.int .i64 a)) (hr:Fill N f r (ov P off a) Q):Fill N f ((off,1,x)::r) P Q
 | agg {off m:Nat} {x:O} {R:Nat→Int} {r:List (Nat × Nat × O)} {P Q:Nat→Int} (h:x.fv N f = .agg m (ia R)) (hr:Fill N f r (ovA P off m R) Q):Fill N f ((off,m,x)::r) P Q
theorem J5 {ps:List (Nat × Nat × O)} {P Q:Nat→Int} (h:Fill N f ps P Q):VW (E N f) ps (ia P) = some (ia Q):=by
 induction h with
 | nil=>rfl
 | one h _ ih=>simp only [VW,Y7,h,V.scells,if_true,w0,ih]
 | agg h _ ih=>simp only [VW,Y7,h,V.scells,if_true,ky,ih]
theorem uG {m:Nat} {ps:List (Nat × Nat × O)} {Q:Nat→Int} (hi:QP m ps = true) (h:Fill N f ps (fun _=>0) Q) (k:WO A N l (upd f d (.agg m (ia Q))) n L K Zp):WO A N (⟨some d,none,.p (.build (.ints m) ps)⟩::l) f n L K Zp :=
 jm (v:=.agg m (ia Q)) (by
  simp only [Ji,Z.size,hi,if_true,Z.sc,Option.bind_some]
  rw [show (fun _=>S.zero:Nat→S) = ia (fun _=>0) from rfl,J5 h]) k
theorem kR (xs:List S) (i:Nat):lc xs i = xs[i]?.getD S.zero:=List.getD_eq_getElem?_getD
def spl (xs:List S) (off:Nat) (l:List S):List S:=xs.take off++l++xs.drop (off+l.length)
theorem Te {xs ys:List S} {off m:Nat} {h:Nat→S} (hb:Nat.ble (off+m) xs.length = true) (hy:spl xs off ((List.range m).map h) = ys):WU (lc xs) off m h = lc ys:=by
 subst hy
 have hb:=Nat.le_of_ble_eq_true hb
 funext i
 unfold WU
 rw [kR,kR]
 unfold spl
 simp only [List.length_map,List.length_range]
 by_cases h1:i < off
 ·have e:(Nat.ble off i && Nat.blt i (off+m)) = false:=by
   cases hq:Nat.ble off i with
   | false=>rfl
   | true=>have:=Nat.le_of_ble_eq_true hq; omega
  rw [e,List.append_assoc,List.getElem?_append_left (by rw [List.length_take]; omega),List.getElem?_take,if_pos h1]
  rfl
 ·by_cases h2:i < off+m
  ·have e:(Nat.ble off i && Nat.blt i (off+m)) = true:=by
    rw [Nat.ble_eq_true_of_le (show off≤i by omega),show Nat.blt i (off+m) = true from Nat.ble_eq_true_of_le h2]; rfl
   have hl:(xs.take off).length = off:=by rw [List.length_take]; omega
   rw [e,List.append_assoc,List.getElem?_append_right (by omega),List.getElem?_append_left (by simp; omega),hl,List.getElem?_map,List.getElem?_range (by omega)]
   rfl
  ·have e:(Nat.ble off i && Nat.blt i (off+m)) = false:=by
    cases hq:Nat.blt i (off+m) with
    | false=>simp
    | true=>exact absurd (Nat.le_of_ble_eq_true hq) (by omega)
   have hl:(xs.take off++(List.range m).map h).length = off+m:=by rw [List.length_append,List.length_take,List.length_map,List.length_range]; omega
   rw [e,List.getElem?_append_right (by omega),hl,List.getElem?_drop,show off+m+(i - (off+m)) = i by omega]
   rfl
inductive FillL (N:Nat) (f:FE):List (Nat × Nat × O)→List S→List S→Prop
 | nil {xs:List S}:FillL N f [] xs xs
 | part {off m:Nat} {x:O} {v:V} {h:Nat→S} {r:List (Nat × Nat × O)} {xs ys zs:List S} (hx:x.fv N f = v) (hv:v.scells m = some h) (hb:Nat.ble (off+m) xs.length = true) (hy:spl xs off ((List.range m).map h) = ys) (hr:FillL N f r ys zs):FillL N f ((off,m,x)::r) xs zs
theorem jD {ps:List (Nat × Nat × O)} {xs zs:List S} (h:FillL N f ps xs zs):VW (E N f) ps (lc xs) = some (lc zs):=by
 induction h with
 | nil=>rfl
 | part hx hv hb hy _ ih=>simp only [VW,Y7,hx,hv,Te hb hy,ih]
theorem Eb {m:Nat} {xs zs:List S} {ps:List (Nat × Nat × O)} (hm:xs.length = m) (hi:QP m ps = true) (h:FillL N f ps xs zs) (k:WO A N l (upd f d (.agg m (lc zs))) n L K Zp):WO A N (⟨some d,none,.p (.build (.scl xs) ps)⟩::l) f n L K Zp :=
 jm (v:=.agg m (lc zs)) (by
  subst hm
  simp only [Ji,Z.size,hi,if_true,Z.sc,Option.bind_some]
  rw [jD h]) k
end
end Go.Am
namespace Go.Am
open Go
section
variable {A:AP} {N:Nat} {f:FE} {n:Nat} {L:HA} {K:KN} {Zp:V→KN} {l:List I} {d:Nat}
theorem Kw {z:Z} {B:Blk} (hB:z.blk = B) (k:WO A N l (upd f d (.ptr n 0 z.size)) (n+1) ((n,B)::L) K Zp):WO A N (⟨some d,none,.h (.alloc z)⟩::l) f n L K Zp :=
 Wj (v:=.ptr n 0 z.size) (fun σ h=>⟨σ++[B],by simp only [YJ,h.1,hB],h.new B⟩) k
theorem ZaD {m:Nat} (k:WO A N l (upd f d (.ptr n 0 m)) (n+1) ((n,.sc .var m (ia fun _=>0))::L) K Zp):WO A N (⟨some d,none,.h (.alloc (.ints m))⟩::l) f n L K Zp :=
 Kw (z:=.ints m) rfl k
theorem tO {xs:List S} {m:Nat} (hm:xs.length = m) (k:WO A N l (upd f d (.ptr n 0 m)) (n+1) ((n,.sc .var m (lc xs))::L) K Zp):WO A N (⟨some d,none,.h (.alloc (.scl xs))⟩::l) f n L K Zp:=by
 subst hm
 exact Kw (z:=.scl xs) rfl k
theorem um {x:S} (k:WO A N l (upd f d (.ptr n 0 1)) (n+1) ((n,.sc .var 1 (fun _=>x))::L) K Zp):WO A N (⟨some d,none,.h (.alloc (.one (.s x)))⟩::l) f n L K Zp :=
 Kw (z:=.one (.s x)) rfl k
theorem WO_boxA {x:O} {m:Nat} {g:Nat→S} (hx:x.fv N f = .agg m g) (k:WO A N l (upd f d (.ptr n 0 m)) (n+1) ((n,.sc .var m g)::L) K Zp):WO A N (⟨some d,none,.h (.box x)⟩::l) f n L K Zp :=
 Wj (v:=.ptr n 0 m) (fun σ h=>⟨σ++[.sc .var m g],by simp only [YJ,Y7,hx,T9,h.1],h.new _⟩) k
theorem kC {x:O} {kd:IntKind} {a:Int} (hx:x.fv N f = .s (.int kd a)) (k:WO A N l (upd f d (.ptr n 0 1)) (n+1) ((n,.sc .var 1 (fun _=>.int kd a))::L) K Zp):WO A N (⟨some d,none,.h (.box x)⟩::l) f n L K Zp :=
 Wj (v:=.ptr n 0 1) (fun σ h=>⟨σ++[.sc .var 1 fun _=>.int kd a],by simp only [YJ,Y7,hx,T9,h.1],h.new _⟩) k
theorem sA {m:Nat} {a:O} {b o z:Nat} {md:Md} {q:Nat} {g g':Nat→S} (ha:a.fv N f = .ptr b o z) (hz:Nat.ble m z = true) (hm:(b,Blk.sc md q g)∈L) (hg:(fun i=>g (o+i)) = g') (k:WO A N l (upd f d (.agg m g')) n L K Zp):WO A N (⟨some d,none,.h (.load true m a)⟩::l) f n L K Zp :=
 Wj (v:=.agg m g') (fun σ h=>⟨σ,by simp only [YJ,Y7,ha,if_pos (Nat.le_of_ble_eq_true hz),rdV,(h.2.mem hm).2,cond_true,Option.map_some,hg],h⟩) k
abbrev dp (P:Nat→Int) (o:Nat):Nat→Int:=fun i=>P (o+i)
theorem WO_ldAI {m:Nat} {a:O} {b o z:Nat} {md:Md} {q:Nat} {P:Nat→Int} (ha:a.fv N f = .ptr b o z) (hz:Nat.ble m z = true) (hm:(b,Blk.sc md q (ia P))∈L) (k:WO A N l (upd f d (.agg m (ia (dp P o)))) n L K Zp):WO A N (⟨some d,none,.h (.load true m a)⟩::l) f n L K Zp :=
 sA ha hz hm rfl k
theorem WO_ldA0 {m:Nat} {a:O} {b z:Nat} {md:Md} {q:Nat} {g:Nat→S} (ha:a.fv N f = .ptr b 0 z) (hz:Nat.ble m z = true) (hm:(b,Blk.sc md q g)∈L) (k:WO A N l (upd f d (.agg m g)) n L K Zp):WO A N (⟨some d,none,.h (.load true m a)⟩::l) f n L K Zp :=
 sA ha hz hm (by simp) k
theorem uL {a:O} {b o z:Nat} {md:Md} {q:Nat} {g:Nat→S} {x:S} (ha:a.fv N f = .ptr b o z) (hz:Nat.ble 1 z = true) (hm:(b,Blk.sc md q g)∈L) (hg:g o = x) (k:WO A N l (upd f d (.s x)) n L K Zp):WO A N (⟨some d,none,.h (.load false 1 a)⟩::l) f n L K Zp :=
 Wj (v:=.s x) (fun σ h=>⟨σ,by simp only [YJ,Y7,ha,if_pos (Nat.le_of_ble_eq_true hz),rdV,(h.2.mem hm).2,cond_false,Option.map_some,hg],h⟩) k
theorem WO_ldI {a:O} {b o z:Nat} {md:Md} {q:Nat} {P:Nat→Int} {x:Int} (ha:a.fv N f = .ptr b o z) (hz:Nat.ble 1 z = true) (hm:(b,Blk.sc md q (ia P))∈L) (hg:P o = x) (k:WO A N l (upd f d (.s (.int .i64 x))) n L K Zp):WO A N (⟨some d,none,.h (.load false 1 a)⟩::l) f n L K Zp :=
 uL ha hz hm (by rw [← hg]) k
theorem UX {a:O} {b o z:Nat} {md:Md} {vs:List V} {v:V} (ha:a.fv N f = .ptr b o z) (hz:Nat.ble 1 z = true) (hm:(b,Blk.vs md vs)∈L) (hg:vs[o]? = some v) (k:WO A N l (upd f d v) n L K Zp):WO A N (⟨some d,none,.h (.load false 1 a)⟩::l) f n L K Zp :=
 Wj (v:=v) (fun σ h=>⟨σ,by simp only [YJ,Y7,ha,if_pos (Nat.le_of_ble_eq_true hz),rdV,(h.2.mem hm).2,cond_false,Option.map_some,hg],h⟩) k
theorem RO {m:Nat} {a x:O} {b o z:Nat} {md:Md} {q:Nat} {g h g':Nat→S} {v:V} {L':HA} (ha:a.fv N f = .ptr b o z) (hx:x.fv N f = v) (hv:v.scells m = some h) (hz:Nat.ble m z = true) (hmd:md.mut = true) (hg:WU g o m h = g')
  (hm:At b (.sc md q g) (.sc md q g') L L') (k:WO A N l f n L' K Zp):WO A N (⟨none,none,.h (.store m a x)⟩::l) f n L K Zp :=
 Wj (v:=.undef) (fun σ hσ=>⟨σ.set b (.sc md q g'),by simp only [YJ,Y7,ha,if_pos (Nat.le_of_ble_eq_true hz),wrV,(hσ.2.mem hm.mem).2,hmd,if_true,hx,hv,Option.map_some,hg],hσ.set hm⟩) k
theorem WO_stI {a x:O} {b o z:Nat} {md:Md} {q:Nat} {P:Nat→Int} {y:Int} {L':HA} (ha:a.fv N f = .ptr b o z) (hx:x.fv N f = .s (.int .i64 y)) (hz:Nat.ble 1 z = true) (hmd:md.mut = true)
  (hm:At b (.sc md q (ia P)) (.sc md q (ia (ov P o y))) L L') (k:WO A N l f n L' K Zp):WO A N (⟨none,none,.h (.store 1 a x)⟩::l) f n L K Zp :=
 RO ha hx (by simp [V.scells]) hz hmd (w0 P o y) hm k
theorem WO_stA {m:Nat} {a x:O} {b o z:Nat} {md:Md} {q:Nat} {P Q:Nat→Int} {L':HA} (ha:a.fv N f = .ptr b o z) (hx:x.fv N f = .agg m (ia Q)) (hz:Nat.ble m z = true) (hmd:md.mut = true)
  (hm:At b (.sc md q (ia P)) (.sc md q (ia (ovA P o m Q))) L L') (k:WO A N l f n L' K Zp):WO A N (⟨none,none,.h (.store m a x)⟩::l) f n L K Zp :=
 RO ha hx (by simp [V.scells]) hz hmd (ky P o m Q) hm k
theorem WO_st1 {a x:O} {b z:Nat} {md:Md} {y w:S} {L':HA} (ha:a.fv N f = .ptr b 0 z) (hx:x.fv N f = .s y) (hz:Nat.ble 1 z = true) (hmd:md.mut = true)
  (hm:At b (.sc md 1 (fun _=>w)) (.sc md 1 (WU (fun _=>w) 0 1 fun _=>y)) L L') (k:WO A N l f n L' K Zp):WO A N (⟨none,none,.h (.store 1 a x)⟩::l) f n L K Zp :=
 RO ha hx (by simp [V.scells]) hz hmd rfl hm k
theorem Wm {len z:Nat} {ps:List (Nat × O)} {P:Nat→Int} (hi:QP (len*z) (ps.map fun p=>(p.1*z,z,p.2)) = true) (h:Fill N f (ps.map fun p=>(p.1*z,z,p.2)) (fun _=>0) P)
  (k:WO A N l (upd f d (.sl n 0 len z (.ex len))) (n+1) ((n,.sc .var (len*z) (ia P))::L) K Zp):WO A N (⟨some d,none,.h (.mksl len z (.ints z) ps)⟩::l) f n L K Zp :=
 Wj (v:=.sl n 0 len z (.ex len)) (fun σ hσ=>⟨σ++[.sc .var (len*z) (ia P)],by
  simp only [YJ,Z.row,VB,hi,if_true]
  rw [show (fun _=>S.zero:Nat→S) = ia (fun _=>0) from rfl,J5 h]
  simp only [Option.map_some,hσ.1],hσ.new _⟩) k
theorem Xd {len:Nat} {ps:List (Nat × O)} {P:Nat→Int} (hi:QP len (ps.map fun p=>(p.1*1,1,p.2)) = true) (h:Fill N f (ps.map fun p=>(p.1*1,1,p.2)) (fun _=>0) P)
  (k:WO A N l (upd f d (.sl n 0 len 1 (.ex len))) (n+1) ((n,.sc .var len (ia P))::L) K Zp):WO A N (⟨some d,none,.h (.mksl len 1 (.one (.s (.int .i64 0))) ps)⟩::l) f n L K Zp :=
 Wj (v:=.sl n 0 len 1 (.ex len)) (fun σ hσ=>⟨σ++[.sc .var len (ia P)],by
  simp only [YJ,Z.row,VB,hi,if_true]
  rw [show (fun _=>S.int .i64 0:Nat→S) = ia (fun _=>0) from rfl,J5 h]
  simp only [Option.map_some,hσ.1],hσ.new _⟩) k
theorem Ry {b:Nat} {B:Blk}:∀ {L:HA},(b,B)∈L→At b B B L L
 | (c,C)::L,h=>by
  by_cases hc:(b,B) = (c,C)
  ·injection hc with h1 h2
   subst h1; subst h2
   exact .here
  ·rcases List.mem_cons.1 h with h | h
   ·exact absurd h hc
   ·exact .there (Ry h)
end
end Go.Am
namespace Go.Am
open Go
mutual
def V.loose:V→Bool
 | .ptr _ _ _=>false
 | .sl _ _ _ _ _=>false
 | .map _=>false
 | .aggv l=>V.looseL l
 | .fn _ l=>V.looseL l
 | .tup l=>V.looseL l
 | .iface _ x=>V.loose x
 | .bm _ x=>V.loose x
 | .yv _=>false
 | .pan _=>false
 | _=>true
def V.looseL:List V→Bool
 | []=>true
 | x::l=>V.loose x && V.looseL l
end
mutual
theorem V.loose_refs:∀ (v:V),v.loose = true→v.refs = []
 | .s _,_=>by simp [V.refs]
 | .agg _ _,_=>by simp [V.refs]
 | .aggv l,h=>by simp only [V.loose] at h; simp only [V.refs]; exact V.looseL_refs l h
 | .ptr _ _ _,h=>by simp [V.loose] at h
 | .pnil,_=>by simp [V.refs]
 | .sl _ _ _ _ _,h=>by simp [V.loose] at h
 | .slz,_=>by simp [V.refs]
 | .snil,_=>by simp [V.refs]
 | .map _,h=>by simp [V.loose] at h
 | .mnil,_=>by simp [V.refs]
 | .fn _ l,h=>by simp only [V.loose] at h; simp only [V.refs]; exact V.looseL_refs l h
 | .fnil,_=>by simp [V.refs]
 | .iface _ x,h=>by simp only [V.loose] at h; simp only [V.refs]; exact V.loose_refs x h
 | .inil,_=>by simp [V.refs]
 | .tup l,h=>by simp only [V.loose] at h; simp only [V.refs]; exact V.looseL_refs l h
 | .undef,_=>by simp [V.refs]
 | .bm _ x,h=>by simp only [V.loose] at h; simp only [V.refs]; exact V.loose_refs x h
 | .pan _,h=>by simp [V.loose] at h
theorem V.looseL_refs:∀ (l:List V),V.looseL l = true→V.refsL l = []
 | [],_=>by simp [V.refsL]
 | x::l,h=>by
  simp only [V.looseL,Bool.and_eq_true] at h
  simp only [V.refsL,V.loose_refs x h.1,V.looseL_refs l h.2,List.append_nil]
end
mutual
theorem V.loose_ren (g:Nat→Option Nat):∀ (v:V),v.loose = true→v.ren g = some v
 | .s _,_=>by simp [V.ren]
 | .agg _ _,_=>by simp [V.ren]
 | .aggv l,h=>by simp only [V.loose] at h; simp only [V.ren,V.looseL_ren g l h,Option.map_some]
 | .ptr _ _ _,h=>by simp [V.loose] at h
 | .pnil,_=>by simp [V.ren]
 | .sl _ _ _ _ _,h=>by simp [V.loose] at h
 | .slz,_=>by simp [V.ren]
 | .snil,_=>by simp [V.ren]
 | .map _,h=>by simp [V.loose] at h
 | .mnil,_=>by simp [V.ren]
 | .fn _ l,h=>by simp only [V.loose] at h; simp only [V.ren,V.looseL_ren g l h,Option.map_some]
 | .fnil,_=>by simp [V.ren]
 | .iface _ x,h=>by simp only [V.loose] at h; simp only [V.ren,V.loose_ren g x h,Option.map_some]
 | .inil,_=>by simp [V.ren]
 | .tup l,h=>by simp only [V.loose] at h; simp only [V.ren,V.looseL_ren g l h,Option.map_some]
 | .undef,_=>by simp [V.ren]
 | .bm _ x,h=>by simp only [V.loose] at h; simp only [V.ren,V.loose_ren g x h,Option.map_some]
 | .pan _,h=>by simp [V.loose] at h
theorem V.looseL_ren (g:Nat→Option Nat):∀ (l:List V),V.looseL l = true→V.renL g l = some l
 | [],_=>by simp [V.renL]
 | x::l,h=>by
  simp only [V.looseL,Bool.and_eq_true] at h
  simp only [V.renL,V.loose_ren g x h.1,V.looseL_ren g l h.2]
end
theorem Kx (σ:Heap) (acc:List Nat):∀ k,Y6 σ k [] acc = acc
 | 0=>rfl
 | _+1=>rfl
theorem xt {A:AP} {q:Bool} {fid:FuncId} {av:List V} {v:V} (ha:V.looseL av = true) (hv:v.loose = true) {σ1:Heap} (hr:Run A fid av [] = some (v,σ1)) (σ:Heap):Y4 (Run A) q (.fn fid []) av σ = some (v,σ):=by
 have hrefs:V.refsL (av++[]) = []:=by rw [List.append_nil]; exact V.looseL_refs av ha
 have hen:XJ q (av++[]) σ = some ([],av,[]):=by
  unfold XJ
  rw [List.append_nil] at hrefs ⊢
  simp only [hrefs,Kx,V.looseL_ren _ av ha,Y9]
 have hns:X2 q 0 v σ1 = []:=by
  unfold X2
  cases q <;> simp [V.loose_refs v hv,Kx]
 simp only [Y4,target,hen,Option.bind_some,hr,XE,List.length_nil,hns]
 have hb0:Nat.ble 0 σ1.length = true:=rfl
 cases q <;> simp [nodup,V.loose_ren _ v hv,Y9,XM,hb0]
def RF (A:AP) (fid:FuncId) (av:List V) (v:V):Prop:=∃ σ1,Run A fid av [] = some (v,σ1)
theorem YF {A:AP} {fid:FuncId} {av:List V} {v:V} (h:WR A fid av [] fun v' _ _=>v' = v):RF A fid av v:=by
 obtain ⟨v',σ',n',L',h1,_,h2⟩:=h
 subst h2
 exact ⟨σ',h1⟩
section
variable {A:AP} {N:Nat} {f:FE} {n:Nat} {L:HA} {K:KN} {Zp:V→KN} {l:List I} {d:Nat}
theorem s8 {x:O} {xs:List O} {fid:FuncId} {av:List V} {v:V} (hf:x.fv N f = .fn fid []) (hs:RF A fid av v) (ha:xs.map (O.fv N f) = av) (h1:V.looseL av = true) (h2:v.loose = true)
  (k:WO A N l (upd f d v) n L K Zp):WO A N (⟨some d,none,.h (.call x xs)⟩::l) f n L K Zp:=by
 obtain ⟨σ1,hs⟩:=hs
 exact Wj (v:=v) (fun σ h=>⟨σ,by simp only [YJ,Y7,hf,ha]; exact xt h1 h2 hs σ,h⟩) k
theorem tt {x:O} {xs:List O} {fid:FuncId} {av:List V} {v:V} (hf:x.fv N f = .fn fid []) (hs:RF A fid av v) (ha:xs.map (O.fv N f) = av) (h1:V.looseL av = true) (h2:v.loose = true)
  (k:WO A N l (upd f d v) n L K Zp):WO A N (⟨some d,none,.h (.callq x xs)⟩::l) f n L K Zp:=by
 obtain ⟨σ1,hs⟩:=hs
 exact Wj (v:=v) (fun σ h=>⟨σ,by simp only [YJ,Y7,hf,ha]; exact xt h1 h2 hs σ,h⟩) k
def rnL (rs:List Nat) (av:List V):Option (List V):=V.renL (pos · rs) av
def scs (L:HA):List Nat→List Blk→Prop
 | [],[]=>True
 | b::rs,B::Bs=>(b,B)∈L∧(∃ md m g,B = .sc md m g)∧scs L rs Bs
 | _,_=>False
def WL:List Nat→List Nat→List Nat
 | [],acc=>acc
 | b::l,acc=>bif acc.contains b then WL l acc else WL l (acc++[b])
theorem E8 {σ:Heap} {n:Nat} {L:HA} (h:Hp σ n L):∀ {rs:List Nat} {Bs:List Blk},scs L rs Bs→∀ b∈rs,b < n∧∃ md m g,σ[b]? = some (.sc md m g)
 | b::rs,B::Bs,hs,c,hc=>by
  obtain ⟨h1,⟨md,m,g,rfl⟩,h2⟩:=hs
  rcases List.mem_cons.1 hc with e | hc
  ·subst e
   have:=h.2.mem h1
   exact ⟨this.1,md,m,g,this.2⟩
  ·exact E8 h h2 c hc
theorem Jh {σ:Heap}:∀ (k:Nat) (w acc:List Nat),(∀ b∈w,∃ md m g,σ[b]? = some (.sc md m g))→w.length < k→Y6 σ k w acc = WL w acc
 | 0,_,_,_,h=>by omega
 | k+1,[],acc,_,_=>rfl
 | k+1,b::w,acc,hs,hl=>by
  obtain ⟨md,m,g,hb⟩:=hs b (.head _)
  have hd:σ.getD b .dead = .sc md m g:=by rw [List.getD_eq_getElem?_getD,hb]; rfl
  simp only [Y6,WL,hd,Blk.refs,List.nil_append]
  simp only [List.length_cons] at hl
  cases acc.contains b
  ·simp only [cond_false]
   exact Jh k w (acc++[b]) (fun c hc=>hs c (.tail _ hc)) (by omega)
  ·simp only [cond_true]
   exact Jh k w acc (fun c hc=>hs c (.tail _ hc)) (by omega)
def U9 (q:Bool):Blk→Blk
 | .sc md m g=>.sc (XW q md) m g
 | b=>b
theorem R0 {σ:Heap} {n:Nat} {L:HA} (h:Hp σ n L) (q:Bool) (g:Nat→Option Nat):∀ {rs:List Nat} {Bs:List Blk},scs L rs Bs→Y9 q g σ rs = some (Bs.map (U9 q))
 | [],[],_=>rfl
 | b::rs,B::Bs,hs=>by
  obtain ⟨h1,⟨md,m,g',rfl⟩,h2⟩:=hs
  simp only [Y9,(h.2.mem h1).2,Option.bind_some,Blk.ren,R0 h q g h2,List.map_cons,U9]
theorem Qq {rs:List Nat} (h:rs.Nodup):nodup rs = true:=by
 induction rs with
 | nil=>rfl
 | cons b l ih =>
  rw [List.nodup_cons] at h
  simp [nodup,ih h.2,h.1]
theorem VQ:∀ (w acc:List Nat),acc.Nodup→(WL w acc).Nodup
 | [],acc,h=>h
 | b::w,acc,h=>by
  unfold WL
  cases hc:acc.contains b with
  | true=>exact VQ w acc h
  | false =>
   refine VQ w _ ?_
   rw [List.nodup_append]
   refine ⟨h,by simp,fun a ha c hc'=>?_⟩
   simp only [List.mem_singleton] at hc'
   subst hc'
   intro e
   subst e
   rw [List.contains_iff_mem.2 ha] at hc
   cases hc
def after (σ1:Heap):Nat→List Blk→Prop
 | _,[]=>True
 | k,B::Bs=>σ1[k]? = some B∧(∃ md m g,B = .sc md m g)∧after σ1 (k+1) Bs
inductive AtL:List Nat→List Blk→List Blk→HA→HA→Prop
 | nil {L:HA}:AtL [] [] [] L L
 | cons {b:Nat} {rs:List Nat} {B B':Blk} {Bs Bs':List Blk} {L L' L'':HA}:At b B B' L L'→AtL rs Bs Bs' L' L''→AtL (b::rs) (B::Bs) (B'::Bs') L L''
theorem Hp.putL {rs:List Nat} {Bs Bs':List Blk} {L L':HA} (ha:AtL rs Bs Bs' L L'):∀ {σ:Heap} {n:Nat},Hp σ n L→Hp (XM σ rs Bs') n L':=by
 induction ha with
 | nil=>exact fun h=>h
 | cons h1 _ ih=>exact fun h=>ih (h.set h1)
theorem Qy {σ1:Heap}:∀ {Bs:List Blk} {k:Nat},after σ1 k Bs→k≤σ1.length→k+Bs.length≤σ1.length
 | [],k,_,h=>h
 | B::Bs,k,ha,h=>by
  have h1:k < σ1.length:=by
   rcases Nat.lt_or_ge k σ1.length with h | h
   ·exact h
   ·have h0:=ha.1
    rw [List.getElem?_eq_none h] at h0; simp at h0
  have:=Qy ha.2.2 h1
  simp only [List.length_cons]; omega
theorem Tz {σ1:Heap} (g:Nat→Option Nat):∀ {Bs:List Blk} {k:Nat},after σ1 k Bs→Y9 false g σ1 (List.range' k Bs.length) = some Bs
 | [],k,_=>rfl
 | B::Bs,k,h=>by
  obtain ⟨h1,⟨md,m,g',rfl⟩,h2⟩:=h
  simp only [List.length_cons,List.range'_succ,Y9,h1,Option.bind_some,Blk.ren,XW,cond_false,Tz g h2]
theorem T3 {σ1:Heap}:∀ {Bs:List Blk} {k:Nat},after σ1 k Bs→((σ1.drop k).take Bs.length).flatMap Blk.refs = []
 | [],k,_=>by simp
 | B::Bs,k,h=>by
  obtain ⟨h1,⟨md,m,g',rfl⟩,h2⟩:=h
  have hk:k < σ1.length:=by
   rcases Nat.lt_or_ge k σ1.length with h | h
   ·exact h
   ·rw [List.getElem?_eq_none h] at h1; simp at h1
  rw [List.drop_eq_getElem_cons hk,List.length_cons,List.take_succ_cons,List.flatMap_cons,T3 h2]
  rw [List.getElem?_eq_getElem hk] at h1
  injection h1 with h1
  rw [h1]; rfl
theorem kc {fid:FuncId} {av av':List V} {rs:List Nat} {Bs Bs':List Blk} {v:V} {σ1:Heap} {L':HA} (hrs:WL (V.refsL av) [] = rs) (hl:(V.refsL av).length < 64) (hsub:∀ b∈V.refsL av,b∈rs) (hren:rnL rs av = some av') (hB:scs L rs Bs) (hv:v.loose = true)
  (hr:Run A fid av' (Bs.map (U9 false)) = some (v,σ1)) (ha:after σ1 0 Bs') (hlen:Bs'.length = rs.length) (hat:AtL rs Bs Bs' L L') {σ:Heap} (h:Hp σ n L):∃ σ',Y4 (Run A) false (.fn fid []) av σ = some (v,σ')∧Hp σ' n L':=by
 have hre:Y6 σ 64 (V.refsL av) [] = rs:=by
  rw [Jh 64 _ _ (fun b hb=>(E8 h hB b (hsub b hb)).2) hl,hrs]
 have hen:XJ false av σ = some (rs,av',Bs.map (U9 false)):=by
  unfold XJ
  simp only [hre,R0 h false _ hB]
  unfold rnL at hren
  rw [hren]
 have hle:rs.length≤σ1.length:=by have:=Qy ha (Nat.zero_le _); omega
 have hns:X2 false rs.length v σ1 = []:=by
  unfold X2
  have:=T3 ha
  rw [List.drop_zero,hlen] at this
  simp [V.loose_refs v hv,this,Kx]
 refine ⟨XM σ rs Bs',?_,h.putL hat⟩
 have hnd:nodup rs = true:=Qq (by rw [← hrs]; exact VQ _ _ (by simp))
 have hp:Y9 false (Xs rs [] σ.length rs.length) σ1 (List.range rs.length) = some Bs':=by
  rw [← hlen,List.range_eq_range']
  exact Tz _ ha
 have hble:Nat.ble rs.length σ1.length = true:=Nat.ble_eq_true_of_le hle
 simp only [Y4,target,List.append_nil,Option.bind_some,hen,hr,XE,hns,hnd,hble,nodup,Bool.and_self,cond_true,V.loose_ren _ v hv,Y9,cond_false,hp]
theorem qV {fid:FuncId} {av av':List V} {rs:List Nat} {Bs:List Blk} {v:V} {σ1:Heap} (hrs:WL (V.refsL av) [] = rs) (hl:(V.refsL av).length < 64) (hsub:∀ b∈V.refsL av,b∈rs) (hren:rnL rs av = some av') (hB:scs L rs Bs) (hv:v.loose = true)
  (hr:Run A fid av' (Bs.map (U9 true)) = some (v,σ1)) (hle:rs.length≤σ1.length) {σ:Heap} (h:Hp σ n L):∃ σ',Y4 (Run A) true (.fn fid []) av σ = some (v,σ')∧Hp σ' n L:=by
 have hre:Y6 σ 64 (V.refsL av) [] = rs:=by
  rw [Jh 64 _ _ (fun b hb=>(E8 h hB b (hsub b hb)).2) hl,hrs]
 have hen:XJ true av σ = some (rs,av',Bs.map (U9 true)):=by
  unfold XJ
  simp only [hre,R0 h true _ hB]
  unfold rnL at hren
  rw [hren]
 have hns:X2 true rs.length v σ1 = []:=by
  unfold X2
  simp [V.loose_refs v hv,Kx]
 have hnd:nodup rs = true:=Qq (by rw [← hrs]; exact VQ _ _ (by simp))
 have hble:Nat.ble rs.length σ1.length = true:=Nat.ble_eq_true_of_le hle
 refine ⟨σ,?_,h⟩
 simp only [Y4,target,List.append_nil,Option.bind_some,hen,hr,XE,hns,hnd,hble,nodup,Bool.and_self,cond_true,V.loose_ren _ v hv,Y9]
end
def RB (A:AP) (fid:FuncId) (av:List V) (Bs:List Blk) (v:V) (Bs':List Blk):Prop:=∃ σ1,Run A fid av Bs = some (v,σ1)∧after σ1 0 Bs'
section
variable {A:AP} {N:Nat} {f:FE} {n:Nat} {L:HA} {K:KN} {Zp:V→KN} {l:List I} {d:Nat}
theorem Ua {fid:FuncId} {av:List V} {B:Blk} {v:V} {md:Md} {m:Nat} {g:Nat→S} (h:WR A fid av [B] fun v' _ L'=>v' = v∧(0,Blk.sc md m g)∈L'):RB A fid av [B] v [.sc md m g]:=by
 obtain ⟨v',σ',n',L',h1,h2,rfl,h3⟩:=h
 exact ⟨σ',h1,(h2.2.mem h3).2,⟨md,m,g,rfl⟩,trivial⟩
theorem Ew {fid:FuncId} {av:List V} {B C:Blk} {v:V} {md md':Md} {m m':Nat} {g g':Nat→S} (h:WR A fid av [B,C] fun v' _ L'=>v' = v∧(0,Blk.sc md m g)∈L'∧(1,Blk.sc md' m' g')∈L'):RB A fid av [B,C] v [.sc md m g,.sc md' m' g']:=by
 obtain ⟨v',σ',n',L',h1,h2,rfl,h3,h4⟩:=h
 exact ⟨σ',h1,(h2.2.mem h3).2,⟨md,m,g,rfl⟩,(h2.2.mem h4).2,⟨md',m',g',rfl⟩,trivial⟩
theorem Wn {x:O} {xs:List O} {fid:FuncId} {av av':List V} {rs:List Nat} {Bs Bs':List Blk} {v:V} {L':HA} (hf:x.fv N f = .fn fid []) (hs:RB A fid av' Bs v Bs') (ha:xs.map (O.fv N f) = av) (hrs:WL (V.refsL av) [] = rs) (hl:(V.refsL av).length < 64) (hsub:∀ b∈V.refsL av,b∈rs)
  (hren:rnL rs av = some av') (hB:scs L rs Bs) (hlow:Bs.map (U9 false) = Bs) (hlen:Bs'.length = rs.length) (hv:v.loose = true) (hat:AtL rs Bs Bs' L L') (k:WO A N l (upd f d v) n L' K Zp):WO A N (⟨some d,none,.h (.call x xs)⟩::l) f n L K Zp:=by
 obtain ⟨σ1,hs,haf⟩:=hs
 refine Wj (v:=v) (fun σ h=>?_) k
 simp only [YJ,Y7,hf,ha]
 exact kc hrs hl hsub hren hB hv (by rw [hlow]; exact hs) haf hlen hat h
theorem s9 {x:O} {xs:List O} {fid:FuncId} {av av':List V} {rs:List Nat} {Bs Bs0 Bs':List Blk} {v:V} (hf:x.fv N f = .fn fid []) (hs:RB A fid av' Bs0 v Bs') (ha:xs.map (O.fv N f) = av) (hrs:WL (V.refsL av) [] = rs) (hl:(V.refsL av).length < 64) (hsub:∀ b∈V.refsL av,b∈rs)
  (hren:rnL rs av = some av') (hB:scs L rs Bs) (hlow:Bs.map (U9 true) = Bs0) (hlen:Bs'.length = rs.length) (hv:v.loose = true) (k:WO A N l (upd f d v) n L K Zp):WO A N (⟨some d,none,.h (.callq x xs)⟩::l) f n L K Zp:=by
 obtain ⟨σ1,hs,haf⟩:=hs
 refine Wj (v:=v) (fun σ h=>?_) k
 simp only [YJ,Y7,hf,ha]
 have:=Qy haf (Nat.zero_le _)
 exact qV hrs hl hsub hren hB hv (by rw [hlow]; exact hs) (by omega) h
theorem Q9 {x:O} {xs:List O} {fid:FuncId} {b z m m':Nat} {rest:List V} {md md':Md} {g g':Nat→S} {v:V} {L':HA} (hf:x.fv N f = .fn fid []) (hs:RB A fid (.ptr 0 0 z::rest) [.sc md m g] v [.sc md' m' g']) (ha:xs.map (O.fv N f) = .ptr b 0 z::rest) (h1:V.looseL rest = true) (h2:v.loose = true)
  (hat:At b (.sc md m g) (.sc md' m' g') L L') (k:WO A N l (upd f d v) n L' K Zp):WO A N (⟨some d,none,.h (.call x xs)⟩::l) f n L K Zp:=by
 have hr:V.refsL (.ptr b 0 z::rest) = [b]:=by simp only [V.refsL,V.refs,V.looseL_refs rest h1,List.append_nil]
 refine Wn (rs:=[b]) (Bs:=[.sc md m g]) hf hs ha (by rw [hr]; rfl) (by rw [hr]; simp) (by rw [hr]; exact fun _ h=>h) ?_ ⟨hat.mem,⟨md,m,g,rfl⟩,trivial⟩ rfl rfl h2 (.cons hat .nil) k
 simp only [rnL,V.renL,V.ren,pos,V.looseL_ren _ rest h1,beq_self_eq_true,cond_true,Option.map_some]
end
end Go.Am
namespace Go.Am
open Go
def RN (A:AP) (fid:FuncId) (av:List V) (Bs:List Blk) (mk:Nat→V) (B:Blk) (Bs':List Blk):Prop :=
 ∃ b σ1,Run A fid av Bs = some (mk b,σ1)∧Bs.length≤b∧σ1[b]? = some B∧after σ1 0 Bs'
structure One (mk:Nat→V):Prop where
 refs:∀ b,(mk b).refs = [b]
 ren:∀ g b,(mk b).ren g = (g b).map mk
theorem jc {o m z:Nat} {c:Cp}:One fun b=>.sl b o m z c:=⟨fun _=>by simp [V.refs],fun _ _=>by simp [V.ren]⟩
theorem rj {o z:Nat} {x:S}:One fun b=>.tup [.ptr b o z,.s x]:=⟨fun _=>by simp [V.refs,V.refsL],fun g b=>by cases h:g b <;> simp [V.ren,V.renL,h]⟩
section
variable {A:AP} {N:Nat} {f:FE} {n:Nat} {L:HA} {K:KN} {Zp:V→KN} {l:List I} {d:Nat}
theorem yV {mk:Nat→V} (hmk:One mk) {k b:Nat} (hb:k≤b) {σ1:Heap} {md:Md} {m:Nat} {g:Nat→S} (h1:σ1[b]? = some (.sc md m g)) {W:List Nat} (hW:W = []) :
  (Y6 σ1 64 ((mk b).refs++W) []).filter (fun b=>Nat.ble k b) = [b]:=by
 subst hW
 have hd:σ1.getD b .dead = .sc md m g:=by rw [List.getD_eq_getElem?_getD,h1]; rfl
 rw [hmk.refs,List.append_nil]
 have:Y6 σ1 64 [b] [] = [b]:=by
  show (bif ([]:List Nat).contains b then Y6 σ1 63 [] [] else Y6 σ1 63 ((σ1.getD b .dead).refs++[]) ([]++[b])) = [b]
  rw [hd]
  rfl
 rw [this]
 simp [hb]
theorem Tn {rs:List Nat} {b n k:Nat} (hb:k≤b):Xs rs [b] n k b = some n:=by
 have h:Nat.blt b k = false:=by
  cases h:Nat.blt b k with
  | false=>rfl
  | true=>exact absurd (Nat.le_of_ble_eq_true h) (by omega)
 unfold Xs
 rw [h]
 simp [pos]
theorem DT {q:Bool} {av av':List V} {rs:List Nat} {Bs:List Blk} (hrs:WL (V.refsL av) [] = rs) (hl:(V.refsL av).length < 64) (hsub:∀ b∈V.refsL av,b∈rs) (hren:rnL rs av = some av') (hB:scs L rs Bs) {σ:Heap} (h:Hp σ n L) :
  XJ q av σ = some (rs,av',Bs.map (U9 q)):=by
 have hre:Y6 σ 64 (V.refsL av) [] = rs:=by
  rw [Jh 64 _ _ (fun b hb=>(E8 h hB b (hsub b hb)).2) hl,hrs]
 unfold XJ
 simp only [hre,R0 h q _ hB]
 unfold rnL at hren
 rw [hren]
theorem De:∀ {rs:List Nat} {Bs:List Blk},scs L rs Bs→rs.length = Bs.length
 | [],[],_=>rfl
 | _::_,_::_,h=>by simp [De h.2.2]
theorem TI {x:O} {xs:List O} {fid:FuncId} {caps av av':List V} {rs:List Nat} {Bs Bs':List Blk} {mk:Nat→V} {md:Md} {m:Nat} {g:Nat→S} {L':HA} (hmk:One mk) (hf:x.fv N f = .fn fid caps) (hs:RN A fid av' Bs mk (.sc md m g) Bs') (ha:xs.map (O.fv N f)++caps = av) (hrs:WL (V.refsL av) [] = rs) (hl:(V.refsL av).length < 64) (hsub:∀ b∈V.refsL av,b∈rs)
  (hren:rnL rs av = some av') (hB:scs L rs Bs) (hlow:Bs.map (U9 false) = Bs) (hlen:Bs'.length = rs.length) (hat:AtL rs Bs Bs' L L') (k:WO A N l (upd f d (mk n)) (n+1) ((n,.sc md m g)::L') K Zp):WO A N (⟨some d,none,.h (.call x xs)⟩::l) f n L K Zp:=by
 obtain ⟨b,σ1,hr,hb,h1,haf⟩:=hs
 refine Wj (v:=mk n) (fun σ h=>?_) k
 have hen:=DT (q:=false) hrs hl hsub hren hB h
 rw [hlow] at hen
 have hk:=De hB
 have hle:rs.length≤σ1.length:=by have:=Qy haf (Nat.zero_le _); omega
 have hns:X2 false rs.length (mk b) σ1 = [b]:=by
  unfold X2
  have:=T3 haf
  rw [List.drop_zero,hlen] at this
  exact yV hmk (by omega) h1 (by simp [this])
 have hnd:nodup rs = true:=Qq (by rw [← hrs]; exact VQ _ _ (by simp))
 have hp:Y9 false (Xs rs [b] σ.length rs.length) σ1 (List.range rs.length) = some Bs':=by
  rw [← hlen,List.range_eq_range']
  exact Tz _ haf
 have hble:Nat.ble rs.length σ1.length = true:=Nat.ble_eq_true_of_le hle
 have hre:(mk b).ren (Xs rs [b] σ.length rs.length) = some (mk n):=by
  rw [hmk.ren,Tn (by omega),h.1]; rfl
 refine ⟨XM σ rs Bs'++[.sc md m g],?_,(h.putL hat).new _⟩
 simp only [YJ,Y7,hf,Y4,target,Option.bind_some,ha,hen,hr,XE,hns,hnd,hble,nodup,Bool.and_self,cond_true,hre,Y9,h1,Blk.ren,XW,cond_false,hp,List.contains_nil,Bool.not_false]
theorem uM {x:O} {xs:List O} {fid:FuncId} {caps av av':List V} {rs:List Nat} {Bs Bs0 Bs':List Blk} {mk:Nat→V} {md:Md} {m:Nat} {g:Nat→S} (hmk:One mk) (hf:x.fv N f = .fn fid caps) (hs:RN A fid av' Bs0 mk (.sc md m g) Bs') (ha:xs.map (O.fv N f)++caps = av) (hrs:WL (V.refsL av) [] = rs) (hl:(V.refsL av).length < 64) (hsub:∀ b∈V.refsL av,b∈rs)
  (hren:rnL rs av = some av') (hB:scs L rs Bs) (hlow:Bs.map (U9 true) = Bs0) (hlen:Bs'.length = rs.length) (k:WO A N l (upd f d (mk n)) (n+1) ((n,.sc md m g)::L) K Zp):WO A N (⟨some d,none,.h (.callq x xs)⟩::l) f n L K Zp:=by
 obtain ⟨b,σ1,hr,hb,h1,haf⟩:=hs
 refine Wj (v:=mk n) (fun σ h=>?_) k
 have hen:=DT (q:=true) hrs hl hsub hren hB h
 rw [hlow] at hen
 have hk:=De hB
 have hk0:Bs0.length = Bs.length:=by rw [← hlow,List.length_map]
 have hle:rs.length≤σ1.length:=by have:=Qy haf (Nat.zero_le _); omega
 have hns:X2 true rs.length (mk b) σ1 = [b]:=by
  unfold X2
  exact yV hmk (by omega) h1 (by simp)
 have hnd:nodup rs = true:=Qq (by rw [← hrs]; exact VQ _ _ (by simp))
 have hble:Nat.ble rs.length σ1.length = true:=Nat.ble_eq_true_of_le hle
 have hre:(mk b).ren (Xs rs [b] σ.length rs.length) = some (mk n):=by
  rw [hmk.ren,Tn (by omega),h.1]; rfl
 refine ⟨σ++[.sc md m g],?_,h.new _⟩
 simp only [YJ,Y7,hf,Y4,target,Option.bind_some,ha,hen,hr,XE,hns,hnd,hble,nodup,Bool.and_self,cond_true,hre,Y9,h1,Blk.ren,XW,cond_false,List.contains_nil,Bool.not_false]
theorem Vd {x:O} {xs:List O} {fid:FuncId} {caps av av':List V} {rs:List Nat} {Bs Bs':List Blk} {v:V} {L':HA} (hf:x.fv N f = .fn fid caps) (hs:RB A fid av' Bs v Bs') (ha:xs.map (O.fv N f)++caps = av) (hrs:WL (V.refsL av) [] = rs) (hl:(V.refsL av).length < 64) (hsub:∀ b∈V.refsL av,b∈rs)
  (hren:rnL rs av = some av') (hB:scs L rs Bs) (hlow:Bs.map (U9 false) = Bs) (hlen:Bs'.length = rs.length) (hv:v.loose = true) (hat:AtL rs Bs Bs' L L') (k:WO A N l (upd f d v) n L' K Zp):WO A N (⟨some d,none,.h (.call x xs)⟩::l) f n L K Zp:=by
 obtain ⟨σ1,hs,haf⟩:=hs
 refine Wj (v:=v) (fun σ h=>?_) k
 have hl':(V.refsL av).length < 64:=hl
 have:=kc (A:=A) (fid:=fid) hrs hl' hsub hren hB hv (by rw [hlow]; exact hs) haf hlen hat h
 simp only [YJ,Y7,hf,Y4,target,Option.bind_some,ha]
 simp only [Y4,target,Option.bind_some,List.append_nil] at this
 exact this
theorem tR {x:O} {xs:List O} {fid:FuncId} {caps av av':List V} {rs:List Nat} {Bs Bs0 Bs':List Blk} {v:V} (hf:x.fv N f = .fn fid caps) (hs:RB A fid av' Bs0 v Bs') (ha:xs.map (O.fv N f)++caps = av) (hrs:WL (V.refsL av) [] = rs) (hl:(V.refsL av).length < 64) (hsub:∀ b∈V.refsL av,b∈rs)
  (hren:rnL rs av = some av') (hB:scs L rs Bs) (hlow:Bs.map (U9 true) = Bs0) (hlen:Bs'.length = rs.length) (hv:v.loose = true) (k:WO A N l (upd f d v) n L K Zp):WO A N (⟨some d,none,.h (.callq x xs)⟩::l) f n L K Zp:=by
 obtain ⟨σ1,hs,haf⟩:=hs
 refine Wj (v:=v) (fun σ h=>?_) k
 have:=Qy haf (Nat.zero_le _)
 have:=qV (A:=A) (fid:=fid) hrs hl hsub hren hB hv (by rw [hlow]; exact hs) (by omega) h
 simp only [YJ,Y7,hf,Y4,target,Option.bind_some,ha]
 simp only [Y4,target,Option.bind_some,List.append_nil] at this
 exact this
theorem WE {a b:AC} {X:Nat→KN} {R:KN} (I:KN) (h1:WP A N a f n L (fun f n L=>∃ L',List.Sublist L' L∧I f n L') X R Zp) (h2:∀ f n L,I f n L→WP A N b f n L K X R Zp):WP A N (.seq a b) f n L K X R Zp :=
 zH (kL h1 (fun f n _ ⟨_,hs,hI⟩=>Xe hs (h2 f n _ hI)) (fun _ _ _ _ h=>h) (fun _ _ _ h=>h))
theorem Uf {b:AC} {X:Nat→KN} {R:KN} (h:WP A N b f n L (fun f n L=>WP A N (.loop b) f n L K X R Zp) X R Zp):WP A N (.loop b) f n L K X R Zp:=fun σ hσ=>by
 obtain ⟨x,f',σ',n',L',h1,h2,h3⟩:=h σ hσ
 rw [xV]
 cases x with
 | normal =>
  obtain ⟨x,f2,σ2,n2,L2,h4,h5,h6⟩:=h3 σ' h2
  exact ⟨x,f2,σ2,n2,L2,by rw [h1,then_normal,h4],h5,h6⟩
 | exit j=>exact ⟨.exit j,f',σ',n',L',by rw [h1,then_exit],h2,h3⟩
 | ret=>exact ⟨.ret,f',σ',n',L',by rw [h1,then_ret],h2,h3⟩
 | panic v=>exact ⟨.panic v,f',σ',n',L',by rw [h1,then_panic],h2,h3⟩
theorem KX {b:AC} {X:Nat→KN} {R:KN} (I:KN) (h1:WP A N b f n L (fun f n L=>∃ L',List.Sublist L' L∧I f n L') X R Zp) (h2:∀ f n L,I f n L→WP A N (.loop b) f n L K X R Zp):WP A N (.loop b) f n L K X R Zp :=
 Uf (kL h1 (fun f n _ ⟨_,hs,hI⟩=>Xe hs (h2 f n _ hI)) (fun _ _ _ _ h=>h) (fun _ _ _ h=>h))
theorem uq {fid:FuncId} {av:List V} {mk:Nat→V} {md:Md} {m:Nat} {g:Nat→S} (h:WR A fid av [] fun v _ L'=>∃ b,v = mk b∧(b,Blk.sc md m g)∈L'):RN A fid av [] mk (.sc md m g) []:=by
 obtain ⟨v,σ',n',L',h1,h2,b,rfl,h3⟩:=h
 exact ⟨b,σ',h1,Nat.zero_le _,(h2.2.mem h3).2,trivial⟩
theorem ET {z bytes m:Nat} {s x:O} {b' o':Nat} {c:Cp} {md':Md} {q':Nat} {R:Nat→Int} (hs:s.fv N f = .snil) (hx:x.fv N f = .sl b' o' m z c) (hb:(b',Blk.sc md' q' (ia R))∈L) (h0:m ≠ 0) (hr:X1 m bytes = true)
  (k:WO A N l (upd f d (.sl n 0 m z .whole)) (n+1) ((n,.sc .grow (m*z) (ia fun i=>R (o'+i)))::L) K Zp):WO A N (⟨some d,none,.h (.append z bytes s x)⟩::l) f n L K Zp :=
 Wj (v:=.sl n 0 m z .whole) (fun σ hσ=>⟨σ++[.sc .grow (m*z) (ia fun i=>R (o'+i))],by
  simp only [YJ,Y7,hs,hx,V2,Ul,(hσ.2.mem hb).2,if_true]
  rw [if_neg h0,hr]
  simp only [cond_true,V8,if_true,Option.map_some,hσ.1],hσ.new _⟩) k
theorem TP {z bytes m p:Nat} {s x:O} {b o b' o':Nat} {c:Cp} {md':Md} {q q':Nat} {G R:Nat→Int} {L':HA} (hs:s.fv N f = .sl b o p z .whole) (hx:x.fv N f = .sl b' o' m z c) (hb:(b',Blk.sc md' q' (ia R))∈L) (hat:At b (.sc .grow q (ia G)) .dead L L') (hr:X1 (p+m) bytes = true)
  (k:WO A N l (upd f d (.sl n 0 (p+m) z .whole)) (n+1) ((n,.sc .grow (p*z+m*z) (ia fun i=>bif Nat.blt i (p*z) then G (o+i) else R (o'+(i - p*z))))::L') K Zp):WO A N (⟨some d,none,.h (.append z bytes s x)⟩::l) f n L K Zp :=
 Wj (v:=.sl n 0 (p+m) z .whole) (fun σ hσ=>⟨kill σ b++[.sc .grow (p*z+m*z) (ia fun i=>bif Nat.blt i (p*z) then G (o+i) else R (o'+(i - p*z)))],by
  simp only [YJ,Y7,hs,hx,V2,Ul,(hσ.2.mem hb).2,(hσ.2.mem hat.mem).2,if_true,hr,cond_true,V8,Option.map_some,hσ.1]
  refine congrArg some (Prod.ext rfl ?_)
  refine congrArg (fun B=>kill σ b++[B]) ?_
  refine congrArg (Blk.sc .grow (p*z+m*z)) ?_
  funext i
  show (bif Nat.blt i (p*z) then S.int .i64 (G (o+i)) else S.int .i64 (R (o'+(i - p*z)))) = _
  show _ = S.int .i64 (bif Nat.blt i (p*z) then G (o+i) else R (o'+(i - p*z)))
  cases Nat.blt i (p*z) <;> rfl,(hσ.set hat).new _⟩) k
theorem rK (k:WO A N l (upd f d (.map n)) (n+1) ((n,.mp .var [])::L) K Zp):WO A N (⟨some d,none,.h .mkmap⟩::l) f n L K Zp :=
 Wj (v:=.map n) (fun σ h=>⟨σ++[.mp .var []],by simp only [YJ,h.1],h.new _⟩) k
theorem KY {od:Option Nat} {m k v:O} {b:Nat} {j:S} {x:V} {md:Md} {ps qs:List (S × V)} {L':HA} (hm:m.fv N f = .map b) (hk:k.fv N f = .s j) (hv:v.fv N f = x) (hmd:md.mut = true) (hall:(ps.all (fun p=>p.1.fits j) && j.fits j) = true) (hq:mput j x ps = qs)
  (hat:At b (.mp md ps) (.mp md qs) L L') (kk:WO A N l (Y8 f od .undef) n L' K Zp):WO A N (⟨od,none,.h (.mput m k v)⟩::l) f n L K Zp :=
 Wj (v:=.undef) (fun σ h=>⟨σ.set b (.mp md qs),by simp only [YJ,Y7,hm,hk,hv,(h.2.mem hat.mem).2,hmd,if_true,hall,cond_true,hq],h.set hat⟩) kk
theorem WO_mget {z:Z} {m k:O} {b:Nat} {j:S} {x:V} {md:Md} {ps:List (S × V)} (hm:m.fv N f = .map b) (hk:k.fv N f = .s j) (hat:(b,Blk.mp md ps)∈L) (hall:ps.all (fun p=>p.1.fits j) = true) (hx:(Kt j ps).getD z.v = x)
  (kk:WO A N l (upd f d x) n L K Zp):WO A N (⟨some d,none,.h (.mget z false m k)⟩::l) f n L K Zp :=
 Wj (v:=x) (fun σ h=>⟨σ,by
  simp only [YJ,Y7,hm,hk,(h.2.mem hat).2,hall,cond_true]
  subst hx
  cases Kt j ps <;> rfl,h⟩) kk
end
section
variable {A:AP} {N:Nat} {f:FE} {n:Nat} {L:HA} {K:KN} {Zp:V→KN} {l:List I} {d:Nat}
theorem WO_eqaC {neg:Bool} {m:Nat} {x y:O} {P Q:Nat→Int} {b:Bool} (hx:x.fv N f = .agg m (ia P)) (hy:y.fv N f = .agg m (ia Q)) (h:(bif neg then !(eqI m P Q) else eqI m P Q) = b) (k:WO A N l (upd f d (.s (.bool b))) n L K Zp):WO A N (⟨some d,none,.p (.eqa neg m x y)⟩::l) f n L K Zp:=by
 subst h
 exact uW hx hy k
end
end Go.Am
namespace Go.Am
open Go
def Blk.loose:Blk→Bool
 | .sc _ _ _=>true
 | .vs _ l=>V.looseL l
 | .mp _ l=>V.looseL (l.map (·.2))
 | .dead=>true
 | .sit _ _=>false
 | .lp _ _ _ _=>false
def Blk.low (q:Bool):Blk→Blk
 | .sc md m g=>.sc (XW q md) m g
 | .vs md l=>.vs (XW q md) l
 | .mp md l=>.mp (XW q md) l
 | b=>b
theorem Blk.low_false (B:Blk):B.low false = B:=by cases B <;> rfl
theorem Blk.loose_refs {B:Blk} (h:B.loose = true):B.refs = []:=by
 cases B with
 | sc _ _ _=>rfl
 | vs md l=>exact V.looseL_refs l h
 | mp md l=>exact V.looseL_refs _ h
 | dead=>rfl
 | sit _ _=>rfl
 | lp _ _ _ _=>cases h
theorem zY (g:Nat→Option Nat):∀ (l:List (S × V)),V.looseL (l.map (·.2)) = true→D6 g l = some l
 | [],_=>rfl
 | (k,x)::l,h=>by
  simp only [List.map_cons,V.looseL,Bool.and_eq_true] at h
  simp only [D6,V.loose_ren g x h.1,zY g l h.2]
theorem Blk.loose_ren {B:Blk} (h:B.loose = true) (q:Bool) (g:Nat→Option Nat):Blk.ren q g B = some (B.low q):=by
 cases B with
 | sc _ _ _=>rfl
 | vs md l=>simp only [Blk.ren,V.looseL_ren g l h,Option.map_some,Blk.low]
 | mp md l=>simp only [Blk.ren,zY g l h,Option.map_some,Blk.low]
 | dead=>rfl
 | sit _ _=>cases h
 | lp _ _ _ _=>cases h
def lss (L:HA):List Nat→List Blk→Prop
 | [],[]=>True
 | b::rs,B::Bs=>(b,B)∈L∧B.loose = true∧lss L rs Bs
 | _,_=>False
def RG (σ1:Heap):Nat→List Blk→Prop
 | _,[]=>True
 | k,B::Bs=>σ1[k]? = some B∧B.loose = true∧RG σ1 (k+1) Bs
theorem zV {σ1:Heap}:∀ {Bs:List Blk} {k:Nat},RG σ1 k Bs→k≤σ1.length→k+Bs.length≤σ1.length
 | [],k,_,h=>h
 | B::Bs,k,ha,h=>by
  have h1:k < σ1.length:=by
   rcases Nat.lt_or_ge k σ1.length with h | h
   ·exact h
   ·have h0:=ha.1
    rw [List.getElem?_eq_none h] at h0; simp at h0
  have:=zV ha.2.2 h1
  simp only [List.length_cons]; omega
theorem Dz {σ1:Heap} (g:Nat→Option Nat):∀ {Bs:List Blk} {k:Nat},RG σ1 k Bs→Y9 false g σ1 (List.range' k Bs.length) = some Bs
 | [],k,_=>rfl
 | B::Bs,k,h=>by
  obtain ⟨h1,hl,h2⟩:=h
  simp only [List.length_cons,List.range'_succ,Y9,h1,Option.bind_some,Blk.loose_ren hl,Blk.low_false,Dz g h2]
theorem zt {σ1:Heap}:∀ {Bs:List Blk} {k:Nat},RG σ1 k Bs→((σ1.drop k).take Bs.length).flatMap Blk.refs = []
 | [],k,_=>by simp
 | B::Bs,k,h=>by
  obtain ⟨h1,hl,h2⟩:=h
  have hk:k < σ1.length:=by
   rcases Nat.lt_or_ge k σ1.length with h | h
   ·exact h
   ·rw [List.getElem?_eq_none h] at h1; simp at h1
  rw [List.drop_eq_getElem_cons hk,List.length_cons,List.take_succ_cons,List.flatMap_cons,zt h2]
  rw [List.getElem?_eq_getElem hk] at h1
  injection h1 with h1
  rw [h1,Blk.loose_refs hl]; rfl
def RL (A:AP) (fid:FuncId) (av:List V) (Bs:List Blk) (v:V) (Bs':List Blk):Prop:=∃ σ1,Run A fid av Bs = some (v,σ1)∧RG σ1 0 Bs'
section
variable {A:AP} {N:Nat} {f:FE} {n:Nat} {L:HA} {K:KN} {Zp:V→KN} {l:List I} {d:Nat}
end
def self (own:Bool) (b:Nat):V:=bif own then .ptr b 0 2 else .pnil
def BN (A:AP) (own:Bool) (fid:FuncId) (rest:List V) (T el:TypeId) (v:V) (m:Nat) (g:Nat→S):Prop :=
 ∃ σ1 k,Run A fid (.ptr 0 0 2::rest) [.vs (.ty T) [self own 0,.snil]] = some (v,σ1)∧σ1[0]? = some (.vs (.ty T) [.ptr 0 0 2,.sl k 0 m 1 .whole])∧1≤k∧σ1[k]? = some (.sc (.gty el) m g)
def BW (A:AP) (fid:FuncId) (rest:List V) (T el:TypeId) (m:Nat) (g:Nat→S) (v:V) (m':Nat) (g':Nat→S):Prop :=
 ∃ σ1 k,Run A fid (.ptr 0 0 2::rest) [.vs (.ty T) [.ptr 0 0 2,.sl 1 0 m 1 .whole],.sc (.gty el) m g] = some (v,σ1)∧σ1[0]? = some (.vs (.ty T) [.ptr 0 0 2,.sl k 0 m' 1 .whole])∧2≤k∧σ1[1]? = some .dead∧σ1[k]? = some (.sc (.gty el) m' g')
def BC (A:AP) (own:Bool) (fid:FuncId) (rest:List V) (T:TypeId) (v:V):Prop :=
 ∃ σ1,Run A fid (.ptr 0 0 2::rest) [.vs (.ty T) [self own 0,.snil]] = some (v,σ1)∧σ1[0]? = some (.vs (.ty T) [.ptr 0 0 2,.snil])
def BU (A:AP) (fid:FuncId) (rest:List V) (T el:TypeId) (m:Nat) (g:Nat→S) (v:V):Prop :=
 ∃ σ1,Run A fid (.ptr 0 0 2::rest) [.vs (.ty T) [.ptr 0 0 2,.sl 1 0 m 1 .whole],.sc (.gty el) m g] = some (v,σ1)∧σ1[0]? = some (.vs (.ty T) [.ptr 0 0 2,.sl 1 0 m 1 .whole])∧σ1[1]? = some (.sc (.gty el) m g)
def BE (A:AP) (fid:FuncId) (rest:List V) (T el:TypeId) (m:Nat) (g:Nat→S) (v:V):Prop :=
 ∃ σ1,Run A fid (.ptr 0 0 2::rest) [.vs (.ty T) [.ptr 0 0 2,.sl 1 0 m 1 .whole],.sc (.gty el) m g] = some (v,σ1)∧σ1[0]? = some (.vs (.ty T) [.ptr 0 0 2,.sl 1 0 m 1 .whole])∧σ1[1]? = some .dead
section
variable {A:AP} {N:Nat} {f:FE} {n:Nat} {L:HA} {K:KN} {Zp:V→KN} {l:List I}
theorem K9 {σ:Heap} {b:Nat} {B:Blk} (h:σ[b]? = some B):σ.getD b .dead = B:=by rw [List.getD_eq_getElem?_getD,h]; rfl
theorem zC {σ:Heap} {b:Nat} {B:Blk} (h:σ[b]? = some B):b < σ.length:=by
 rcases Nat.lt_or_ge b σ.length with q | q
 ·exact q
 ·rw [List.getElem?_eq_none q] at h; cases h
theorem take1 {σ:Heap} {B:Blk} (h:σ[0]? = some B):σ.take 1 = [B]:=by
 cases σ with
 | nil=>cases h
 | cons x l=>simp only [List.getElem?_cons_zero,Option.some.injEq] at h; subst h; rfl
theorem take2 {σ:Heap} {B C:Blk} (h:σ[0]? = some B) (h2:σ[1]? = some C):σ.take 2 = [B,C]:=by
 cases σ with
 | nil=>cases h
 | cons x l =>
  simp only [List.getElem?_cons_zero,Option.some.injEq] at h; subst h
  simp only [List.getElem?_cons_succ] at h2
  rw [List.take_succ_cons,take1 h2]
end
end Go.Am
namespace Go.Am
open Go
section
variable {A:AP} {N:Nat} {f:FE} {n:Nat} {L:HA} {K:KN} {Zp:V→KN} {l:List I} {d:Nat}
theorem Ub {L':HA} (hs:List.Sublist L' L) (k:WO A N l f n L' K Zp):WO A N l f n L K Zp:=fun σ hσ=>k σ (hσ.sub hs)
inductive FillG (N:Nat) (f:FE):List (Nat × Nat × O)→(Nat→S)→(Nat→S)→Prop
 | nil {g:Nat→S}:FillG N f [] g g
 | one {off:Nat} {x:O} {a:S} {r:List (Nat × Nat × O)} {g h:Nat→S} (hx:x.fv N f = .s a) (hr:FillG N f r (WU g off 1 fun _=>a) h):FillG N f ((off,1,x)::r) g h
end
end Go.Am
namespace Go.Am
open Go
def BX (A:AP) (fid:FuncId) (z:Nat) (md:Md) (m:Nat) (g:Nat→S) (v:V) (g':Nat→S):Prop :=
 ∃ σ1,Run A fid [.ptr 0 0 1] [.vs .var [.ptr 1 0 z],.sc md m g] = some (v,σ1)∧σ1[0]? = some (.vs .var [.ptr 1 0 z])∧σ1[1]? = some (.sc md m g')
section
variable {A:AP} {N:Nat} {f:FE} {n:Nat} {L:HA} {K:KN} {Zp:V→KN} {l:List I}
end
end Go.Am
namespace Go.Am
open Go
def Reads (run:Runner) (a:I) (d:Nat) (x:V) (e:Env) (σ:Heap):Prop:=XA run a e σ = some (e.set d x,σ)
theorem TB (r:Res):UF r r:=by
 match r with
 | none=>rfl
 | some (.panic x,e,σ)=>exact ⟨rfl,rfl⟩
 | some (.normal,e,σ)=>rfl
 | some (.exit _,e,σ)=>rfl
 | some (.ret,e,σ)=>rfl
section
variable {A:AP} {n:Nat} {L:HA}
end
def Moves (run:Runner) (b:I) (d:Nat):Prop :=
 ∀ (e:Env) (x:V) (σ:Heap),XA run b (e.set d x) σ = (XA run b e σ).map (fun r=>(r.1.set d x,r.2))∧WH run b (e.set d x) σ = WH run b e σ
def O.avoids (d:Nat):O→Bool
 | .t n=>!Nat.beq n d
 | .k _=>true
end Go.Am
namespace Go.Am
open Go
section
variable {A:AP} {N:Nat} {f:FE} {n:Nat} {L:HA} {K:KN} {Zp:V→KN} {l:List I} {d:Nat}
end
end Go.Am
namespace Go.Am
open Go
section
variable {A:AP} {N:Nat} {f:FE} {n:Nat} {L:HA} {K:KN} {Zp:V→KN}
def WOx (A:AP) (N:Nat) (l:List I) (f:FE) (n:Nat) (L:HA) (K:KN) (Zp:V→KN):Prop :=
 ∀ σ,Hp σ n L→∃ x f' σ' n' L',YQ (Run A) l (E N f) σ = some (x,E N f',σ')∧Hp σ' n' L'∧outO x f' n' L' K Zp
theorem K5 {X:Nat→KN} {R:KN} {l:List I} (h:WOx A N l f n L K Zp):WP A N (.ops l) f n L K X R Zp:=fun σ hσ=>by
 obtain ⟨x,f',σ',n',L',h1,h2,h3⟩:=h σ hσ
 refine ⟨x,f',σ',n',L',by rw [jb,h1],h2,?_⟩
 cases x with
 | normal=>exact h3
 | panic v=>exact h3
 | exit j=>exact h3.elim
 | ret=>exact h3.elim
theorem WY {l:List I} (h:WO A N l f n L K Zp):WOx A N l f n L K Zp:=fun σ hσ=>by
 obtain ⟨x,f',σ',n',L',h1,h2,h3⟩:=h σ hσ
 exact ⟨x,f',σ',n',L',UV h1,h2,h3⟩
theorem Um {r:Runner} {l2:List I}:∀ {l:List I} {e e':Env} {σ σ':Heap},YQ r l e σ = some (.normal,e',σ')→YQ r (l++l2) e σ = YQ r l2 e' σ'
 | [],e,e',σ,σ',h=>by
  simp only [YQ,Option.some.injEq,Prod.mk.injEq,true_and] at h
  obtain ⟨rfl,rfl⟩:=h
  rfl
 | o::l,e,e',σ,σ',h=>by
  simp only [YQ] at h
  simp only [List.cons_append,YQ]
  split at h
  ·exact Um h
  ·split at h
   ·exact Um h
   ·simp only [Option.map_eq_some_iff,Prod.mk.injEq] at h
    obtain ⟨y,_,h1,_⟩:=h
    cases h1
theorem Ki {l1 l2:List I} (h:WO A N l1 f n L (fun f n L=>WOx A N l2 f n L K Zp) (fun _ _ _ _=>False)):WOx A N (l1++l2) f n L K Zp:=fun σ hσ=>by
 obtain ⟨x,f',σ',n',L',h1,h2,h3⟩:=h σ hσ
 cases x with
 | normal =>
  obtain ⟨y,f2,σ2,n2,L2,k1,k2,k3⟩:=h3 σ' h2
  exact ⟨y,f2,σ2,n2,L2,(Um (UV h1)).trans k1,k2,k3⟩
 | panic v=>exact h3.elim
 | exit j=>exact h3.elim
 | ret=>exact h3.elim
theorem qM {X:Nat→KN} {R:KN} {ps:List (List Nat)} {l:List I} (h:∀ σ,Hp σ n L→∃ x f' σ' n' L',YQ (Run A) l (E N f) σ = some (x,E N f',σ')∧(∀ p∈ps,UF (YQ (Run A) (Xr l p) (E N f) σ) (some (x,E N f',σ')))∧Hp σ' n' L'∧outO x f' n' L' K Zp):WP A N (.parc ps l) f n L K X R Zp:=fun σ hσ=>by
 obtain ⟨x,f',σ',n',L',h1,h0,h2,h3⟩:=h σ hσ
 refine ⟨x,f',σ',n',L',sb h1 h0,h2,?_⟩
 cases x with
 | normal=>exact h3
 | panic v=>exact h3
 | exit j=>exact h3.elim
 | ret=>exact h3.elim
theorem ka {o:I} {l:List I} {b k:Nat} {rd:RD} {caps:List V} {st:Nat} {x:O} {xs:List O} (ho:o.ins = .h (.call x xs)) (hg:XN o (E N f) = true) (hf:x.fv N f = .yv b) (hm:(b,Blk.lp k rd caps st)∈L)
  (h:∀ σ,Hp σ n L→∃ v σ' n' L',U2 (Run A) k (.yv b::xs.map (O.fv N f)) σ = some (v,σ')∧Hp σ' n' L'∧WOx A N l (Y8 f o.dst v) n' L' K Zp):WOx A N (o::l) f n L K Zp:=fun σ hσ=>by
 obtain ⟨v,σ',n',L',h1,h2,h3⟩:=h σ hσ
 have hy:Vz (Run A) o (E N f) σ = some (E N (Y8 f o.dst v),σ'):=by
  unfold Vz
  rw [hg,cond_true,ho]
  simp only [Y7,hf,(hσ.2.mem hm).2]
  have:xs.map (fun x=>x.ev (E N f)) = xs.map (O.fv N f):=List.map_congr_left fun y _=>Y7 N f y
  rw [h1]
  simp only [Option.map_some,JE]
 obtain ⟨y,f2,σ2,n2,L2,k1,k2,k3⟩:=h3 σ' h2
 refine ⟨y,f2,σ2,n2,L2,?_,k2,k3⟩
 simp only [YQ,EW hy,hy]
 exact k1
end
theorem q4 {A:AP} (g:O) (k:Nat) (rd:RD) (e:Env) (σ:Heap):WS A (.rfn g k rd) e σ = UH (Run A) g k rd e σ:=by
 refine U1 fun r=>⟨fun h=>?_,fun h=>?_⟩
 ·obtain ⟨n,h⟩:=Wa h
  simp only [Xa] at h
  exact xY (ve n) h
 ·have h0:=h
  unfold UH at h
  split at h
  ·rename_i gf caps hg
   split at h
   ·rename_i y hy
    obtain ⟨n,hn⟩:=uC hy
    refine XO (n:=n) ?_
    simp only [Xa]
    unfold UH at h0 ⊢
    rw [hg] at h0 ⊢
    simp only at h0 ⊢
    rw [hy] at h0
    rw [hn]
    exact h0
   ·cases h
  ·cases h
end Go.Am
namespace Go.Am
open Go
def Jt:HA→Nat→Option Blk
 | [],_=>none
 | (c,B)::L,b=>bif Nat.beq c b then some B else Jt L b
theorem Zak:∀ {L:HA} {b:Nat} {B:Blk},Jt L b = some B→(b,B)∈L
 | [],_,_,h=>by cases h
 | (c,C)::L,b,B,h=>by
  unfold Jt at h
  cases hb:Nat.beq c b with
  | true =>
   rw [hb,cond_true] at h
   injection h with h
   subst h
   rw [Nat.eq_of_beq_eq_true hb]
   exact .head _
  | false =>
   rw [hb,cond_false] at h
   exact .tail _ (Zak h)
theorem K7 {σ:Heap} {n:Nat} {L:HA} (hσ:Hp σ n L) {b:Nat} {B:Blk} (h:Jt L b = some B):σ[b]? = some B:=(hσ.2.mem (Zak h)).2
def RI (L:HA):Nat→List Nat→List Nat→Option (List Nat)
 | 0,_,acc=>some acc
 | _+1,[],acc=>some acc
 | n+1,b::w,acc=>bif acc.contains b then RI L n w acc else match Jt L b with
  | some B=>RI L n (B.refs++w) (acc++[b])
  | none=>none
theorem JT {σ:Heap} {n:Nat} {L:HA} (hσ:Hp σ n L):∀ (m:Nat) (w acc rs:List Nat),RI L m w acc = some rs→Y6 σ m w acc = rs
 | 0,_,_,_,h=>by injection h
 | _+1,[],_,_,h=>by injection h
 | m+1,b::w,acc,rs,h=>by
  unfold RI at h
  unfold Y6
  cases hc:acc.contains b with
  | true =>
   rw [hc,cond_true] at h
   rw [cond_true]
   exact JT hσ m w acc rs h
  | false =>
   rw [hc,cond_false] at h
   rw [cond_false]
   split at h
   ·rename_i B hB
    have:σ.getD b .dead = B:=by rw [List.getD_eq_getElem?_getD,K7 hσ hB]; rfl
    rw [this]
    exact JT hσ m _ _ rs h
   ·cases h
def E5 (q:Bool) (f:Nat→Option Nat) (L:HA):List Nat→Option (List Blk)
 | []=>some []
 | b::l=>match (Jt L b).bind (Blk.ren q f),E5 q f L l with
  | some x,some r=>some (x::r)
  | _,_=>none
theorem Ty {σ:Heap} {n:Nat} {L:HA} (hσ:Hp σ n L) {q:Bool} {f:Nat→Option Nat}:∀ {l:List Nat} {Bs:List Blk},E5 q f L l = some Bs→Y9 q f σ l = some Bs
 | [],_,h=>h
 | b::l,Bs,h=>by
  unfold E5 at h
  split at h
  ·rename_i x r h1 h2
   injection h with h
   subst h
   simp only [Option.bind_eq_some_iff] at h1
   obtain ⟨B,hB,h1⟩:=h1
   simp only [Y9,K7 hσ hB,Option.bind_some,h1,Ty hσ h2]
  ·cases h
def zA (q:Bool) (all:List V) (L:HA):Option (List Nat × List V × List Blk) :=
 match RI L 64 (V.refsL all) [] with
 | some rs=>match V.renL (pos · rs) all,E5 q (pos · rs) L rs with
  | some vs,some Bs=>some (rs,vs,Bs)
  | _,_=>none
 | none=>none
theorem uH {σ:Heap} {n:Nat} {L:HA} (hσ:Hp σ n L) {q:Bool} {all:List V} {rs:List Nat} {vs:List V} {Bs:List Blk} (h:zA q all L = some (rs,vs,Bs)):XJ q all σ = some (rs,vs,Bs):=by
 unfold zA at h
 split at h
 ·rename_i rs' hr
  split at h
  ·rename_i vs' Bs' h1 h2
   injection h with h
   simp only [Prod.mk.injEq] at h
   obtain ⟨rfl,rfl,rfl⟩:=h
   unfold XJ
   dsimp only
   rw [JT hσ _ _ _ _ hr,h1,Ty hσ h2]
  ·cases h
 ·cases h
def wD (L:HA):List Nat→Option (List Blk)
 | []=>some []
 | b::l=>match Jt L b,wD L l with
  | some x,some r=>some (x::r)
  | _,_=>none
theorem z6 {σ:Heap} {n:Nat} {L:HA} (hσ:Hp σ n L):∀ (m i:Nat) (Bs:List Blk),wD L (List.range' i m) = some Bs→(σ.drop i).take m = Bs
 | 0,_,Bs,h=>by injection h
 | m+1,i,Bs,h=>by
  rw [List.range'_succ] at h
  unfold wD at h
  split at h
  ·rename_i x r h1 h2
   injection h with h
   subst h
   have hx:=K7 hσ h1
   have hi:i < σ.length:=by
    rcases Nat.lt_or_ge i σ.length with h | h
    ·exact h
    ·rw [List.getElem?_eq_none h] at hx; cases hx
   rw [List.drop_eq_getElem_cons hi,List.take_succ_cons,z6 hσ m (i+1) r h2]
   rw [List.getElem?_eq_getElem hi] at hx
   injection hx with hx
   rw [hx]
  ·cases h
def wS (q:Bool) (n:Nat) (rs:List Nat) (r:V) (L1:HA) (n1:Nat):Option (V × List Blk × List Blk) :=
 match wD L1 (List.range' 0 (bif q then 0 else rs.length)) with
 | some ws=>match RI L1 64 (r.refs++ws.flatMap Blk.refs) [] with
  | some all => bif nodup rs && nodup (all.filter (fun b => Nat.ble rs.length b)) && Nat.ble rs.length n1 then
    match V.ren (Xs rs (all.filter (fun b=>Nat.ble rs.length b)) n rs.length) r,E5 false (Xs rs (all.filter (fun b=>Nat.ble rs.length b)) n rs.length) L1 (all.filter (fun b=>Nat.ble rs.length b)),E5 false (Xs rs (all.filter (fun b=>Nat.ble rs.length b)) n rs.length) L1 (List.range (bif q then 0 else rs.length)) with
    | some r',some new,some old=>some (r',old,new)
    | _,_,_=>none
   else none
  | none=>none
 | none=>none
theorem tq {σ1:Heap} {n1:Nat} {L1:HA} (hσ:Hp σ1 n1 L1) {q:Bool} {n:Nat} {rs:List Nat} {r r':V} {old new:List Blk} {σ:Heap} (hn:σ.length = n) (h:wS q n rs r L1 n1 = some (r',old,new)):XE q σ rs r σ1 = some (r',XM σ rs old++new):=by
 unfold wS at h
 split at h
 ·rename_i ws hw
  split at h
  ·rename_i all ha
   have hns:X2 q rs.length r σ1 = all.filter (fun b=>Nat.ble rs.length b):=by
    unfold X2
    have ht:(bif q then [] else (σ1.take rs.length).flatMap Blk.refs) = ws.flatMap Blk.refs:=by
     have:=z6 hσ _ _ _ hw
     cases q with
     | true=>rw [cond_true,List.take_zero] at this; rw [cond_true,← this]; rfl
     | false=>rw [cond_false,List.drop_zero] at this; rw [cond_false,this]
    rw [ht,JT hσ _ _ _ _ ha]
   generalize all.filter (fun b=>Nat.ble rs.length b) = ns at h hns
   cases hc:(nodup rs && nodup ns && Nat.ble rs.length n1) with
   | false=>rw [hc,cond_false] at h; cases h
   | true =>
    rw [hc,cond_true] at h
    split at h
    ·rename_i v nw od h1 h2 h3
     injection h with h
     simp only [Prod.mk.injEq] at h
     obtain ⟨rfl,rfl,rfl⟩:=h
     unfold XE
     simp only [hns,hσ.1,hn,hc,cond_true,h1,Ty hσ h2]
     cases q with
     | true =>
      rw [cond_true] at h3 ⊢
      injection h3 with h3
      subst h3
      cases rs <;> rfl
     | false =>
      rw [cond_false] at h3 ⊢
      rw [Ty hσ h3]
    ·cases h
  ·cases h
 ·cases h
theorem qg {b:Nat} {B:Blk}:∀ {L:HA},∀ q∈setL b B L,∃ p∈L,p.1 = q.1
 | (c,C)::L,q,hq=>by
  rcases List.mem_cons.1 hq with he | hq
  ·exact ⟨_,.head _,by rw [he]⟩
  ·obtain ⟨p,hp,e⟩:=qg q hq
   exact ⟨p,.tail _ hp,e⟩
theorem HL.setL {σ:Heap} {n b:Nat} {B:Blk}:∀ {L:HA},HL σ n L→σ.length = n→HL (σ.set b B) n (setL b B L)
 | [],_,_=>trivial
 | (c,C)::L,h,hl=>by
  refine ⟨h.1,?_,fun q hq=>?_,h.2.2.2.setL hl⟩
  ·cases hb:Nat.beq c b with
   | true =>
    have:=Nat.eq_of_beq_eq_true hb
    subst this
    rw [cond_true,List.getElem?_set_self (by rw [hl]; exact h.1)]
   | false =>
    have hne:b ≠ c:=fun e=>by
     subst e
     rw [Nat.beq_refl] at hb; cases hb
    rw [cond_false,List.getElem?_set_ne hne]
    exact h.2.1
  ·obtain ⟨p,hp,e⟩:=qg q hq
   rw [← e]
   exact h.2.2.1 p hp
theorem Hp.setL {σ:Heap} {n b:Nat} {B:Blk} {L:HA} (h:Hp σ n L):Hp (σ.set b B) n (setL b B L):=⟨by simp [h.1],h.2.setL h.1⟩
def putA:List Nat→List Blk→HA→HA
 | b::l,B::r,L=>putA l r (setL b B L)
 | _,_,L=>L
theorem Hp.putA:∀ {rs:List Nat} {Bs:List Blk} {L:HA} {σ:Heap} {n:Nat},Hp σ n L→Hp (XM σ rs Bs) n (putA rs Bs L)
 | _::l,_::r,_,_,_,h=>Hp.putA (rs:=l) (Bs:=r) h.setL
 | [],[],_,_,_,h=>h
 | [],_::_,_,_,_,h=>h
 | _::_,[],_,_,_,h=>h
def newA:Nat→List Blk→HA→HA
 | _,[],L=>L
 | n,B::l,L=>newA (n+1) l ((n,B)::L)
theorem Hp.newA:∀ {Bs:List Blk} {L:HA} {σ:Heap} {n:Nat},Hp σ n L→Hp (σ++Bs) (n+Bs.length) (newA n Bs L)
 | [],_,_,_,h=>by rw [List.append_nil]; exact h
 | B::l,L,σ,n,h=>by
  have:=Hp.newA (Bs:=l) (h.new B)
  rw [List.append_assoc] at this
  rw [List.length_cons,show n+(l.length+1) = n+1+l.length by omega]
  exact this
section
variable {A:AP} {N:Nat} {f:FE} {n:Nat} {L:HA} {K:KN} {Zp:V→KN}
def back (q:Bool) (n:Nat) (L:HA) (rs:List Nat) (K:KR):KR:=fun r n1 L1=>∃ r' old new,wS q n rs r L1 n1 = some (r',old,new)∧K r' (n+new.length) (newA n new (putA rs old L))
theorem back_ok {q:Bool} {rs:List Nat} {K:KR} {σ σ1:Heap} {r:V} {n1:Nat} {L1:HA} (hσ:Hp σ n L) (h1:Hp σ1 n1 L1) (h:back q n L rs K r n1 L1):∃ v σ' n' L',XE q σ rs r σ1 = some (v,σ')∧Hp σ' n' L'∧K v n' L':=by
 obtain ⟨r',old,new,hl,hk⟩:=h
 exact ⟨r',_,_,_,tq h1 hσ.1 hl,hσ.putA.newA,hk⟩
theorem kW {q:Bool} {fv:V} {args:List V} {fid:FuncId} {av:List V} {rs:List Nat} {vs:List V} {Bs:List Blk} {K:KR} (ht:target fv args = some (fid,av)) (he:zA q av L = some (rs,vs,Bs)) (hr:WR A fid vs Bs (back q n L rs K)) {σ:Heap} (hσ:Hp σ n L):∃ v σ' n' L',Y4 (Run A) q fv args σ = some (v,σ')∧Hp σ' n' L'∧K v n' L':=by
 obtain ⟨r,σ1,n1,L1,h1,h2,h3⟩:=hr
 obtain ⟨v,σ',n',L',k1,k2,k3⟩:=back_ok hσ h2 h3
 refine ⟨v,σ',n',L',?_,k2,k3⟩
 unfold Y4
 rw [ht,Option.bind_some]
 dsimp only
 rw [uH hσ he,Option.bind_some,h1,Option.bind_some,k1]
theorem w5 {x:O} {xs:List O} {fv:V} {args av:List V} {fid:FuncId} {rs:List Nat} {vs:List V} {Bs:List Blk} {l:List I} {od:Option Nat} (hf:x.fv N f = fv) (ha:xs.map (O.fv N f) = args) (ht:target fv args = some (fid,av)) (he:zA false av L = some (rs,vs,Bs))
  (hr:WR A fid vs Bs (back false n L rs fun v n' L'=>WO A N l (Y8 f od v) n' L' K Zp)):WO A N (⟨od,none,.h (.call x xs)⟩::l) f n L K Zp:=fun σ hσ=>by
 obtain ⟨v,σ1,n1,L1,h1,h2,h3⟩:=kW ht he hr hσ
 obtain ⟨y,f',σ',n',L',k1,k2,k3⟩:=h3 σ1 h2
 refine ⟨y,f',σ',n',L',?_,k2,k3⟩
 rw [← k1]
 simp only [Ww,XA,Xk,YJ,Y7,hf,ha,h1,Option.map_some,JE]
def rfnK (b:Nat) (f:FE) (K:KN) (X:Nat→KN) (R:KN):KR:=fun _ n L=>∃ k rd caps st,Jt L b = some (.lp k rd caps st)∧(match st with
 | 0=>K f n (setL b .dead L)
 | 1=>False
 | 2=>R f n (setL b .dead L)
 | j+3=>X j f n (setL b .dead L))
def endK (b st:Nat) (x:Bool) (K:KR):KN:=fun _ n L=>∃ k rd caps,Jt L b = some (.lp k rd caps 1)∧K (.s (.bool x)) n (setL b (.lp k rd caps st) L)
theorem RC {k:Nat} {B:BF} {b:Nat} {xs caps:List V} {Bs:List Blk} {K:KR} (hB:A.bods k = some B) (hb:Jt (Xj 0 Bs) b = some (.lp k B.rd caps 0)) (hl:xs.length = B.ps.length) (hf:Ta caps B.ps xs = E N f) {m:Nat} (hm:Bs.length = m)
  (h:WP A N B.asg f m (Xj 0 Bs) (fun f n L=>∃ k1 rd1 caps1,Jt L b = some (.lp k1 rd1 caps1 0)∧WP A N B.body f n (setL b (.lp k1 rd1 caps1 1) L) (endK b 0 true K) (fun j=>endK b (j+3) false K) (endK b 2 false K) (fun _ _ _ _=>False)) (fun _ _ _ _=>False) (fun _ _ _=>False) (fun _ _ _ _=>False)):WR A k (.pan .undef::.yv b::xs) Bs K:=by
 subst hm
 obtain ⟨x,f1,σ1,n1,L1,h1,h2,h3⟩:=h Bs (R1 Bs)
 cases x with
 | panic v=>exact h3.elim
 | exit j=>exact h3.elim
 | ret=>exact h3.elim
 | normal =>
  obtain ⟨k1,rd1,caps1,h4,h5⟩:=h3
  obtain ⟨y,f2,σ2,n2,L2,h6,h7,h8⟩:=h5 _ h2.setL
  obtain ⟨i,hi⟩:=Wa h1
  obtain ⟨j,hj⟩:=Wa h6
  have hi':=XH (XD A (Nat.le_max_left i j)) (Nat.le_max_left i j) _ hi
  have hj':=XH (XD A (Nat.le_max_right i j)) (Nat.le_max_right i j) _ hj
  have hrun:∀ r,DS σ2 b y = some r→Run A k (.pan .undef::.yv b::xs) Bs = some r:=fun r hr=>by
   refine yx (n:=max i j+1) ?_
   rw [XB]
   simp only [UK,cond_true,List.tail_cons]
   unfold yU
   simp only [hB,K7 (R1 Bs) hb,hl,hf,and_self,if_true,hi',K7 h2 h4,hj',hr]
  have fin:∀ st x,endK b st x K f2 n2 L2→(∀ kk rd caps,σ2[b]? = some (.lp kk rd caps 1)→DS σ2 b y = some (.s (.bool x),σ2.set b (.lp kk rd caps st)))→∃ v σ' n' L',Run A k (.pan .undef::.yv b::xs) Bs = some (v,σ')∧Hp σ' n' L'∧K v n' L':=fun st x ⟨kk,rd,caps,e1,e2⟩ he=>⟨_,_,_,_,hrun _ (he _ _ _ (K7 h7 e1)),h7.setL,e2⟩
  cases y with
  | panic v=>exact h8.elim
  | exit j=>exact fin _ _ h8 fun kk rd caps e=>by unfold DS; simp only [e]
  | ret=>exact fin _ _ h8 fun kk rd caps e=>by unfold DS; simp only [e]
  | normal=>exact fin _ _ h8 fun kk rd caps e=>by unfold DS; simp only [e]
end
end Go.Am
namespace Go.Am
open Go
inductive Rw (z:Nat) (l:List Int):V→HA→Prop
 | nil (h:l = []):Rw z l .snil []
 | row {b m q:Nat} {F:Nat→Int} (hl:l.length = m*z) (hF:∀ i,i < l.length→F i = l.getD i 0):Rw z l (.sl b 0 m z .whole) [(b,.sc .grow q (ia F))]
inductive Rx (z:Nat) (l:List Int):V→HA→Prop
 | nil (h:l = []):Rx z l .snil []
 | row {b m q:Nat} {md:Md} {c:Cp} {F:Nat→Int} (hl:l.length = m*z) (hF:∀ i,i < l.length→F i = l.getD i 0):Rx z l (.sl b 0 m z c) [(b,.sc md q (ia F))]
inductive Rc (z:Nat) (l:List Int):V→List Blk→Prop
 | nil (h:l = []):Rc z l .snil []
 | row {m q:Nat} {md:Md} {c:Cp} {F:Nat→Int} (hl:l.length = m*z) (hF:∀ i,i < l.length→F i = l.getD i 0):Rc z l (.sl 0 0 m z c) [.sc md q (ia F)]
theorem Rw.rx {z:Nat} {l:List Int} {v:V} {own:HA} (h:Rw z l v own):Rx z l v own:=by
 cases h with
 | nil h=>exact .nil h
 | row hl hF=>exact .row hl hF
theorem Rc.rx {z:Nat} {l:List Int} {v:V} {Bs:List Blk} (h:Rc z l v Bs):Rx z l v (Xj 0 Bs):=by
 cases h with
 | nil h=>exact .nil h
 | row hl hF=>exact .row hl hF
inductive Dr (own:HA):HA→HA→Prop
 | here {R:HA}:Dr own (own++R) R
 | there {p:Nat × Blk} {L L0:HA}:Dr own L L0→Dr own (p::L) (p::L0)
theorem Dr.sub {own L L0:HA} (h:Dr own L L0):List.Sublist L0 L:=by
 induction h with
 | here=>exact List.sublist_append_right _ _
 | there _ ih=>exact ih.cons_cons _
theorem Dr.mem {own L L0:HA} (h:Dr own L L0):∀ p∈own,p∈L:=by
 induction h with
 | here=>exact fun p hp=>List.mem_append_left _ hp
 | there _ ih=>exact fun p hp=>.tail _ (ih p hp)
theorem Dr.at {b:Nat} {B B':Blk} {L L0:HA} (h:Dr [(b,B)] L L0):∃ L1,At b B B' L L1∧List.Perm L1 ((b,B')::L0):=by
 induction h with
 | here=>exact ⟨_,.here,.refl _⟩
 | @there p L L0 _ ih =>
  obtain ⟨L1,h1,h2⟩:=ih
  exact ⟨p::L1,.there h1,(h2.cons p).trans (.swap _ _ _)⟩
theorem Dr.all {own L L0:HA} (h:Dr own L L0):List.Perm L (own++L0):=by
 induction h with
 | here=>exact .refl _
 | @there p L L0 _ ih=>exact (ih.cons p).trans (List.perm_middle.symm)
theorem HL_iff {σ:Heap} {n:Nat}:∀ {L:HA},HL σ n L↔(∀ p∈L,p.1 < n∧σ[p.1]? = some p.2)∧L.Pairwise (fun a b=>a.1 ≠ b.1)
 | []=>by simp [HL]
 | (c,C)::L=>by
  simp only [HL,HL_iff (L:=L),List.mem_cons,List.pairwise_cons,forall_eq_or_imp]
  constructor
  ·rintro ⟨h1,h2,h3,h4,h5⟩
   exact ⟨⟨⟨h1,h2⟩,h4⟩,fun p hp=>(h3 p hp).symm,h5⟩
  ·rintro ⟨⟨⟨h1,h2⟩,h4⟩,h3,h5⟩
   exact ⟨h1,h2,fun p hp=>(h3 p hp).symm,h4,h5⟩
theorem Hp.perm {σ:Heap} {n:Nat} {L L':HA} (h:List.Perm L L') (hσ:Hp σ n L):Hp σ n L':=by
 refine ⟨hσ.1,HL_iff.2 ?_⟩
 obtain ⟨h1,h2⟩:=HL_iff.1 hσ.2
 exact ⟨fun p hp=>h1 p (h.mem_iff.2 hp),(h.pairwise_iff (fun h=>Ne.symm h)).1 h2⟩
theorem At.appR {b:Nat} {B B':Blk} {L L':HA} (own:HA) (h:At b B B' L L'):At b B B' (own++L) (own++L'):=by
 induction own with
 | nil=>exact h
 | cons p own ih=>exact .there ih
section
variable {A:AP} {N:Nat} {f:FE} {n:Nat} {L:HA} {K:KN} {Zp:V→KN} {rest:List I} {d:Nat}
theorem V7 {L':HA} (h:List.Perm L L') (k:WO A N rest f n L' K Zp):WO A N rest f n L K Zp:=fun σ hσ=>k σ (hσ.perm h)
theorem yD {X:Nat→KN} {R:KN} {c:AC} {L':HA} (h:List.Perm L L') (k:WP A N c f n L' K X R Zp):WP A N c f n L K X R Zp:=fun σ hσ=>k σ (hσ.perm h)
theorem Vn {x:O} {z m:Nat} {l:List Int} {v:V} {own:HA} (hx:x.fv N f = v) (hr:Rx z l v own) (hz:0 < z) (hl:l.length = m*z) (k:WO A N rest (upd f d (.s (.int .i64 (m:Int)))) n L K Zp):WO A N (⟨some d,none,.p (.len x)⟩::rest) f n L K Zp:=by
 cases hr with
 | nil h =>
  subst h
  obtain rfl:m = 0:=by
   rcases Nat.eq_zero_or_pos m with h | h
   ·exact h
   ·have:=Nat.mul_pos h hz
    simp at hl; omega
  exact WO_lenN hx k
 | row hl' hF =>
  obtain rfl:=Nat.eq_of_mul_eq_mul_right hz (hl.symm.trans hl')
  exact QR hx k
theorem Ql {k bytes:Nat} (h:k*bytes≤140737488355328):X1 k bytes = true:=Nat.ble_eq_true_of_le h
theorem r6 {l c:List Int} {i:Nat}:(l++c).getD i 0 = if i < l.length then l.getD i 0 else c.getD (i - l.length) 0:=by
 simp only [List.getD_eq_getElem?_getD,List.getElem?_append]
 split <;> rfl
theorem kx {l c:List Int} {m z:Nat} {F R:Nat→Int} {o o':Nat} (hl:l.length = m*z) (ho:o = 0) (hF:∀ i,i < l.length→F i = l.getD i 0) (hR:∀ i,i < c.length→R (o'+i) = c.getD i 0):∀ i,i < (l++c).length→(bif Nat.blt i (m*z) then F (o+i) else R (o'+(i - m*z))) = (l++c).getD i 0:=by
 subst ho
 intro i hi
 rw [List.length_append] at hi
 rw [r6]
 by_cases h:i < l.length
 ·rw [if_pos h,show Nat.blt i (m*z) = true from Nat.ble_eq_true_of_le (by omega),cond_true,Nat.zero_add,hF i h]
 ·have:Nat.blt i (m*z) = false:=by
   cases hb:Nat.blt i (m*z) with
   | false=>rfl
   | true=>have:=Nat.le_of_ble_eq_true hb; omega
  rw [if_neg h,this,cond_false,← hl,hR _ (by omega)]
theorem Xx {z bytes m':Nat} {s x:O} {l c:List Int} {v:V} {own L0:HA} {b' o':Nat} {cp:Cp} {md':Md} {q':Nat} {R:Nat→Int} (hs:s.fv N f = v) (hr:Rw z l v own) (hx:x.fv N f = .sl b' o' m' z cp) (hb:(b',Blk.sc md' q' (ia R))∈L) (hd:Dr own L L0) (hz:0 < z) (hm':0 < m') (hc:c.length = m'*z) (hR:∀ i,i < c.length→R (o'+i) = c.getD i 0)
  (hroom:(l.length+m')*bytes≤140737488355328) (k:∀ v' own' n',Rw z (l++c) v' own'→WO A N rest (upd f d v') n' (own'++L0) K Zp):WO A N (⟨some d,none,.h (.append z bytes s x)⟩::rest) f n L K Zp:=by
 cases hr with
 | nil h =>
  subst h
  refine Ub hd.sub ?_
  have hb0:(b',Blk.sc md' q' (ia R))∈L0:=by
   have:=hd.all.mem_iff.1 hb
   simpa using this
  refine ET hs hx hb0 (by omega) (Ql (by simpa using hroom)) ?_
  exact k _ [(n,_)] _ (.row (by simpa using hc) fun i hi=>by simpa using hR i (by simpa using hi))
 | @row b m q F hl hF =>
  obtain ⟨L1,h1,h2⟩:=hd.at (B':=.dead)
  have hm1:m≤l.length:=by rw [hl]; exact Nat.le_mul_of_pos_right _ hz
  refine TP hs hx hb h1 (Ql (Nat.le_trans (Nat.mul_le_mul_right _ (by omega)) hroom)) ?_
  refine V7 (L':=(n,_)::(b,.dead)::L0) (h2.cons _) ?_
  refine Ub (L':=(n,_)::L0) ((List.sublist_cons_self _ _).cons_cons _) ?_
  exact k _ [(n,_)] _ (.row (by rw [List.length_append,hl,hc,Nat.add_mul]) (kx hl rfl hF hR))
theorem pt {z bytes m':Nat} {s x:O} {l c:List Int} {v:V} {own L0:HA} {b' o':Nat} {cp:Cp} {md':Md} {q':Nat} {R:Nat→Int} (hs:s.fv N f = v) (hr:Rw z l v own) (hx:x.fv N f = .sl b' o' m' z cp) (hb:(b',Blk.sc md' q' (ia R))∈L) (hd:Dr own L L0) (hz:0 < z) (hm':m' = 0) (hc:c.length = 0)
  (hroom:(l.length+0)*bytes≤140737488355328) (k:∀ v' own' n',Rw z (l++c) v' own'→WO A N rest (upd f d v') n' (own'++L0) K Zp):WO A N (⟨some d,none,.h (.append z bytes s x)⟩::rest) f n L K Zp:=by
 subst hm'
 obtain rfl:=List.eq_nil_of_length_eq_zero hc
 cases hr with
 | nil h =>
  subst h
  refine Ub hd.sub ?_
  have hb0:(b',Blk.sc md' q' (ia R))∈L0:=by
   have:=hd.all.mem_iff.1 hb
   simpa using this
  refine Wj (v:=.snil) (fun σ hσ=>⟨σ,?_,hσ⟩) (k .snil [] n (.nil rfl))
  simp only [YJ,Y7,hs,hx,V2,Ul,(hσ.2.mem hb0).2,if_true]
 | @row b m q F hl hF =>
  obtain ⟨L1,h1,h2⟩:=hd.at (B':=.dead)
  have hm1:m≤l.length:=by rw [hl]; exact Nat.le_mul_of_pos_right _ hz
  have hroom':X1 (m+0) bytes = true:=Ql (Nat.le_trans (Nat.mul_le_mul_right _ (by simp; omega)) hroom)
  refine TP hs hx hb h1 hroom' ?_
  refine V7 (L':=(n,_)::(b,.dead)::L0) (h2.cons _) ?_
  refine Ub (L':=(n,_)::L0) ((List.sublist_cons_self _ _).cons_cons _) ?_
  exact k _ [(n,_)] _ (.row (by rw [List.append_nil]; exact hl) fun i hi=>by
   rw [List.append_nil] at hi ⊢
   rw [show Nat.blt i (m*z) = true from Nat.ble_eq_true_of_le (by omega),cond_true,Nat.zero_add]
   exact hF i hi)
theorem TQ {z bytes:Nat} {s x:O} {l c:List Int} {v w:V} {own L0 ownx:HA} (hs:s.fv N f = v) (hr:Rw z l v own) (hx:x.fv N f = w) (hrx:Rx z c w ownx) (hb:∀ p∈ownx,p∈L) (hd:Dr own L L0) (hz:0 < z)
  (hroom:(l.length+c.length)*bytes≤140737488355328) (k:∀ v' own' n',Rw z (l++c) v' own'→WO A N rest (upd f d v') n' (own'++L0) K Zp):WO A N (⟨some d,none,.h (.append z bytes s x)⟩::rest) f n L K Zp:=by
 cases hrx with
 | @row b' m' q' md' cp R hl' hR =>
  have hm1:m'≤c.length:=by rw [hl']; exact Nat.le_mul_of_pos_right _ hz
  rcases Nat.eq_zero_or_pos m' with hm' | hm'
  ·exact pt hs hr hx (hb _ (.head _)) hd hz hm' (by rw [hl',hm',Nat.zero_mul]) (Nat.le_trans (Nat.mul_le_mul_right _ (by omega)) hroom) k
  exact Xx hs hr hx (hb _ (.head _)) hd hz hm' hl' (fun i hi=>by rw [Nat.zero_add]; exact hR i hi) (Nat.le_trans (Nat.mul_le_mul_right _ (by omega)) hroom) k
 | nil h =>
  subst h
  cases hr with
  | nil h =>
   subst h
   have e:L0 = L:=by
    have:=hd.all.length_eq
    exact (hd.sub.eq_of_length (by simpa using this.symm))
   subst e
   refine Wj (v:=.snil) (fun σ hσ=>⟨σ,?_,hσ⟩) (k .snil [] n (.nil rfl))
   simp only [YJ,Y7,hs,hx,V2,Ul,if_true]
  | @row b m q F hl hF =>
   obtain ⟨L1,h1,h2⟩:=hd.at (B':=.dead)
   have hm1:m≤l.length:=by rw [hl]; exact Nat.le_mul_of_pos_right _ hz
   have hroom':X1 (m+0) bytes = true:=Ql (Nat.le_trans (Nat.mul_le_mul_right _ (by simp; omega)) hroom)
   refine Wj (v:=.sl n 0 (m+0) z .whole) (n':=n+1) (L':=(n,.sc .grow (m*z+0) (ia fun i=>bif Nat.blt i (m*z) then F (0+i) else 0))::L0) (fun σ hσ=>⟨kill σ b++[.sc .grow (m*z+0) (ia fun i=>bif Nat.blt i (m*z) then F (0+i) else 0)],?_,?_⟩) (k _ [(n,_)] _ (.row (by rw [List.append_nil]; exact hl) fun i hi=>by
    rw [List.append_nil] at hi ⊢
    rw [show Nat.blt i (m*z) = true from Nat.ble_eq_true_of_le (by omega),cond_true,Nat.zero_add]; exact hF i hi))
   ·simp only [YJ,Y7,hs,hx,V2,Ul,(hσ.2.mem h1.mem).2,if_true,hroom',cond_true,V8,Nat.zero_mul,Option.map_some,hσ.1]
    refine congrArg some (Prod.ext rfl ?_)
    refine congrArg (fun B=>kill σ b++[B]) ?_
    refine congrArg (Blk.sc .grow (m*z+0)) ?_
    funext i
    show (bif Nat.blt i (m*z) then S.int .i64 (F (0+i)) else S.zero) = S.int .i64 (bif Nat.blt i (m*z) then F (0+i) else 0)
    cases Nat.blt i (m*z) <;> rfl
   ·exact ((hσ.set h1).perm h2).drop.new _
def RtR (A:AP) (fid:FuncId) (z:Nat) (av:List V) (Bs:List Blk) (l:List Int) (Bs':List Blk):Prop :=
 (l = []∧RB A fid av Bs .snil Bs')∨∃ m q F,l.length = m*z∧(∀ i,i < l.length→F i = l.getD i 0)∧RN A fid av Bs (fun b=>.sl b 0 m z .whole) (.sc .grow q (ia F)) Bs'
def RdR (A:AP) (fid:FuncId) (z:Nat) (pre post:List V) (l:List Int) (r:V):Prop:=∀ v Bs,Rc z l v Bs→RB A fid (pre++v::post) Bs r Bs
def yQ (A:AP) (fid:FuncId) (z z':Nat) (pre post:List V) (l l':List Int):Prop:=∀ v Bs,Rc z l v Bs→RtR A fid z' (pre++v::post) Bs l' Bs
def StR (A:AP) (fid:FuncId) (z:Nat) (pre post:List V) (l l':List Int):Prop :=
 l'.length = l.length∧(l = []→RB A fid (pre++.snil::post) [] (.tup []) [])∧∀ m q F,l.length = m*z→(∀ i,i < l.length→F i = l.getD i 0)→∃ F',(∀ i,i < l'.length→F' i = l'.getD i 0)∧RB A fid (pre++.sl 0 0 m z .whole::post) [.sc .grow q (ia F)] (.tup []) [.sc .grow q (ia F')]
theorem EJ {x:O} {xs:List O} {fid:FuncId} {z:Nat} {caps av av':List V} {rs:List Nat} {Bs Bs':List Blk} {l:List Int} {L':HA} (hf:x.fv N f = .fn fid caps) (hs:RtR A fid z av' Bs l Bs') (ha:xs.map (O.fv N f)++caps = av) (hrs:WL (V.refsL av) [] = rs) (hl:(V.refsL av).length < 64) (hsub:∀ b∈V.refsL av,b∈rs)
  (hren:rnL rs av = some av') (hB:scs L rs Bs) (hlow:Bs.map (U9 false) = Bs) (hlen:Bs'.length = rs.length) (hat:AtL rs Bs Bs' L L') (k:∀ v own n',Rw z l v own→WO A N rest (upd f d v) n' (own++L') K Zp):WO A N (⟨some d,none,.h (.call x xs)⟩::rest) f n L K Zp:=by
 rcases hs with ⟨h,hs⟩ | ⟨m,q,F,h1,h3,hs⟩
 ·exact Vd hf hs ha hrs hl hsub hren hB hlow hlen rfl hat (k .snil [] n (.nil h))
 ·exact TI (mk:=fun b=>.sl b 0 m z .whole) jc hf hs ha hrs hl hsub hren hB hlow hlen hat (k _ [(n,_)] _ (.row h1 h3))
theorem RQ {x:O} {xs:List O} {fid:FuncId} {z:Nat} {caps av av':List V} {rs:List Nat} {Bs Bs0 Bs':List Blk} {l:List Int} (hf:x.fv N f = .fn fid caps) (hs:RtR A fid z av' Bs0 l Bs') (ha:xs.map (O.fv N f)++caps = av) (hrs:WL (V.refsL av) [] = rs) (hl:(V.refsL av).length < 64) (hsub:∀ b∈V.refsL av,b∈rs)
  (hren:rnL rs av = some av') (hB:scs L rs Bs) (hlow:Bs.map (U9 true) = Bs0) (hlen:Bs'.length = rs.length) (k:∀ v own n',Rw z l v own→WO A N rest (upd f d v) n' (own++L) K Zp):WO A N (⟨some d,none,.h (.callq x xs)⟩::rest) f n L K Zp:=by
 rcases hs with ⟨h,hs⟩ | ⟨m,q,F,h1,h3,hs⟩
 ·exact tR hf hs ha hrs hl hsub hren hB hlow hlen rfl (k .snil [] n (.nil h))
 ·exact uM (mk:=fun b=>.sl b 0 m z .whole) jc hf hs ha hrs hl hsub hren hB hlow hlen (k _ [(n,_)] _ (.row h1 h3))
theorem vT {x:O} {xs:List O} {fid:FuncId} {z:Nat} {av:List V} {l:List Int} (hf:x.fv N f = .fn fid []) (hs:RtR A fid z av [] l []) (ha:xs.map (O.fv N f) = av) (h1:V.looseL av = true) (k:∀ v own n',Rw z l v own→WO A N rest (upd f d v) n' (own++L) K Zp):WO A N (⟨some d,none,.h (.call x xs)⟩::rest) f n L K Zp:=by
 have hr:=V.looseL_refs av h1
 exact EJ (caps:=[]) (av:=av) (rs:=[]) (Bs:=[]) hf hs (by rw [List.append_nil]; exact ha) (by rw [hr]; rfl) (by rw [hr]; simp) (by rw [hr]; intro _ h; cases h) (V.looseL_ren _ av h1) trivial rfl rfl .nil k
theorem Ux {x:O} {xs:List O} {fid:FuncId} {z:Nat} {av:List V} {l:List Int} (hf:x.fv N f = .fn fid []) (hs:RtR A fid z av [] l []) (ha:xs.map (O.fv N f) = av) (h1:V.looseL av = true) (k:∀ v own n',Rw z l v own→WO A N rest (upd f d v) n' (own++L) K Zp):WO A N (⟨some d,none,.h (.callq x xs)⟩::rest) f n L K Zp:=by
 have hr:=V.looseL_refs av h1
 exact RQ (caps:=[]) (av:=av) (rs:=[]) (Bs:=[]) hf hs (by rw [List.append_nil]; exact ha) (by rw [hr]; rfl) (by rw [hr]; simp) (by rw [hr]; intro _ h; cases h) (V.looseL_ren _ av h1) trivial rfl rfl k
theorem UW {pre post:List V} {v:V} (h1:V.looseL pre = true) (h2:V.looseL post = true):V.refsL (pre++v::post) = v.refs:=by
 induction pre with
 | nil=>simp only [List.nil_append,V.refsL,V.looseL_refs post h2,List.append_nil]
 | cons x pre ih =>
  simp only [V.looseL,Bool.and_eq_true] at h1
  simp only [List.cons_append,V.refsL,V.loose_refs x h1.1,List.nil_append,ih h1.2]
theorem Qr {pre post:List V} {v v':V} {g:Nat→Option Nat} (h1:V.looseL pre = true) (h2:V.looseL post = true) (h:v.ren g = some v'):V.renL g (pre++v::post) = some (pre++v'::post):=by
 induction pre with
 | nil=>simp only [List.nil_append,V.renL,V.looseL_ren g post h2,h]
 | cons x pre ih =>
  simp only [V.looseL,Bool.and_eq_true] at h1
  simp only [List.cons_append,V.renL,V.loose_ren g x h1.1,ih h1.2]
theorem VF {x:O} {xs:List O} {fid:FuncId} {z:Nat} {caps pre post:List V} {l:List Int} {v r:V} {own:HA} (hf:x.fv N f = .fn fid caps) (hs:RdR A fid z pre post l r) (ha:xs.map (O.fv N f)++caps = pre++v::post) (hr:Rx z l v own) (ho:∀ p∈own,p∈L) (h1:V.looseL pre = true) (h2:V.looseL post = true) (h3:r.loose = true)
  (k:WO A N rest (upd f d r) n L K Zp):WO A N (⟨some d,none,.h (.call x xs)⟩::rest) f n L K Zp:=by
 cases hr with
 | nil h =>
  have hre:V.refsL (pre++.snil::post) = []:=UW h1 h2
  exact Vd (rs:=[]) hf (hs .snil [] (.nil h)) ha (by rw [hre]; rfl) (by rw [hre]; simp) (by rw [hre]; intro _ h; cases h) (Qr h1 h2 rfl) trivial rfl rfl h3 .nil k
 | @row b m q md c F hl hF =>
  have hre:V.refsL (pre++.sl b 0 m z c::post) = [b]:=UW h1 h2
  have hb:=ho _ (.head _)
  exact Vd (rs:=[b]) hf (hs (.sl 0 0 m z c) [.sc md q (ia F)] (.row hl hF)) ha (by rw [hre]; rfl) (by rw [hre]; simp) (by rw [hre]; exact fun _ h=>h) (Qr h1 h2 (by simp only [V.ren,pos,beq_self_eq_true,cond_true,Option.map_some])) ⟨hb,⟨_,_,_,rfl⟩,trivial⟩ rfl rfl h3 (.cons (Ry hb) .nil) k
theorem Uy {x:O} {xs:List O} {fid:FuncId} {z z':Nat} {caps pre post:List V} {l l':List Int} {v:V} {own:HA} (hf:x.fv N f = .fn fid caps) (hs:yQ A fid z z' pre post l l') (ha:xs.map (O.fv N f)++caps = pre++v::post) (hr:Rx z l v own) (ho:∀ p∈own,p∈L) (h1:V.looseL pre = true) (h2:V.looseL post = true)
  (k:∀ v' own' n',Rw z' l' v' own'→WO A N rest (upd f d v') n' (own'++L) K Zp):WO A N (⟨some d,none,.h (.call x xs)⟩::rest) f n L K Zp:=by
 cases hr with
 | nil h =>
  have hre:V.refsL (pre++.snil::post) = []:=UW h1 h2
  exact EJ (rs:=[]) hf (hs .snil [] (.nil h)) ha (by rw [hre]; rfl) (by rw [hre]; simp) (by rw [hre]; intro _ h; cases h) (Qr h1 h2 rfl) trivial rfl rfl .nil k
 | @row b m q md c F hl hF =>
  have hre:V.refsL (pre++.sl b 0 m z c::post) = [b]:=UW h1 h2
  have hb:=ho _ (.head _)
  exact EJ (rs:=[b]) hf (hs (.sl 0 0 m z c) [.sc md q (ia F)] (.row hl hF)) ha (by rw [hre]; rfl) (by rw [hre]; simp) (by rw [hre]; exact fun _ h=>h) (Qr h1 h2 (by simp only [V.ren,pos,beq_self_eq_true,cond_true,Option.map_some])) ⟨hb,⟨_,_,_,rfl⟩,trivial⟩ rfl rfl (.cons (Ry hb) .nil) k
theorem EV {x:O} {xs:List O} {fid:FuncId} {z z':Nat} {caps pre post:List V} {l l':List Int} {v:V} {own:HA} (hf:x.fv N f = .fn fid caps) (hs:yQ A fid z z' pre post l l') (ha:xs.map (O.fv N f)++caps = pre++v::post) (hr:Rx z l v own) (ho:∀ p∈own,p∈L) (h1:V.looseL pre = true) (h2:V.looseL post = true)
  (k:∀ v' own' n',Rw z' l' v' own'→WO A N rest (upd f d v') n' (own'++L) K Zp):WO A N (⟨some d,none,.h (.callq x xs)⟩::rest) f n L K Zp:=by
 cases hr with
 | nil h =>
  have hre:V.refsL (pre++.snil::post) = []:=UW h1 h2
  exact RQ (rs:=[]) (Bs:=[]) hf (hs .snil [] (.nil h)) ha (by rw [hre]; rfl) (by rw [hre]; simp) (by rw [hre]; intro _ h; cases h) (Qr h1 h2 rfl) trivial rfl rfl k
 | @row b m q md c F hl hF =>
  have hre:V.refsL (pre++.sl b 0 m z c::post) = [b]:=UW h1 h2
  have hb:=ho _ (.head _)
  exact RQ (rs:=[b]) (Bs:=[.sc md q (ia F)]) hf (hs (.sl 0 0 m z c) [.sc .ro q (ia F)] (.row hl hF)) ha (by rw [hre]; rfl) (by rw [hre]; simp) (by rw [hre]; exact fun _ h=>h) (Qr h1 h2 (by simp only [V.ren,pos,beq_self_eq_true,cond_true,Option.map_some])) ⟨hb,⟨_,_,_,rfl⟩,trivial⟩ rfl rfl k
theorem wg {x:O} {xs:List O} {fid:FuncId} {z:Nat} {caps pre post:List V} {l l':List Int} {v:V} {own L0:HA} (hf:x.fv N f = .fn fid caps) (hs:StR A fid z pre post l l') (ha:xs.map (O.fv N f)++caps = pre++v::post) (hr:Rw z l v own) (hd:Dr own L L0) (h1:V.looseL pre = true) (h2:V.looseL post = true)
  (k:∀ own',Rw z l' v own'→WO A N rest (upd f d (.tup [])) n (own'++L0) K Zp):WO A N (⟨some d,none,.h (.call x xs)⟩::rest) f n L K Zp:=by
 obtain ⟨hlen,hn,hs⟩:=hs
 cases hr with
 | nil h =>
  have hre:V.refsL (pre++.snil::post) = []:=UW h1 h2
  refine Vd (rs:=[]) hf (hn h) ha (by rw [hre]; rfl) (by rw [hre]; simp) (by rw [hre]; intro _ h; cases h) (Qr h1 h2 rfl) trivial rfl rfl rfl .nil ?_
  refine Ub hd.sub (k [] (.nil ?_))
  subst h
  exact List.eq_nil_of_length_eq_zero hlen
 | @row b m q F hl hF =>
  obtain ⟨F',hF',hs⟩:=hs m q F hl hF
  have hre:V.refsL (pre++.sl b 0 m z .whole::post) = [b]:=UW h1 h2
  have hb:=hd.mem _ (.head _)
  obtain ⟨L1,e1,e2⟩:=hd.at (B':=.sc .grow q (ia F'))
  refine Vd (rs:=[b]) hf hs ha (by rw [hre]; rfl) (by rw [hre]; simp) (by rw [hre]; exact fun _ h=>h) (Qr h1 h2 (by simp only [V.ren,pos,beq_self_eq_true,cond_true,Option.map_some])) ⟨hb,⟨_,_,_,rfl⟩,trivial⟩ rfl rfl rfl (.cons e1 .nil) ?_
  exact V7 e2 (k [(b,_)] (.row (hlen.trans hl) hF'))
end
theorem Rx.known_rc {z:Nat} {l:List Int} {v:V} {Bs:List Blk} (h:Rc z l v Bs):∀ p∈Xj 0 Bs,∃ md m g,p.2 = Blk.sc md m g:=by
 cases h with
 | nil _=>intro p hp; cases hp
 | row _ _ =>
  intro p hp
  rcases List.mem_cons.1 hp with rfl | hp
  ·exact ⟨_,_,_,rfl⟩
  ·cases hp
theorem Rh {σ:Heap} {n:Nat} {L:HA} (h:Hp σ n L):∀ {Bs:List Blk} {k:Nat},(∀ p∈Xj k Bs,p∈L∧∃ md m g,p.2 = Blk.sc md m g)→after σ k Bs
 | [],_,_=>trivial
 | B::Bs,k,hm=>by
  obtain ⟨h1,h2⟩:=hm (k,B) (.head _)
  exact ⟨(h.2.mem h1).2,h2,Rh h fun p hp=>hm p (.tail _ hp)⟩
theorem ER {A:AP} {fid:FuncId} {z:Nat} {pre post:List V} {l:List Int} {r:V} (h:∀ v Bs,Rc z l v Bs→WR A fid (pre++v::post) Bs fun v' _ L'=>v' = r∧∀ p∈Xj 0 Bs,p∈L'):RdR A fid z pre post l r:=fun v Bs hc=>by
 obtain ⟨v',σ',n',L',h1,h2,rfl,h3⟩:=h v Bs hc
 exact ⟨σ',h1,Rh h2 fun p hp=>⟨h3 p hp,Rx.known_rc hc p hp⟩⟩
theorem uP {A:AP} {fid:FuncId} {z:Nat} {av:List V} {Bs:List Blk} {l:List Int} (hsc:∀ p∈Xj 0 Bs,∃ md m g,p.2 = Blk.sc md m g) (h:WR A fid av Bs fun v' _ L'=>∃ own,Rw z l v' own∧(∀ p∈own,p∈L'∧Bs.length≤p.1)∧∀ p∈Xj 0 Bs,p∈L'):RtR A fid z av Bs l Bs:=by
 obtain ⟨v',σ',n',L',h1,h2,own,hr,ho,h3⟩:=h
 have ha:after σ' 0 Bs:=Rh h2 fun p hp=>⟨h3 p hp,hsc p hp⟩
 cases hr with
 | nil h=>exact .inl ⟨h,σ',h1,ha⟩
 | row hl hF =>
  obtain ⟨e1,e2⟩:=ho _ (.head _)
  exact .inr ⟨_,_,_,hl,hF,_,σ',h1,e2,(h2.2.mem e1).2,ha⟩
theorem W7 {A:AP} {fid:FuncId} {z:Nat} {av:List V} {l:List Int} (h:WR A fid av [] fun v' _ L'=>∃ own,Rw z l v' own∧∀ p∈own,p∈L'):RtR A fid z av [] l [] :=
 uP (fun _ h=>by cases h) (by
  obtain ⟨v',σ',n',L',h1,h2,own,hr,ho⟩:=h
  exact ⟨v',σ',n',L',h1,h2,own,hr,fun p hp=>⟨ho p hp,Nat.zero_le _⟩,fun _ h=>by cases h⟩)
theorem jn:∀ {Bs:List Blk} {k i:Nat} {B:Blk},Bs[i]? = some B→(k+i,B)∈Xj k Bs
 | C::Bs,k,0,B,h=>by
  injection h with h
  subst h
  exact .head _
 | C::Bs,k,i+1,B,h=>by
  have:=jn (k:=k+1) (i:=i) (Bs:=Bs) (B:=B) h
  rw [show k+1+i = k+(i+1) by omega] at this
  exact .tail _ this
theorem Dr.ge {σ:Heap} {n:Nat} {own L L0:HA} (h:Dr own L L0) (hσ:Hp σ n L) {Bs:List Blk} (hk:∀ p∈Xj 0 Bs,p∈L0):∀ p∈own,Bs.length≤p.1:=fun p hp=>by
 rcases Nat.lt_or_ge p.1 Bs.length with hl | hl
 ·exfalso
  have hm:=hk _ (jn (k:=0) (List.getElem?_eq_getElem hl))
  have hpw:=(HL_iff.1 (hσ.perm h.all).2).2
  rw [List.pairwise_append] at hpw
  exact hpw.2.2 p hp _ hm (Nat.zero_add _).symm
 ·exact hl
theorem RtR_ofF {A:AP} {fid:FuncId} {z:Nat} {av:List V} {Bs:List Blk} {l:List Int} (hsc:∀ p∈Xj 0 Bs,∃ md m g,p.2 = Blk.sc md m g) (h:WR A fid av Bs fun v' _ L'=>∃ own L0,Rw z l v' own∧Dr own L' L0∧∀ p∈Xj 0 Bs,p∈L0):RtR A fid z av Bs l Bs:=by
 refine uP hsc ?_
 obtain ⟨v',σ',n',L',h1,h2,own,L0,hr,hd,h3⟩:=h
 exact ⟨v',σ',n',L',h1,h2,own,hr,fun p hp=>⟨hd.mem p hp,hd.ge h2 h3 p hp⟩,fun p hp=>hd.sub.subset (h3 p hp)⟩
theorem DW {A:AP} {fid:FuncId} {z z':Nat} {pre post:List V} {l l':List Int} (h:∀ v Bs,Rc z l v Bs→WR A fid (pre++v::post) Bs fun v' _ L'=>∃ own L0,Rw z' l' v' own∧Dr own L' L0∧∀ p∈Xj 0 Bs,p∈L0):yQ A fid z z' pre post l l':=fun v Bs hc=>RtR_ofF (Rx.known_rc hc) (h v Bs hc)
def D8:Code→List RD
 | .seq a b=>D8 a++D8 b
 | .cond _ a b=>D8 a++D8 b
 | .block _ b=>D8 b
 | .loop b=>D8 b
 | .rangeFunc _ ps a b=>[⟨ps,a,b⟩]
 | _=>[]
def rdOf (f:Func):RD :=
 match f.body with
 | some c=>(D8 c).headD ⟨#[],.skip,.skip⟩
 | none=>⟨#[],.skip,.skip⟩
end Go.Am
namespace Go.Am
open Go
def Ins.still:Ins→Bool
 | .p _=>true
 | .h (.load _ _ _)=>true
 | _=>false
def qJ (a b:I):Bool:=a.ins.still && b.ins.still && Wo a b
theorem R4 {run:Runner} {o:I} (h:o.ins.still = true) {e:Env} {σ:Heap} {x:V} {σ':Heap} (hs:Y1 run o e σ = some (x,σ')):σ' = σ:=by
 have hi:∀ r,Xk run o.ins e σ = some r→r.2 = σ:=by
  intro r hr
  cases ho:o.ins with
  | p i =>
   rw [ho] at hr
   simp only [Xk,Option.map_eq_some_iff] at hr
   obtain ⟨y,_,rfl⟩:=hr
   rfl
  | h i =>
   rw [ho] at hr h
   cases i <;> simp only [Ins.still,Bool.false_eq_true] at h
   simp only [Xk,YJ] at hr
   split at hr
   ·split at hr
    ·simp only [Option.map_eq_some_iff] at hr
     obtain ⟨y,_,rfl⟩:=hr
     rfl
    ·cases hr
   ·cases hr
 unfold Y1 at hs
 split at hs
 ·exact hi _ hs
 ·split at hs
  ·rename_i b _
   cases hb:(b == _) <;> rw [hb] at hs
   ·simp only [cond_false,Option.some.injEq,Prod.mk.injEq] at hs; exact hs.2.symm
   ·simp only [cond_true] at hs; exact hi _ hs
  ·simp only [Option.some.injEq,Prod.mk.injEq] at hs; exact hs.2.symm
  ·cases hs
theorem zl {run:Runner} {o:I} (h:o.ins.still = true) (e:Env) (σ:Heap):Vz run o e σ = none∧WH run o e σ = none:=by
 unfold Vz WH
 cases hg:XN o e with
 | false=>exact ⟨rfl,rfl⟩
 | true =>
  simp only [cond_true]
  cases ho:o.ins with
  | p i=>exact ⟨rfl,rfl⟩
  | h i =>
   rw [ho] at h
   cases i <;> first | exact ⟨rfl,rfl⟩ | cases h
theorem KF {run:Runner} {o:I} (h:o.ins.still = true) {e:Env} {σ:Heap} (hs:XA run o e σ = none) (l:List I):YQ run (o::l) e σ = none:=by
 simp only [YQ,hs,(zl h e σ).1,(zl h e σ).2,Option.map_none]
theorem UZ {run:Runner} {o:I} {e e':Env} {σ σ':Heap} (hs:XA run o e σ = some (e',σ')) (l:List I):YQ run (o::l) e σ = YQ run l e' σ':=by
 simp only [YQ,hs]
theorem JG {o:I} {e:Env} {d:Option Nat} {v:V} (h:∀ x,d = some x→o.reads.contains x = false):Agree o.reads (Xz e d v) e:=fun t ht=>by
 cases d with
 | none=>rfl
 | some x =>
  have hx:=h x rfl
  have hne:x ≠ t:=fun e=>by
   subst e
   rw [List.contains_iff_mem.2 ht] at hx
   cases hx
  show (e.set x v).getD t .undef = _
  rw [List.getD_eq_getElem?_getD,List.getD_eq_getElem?_getD,List.getElem?_set_ne hne]
theorem xF {run:Runner} {a b:I} (h:qJ a b = true) (l:List I) (e:Env) (σ:Heap):YQ run (a::b::l) e σ = YQ run (b::a::l) e σ:=by
 unfold qJ Wo at h
 simp only [Bool.and_eq_true] at h
 obtain ⟨⟨h1,h2⟩,h3,h4⟩:=h
 have ga:∀ v,Y1 run a (Xz e b.dst v) σ = Y1 run a e σ:=fun v=>Uw σ (JG fun x hx=>by rw [hx] at h4; simpa using h4)
 have gb:∀ v,Y1 run b (Xz e a.dst v) σ = Y1 run b e σ:=fun v=>Uw σ (JG fun x hx=>by
  rw [hx] at h3
  simp only [Bool.and_eq_true] at h3
  simpa using h3.1)
 cases ha:Y1 run a e σ with
 | none =>
  have h0:XA run a e σ = none:=by rw [Xl,ha]; rfl
  rw [KF h1 h0]
  cases hb:Y1 run b e σ with
  | none=>exact (KF h2 (by rw [Xl,hb]; rfl) _).symm
  | some r =>
   obtain ⟨y,σ'⟩:=r
   obtain rfl:=R4 h2 hb
   rw [UZ (e':=Xz e b.dst y) (σ':=σ') (by rw [Xl,hb]; rfl)]
   exact (KF h1 (by rw [Xl,ga,ha]; rfl) _).symm
 | some r =>
  obtain ⟨x,σ1⟩:=r
  obtain rfl:=R4 h1 ha
  rw [UZ (e':=Xz e a.dst x) (σ':=σ1) (by rw [Xl,ha]; rfl)]
  cases hb:Y1 run b e σ1 with
  | none =>
   rw [KF h2 (by rw [Xl,gb,hb]; rfl)]
   exact (KF h2 (by rw [Xl,hb]; rfl) _).symm
  | some r =>
   obtain ⟨y,σ2⟩:=r
   obtain rfl:=R4 h2 hb
   rw [UZ (e':=Xz (Xz e a.dst x) b.dst y) (σ':=σ2) (by rw [Xl,gb,hb]; rfl)]
   rw [UZ (e':=Xz e b.dst y) (σ':=σ2) (by rw [Xl,hb]; rfl)]
   rw [UZ (e':=Xz (Xz e b.dst y) a.dst x) (σ':=σ2) (by rw [Xl,ga,ha]; rfl)]
   refine congrArg (fun e=>YQ run l e σ2) ?_
   cases hda:a.dst with
   | none=>rfl
   | some da =>
    cases hdb:b.dst with
    | none=>rfl
    | some db =>
     rw [hda,hdb] at h3
     simp only [Bool.and_eq_true,Bool.not_eq_true',beq_eq_false_iff_ne,ne_eq,Option.some.injEq] at h3
     exact List.set_comm _ _ (fun e=>h3.2 e.symm)
def Zan (l:List I) (i j:Nat):Bool :=
 match l[i]?,l[j]? with
 | some a,some b=>qJ a b
 | _,_=>false
def insP (l:List I) (i:Nat):List Nat→List Nat
 | []=>[i]
 | j::r=>bif Nat.blt j i && Zan l i j then j::insP l i r else i::j::r
def JS (l:List I):List Nat→List Nat
 | []=>[]
 | i::r=>insP l i (JS l r)
theorem zL {run:Runner} {o:I} {l l':List I} (h:∀ e σ,YQ run l e σ = YQ run l' e σ) (e:Env) (σ:Heap):YQ run (o::l) e σ = YQ run (o::l') e σ:=by
 simp only [YQ]
 split
 ·exact h _ _
 ·split
  ·exact h _ _
  ·rfl
theorem kD {run:Runner} {l:List I} {i:Nat}:∀ (r:List Nat) (e:Env) (σ:Heap),YQ run (Xr l (insP l i r)) e σ = YQ run (Xr l (i::r)) e σ
 | [],_,_=>rfl
 | j::r,e,σ=>by
  unfold insP
  cases hc:(Nat.blt j i && Zan l i j) with
  | false=>rfl
  | true =>
   rw [cond_true]
   simp only [Bool.and_eq_true] at hc
   have hc:=hc.2
   unfold Zan at hc
   split at hc
   ·rename_i a b ha hb
    have ih:=kD (run:=run) (l:=l) (i:=i) r
    simp only [Xr,ha,hb] at ih ⊢
    rw [zL ih,xF hc]
   ·cases hc
theorem D3 {run:Runner} {l:List I}:∀ (p:List Nat) (e:Env) (σ:Heap),YQ run (Xr l (JS l p)) e σ = YQ run (Xr l p) e σ
 | [],_,_=>rfl
 | i::r,e,σ=>by
  unfold JS
  rw [kD]
  have ih:=D3 (run:=run) (l:=l) r
  unfold Xr
  split
  ·exact zL ih e σ
  ·exact ih e σ
def El:List Nat→List Nat→Bool
 | [],[]=>true
 | x::l,y::r=>Nat.beq x y && El l r
 | _,_=>false
theorem EX:∀ {l r:List Nat},El l r = true→l = r
 | [],[],_=>rfl
 | x::l,y::r,h=>by
  simp only [El,Bool.and_eq_true] at h
  rw [Nat.eq_of_beq_eq_true h.1,EX h.2]
 | [],_::_,h=>by cases h
 | _::_,[],h=>by cases h
theorem Dr.appR {own L L0:HA} (o:HA) (h:Dr own L L0):Dr own (o++L) (o++L0):=by
 induction o with
 | nil=>exact h
 | cons p o ih=>exact .there ih
theorem Rx.at {z m:Nat} {l:List Int} {v:V} {own:HA} (h:Rx z l v own) (hz:0 < z) (hl:l.length = m*z) (hm:0 < m):∃ b q md c F,v = .sl b 0 m z c∧own = [(b,.sc md q (ia F))]∧∀ i,i < l.length→F i = l.getD i 0:=by
 cases h with
 | nil h =>
  subst h
  have:=Nat.mul_pos hm hz
  simp at hl; omega
 | row hl' hF =>
  obtain rfl:=Nat.eq_of_mul_eq_mul_right hz (hl.symm.trans hl')
  exact ⟨_,_,_,_,_,rfl,rfl,hF⟩
theorem KG {x:Nat × Blk} {L:HA} (h:x∈L):∀ p∈[x],p∈L:=fun p hp=>by
 rcases List.mem_cons.1 hp with rfl | hp
 ·exact h
 ·cases hp
theorem Da {x:Int}:∀ i,i < [x].length→ov (fun _=>0) (0*1) x i = [x].getD i 0
 | 0,_=>rfl
 | i+1,h=>absurd (show i+1 < 1 from h) (by omega)
theorem wH {x y:Int}:∀ i,i < [x,y].length→ov (ov (fun _=>0) (0*1) x) (1*1) y i = [x,y].getD i 0
 | 0,_=>rfl
 | 1,_=>rfl
 | i+2,h=>absurd (show i+2 < 2 from h) (by omega)
theorem lit3r {x y z:Int}:∀ i,i < [x,y,z].length→ov (ov (ov (fun _=>0) (0*1) x) (1*1) y) (2*1) z i = [x,y,z].getD i 0
 | 0,_=>rfl
 | 1,_=>rfl
 | 2,_=>rfl
 | i+3,h=>absurd (show i+3 < 3 from h) (by omega)
theorem QT {x:Int}:∀ i,i < [x].length→ov (fun _=>0) (0*1) x (0+i) = [x].getD i 0:=fun i h=>by rw [Nat.zero_add]; exact Da i h
end Go.Am
namespace Go.Am
open Go
abbrev ixo (rs:List Nat):Nat→Option Nat:=fun i=>rs[i]?
def ixn (rs:List Nat) (i:Nat):Nat:=rs.getD i 0
theorem Ea:∀ {rs:List Nat} {i b:Nat},rs.Nodup→rs[i]? = some b→pos b rs = some i
 | [],i,b,_,h=>by cases h
 | c::rs,0,b,_,h=>by
  injection h with h
  subst h
  simp [pos]
 | c::rs,i+1,b,hn,h=>by
  rw [List.nodup_cons] at hn
  have h:rs[i]? = some b:=h
  have hne:(c == b) = false:=by
   simp only [beq_eq_false_iff_ne,ne_eq]
   rintro rfl
   exact hn.1 (List.mem_of_getElem? h)
  simp [pos,hne,Ea hn.2 h]
mutual
theorem V.ren_back {rs:List Nat} (hn:rs.Nodup):∀ (v w:V),V.ren (ixo rs) v = some w→V.ren (pos · rs) w = some v
 | .s _,w,h=>by simp only [V.ren] at h; injection h with h; subst h; rfl
 | .agg _ _,w,h=>by simp only [V.ren] at h; injection h with h; subst h; rfl
 | .pnil,w,h=>by simp only [V.ren] at h; injection h with h; subst h; rfl
 | .slz,w,h=>by simp only [V.ren] at h; injection h with h; subst h; rfl
 | .snil,w,h=>by simp only [V.ren] at h; injection h with h; subst h; rfl
 | .mnil,w,h=>by simp only [V.ren] at h; injection h with h; subst h; rfl
 | .fnil,w,h=>by simp only [V.ren] at h; injection h with h; subst h; rfl
 | .inil,w,h=>by simp only [V.ren] at h; injection h with h; subst h; rfl
 | .undef,w,h=>by simp only [V.ren] at h; injection h with h; subst h; rfl
 | .pan _,w,h=>by simp only [V.ren] at h; cases h
 | .ptr b o z,w,h=>by
  simp only [V.ren,Option.map_eq_some_iff] at h
  obtain ⟨c,h,rfl⟩:=h
  simp only [V.ren,Ea hn h,Option.map_some]
 | .yv b,w,h=>by
  simp only [V.ren,Option.map_eq_some_iff] at h
  obtain ⟨c,h,rfl⟩:=h
  simp only [V.ren,Ea hn h,Option.map_some]
 | .sl b o n z m,w,h=>by
  simp only [V.ren,Option.map_eq_some_iff] at h
  obtain ⟨c,h,rfl⟩:=h
  simp only [V.ren,Ea hn h,Option.map_some]
 | .map b,w,h=>by
  simp only [V.ren,Option.map_eq_some_iff] at h
  obtain ⟨c,h,rfl⟩:=h
  simp only [V.ren,Ea hn h,Option.map_some]
 | .aggv l,w,h=>by
  simp only [V.ren,Option.map_eq_some_iff] at h
  obtain ⟨c,h,rfl⟩:=h
  simp only [V.ren,V.renL_back hn l c h,Option.map_some]
 | .fn g l,w,h=>by
  simp only [V.ren,Option.map_eq_some_iff] at h
  obtain ⟨c,h,rfl⟩:=h
  simp only [V.ren,V.renL_back hn l c h,Option.map_some]
 | .tup l,w,h=>by
  simp only [V.ren,Option.map_eq_some_iff] at h
  obtain ⟨c,h,rfl⟩:=h
  simp only [V.ren,V.renL_back hn l c h,Option.map_some]
 | .iface t x,w,h=>by
  simp only [V.ren,Option.map_eq_some_iff] at h
  obtain ⟨c,h,rfl⟩:=h
  simp only [V.ren,V.ren_back hn x c h,Option.map_some]
 | .bm t x,w,h=>by
  simp only [V.ren,Option.map_eq_some_iff] at h
  obtain ⟨c,h,rfl⟩:=h
  simp only [V.ren,V.ren_back hn x c h,Option.map_some]
theorem V.renL_back {rs:List Nat} (hn:rs.Nodup):∀ (l r:List V),V.renL (ixo rs) l = some r→V.renL (pos · rs) r = some l
 | [],r,h=>by simp only [V.renL] at h; injection h with h; subst h; rfl
 | x::l,r,h=>by
  simp only [V.renL] at h
  split at h
  ·rename_i y q h1 h2
   injection h with h
   subst h
   simp only [V.renL,V.ren_back hn x y h1,V.renL_back hn l q h2]
  ·cases h
end
mutual
theorem V.ren_refs {rs:List Nat}:∀ (v w:V),V.ren (ixo rs) v = some w→w.refs = v.refs.map (ixn rs)∧∀ i∈v.refs,i < rs.length
 | .s _,w,h=>by simp only [V.ren] at h; injection h with h; subst h; simp [V.refs]
 | .agg _ _,w,h=>by simp only [V.ren] at h; injection h with h; subst h; simp [V.refs]
 | .pnil,w,h=>by simp only [V.ren] at h; injection h with h; subst h; simp [V.refs]
 | .slz,w,h=>by simp only [V.ren] at h; injection h with h; subst h; simp [V.refs]
 | .snil,w,h=>by simp only [V.ren] at h; injection h with h; subst h; simp [V.refs]
 | .mnil,w,h=>by simp only [V.ren] at h; injection h with h; subst h; simp [V.refs]
 | .fnil,w,h=>by simp only [V.ren] at h; injection h with h; subst h; simp [V.refs]
 | .inil,w,h=>by simp only [V.ren] at h; injection h with h; subst h; simp [V.refs]
 | .undef,w,h=>by simp only [V.ren] at h; injection h with h; subst h; simp [V.refs]
 | .pan _,w,h=>by simp only [V.ren] at h; cases h
 | .ptr b o z,w,h=>by
  simp only [V.ren,Option.map_eq_some_iff] at h
  obtain ⟨c,h,rfl⟩:=h
  obtain ⟨h1,rfl⟩:=List.getElem?_eq_some_iff.1 h
  simp [V.refs,ixn,h1]
 | .yv b,w,h=>by
  simp only [V.ren,Option.map_eq_some_iff] at h
  obtain ⟨c,h,rfl⟩:=h
  obtain ⟨h1,rfl⟩:=List.getElem?_eq_some_iff.1 h
  simp [V.refs,ixn,h1]
 | .sl b o n z m,w,h=>by
  simp only [V.ren,Option.map_eq_some_iff] at h
  obtain ⟨c,h,rfl⟩:=h
  obtain ⟨h1,rfl⟩:=List.getElem?_eq_some_iff.1 h
  simp [V.refs,ixn,h1]
 | .map b,w,h=>by
  simp only [V.ren,Option.map_eq_some_iff] at h
  obtain ⟨c,h,rfl⟩:=h
  obtain ⟨h1,rfl⟩:=List.getElem?_eq_some_iff.1 h
  simp [V.refs,ixn,h1]
 | .aggv l,w,h=>by
  simp only [V.ren,Option.map_eq_some_iff] at h
  obtain ⟨c,h,rfl⟩:=h
  simp only [V.refs]
  exact V.renL_refs l c h
 | .fn g l,w,h=>by
  simp only [V.ren,Option.map_eq_some_iff] at h
  obtain ⟨c,h,rfl⟩:=h
  simp only [V.refs]
  exact V.renL_refs l c h
 | .tup l,w,h=>by
  simp only [V.ren,Option.map_eq_some_iff] at h
  obtain ⟨c,h,rfl⟩:=h
  simp only [V.refs]
  exact V.renL_refs l c h
 | .iface t x,w,h=>by
  simp only [V.ren,Option.map_eq_some_iff] at h
  obtain ⟨c,h,rfl⟩:=h
  simp only [V.refs]
  exact V.ren_refs x c h
 | .bm t x,w,h=>by
  simp only [V.ren,Option.map_eq_some_iff] at h
  obtain ⟨c,h,rfl⟩:=h
  simp only [V.refs]
  exact V.ren_refs x c h
theorem V.renL_refs {rs:List Nat}:∀ (l r:List V),V.renL (ixo rs) l = some r→V.refsL r = (V.refsL l).map (ixn rs)∧∀ i∈V.refsL l,i < rs.length
 | [],r,h=>by simp only [V.renL] at h; injection h with h; subst h; simp [V.refsL]
 | x::l,r,h=>by
  simp only [V.renL] at h
  split at h
  ·rename_i y q h1 h2
   injection h with h
   subst h
   obtain ⟨a1,a2⟩:=V.ren_refs x y h1
   obtain ⟨b1,b2⟩:=V.renL_refs l q h2
   simp only [V.refsL,a1,b1,List.map_append,true_and]
   intro i hi
   rcases List.mem_append.1 hi with hi | hi
   ·exact a2 i hi
   ·exact b2 i hi
  ·cases h
end
theorem ixn_inj {rs:List Nat} (hn:rs.Nodup) {i j:Nat} (hi:i < rs.length) (hj:j < rs.length) (h:ixn rs i = ixn rs j):i = j:=by
 have e:∀ {k},(hk:k < rs.length)→ixn rs k = rs[k]:=fun hk=>by unfold ixn; rw [List.getD_eq_getElem?_getD,List.getElem?_eq_getElem hk]; rfl
 rw [e hi,e hj] at h
 exact (List.getElem_inj hn).1 h
theorem Jn {rs:List Nat} (hn:rs.Nodup) {b:Nat} (hb:b < rs.length):∀ {l:List Nat},(∀ i∈l,i < rs.length)→(l.map (ixn rs)).contains (ixn rs b) = l.contains b
 | [],_=>rfl
 | c::l,h=>by
  have ih:=Jn hn hb (l:=l) fun i hi=>h i (.tail _ hi)
  simp only [List.map_cons,List.contains_cons,ih]
  congr 1
  rw [Bool.eq_iff_iff,beq_iff_eq,beq_iff_eq]
  exact ⟨fun e=>ixn_inj hn hb (h c (.head _)) e,fun e=>by rw [e]⟩
theorem yX:∀ {l:List Nat},∀ i∈ddp l,i∈l
 | [],i,h=>h
 | b::l,i,h=>by
  unfold ddp at h
  cases hc:l.contains b with
  | true=>rw [hc,cond_true] at h; exact .tail _ (yX i h)
  | false =>
   rw [hc,cond_false] at h
   rcases List.mem_cons.1 h with rfl | h
   ·exact .head _
   ·exact .tail _ (yX i h)
theorem j8 {rs:List Nat} (hn:rs.Nodup):∀ {l:List Nat},(∀ i∈l,i < rs.length)→ddp (l.map (ixn rs)) = (ddp l).map (ixn rs)
 | [],_=>rfl
 | b::l,h=>by
  have ih:=j8 hn (l:=l) fun i hi=>h i (.tail _ hi)
  simp only [List.map_cons,ddp,Jn hn (h b (.head _)) (fun i hi=>h i (.tail _ hi)),ih]
  cases l.contains b <;> rfl
def Blk.plain:Blk→Bool
 | .sc _ _ _ | .vs _ _ | .dead | .lp _ _ _ _=>true
 | _=>false
theorem Blk.ren_back {rs:List Nat} (hn:rs.Nodup) {B C:Blk} (hp:B.plain = true) (h:Blk.ren false (ixo rs) B = some C):Blk.ren false (pos · rs) C = some B∧C.refs = B.refs.map (ixn rs)∧∀ i∈B.refs,i < rs.length:=by
 cases B with
 | sc m n g=>simp only [Blk.ren] at h; injection h with h; subst h; exact ⟨rfl,rfl,fun i hi=>by cases hi⟩
 | vs m l =>
  simp only [Blk.ren,Option.map_eq_some_iff] at h
  obtain ⟨r,h,rfl⟩:=h
  obtain ⟨e1,e2⟩:=V.renL_refs l r h
  exact ⟨by simp only [Blk.ren,V.renL_back hn l r h,Option.map_some]; rfl,e1,e2⟩
 | mp m l=>cases hp
 | dead=>simp only [Blk.ren] at h; injection h with h; subst h; exact ⟨rfl,rfl,fun i hi=>by cases hi⟩
 | sit s p=>cases hp
 | lp k rd l st =>
  simp only [Blk.ren,cond_false,Option.map_eq_some_iff] at h
  obtain ⟨r,h,rfl⟩:=h
  obtain ⟨e1,e2⟩:=V.renL_refs l r h
  refine ⟨by simp only [Blk.ren,cond_false,V.renL_back hn l r h,Option.map_some],?_,fun i hi=>e2 i (yX i hi)⟩
  show ddp (V.refsL r) = (ddp (V.refsL l)).map (ixn rs)
  rw [e1,j8 hn e2]
inductive Canon (rs:List Nat) (σ:Heap):List Nat→List Blk→Prop
 | nil:Canon rs σ [] []
 | cons {b:Nat} {B C:Blk} {r:List Nat} {Bs:List Blk} (h:σ[b]? = some C) (hp:B.plain = true) (hr:Blk.ren false (ixo rs) B = some C) (hs:Canon rs σ r Bs):Canon rs σ (b::r) (B::Bs)
theorem Canon.at {rs:List Nat} {σ:Heap} {r:List Nat} {Bs:List Blk} (h:Canon rs σ r Bs):∀ {i:Nat} {B:Blk},Bs[i]? = some B→∃ b C,r[i]? = some b∧σ[b]? = some C∧B.plain = true∧Blk.ren false (ixo rs) B = some C:=by
 induction h with
 | nil=>intro i B h; cases h
 | cons h1 h2 h3 _ ih =>
  intro i B h
  cases i with
  | zero=>injection h with h; subst h; exact ⟨_,_,rfl,h1,h2,h3⟩
  | succ i=>exact ih h
theorem Canon.len {rs:List Nat} {σ:Heap} {r:List Nat} {Bs:List Blk} (h:Canon rs σ r Bs):r.length = Bs.length:=by
 induction h with
 | nil=>rfl
 | cons _ _ _ _ ih=>simp [ih]
theorem Canon.pick {rs:List Nat} (hn:rs.Nodup) {σ:Heap} {r:List Nat} {Bs:List Blk} (h:Canon rs σ r Bs):Y9 false (pos · rs) σ r = some Bs:=by
 induction h with
 | nil=>rfl
 | cons h1 h2 h3 _ ih=>simp only [Y9,h1,Option.bind_some,(Blk.ren_back hn h2 h3).1,ih]
theorem EH {rs:List Nat} (hn:rs.Nodup) {σ:Heap} {Bs:List Blk} (hc:Canon rs σ rs Bs):∀ (m:Nat) (w acc:List Nat),(∀ i∈w,i < rs.length)→(∀ i∈acc,i < rs.length)→Y6 σ m (w.map (ixn rs)) (acc.map (ixn rs)) = (Y6 Bs m w acc).map (ixn rs)
 | 0,_,_,_,_=>rfl
 | m+1,[],acc,_,_=>rfl
 | m+1,b::w,acc,hw,ha=>by
  have hb:=hw b (.head _)
  have hBl:b < Bs.length:=by rw [← hc.len]; exact hb
  obtain ⟨c,C,e1,e2,e3,e4⟩:=hc.at (List.getElem?_eq_getElem hBl)
  have hix:ixn rs b = c:=by unfold ixn; rw [List.getD_eq_getElem?_getD,e1]; rfl
  obtain ⟨_,f2,f3⟩:=Blk.ren_back hn e3 e4
  have hd:σ.getD (ixn rs b) .dead = C:=by rw [hix,List.getD_eq_getElem?_getD,e2]; rfl
  have hd':Bs.getD b .dead = Bs[b]:=by rw [List.getD_eq_getElem?_getD,List.getElem?_eq_getElem hBl]; rfl
  simp only [List.map_cons,Y6,Jn hn hb ha,hd,hd',f2]
  cases acc.contains b with
  | true=>exact EH hn hc m w acc (fun i hi=>hw i (.tail _ hi)) ha
  | false =>
   simp only [cond_false]
   have:=EH hn hc m (Bs[b].refs++w) (acc++[b]) (fun i hi=>by
    rcases List.mem_append.1 hi with hi | hi
    ·exact f3 i hi
    ·exact hw i (.tail _ hi)) (fun i hi=>by
    rcases List.mem_append.1 hi with hi | hi
    ·exact ha i hi
    ·rcases List.mem_cons.1 hi with rfl | hi
     ·exact hb
     ·cases hi)
   rw [List.map_append,List.map_append] at this
   exact this
theorem qv (rs:List Nat):(List.range rs.length).map (ixn rs) = rs:=by
 refine List.ext_getElem (by simp) fun i h1 h2=>?_
 simp [ixn,h2]
theorem Dv {rs:List Nat} (hn:rs.Nodup) {σ:Heap} {all vs:List V} {Bs:List Blk} (hc:Canon rs σ rs Bs) (hv:V.renL (ixo rs) vs = some all) (hr:Y6 Bs 64 (V.refsL vs) [] = List.range Bs.length):XJ false all σ = some (rs,vs,Bs):=by
 obtain ⟨e1,e2⟩:=V.renL_refs vs all hv
 have:Y6 σ 64 (V.refsL all) [] = rs:=by
  have:=EH hn hc 64 (V.refsL vs) [] e2 (fun i hi=>by cases hi)
  rw [e1]
  rw [List.map_nil] at this
  rw [this,hr,← hc.len,qv]
 unfold XJ
 dsimp only
 rw [this,V.renL_back hn vs all hv,hc.pick hn]
def QN (σ1:Heap):Nat→List Blk→Prop
 | _,[]=>True
 | k,B::Bs=>σ1[k]? = some B∧QN σ1 (k+1) Bs
def Xn (rs:List Nat):List Blk→Option (List Blk)
 | []=>some []
 | B::Bs=>match Blk.ren false (ixo rs) B,Xn rs Bs with
  | some C,some r=>some (C::r)
  | _,_=>none
theorem Rf {σ1:Heap}:∀ {Bs:List Blk} {k:Nat},QN σ1 k Bs→(σ1.drop k).take Bs.length = Bs
 | [],k,_=>by simp
 | B::Bs,k,h=>by
  have hk:=zC h.1
  rw [List.drop_eq_getElem_cons hk,List.length_cons,List.take_succ_cons,Rf h.2]
  have h1:=h.1
  rw [List.getElem?_eq_getElem hk] at h1
  injection h1 with h1
  rw [h1]
theorem Tg {σ1:Heap}:∀ {Bs:List Blk} {k:Nat},QN σ1 k Bs→k≤σ1.length→k+Bs.length≤σ1.length
 | [],k,_,h=>h
 | B::Bs,k,ha,h=>by
  have:=Tg ha.2 (zC ha.1)
  simp only [List.length_cons]; omega
theorem Ts {rs ns:List Nat} {n i:Nat} (h:i < rs.length):Xs rs ns n rs.length i = ixo rs i:=by
 unfold Xs
 rw [show Nat.blt i rs.length = true from Nat.ble_eq_true_of_le h]; rfl
mutual
theorem V.ren_lo {rs ns:List Nat} {n:Nat}:∀ (v w:V),V.ren (ixo rs) v = some w→V.ren (Xs rs ns n rs.length) v = some w
 | .s _,w,h=>h
 | .agg _ _,w,h=>h
 | .pnil,w,h=>h
 | .slz,w,h=>h
 | .snil,w,h=>h
 | .mnil,w,h=>h
 | .fnil,w,h=>h
 | .inil,w,h=>h
 | .undef,w,h=>h
 | .pan _,w,h=>h
 | .ptr b o z,w,h=>by
  have h0:=h
  simp only [V.ren,Option.map_eq_some_iff] at h0
  obtain ⟨c,h0,_⟩:=h0
  simp only [V.ren] at h ⊢
  rw [Ts (List.getElem?_eq_some_iff.1 h0).1]; exact h
 | .yv b,w,h=>by
  have h0:=h
  simp only [V.ren,Option.map_eq_some_iff] at h0
  obtain ⟨c,h0,_⟩:=h0
  simp only [V.ren] at h ⊢
  rw [Ts (List.getElem?_eq_some_iff.1 h0).1]; exact h
 | .sl b o m z c,w,h=>by
  have h0:=h
  simp only [V.ren,Option.map_eq_some_iff] at h0
  obtain ⟨c,h0,_⟩:=h0
  simp only [V.ren] at h ⊢
  rw [Ts (List.getElem?_eq_some_iff.1 h0).1]; exact h
 | .map b,w,h=>by
  have h0:=h
  simp only [V.ren,Option.map_eq_some_iff] at h0
  obtain ⟨c,h0,_⟩:=h0
  simp only [V.ren] at h ⊢
  rw [Ts (List.getElem?_eq_some_iff.1 h0).1]; exact h
 | .aggv l,w,h=>by
  simp only [V.ren,Option.map_eq_some_iff] at h ⊢
  obtain ⟨c,h,rfl⟩:=h
  exact ⟨c,V.renL_lo l c h,rfl⟩
 | .fn g l,w,h=>by
  simp only [V.ren,Option.map_eq_some_iff] at h ⊢
  obtain ⟨c,h,rfl⟩:=h
  exact ⟨c,V.renL_lo l c h,rfl⟩
 | .tup l,w,h=>by
  simp only [V.ren,Option.map_eq_some_iff] at h ⊢
  obtain ⟨c,h,rfl⟩:=h
  exact ⟨c,V.renL_lo l c h,rfl⟩
 | .iface t x,w,h=>by
  simp only [V.ren,Option.map_eq_some_iff] at h ⊢
  obtain ⟨c,h,rfl⟩:=h
  exact ⟨c,V.ren_lo x c h,rfl⟩
 | .bm t x,w,h=>by
  simp only [V.ren,Option.map_eq_some_iff] at h ⊢
  obtain ⟨c,h,rfl⟩:=h
  exact ⟨c,V.ren_lo x c h,rfl⟩
theorem V.renL_lo {rs ns:List Nat} {n:Nat}:∀ (l r:List V),V.renL (ixo rs) l = some r→V.renL (Xs rs ns n rs.length) l = some r
 | [],r,h=>h
 | x::l,r,h=>by
  simp only [V.renL] at h ⊢
  split at h
  ·rename_i y q h1 h2
   rw [V.ren_lo x y h1,V.renL_lo l q h2]; exact h
  ·cases h
end
theorem Blk.ren_lo {rs ns:List Nat} {n:Nat} {B C:Blk} (hp:B.plain = true) (h:Blk.ren false (ixo rs) B = some C):Blk.ren false (Xs rs ns n rs.length) B = some C:=by
 cases B with
 | sc m k g=>exact h
 | vs m l =>
  simp only [Blk.ren,Option.map_eq_some_iff] at h ⊢
  obtain ⟨r,h,rfl⟩:=h
  exact ⟨r,V.renL_lo l r h,rfl⟩
 | mp m l=>cases hp
 | dead=>exact h
 | sit s p=>cases hp
 | lp k rd l st =>
  simp only [Blk.ren,cond_false,Option.map_eq_some_iff] at h ⊢
  obtain ⟨r,h,rfl⟩:=h
  exact ⟨r,V.renL_lo l r h,rfl⟩
theorem j3 {rs ns:List Nat} {n:Nat} {σ1:Heap}:∀ {Bs Cs:List Blk} {k:Nat},QN σ1 k Bs→(∀ B∈Bs,B.plain = true)→Xn rs Bs = some Cs→Y9 false (Xs rs ns n rs.length) σ1 (List.range' k Bs.length) = some Cs
 | [],Cs,k,_,_,h=>by injection h with h; subst h; rfl
 | B::Bs,Cs,k,hf,hp,h=>by
  simp only [Xn] at h
  split at h
  ·rename_i C r h1 h2
   injection h with h
   subst h
   rw [List.length_cons,List.range'_succ]
   simp only [Y9,hf.1,Option.bind_some,Blk.ren_lo (hp B (.head _)) h1,j3 hf.2 (fun B hB=>hp B (.tail _ hB)) h2]
  ·cases h
theorem KQ {rs:List Nat} (hn:rs.Nodup):∀ {Bs Cs:List Blk},(∀ B∈Bs,B.plain = true)→Xn rs Bs = some Cs→∀ i∈Bs.flatMap Blk.refs,i < rs.length
 | [],_,_,_,i,hi=>by cases hi
 | B::Bs,Cs,hp,h,i,hi=>by
  simp only [Xn] at h
  split at h
  ·rename_i C r h1 h2
   rw [List.flatMap_cons] at hi
   rcases List.mem_append.1 hi with hi | hi
   ·exact (Blk.ren_back hn (hp B (.head _)) h1).2.2 i hi
   ·exact KQ hn (fun B hB=>hp B (.tail _ hB)) h2 i hi
  ·cases h
theorem DM {σ1:Heap} {Bs:List Blk} (hf:∀ i,i < Bs.length→σ1[i]? = Bs[i]?) (hr:∀ i,i < Bs.length→∀ j∈(σ1.getD i .dead).refs,j < Bs.length):∀ (m:Nat) (w acc:List Nat),(∀ i∈w,i < Bs.length)→(∀ i∈acc,i < Bs.length)→∀ i∈Y6 σ1 m w acc,i < Bs.length
 | 0,_,acc,_,ha=>ha
 | m+1,[],acc,_,ha=>ha
 | m+1,b::w,acc,hw,ha=>by
  unfold Y6
  cases acc.contains b with
  | true=>exact DM hf hr m w acc (fun i hi=>hw i (.tail _ hi)) ha
  | false =>
   refine DM hf hr m _ _ (fun i hi=>?_) fun i hi=>?_
   ·rcases List.mem_append.1 hi with hi | hi
    ·exact hr b (hw b (.head _)) i hi
    ·exact hw i (.tail _ hi)
   ·rcases List.mem_append.1 hi with hi | hi
    ·exact ha i hi
    ·rcases List.mem_cons.1 hi with rfl | hi
     ·exact hw i (.head _)
     ·cases hi
theorem T6 {σ1:Heap}:∀ {Bs:List Blk} {k i:Nat},QN σ1 k Bs→i < Bs.length→σ1[k+i]? = Bs[i]?
 | B::Bs,k,0,h,_=>h.1
 | B::Bs,k,i+1,h,hi=>by
  have:=T6 (i:=i) h.2 (by simpa using hi)
  rw [show k+1+i = k+(i+1) by omega] at this
  simpa using this
theorem DC {rs:List Nat} (hn:rs.Nodup) {σ σ1:Heap} {r r':V} {Bs Cs:List Blk} (hl:Bs.length = rs.length) (hf:QN σ1 0 Bs) (hp:∀ B∈Bs,B.plain = true) (hr:V.ren (ixo rs) r = some r') (hB:Xn rs Bs = some Cs):XE false σ rs r σ1 = some (r',XM σ rs Cs):=by
 have hat:∀ i,i < Bs.length→σ1[i]? = Bs[i]?:=fun i hi=>by have:=T6 hf hi; simpa using this
 have htake:σ1.take rs.length = Bs:=by have:=Rf hf; rw [List.drop_zero,hl] at this; exact this
 have hrefs:=KQ hn hp hB
 have hns:X2 false rs.length r σ1 = []:=by
  unfold X2
  rw [cond_false,htake,List.filter_eq_nil_iff]
  intro i hi
  have:=DM (σ1:=σ1) (Bs:=Bs) hat (fun i hi j hj=>by
   have e:σ1.getD i .dead = Bs[i]:=by rw [List.getD_eq_getElem?_getD,hat i hi,List.getElem?_eq_getElem hi]; rfl
   rw [e] at hj
   rw [hl]
   exact hrefs j (List.mem_flatMap.2 ⟨Bs[i],List.getElem_mem hi,hj⟩)) 64 _ [] (fun i hi=>by
   rw [hl]
   rcases List.mem_append.1 hi with hi | hi
   ·exact (V.ren_refs r r' hr).2 i hi
   ·exact hrefs i hi) (fun i hi=>by cases hi) i hi
  simp only [Bool.not_eq_true]
  cases hb:Nat.ble rs.length i with
  | false=>rfl
  | true=>have:=Nat.le_of_ble_eq_true hb; omega
 have hnd:=Qq hn
 have hble:Nat.ble rs.length σ1.length = true:=Nat.ble_eq_true_of_le (by have:=Tg hf (Nat.zero_le _); omega)
 unfold XE
 have hpk:=j3 (ns:=[]) (n:=σ.length) hf hp hB
 rw [hl] at hpk
 have hn0:nodup [] = true:=rfl
 simp only [hns,hnd,hn0,hble,Bool.and_self,cond_true,V.ren_lo r r' hr,Y9,cond_false,List.append_nil]
 rw [List.range_eq_range',hpk]
def UQ (L:HA):Nat→List Blk→Prop
 | _,[]=>True
 | k,B::Bs=>(k,B)∈L∧UQ L (k+1) Bs
theorem JU {σ:Heap} {n:Nat} {L:HA} (h:Hp σ n L):∀ {Bs:List Blk} {k:Nat},UQ L k Bs→QN σ k Bs
 | [],_,_=>trivial
 | B::Bs,k,hf=>⟨(h.2.mem hf.1).2,JU h hf.2⟩
theorem DI {rs:List Nat} {σ:Heap} {n:Nat} {L:HA} (h:Hp σ n L):∀ {Lr:HA} {Bs:List Blk},(∀ p∈Lr,p∈L)→Bs.all Blk.plain = true→Xn rs Bs = some (Lr.map (·.2))→Canon rs σ (Lr.map (·.1)) Bs
 | [],[],_,_,_=>.nil
 | [],B::Bs,_,_,hr=>by
  simp only [Xn] at hr
  split at hr
  ·injection hr with hr; cases hr
  ·cases hr
 | p::Lr,[],_,_,hr=>by simp only [Xn] at hr; injection hr with hr; cases hr
 | p::Lr,B::Bs,hm,hp,hr=>by
  simp only [Xn] at hr
  split at hr
  ·rename_i C r h1 h2
   injection hr with hr
   simp only [List.map_cons,List.cons.injEq] at hr
   obtain ⟨rfl,rfl⟩:=hr
   simp only [List.all_cons,Bool.and_eq_true] at hp
   exact .cons (h.2.mem (hm p (.head _))).2 hp.1 h1 (DI h (fun q hq=>hm q (.tail _ hq)) hp.2 h2)
  ·cases hr
theorem xW {σ:Heap} {n:Nat} {Lr L0:HA} (h:Hp σ n (Lr++L0)):(Lr.map (·.1)).Nodup:=by
 have:=(HL_iff.1 h.2).2
 rw [List.pairwise_append] at this
 unfold List.Nodup
 rw [List.pairwise_map]
 exact this.1
theorem Hp.putZ:∀ {Lr:HA} {Cs:List Blk} {L0:HA} {σ:Heap} {n:Nat},Cs.length = Lr.length→Hp σ n (Lr++L0)→Hp (XM σ (Lr.map (·.1)) Cs) n ((Lr.map (·.1)).zip Cs++L0)
 | [],[],_,_,_,_,h=>h
 | p::Lr,C::Cs,L0,σ,n,hl,h=>by
  obtain ⟨b,B⟩:=p
  have h1:Hp (σ.set b C) n ((b,C)::(Lr++L0)):=h.set .here
  have h2:Hp (σ.set b C) n (Lr++(b,C)::L0):=h1.perm List.perm_middle.symm
  have h3:=Hp.putZ (Lr:=Lr) (Cs:=Cs) (by simpa using hl) h2
  exact h3.perm List.perm_middle
 | [],_::_,_,_,_,hl,_=>by cases hl
 | _::_,[],_,_,_,hl,_=>by cases hl
theorem Kz {rs:List Nat}:∀ {Bs Cs:List Blk},Xn rs Bs = some Cs→Cs.length = Bs.length
 | [],Cs,h=>by injection h with h; subst h; rfl
 | B::Bs,Cs,h=>by
  simp only [Xn] at h
  split at h
  ·rename_i C r h1 h2
   injection h with h
   subst h
   simp [Kz h2]
  ·cases h
section
variable {A:AP} {N:Nat} {f:FE} {n:Nat} {L:HA} {K:KN} {Zp:V→KN}
def vv (Lr L0:HA) (k:Nat) (n:Nat) (K:V→List Blk→Prop):KR:=fun r _ L1=>∃ Bs r' Cs,UQ L1 0 Bs∧Bs.length = k∧Bs.all Blk.plain = true∧V.ren (ixo (Lr.map (·.1))) r = some r'∧Xn (Lr.map (·.1)) Bs = some Cs∧K r' Cs
theorem runC {fid:FuncId} {all vs mk:List V} {Bs:List Blk} {Lr L0:HA} {K:V→List Blk→Prop} (hv:V.renL (ixo (Lr.map (·.1))) vs = some all) (hB:Xn (Lr.map (·.1)) Bs = some (Lr.map (·.2))) (hp:Bs.all Blk.plain = true) (hr:Y6 Bs 64 (V.refsL vs) [] = List.range Bs.length)
  (h:WR A fid (mk++vs) Bs (vv Lr L0 Bs.length n K)) {σ:Heap} (hσ:Hp σ n (Lr++L0)) :
  ∃ y r' Cs,XJ false all σ = some (Lr.map (·.1),vs,Bs)∧Run A fid (mk++vs) Bs = some y∧XE false σ (Lr.map (·.1)) y.1 y.2 = some (r',XM σ (Lr.map (·.1)) Cs)∧Hp (XM σ (Lr.map (·.1)) Cs) n ((Lr.map (·.1)).zip Cs++L0)∧K r' Cs:=by
 obtain ⟨r,σ1,n1,L1,h1,h2,Bs1,r',Cs,e1,e2,e3,e4,e5,e6⟩:=h
 have hn:=xW hσ
 have hc:=DI hσ (fun p hp=>List.mem_append_left _ hp) hp hB
 have hen:=Dv hn hc hv hr
 have hlen:Bs.length = (Lr.map (·.1)).length:=hc.len.symm
 have hlv:=DC (σ:=σ) hn (e2.trans hlen) (JU h2 e1) (List.all_eq_true.1 e3) e4 e5
 exact ⟨(r,σ1),r',Cs,hen,h1,hlv,hσ.putZ (by rw [Kz e5,e2,hlen,List.length_map]),e6⟩
theorem WP_rfnC {X:Nat→KN} {R:KN} {g:O} {k:Nat} {rd:RD} {gf:FuncId} {gcaps vs:List V} {Bs:List Blk} {Lr L0:HA} (hL:List.Perm L (Lr++L0)) (hg:g.fv N f = .fn gf gcaps)
  (hv:V.renL (ixo (n::Lr.map (·.1))) vs = some (.yv n::gcaps)) (hB:Xn (n::Lr.map (·.1)) Bs = some (.lp k rd (E N f) 0::Lr.map (·.2))) (hp:Bs.all Blk.plain = true) (hr:Y6 Bs 64 (V.refsL vs) [] = List.range Bs.length)
  (h:WR A gf vs Bs (vv ((n,.lp k rd (E N f) 0)::Lr) L0 Bs.length (n+1) fun _ Cs=>∃ k' rd' caps st Cr,Cs = .lp k' rd' caps st::Cr∧(match st with
   | 0=>K f (n+1) ((Lr.map (·.1)).zip Cr++L0)
   | 1=>False
   | 2=>R f (n+1) ((Lr.map (·.1)).zip Cr++L0)
   | j+3=>X j f (n+1) ((Lr.map (·.1)).zip Cr++L0)))):WP A N (.rfn g k rd) f n L K X R Zp:=fun σ hσ=>by
 have hσ1:=(hσ.perm hL).new (.lp k rd (E N f) 0)
 obtain ⟨y,r',Cs,e1,e2,e3,e4,k',rd',caps,st,Cr,rfl,e5⟩:=runC (Lr:=(n,.lp k rd (E N f) 0)::Lr) (mk:=[]) hv hB hp hr h hσ1
 rw [List.nil_append] at e2
 have hcall:VG (Run A) gf (.yv n::gcaps) (σ++[.lp k rd (E N f) 0]) = some (r',XM (σ++[.lp k rd (E N f) 0]) (n::Lr.map (·.1)) (.lp k' rd' caps st::Cr)):=by
  unfold VG
  rw [e1,Option.bind_some]
  dsimp only
  rw [e2,Option.bind_some]
  exact e3
 have e4:Hp (XM (σ++[.lp k rd (E N f) 0]) (n::Lr.map (·.1)) (.lp k' rd' caps st::Cr)) (n+1) ((n,.lp k' rd' caps st)::((Lr.map (·.1)).zip Cr++L0)):=e4
 clear e3
 generalize XM (σ++[.lp k rd (E N f) 0]) (n::Lr.map (·.1)) (.lp k' rd' caps st::Cr) = τ at hcall e4
 have hl:τ[n]? = some (.lp k' rd' caps st):=(e4.2.mem (.head _)).2
 have hend:Hp (kill τ n) (n+1) ((Lr.map (·.1)).zip Cr++L0):=(e4.set (B':=.dead) .here).drop
 have hx:∀ x,UH (Run A) g k rd (E N f) σ = some (x,E N f,kill τ n)→WS A (.rfn g k rd) (E N f) σ = some (x,E N f,kill τ n):=fun x h=>by rw [q4]; exact h
 match st,e5,hl with
 | 0,e5,hl =>
  refine ⟨.normal,f,_,n+1,_,hx _ ?_,hend,e5⟩
  unfold UH
  rw [Y7,hg]
  simp only [hσ.1,hcall,hl]
 | 2,e5,hl =>
  refine ⟨.ret,f,_,n+1,_,hx _ ?_,hend,e5⟩
  unfold UH
  rw [Y7,hg]
  simp only [hσ.1,hcall,hl]
 | j+3,e5,hl =>
  refine ⟨.exit j,f,_,n+1,_,hx _ ?_,hend,e5⟩
  unfold UH
  rw [Y7,hg]
  simp only [hσ.1,hcall,hl]
theorem pv {x:O} {xs:List O} {args vs:List V} {b k:Nat} {rd:RD} {caps:List V} {st:Nat} {Bs:List Blk} {l:List I} {od:Option Nat} {Lr L0:HA} (hL:List.Perm L (Lr++L0)) (hf:x.fv N f = .yv b) (ha:xs.map (O.fv N f) = args) (hm:(b,Blk.lp k rd caps st)∈L)
  (hv:V.renL (ixo (Lr.map (·.1))) vs = some (.yv b::args)) (hB:Xn (Lr.map (·.1)) Bs = some (Lr.map (·.2))) (hp:Bs.all Blk.plain = true) (hr:Y6 Bs 64 (V.refsL vs) [] = List.range Bs.length)
  (h:WR A k (.pan .undef::vs) Bs (vv Lr L0 Bs.length n fun v Cs=>WOx A N l (Y8 f od v) n ((Lr.map (·.1)).zip Cs++L0) K Zp)):WOx A N (⟨od,none,.h (.call x xs)⟩::l) f n L K Zp :=
 ka rfl rfl hf hm fun σ hσ=>by
  rw [ha]
  obtain ⟨y,r',Cs,e1,e2,e3,e4,e5⟩:=runC (mk:=[.pan .undef]) hv hB hp hr h (hσ.perm hL)
  refine ⟨r',_,n,_,?_,e4,e5⟩
  unfold U2
  rw [e1,Option.bind_some]
  have e2:Run A k (.pan .undef::vs) Bs = some y:=e2
  dsimp only
  rw [e2,Option.bind_some]
  exact e3
end
theorem Ek {l:List V} {N:Nat} (h:l.length = N):l = E N (YH l):=by
 subst h
 unfold E YH
 refine List.ext_getElem (by simp) fun i h1 h2=>?_
 rw [List.getElem_map,List.getElem_range,List.getD_eq_getElem?_getD,List.getElem?_eq_getElem h1]; rfl
theorem Eo {A:AP} {N:Nat} {f:FE} {n:Nat} {L:HA} {K:KN} {Zp:V→KN} {l:List I} {d:Option Nat} {t:Nat} {want:Bool} {i:Ins} (h:rd N f t = .s (.bool want)) (k:WOx A N (⟨d,none,i⟩::l) f n L K Zp):WOx A N (⟨d,some (t,want),i⟩::l) f n L K Zp:=fun σ hσ=>by
 obtain ⟨x,f',σ',n',L',h1,h2,h3⟩:=k σ hσ
 refine ⟨x,f',σ',n',L',?_,h2,h3⟩
 rw [← h1]
 have e1:XN ⟨d,some (t,want),i⟩ (E N f) = true:=by simp only [XN,Uq,h,beq_self_eq_true]
 have e2:XN ⟨d,none,i⟩ (E N f) = true:=rfl
 have hp:WH (Run A) ⟨d,some (t,want),i⟩ (E N f) σ = WH (Run A) ⟨d,none,i⟩ (E N f) σ:=by simp only [WH,e1,e2]
 have hy:Vz (Run A) ⟨d,some (t,want),i⟩ (E N f) σ = Vz (Run A) ⟨d,none,i⟩ (E N f) σ:=by simp only [Vz,e1,e2]
 simp only [YQ,XA,Uq,h,beq_self_eq_true,cond_true,hp,hy]
theorem RP {run:Runner} {a c:I} (ha:a.ins.still = true) (ht:Wo a c = true) {e:Env} {σ σ':Heap} {v w:V} (h1:Y1 run a e σ = some (v,σ)) (h2:Y1 run a e σ' = some (v,σ')) (h3:Y1 run c e σ = some (w,σ')) (l:List I):YQ run (a::c::l) e σ = YQ run (c::a::l) e σ:=by
 unfold Wo at ht
 simp only [Bool.and_eq_true] at ht
 obtain ⟨h4,h5⟩:=ht
 have ga:∀ x τ,Y1 run a (Xz e c.dst x) τ = Y1 run a e τ:=fun x τ=>Uw τ (JG fun y hy=>by rw [hy] at h5; simpa using h5)
 have gc:∀ x τ,Y1 run c (Xz e a.dst x) τ = Y1 run c e τ:=fun x τ=>Uw τ (JG fun y hy=>by
  rw [hy] at h4
  simp only [Bool.and_eq_true] at h4
  simpa using h4.1)
 rw [UZ (e':=Xz e a.dst v) (σ':=σ) (by rw [Xl,h1]; rfl),UZ (e':=Xz (Xz e a.dst v) c.dst w) (σ':=σ') (by rw [Xl,gc,h3]; rfl),
  UZ (e':=Xz e c.dst w) (σ':=σ') (by rw [Xl,h3]; rfl),UZ (e':=Xz (Xz e c.dst w) a.dst v) (σ':=σ') (by rw [Xl,ga,h2]; rfl)]
 refine congrArg (fun e=>YQ run l e σ') ?_
 cases hda:a.dst with
 | none=>rfl
 | some da =>
  cases hdc:c.dst with
  | none=>rfl
  | some dc =>
   rw [hda,hdc] at h4
   simp only [Bool.and_eq_true,Bool.not_eq_true',beq_eq_false_iff_ne,ne_eq,Option.some.injEq] at h4
   exact List.set_comm _ _ (fun e=>h4.2 e.symm)
theorem TN {run:Runner} {o:I} {t:Nat} {want b:Bool} (hg:o.g = some (t,want)) {e:Env} (ht:e.getD t .undef = .s (.bool b)) (hb:(b == want) = false) (σ:Heap):Y1 run o e σ = some (.tup [],σ):=by
 unfold Y1
 simp only [hg,ht,hb,cond_false]
theorem DQ {run:Runner} {d:Option Nat} {t:Nat} {want:Bool} {i:Ins} {e:Env} (ht:e.getD t .undef = .s (.bool want)) (σ:Heap):Y1 run ⟨d,some (t,want),i⟩ e σ = Xk run i e σ:=by
 unfold Y1
 simp only [ht,beq_self_eq_true,cond_true]
theorem kV {run:Runner} {fid:FuncId} {av:List V} {σ σ':Heap} {v:V} (ha:V.looseL av = true) (h:Y4 run false (.fn fid []) av σ = some (v,σ')):∃ new,σ' = σ++new:=by
 have hrefs:V.refsL (av++[]) = []:=by rw [List.append_nil]; exact V.looseL_refs av ha
 have hen:XJ false (av++[]) σ = some ([],av,[]):=by
  unfold XJ
  rw [List.append_nil] at hrefs ⊢
  simp only [hrefs,Kx,V.looseL_ren _ av ha,Y9]
 simp only [Y4,target,hen,Option.bind_some] at h
 cases hr:run fid av [] with
 | none=>rw [hr] at h; cases h
 | some y =>
  rw [hr,Option.bind_some] at h
  unfold XE at h
  simp only [List.length_nil] at h
  cases hc:(nodup ([]:List Nat) && nodup (X2 false 0 y.1 y.2) && Nat.ble 0 y.2.length) with
  | false=>rw [hc] at h; cases h
  | true =>
   rw [hc,cond_true] at h
   split at h
   ·simp only [cond_false,List.range_zero,Y9,XM] at h
    injection h with h
    injection h with h1 h2
    exact ⟨_,h2.symm⟩
   ·cases h
section
variable {A:AP} {N:Nat} {f:FE} {n:Nat} {L:HA} {K:KN} {Zp:V→KN}
theorem WP_parcO2 {X:Nat→KN} {R:KN} {ps:List (List Nat)} {l pre r1 r2:List I} {q1 q2:List Nat} (h1:Xr l q1 = pre++r1) (h2:Xr l q2 = pre++r2) (hl:l = pre++r1) (hp:(ps.all fun p=>El (JS l p) q1 || El (JS l p) q2) = true)
  (h:WO A N pre f n L (fun f1 n1 L1=>(∀ σ,Hp σ n1 L1→YQ (Run A) r2 (E N f1) σ = YQ (Run A) r1 (E N f1) σ)∧WOx A N r1 f1 n1 L1 K Zp) fun _ _ _ _=>False):WP A N (.parc ps l) f n L K X R Zp :=
 qM fun σ hσ=>by
  obtain ⟨x,f1,σ1,n1,L1,e1,e2,e3⟩:=h σ hσ
  cases x with
  | panic v=>exact e3.elim
  | exit j=>exact e3.elim
  | ret=>exact e3.elim
  | normal =>
   obtain ⟨e4,e5⟩:=e3
   obtain ⟨y,f2,σ2,n2,L2,k1,k2,k3⟩:=e5 σ1 e2
   have e1:=UV e1
   have hr1:YQ (Run A) (pre++r1) (E N f) σ = some (y,E N f2,σ2):=(Um e1).trans k1
   refine ⟨y,f2,σ2,n2,L2,by rw [hl]; exact hr1,fun p hm=>?_,k2,k3⟩
   have hb:=List.all_eq_true.1 hp p hm
   rw [Bool.or_eq_true] at hb
   rw [← D3 p]
   rcases hb with hb | hb
   ·rw [EX hb,h1,hr1]; exact TB _
   ·rw [EX hb,h2,Um e1,e4 σ1 e2,k1]; exact TB _
theorem wq {t d1 d2 m:Nat} {agg want:Bool} {a:O} {fid:FuncId} {xs:List O} {av:List V} {b o z:Nat} {B:Blk} {l:List I} (hg:rd N f t = .s (.bool want)) (ht:Wo ⟨some d1,some (t,want),.h (.load agg m a)⟩ ⟨some d2,some (t,want),.h (.call (.k (.fn fid [])) xs)⟩ = true)
  (ha:a.fv N f = .ptr b o z) (hz:Nat.ble m z = true) (hm:(b,B)∈L) (hrd:∃ v,∀ σ:Heap,σ[b]? = some B→rdV σ b o m agg = some v) (hav:xs.map (O.fv N f) = av) (hl:V.looseL av = true) (hc:∀ σ,Hp σ n L→∃ r,Y4 (Run A) false (.fn fid []) av σ = some r) :
  ∀ σ,Hp σ n L→YQ (Run A) (⟨some d1,some (t,want),.h (.load agg m a)⟩::⟨some d2,some (t,want),.h (.call (.k (.fn fid [])) xs)⟩::l) (E N f) σ = YQ (Run A) (⟨some d2,some (t,want),.h (.call (.k (.fn fid [])) xs)⟩::⟨some d1,some (t,want),.h (.load agg m a)⟩::l) (E N f) σ:=fun σ hσ=>by
 obtain ⟨v,hv⟩:=hrd
 obtain ⟨⟨w,σ'⟩,hw⟩:=hc σ hσ
 have hb:=hσ.2.mem hm
 obtain ⟨new,rfl⟩:=kV hl hw
 have ht':(E N f).getD t .undef = .s (.bool want):=by rw [Uq]; exact hg
 have hld:∀ τ:Heap,τ[b]? = some B→YJ (Run A) (.load agg m a) (E N f) τ = some (v,τ):=fun τ h=>by
  simp only [YJ,Y7,ha,if_pos (Nat.le_of_ble_eq_true hz),hv τ h,Option.map_some]
 refine RP (v:=v) (w:=w) (σ':=σ++new) rfl ht ?_ ?_ ?_ l
 ·rw [DQ ht']; exact hld σ hb.2
 ·rw [DQ ht']; exact hld _ (by rw [List.getElem?_append_left (zC hb.2)]; exact hb.2)
 ·rw [DQ ht']
  show YJ (Run A) (.call (.k (.fn fid [])) xs) (E N f) σ = _
  simp only [YJ,Y7,hav]
  exact hw
theorem ta {t:Nat} {want b:Bool} {o1 o2:I} {l:List I} (h1:o1.g = some (t,want)) (h2:o2.g = some (t,want)) (hs:o1.ins.still = true) (ht:Wo o1 o2 = true) (hg:rd N f t = .s (.bool b)) (hb:(b == want) = false) :
  ∀ σ,Hp σ n L→YQ (Run A) (o1::o2::l) (E N f) σ = YQ (Run A) (o2::o1::l) (E N f) σ:=fun σ _=>by
 have ht':(E N f).getD t .undef = .s (.bool b):=by rw [Uq]; exact hg
 exact RP (v:=.tup []) (w:=.tup []) (σ':=σ) hs ht (TN h1 ht' hb σ) (TN h1 ht' hb σ) (TN h2 ht' hb σ) l
end
theorem U0 {A:AP} {fid:FuncId} {as':List V} {Bs:List Blk} {K K':KR} (h:WR A fid as' Bs K) (hk:∀ v n L,K v n L→K' v n L):WR A fid as' Bs K':=by
 obtain ⟨v,σ',n',L',h1,h2,h3⟩:=h
 exact ⟨v,σ',n',L',h1,h2,hk _ _ _ h3⟩
theorem Qn {A:AP} {N:Nat} {f:FE} {n:Nat} {L L':HA} {K:KN} {Zp:V→KN} {l:List I} (h:List.Sublist L' L) (k:WOx A N l f n L' K Zp):WOx A N l f n L K Zp:=fun σ hσ=>k σ (hσ.sub h)
theorem Qt (l:List I):∀ (a b:List Nat),Xr l (a++b) = Xr l a++Xr l b
 | [],_=>rfl
 | i::a,b=>by
  simp only [List.cons_append,Xr,Qt l a b]
  cases l[i]? <;> rfl
theorem WP_parcO2' {A:AP} {N:Nat} {f:FE} {n:Nat} {L:HA} {K:KN} {Zp:V→KN} {X:Nat→KN} {R:KN} {ps:List (List Nat)} {l:List I} (q0 qa qb:List Nat) (hl:Xr l (q0++qa) = l) (hp:(ps.all fun p=>El (JS l p) (q0++qa) || El (JS l p) (q0++qb)) = true)
  (h:WO A N (Xr l q0) f n L (fun f1 n1 L1=>(∀ σ,Hp σ n1 L1→YQ (Run A) (Xr l qb) (E N f1) σ = YQ (Run A) (Xr l qa) (E N f1) σ)∧WOx A N (Xr l qa) f1 n1 L1 K Zp) fun _ _ _ _=>False):WP A N (.parc ps l) f n L K X R Zp :=
 WP_parcO2 (q1:=q0++qa) (q2:=q0++qb) (Qt l q0 qa) (Qt l q0 qb) (by rw [← Qt,hl]) hp h
theorem WP_rfnD {A:AP} {N:Nat} {f:FE} {n:Nat} {L:HA} {K:KN} {Zp:V→KN} {X:Nat→KN} {R:KN} {g:O} {k:Nat} {rd:RD} {gf:FuncId} {gcaps vs caps:List V} {Br:List Blk} {Lr L0:HA} (hL:List.Perm L (Lr++L0)) (hg:g.fv N f = .fn gf gcaps)
  (hv:V.renL (ixo (n::Lr.map (·.1))) vs = some (.yv n::gcaps)) (hc:V.renL (ixo (n::Lr.map (·.1))) caps = some (E N f)) (hB:Xn (n::Lr.map (·.1)) Br = some (Lr.map (·.2))) (hp:Br.all Blk.plain = true) (hr:Y6 (.lp k rd caps 0::Br) 64 (V.refsL vs) [] = List.range (Br.length+1))
  (h:WR A gf vs (.lp k rd caps 0::Br) (fun r _ L1=>∃ Br1 r' Cr st,UQ L1 0 (.lp k rd caps st::Br1)∧Br1.length = Br.length∧Br1.all Blk.plain = true∧V.ren (ixo (n::Lr.map (·.1))) r = some r'∧Xn (n::Lr.map (·.1)) Br1 = some Cr∧(match st with
   | 0=>K f (n+1) ((Lr.map (·.1)).zip Cr++L0)
   | 1=>False
   | 2=>R f (n+1) ((Lr.map (·.1)).zip Cr++L0)
   | j+3=>X j f (n+1) ((Lr.map (·.1)).zip Cr++L0)))):WP A N (.rfn g k rd) f n L K X R Zp:=by
 have hlp:∀ st Br1 Cr,Xn (n::Lr.map (·.1)) Br1 = some Cr→Xn (n::Lr.map (·.1)) (.lp k rd caps st::Br1) = some (.lp k rd (E N f) st::Cr):=fun st Br1 Cr h=>by
  simp only [Xn,Blk.ren,cond_false,hc,Option.map_some,h]
 refine WP_rfnC hL hg hv (hlp 0 _ _ hB) (by simp only [List.all_cons,Blk.plain,hp,Bool.and_self]) hr (U0 h ?_)
 rintro r n1 L1 ⟨Br1,r',Cr,st,h1,h2,h3,h4,h5,h6⟩
 exact ⟨_,r',_,h1,by simp [h2],by simp only [List.all_cons,Blk.plain,h3,Bool.and_self],h4,hlp st _ _ h5,k,rd,_,st,Cr,rfl,h6⟩
end Go.Am
namespace Go.Am
open Go
section
variable {A:AP} {N:Nat} {f:FE} {n:Nat} {L:HA} {K:KN} {Zp:V→KN}
theorem uF {run:Runner} {c:I} {e e':Env} {σ σ':Heap} (h:Ww run [c] e σ = some (.normal,e',σ')):∃ w,Y1 run c e σ = some (w,σ'):=by
 unfold Ww at h
 cases hs:XA run c e σ with
 | none =>
  rw [hs] at h
  cases hp:WH run c e σ with
  | none=>rw [hp] at h; cases h
  | some r=>rw [hp] at h; cases h
 | some r =>
  rw [hs] at h
  simp only [Ww,Option.some.injEq,Prod.mk.injEq,true_and] at h
  rw [Xl] at hs
  cases hv:Y1 run c e σ with
  | none=>rw [hv] at hs; cases hs
  | some p =>
   rw [hv] at hs
   simp only [Option.map_some,Option.some.injEq] at hs
   refine ⟨p.1,?_⟩
   rw [← h.2,← hs]
theorem RX {a c:I} {b:Nat} {B:Blk} {v:V} (ha:a.ins.still = true) (ht:Wo a c = true) (hm:(b,B)∈L) (hv:∀ σ:Heap,σ[b]? = some B→Y1 (Run A) a (E N f) σ = some (v,σ)) (hw:WO A N [c] f n L (fun _ _ L1=>(b,B)∈L1) fun _ _ _ _=>False) (l:List I) :
  ∀ σ,Hp σ n L→YQ (Run A) (a::c::l) (E N f) σ = YQ (Run A) (c::a::l) (E N f) σ:=fun σ hσ=>by
 obtain ⟨x,f1,σ1,n1,L1,e1,e2,e3⟩:=hw σ hσ
 cases x with
 | panic v=>exact e3.elim
 | exit j=>exact e3.elim
 | ret=>exact e3.elim
 | normal =>
  obtain ⟨w,hc⟩:=uF e1
  exact RP (v:=v) (w:=w) (σ':=σ1) ha ht (hv σ (hσ.2.mem hm).2) (hv σ1 (e2.2.mem e3).2) hc l
theorem D1 {pre r1 r2:List I} (h:WO A N pre f n L (fun f1 n1 L1=>∀ σ,Hp σ n1 L1→YQ (Run A) r2 (E N f1) σ = YQ (Run A) r1 (E N f1) σ) fun _ _ _ _=>False):∀ σ,Hp σ n L→YQ (Run A) (pre++r2) (E N f) σ = YQ (Run A) (pre++r1) (E N f) σ:=fun σ hσ=>by
 obtain ⟨x,f1,σ1,n1,L1,e1,e2,e3⟩:=h σ hσ
 cases x with
 | panic v=>exact e3.elim
 | exit j=>exact e3.elim
 | ret=>exact e3.elim
 | normal =>
  have e1:=UV e1
  rw [Um e1,Um e1,e3 σ1 e2]
theorem sQ {X:Nat→KN} {R:KN} {ps:List (List Nat)} {l:List I} (q0 qa:List Nat) (qs:List (List Nat)) (hl:Xr l (q0++qa) = l) (hp:(ps.all fun p=>qs.any fun q=>El (JS l p) (q0++q)) = true)
  (h:WO A N (Xr l q0) f n L (fun f1 n1 L1=>(∀ q∈qs,∀ σ,Hp σ n1 L1→YQ (Run A) (Xr l q) (E N f1) σ = YQ (Run A) (Xr l qa) (E N f1) σ)∧WOx A N (Xr l qa) f1 n1 L1 K Zp) fun _ _ _ _=>False):WP A N (.parc ps l) f n L K X R Zp :=
 qM fun σ hσ=>by
  obtain ⟨x,f1,σ1,n1,L1,e1,e2,e3⟩:=h σ hσ
  cases x with
  | panic v=>exact e3.elim
  | exit j=>exact e3.elim
  | ret=>exact e3.elim
  | normal =>
   obtain ⟨e4,e5⟩:=e3
   obtain ⟨y,f2,σ2,n2,L2,k1,k2,k3⟩:=e5 σ1 e2
   have e1:=UV e1
   have hr1:YQ (Run A) l (E N f) σ = some (y,E N f2,σ2):=by
    rw [← hl,Qt]
    exact (Um e1).trans k1
   refine ⟨y,f2,σ2,n2,L2,hr1,fun p hm=>?_,k2,k3⟩
   obtain ⟨q,hq,hb⟩:=List.any_eq_true.1 (List.all_eq_true.1 hp p hm)
   rw [← D3 p,EX hb,Qt,Um e1,e4 q hq σ1 e2,k1]
   exact TB _
theorem DG {K':KN} {l:List I} (h:WO A N l f n L K Zp) (hk:∀ f n L,K f n L→K' f n L):WO A N l f n L K' Zp:=fun σ hσ=>by
 obtain ⟨x,f',σ',n',L',h1,h2,h3⟩:=h σ hσ
 refine ⟨x,f',σ',n',L',h1,h2,?_⟩
 cases x with
 | normal=>exact hk _ _ _ h3
 | panic v=>exact h3
 | exit j=>exact h3
 | ret=>exact h3
theorem T0 {run:Runner} {d m b o z:Nat} {agg:Bool} {a:O} {σ:Heap} {v:V} (ha:a.fv N f = .ptr b o z) (hz:Nat.ble m z = true) (hv:rdV σ b o m agg = some v):Y1 run ⟨some d,none,.h (.load agg m a)⟩ (E N f) σ = some (v,σ):=by
 show YJ run (.load agg m a) (E N f) σ = _
 simp only [YJ,Y7,ha,if_pos (Nat.le_of_ble_eq_true hz),hv,Option.map_some]
theorem jH {P:List Nat→Prop} {a b c d e g:List Nat} (h1:P a) (h2:P b) (h3:P c) (h4:P d) (h5:P e) (h6:P g):∀ q∈[a,b,c,d,e,g],P q:=fun q hq=>by
 simp only [List.mem_cons,List.not_mem_nil,or_false] at hq
 rcases hq with rfl | rfl | rfl | rfl | rfl | rfl <;> assumption
theorem orders6 {c4 a5 c6 a7:I} {r:List I} (h54:∀ l σ,Hp σ n L→YQ (Run A) (a5::c4::l) (E N f) σ = YQ (Run A) (c4::a5::l) (E N f) σ) (h74:∀ l σ,Hp σ n L→YQ (Run A) (a7::c4::l) (E N f) σ = YQ (Run A) (c4::a7::l) (E N f) σ) (hc:qJ a7 a5 = true)
  (h4:WO A N [c4] f n L (fun _ _ _=>True) fun _ _ _ _=>False) (h5:WO A N [a5] f n L (fun f1 n1 L1=>∀ l σ,Hp σ n1 L1→YQ (Run A) (a7::c4::l) (E N f1) σ = YQ (Run A) (c4::a7::l) (E N f1) σ) fun _ _ _ _=>False)
  (h45:WO A N [c4,a5] f n L (fun f1 n1 L1=>∀ l σ,Hp σ n1 L1→YQ (Run A) (a7::c6::l) (E N f1) σ = YQ (Run A) (c6::a7::l) (E N f1) σ) fun _ _ _ _=>False) :
  (∀ σ,Hp σ n L→YQ (Run A) (c4::a5::a7::c6::r) (E N f) σ = YQ (Run A) (c4::a5::c6::a7::r) (E N f) σ)∧(∀ σ,Hp σ n L→YQ (Run A) (a5::c4::c6::a7::r) (E N f) σ = YQ (Run A) (c4::a5::c6::a7::r) (E N f) σ) ∧
  (∀ σ,Hp σ n L→YQ (Run A) (a5::c4::a7::c6::r) (E N f) σ = YQ (Run A) (c4::a5::c6::a7::r) (E N f) σ)∧(∀ σ,Hp σ n L→YQ (Run A) (a7::c4::a5::c6::r) (E N f) σ = YQ (Run A) (c4::a5::c6::a7::r) (E N f) σ) ∧
  (∀ σ,Hp σ n L→YQ (Run A) (a5::a7::c4::c6::r) (E N f) σ = YQ (Run A) (c4::a5::c6::a7::r) (E N f) σ):=by
 have hB:∀ σ,Hp σ n L→YQ (Run A) (c4::a5::a7::c6::r) (E N f) σ = YQ (Run A) (c4::a5::c6::a7::r) (E N f) σ:=D1 (pre:=[c4,a5]) (DG h45 fun _ _ _ h=>h r)
 have hE:∀ σ,Hp σ n L→YQ (Run A) (a5::c4::a7::c6::r) (E N f) σ = YQ (Run A) (c4::a5::c6::a7::r) (E N f) σ:=fun σ hσ=>(h54 _ σ hσ).trans (hB σ hσ)
 refine ⟨hB,fun σ hσ=>h54 _ σ hσ,hE,fun σ hσ=>?_,fun σ hσ=>?_⟩
 ·refine ((h74 _ σ hσ).trans ?_).trans (hB σ hσ)
  exact D1 (pre:=[c4]) (r1:=a5::a7::c6::r) (r2:=a7::a5::c6::r) (DG h4 fun _ _ _ _ σ _=>xF hc _ _ σ) σ hσ
 ·exact (D1 (pre:=[a5]) (r1:=c4::a7::c6::r) (r2:=a7::c4::c6::r) (DG h5 fun _ _ _ h=>h _) σ hσ).trans (hE σ hσ)
theorem re {p0 p1 p2 p3 c4 a5 c6 a7 r8 r9 r10:I} (h54:∀ l σ,Hp σ n L→YQ (Run A) (a5::c4::l) (E N f) σ = YQ (Run A) (c4::a5::l) (E N f) σ) (h74:∀ l σ,Hp σ n L→YQ (Run A) (a7::c4::l) (E N f) σ = YQ (Run A) (c4::a7::l) (E N f) σ) (hc:qJ a7 a5 = true)
  (h4:WO A N [c4] f n L (fun _ _ _=>True) fun _ _ _ _=>False) (h5:WO A N [a5] f n L (fun f1 n1 L1=>∀ l σ,Hp σ n1 L1→YQ (Run A) (a7::c4::l) (E N f1) σ = YQ (Run A) (c4::a7::l) (E N f1) σ) fun _ _ _ _=>False)
  (h45:WO A N [c4,a5] f n L (fun f1 n1 L1=>∀ l σ,Hp σ n1 L1→YQ (Run A) (a7::c6::l) (E N f1) σ = YQ (Run A) (c6::a7::l) (E N f1) σ) fun _ _ _ _=>False) :
  ∀ q∈[[4,5,6,7,8,9,10],[4,5,7,6,8,9,10],[5,4,6,7,8,9,10],[5,4,7,6,8,9,10],[7,4,5,6,8,9,10],[5,7,4,6,8,9,10]],∀ σ,Hp σ n L →
   YQ (Run A) (Xr [p0,p1,p2,p3,c4,a5,c6,a7,r8,r9,r10] q) (E N f) σ = YQ (Run A) [c4,a5,c6,a7,r8,r9,r10] (E N f) σ:=by
 obtain ⟨o1,o2,o3,o4,o5⟩:=orders6 (r:=[r8,r9,r10]) h54 h74 hc h4 h5 h45
 exact jH (fun _ _=>rfl) o1 o2 o3 o4 o5
def RNd (A:AP) (fid:FuncId) (av:List V) (Bs:List Blk) (mk:Nat→V) (B:Blk) (Bs':List Blk):Prop :=
 ∃ b σ1,Run A fid av Bs = some (mk b,σ1)∧Bs.length≤b∧σ1[b]? = some B∧RG σ1 0 Bs'
theorem td {x:O} {xs:List O} {fid:FuncId} {caps av av':List V} {rs:List Nat} {Bs Bs':List Blk} {mk:Nat→V} {md:Md} {m:Nat} {g:Nat→S} {L':HA} {l:List I} {d:Nat} (hmk:One mk) (hf:x.fv N f = .fn fid caps) (hs:RNd A fid av' Bs mk (.sc md m g) Bs') (ha:xs.map (O.fv N f)++caps = av) (hrs:WL (V.refsL av) [] = rs) (hl:(V.refsL av).length < 64) (hsub:∀ b∈V.refsL av,b∈rs)
  (hren:rnL rs av = some av') (hB:scs L rs Bs) (hlow:Bs.map (U9 false) = Bs) (hlen:Bs'.length = rs.length) (hat:AtL rs Bs Bs' L L') (k:WO A N l (upd f d (mk n)) (n+1) ((n,.sc md m g)::L') K Zp):WO A N (⟨some d,none,.h (.call x xs)⟩::l) f n L K Zp:=by
 obtain ⟨b,σ1,hr,hb,h1,haf⟩:=hs
 refine Wj (v:=mk n) (fun σ h=>?_) k
 have hen:=DT (q:=false) hrs hl hsub hren hB h
 rw [hlow] at hen
 have hk:=De hB
 have hle:rs.length≤σ1.length:=by have:=zV haf (Nat.zero_le _); omega
 have hns:X2 false rs.length (mk b) σ1 = [b]:=by
  unfold X2
  have:=zt haf
  rw [List.drop_zero,hlen] at this
  exact yV hmk (by omega) h1 (by simp [this])
 have hnd:nodup rs = true:=Qq (by rw [← hrs]; exact VQ _ _ (by simp))
 have hp:Y9 false (Xs rs [b] σ.length rs.length) σ1 (List.range rs.length) = some Bs':=by
  rw [← hlen,List.range_eq_range']
  exact Dz _ haf
 have hble:Nat.ble rs.length σ1.length = true:=Nat.ble_eq_true_of_le hle
 have hre:(mk b).ren (Xs rs [b] σ.length rs.length) = some (mk n):=by
  rw [hmk.ren,Tn (by omega),h.1]; rfl
 refine ⟨XM σ rs Bs'++[.sc md m g],?_,(h.putL hat).new _⟩
 simp only [YJ,Y7,hf,Y4,target,Option.bind_some,ha,hen,hr,XE,hns,hnd,hble,nodup,Bool.and_self,cond_true,hre,Y9,h1,Blk.ren,XW,cond_false,hp,List.contains_nil,Bool.not_false]
theorem Hp.neD {σ:Heap} {n:Nat} {L L0:HA} {b c:Nat} {B C:Blk} (h:Hp σ n L) (hd:Dr [(b,B)] L L0) (hc:(c,C)∈L0):b ≠ c:=by
 have hpw:=(HL_iff.1 (h.perm hd.all).2).2
 rw [List.pairwise_append] at hpw
 exact hpw.2.2 (b,B) (.head _) _ hc
theorem zx {x:O} {xs:List O} {fid g0:FuncId} {m0:Nat} {v:V} {own L0:HA} {l l':List Int} {c:Nat} {B:Blk} {rest:List I} {d:Nat} (hf:x.fv N f = .fn fid []) (ha:xs.map (O.fv N f) = [v,.fn g0 [.ptr c 0 m0]]) (hr:Rw 1 l v own) (hd:Dr own L L0) (hc:(c,B)∈L0) (hsc:∃ md q g,B = .sc md q g)
  (h0:l = []→l' = []∧RB A fid [.snil,.fn g0 [.ptr 0 0 m0]] [B] .snil [B])
  (h1:∀ m q F,l.length = m→(∀ i,i < l.length→F i = l.getD i 0)→∃ q' F',(∀ i,i < l'.length→F' i = l'.getD i 0)∧RNd A fid [.sl 0 0 m 1 .whole,.fn g0 [.ptr 1 0 m0]] [.sc .grow q (ia F),B] (fun b=>.sl b 0 l'.length 1 .whole) (.sc .grow q' (ia F')) [.dead,B])
  (k:∀ v' own' n',Rw 1 l' v' own'→WO A N rest (upd f d v') n' (own'++L0) K Zp):WO A N (⟨some d,none,.h (.call x xs)⟩::rest) f n L K Zp:=by
 obtain ⟨md,q0,g,rfl⟩:=hsc
 cases hr with
 | nil h =>
  obtain ⟨e,hs⟩:=h0 h
  have hm:(c,Blk.sc md q0 g)∈L:=hd.sub.subset hc
  refine Vd (caps:=[]) (av:=[.snil,.fn g0 [.ptr c 0 m0]]) (rs:=[c]) (Bs:=[_]) hf hs (by rw [List.append_nil]; exact ha) (by simp [V.refsL,V.refs,WL]) (by simp [V.refsL,V.refs]) (by simp [V.refsL,V.refs]) (by simp [rnL,V.renL,V.ren,pos]) ⟨hm,⟨_,_,_,rfl⟩,trivial⟩ rfl rfl rfl (.cons (Ry hm) .nil) ?_
  exact Ub hd.sub (k .snil [] n (.nil e))
 | @row b m q F hl hF =>
  obtain ⟨q',F',hF',hs⟩:=h1 m q F (by rw [hl,Nat.mul_one]) hF
  intro σ hσ
  have hne:=hσ.neD hd hc
  obtain ⟨L1,e1,e2⟩:=hd.at (B':=.dead)
  have hb:=hd.mem _ (.head _)
  have hm:(c,Blk.sc md q0 g)∈L:=hd.sub.subset hc
  have hm1:(c,Blk.sc md q0 g)∈L1:=e2.symm.subset (.tail _ hc)
  have hne':(b == c) = false:=by rw [beq_eq_false_iff_ne]; exact hne
  refine td (caps:=[]) (av:=[.sl b 0 m 1 .whole,.fn g0 [.ptr c 0 m0]]) (rs:=[b,c]) (Bs:=[_,_]) jc hf hs (by rw [List.append_nil]; exact ha) (by simp [V.refsL,V.refs,WL,hne,hne.symm]) (by simp [V.refsL,V.refs]) (by simp [V.refsL,V.refs]) (by simp [rnL,V.renL,V.ren,pos,hne,hne']) ⟨hb,⟨_,_,_,rfl⟩,hm,⟨_,_,_,rfl⟩,trivial⟩ rfl rfl (.cons e1 (.cons (Ry hm1) .nil)) ?_ σ hσ
  refine V7 (e2.cons _) (Ub (.cons_cons _ (.cons _ (.refl _))) ?_)
  exact k _ [(n,_)] _ (.row (by rw [Nat.mul_one]) hF')
end
end Go.Am
namespace Go.Am
open Go
abbrev Up (σ:Heap) (i:Nat):List Nat:=(σ.getD i .dead).refs
theorem KO {σ:Heap}:∀ (m:Nat) (w acc:List Nat),∀ i∈acc,i∈Y6 σ m w acc
 | 0,_,_,i,h=>h
 | m+1,[],_,i,h=>h
 | m+1,b::w,acc,i,h=>by
  unfold Y6
  cases acc.contains b with
  | true=>exact KO m w acc i h
  | false=>exact KO m _ _ i (List.mem_append_left _ h)
theorem EL {σ:Heap}:∀ (m:Nat) (w acc U:List Nat),(∀ i∈w,i∈acc∨i∈U)→(∀ i∈U,∀ j∈Up σ i,j∈acc∨j∈U)→w.length+(U.flatMap (Up σ)).length < m→∀ x∈w,x∈Y6 σ m w acc
 | 0,_,_,_,_,_,h,_,_=>absurd h (by omega)
 | m+1,[],_,_,_,_,_,x,hx=>by cases hx
 | m+1,b::w,acc,U,h1,h2,h3,x,hx=>by
  unfold Y6
  rw [List.length_cons] at h3
  cases hc:acc.contains b with
  | true =>
   rw [cond_true]
   rcases List.mem_cons.1 hx with rfl | hx
   ·exact KO _ _ _ _ (List.contains_iff_mem.1 hc)
   ·exact EL m w acc U (fun i hi=>h1 i (.tail _ hi)) h2 (by omega) x hx
  | false =>
   rw [cond_false]
   have hb:b∈U:=by
    rcases h1 b (.head _) with h | h
    ·rw [List.contains_iff_mem.2 h] at hc; cases hc
    ·exact h
   have hp:List.Perm U (b::U.erase b):=List.perm_cons_erase hb
   have hl:(U.flatMap (Up σ)).length = (Up σ b).length+((U.erase b).flatMap (Up σ)).length:=by
    rw [(hp.flatMap_right (Up σ)).length_eq,List.flatMap_cons,List.length_append]
   have hmv:∀ j,(j∈acc∨j∈U)→j∈acc++[b]∨j∈U.erase b:=fun j hj=>by
    by_cases e:j = b
    ·subst e; exact .inl (List.mem_append_right _ (.head _))
    ·rcases hj with hj | hj
     ·exact .inl (List.mem_append_left _ hj)
     ·exact .inr ((List.mem_erase_of_ne e).2 hj)
   have ih:=EL m (Up σ b++w) (acc++[b]) (U.erase b) (fun i hi=>by
    rcases List.mem_append.1 hi with hi | hi
    ·exact hmv i (h2 b hb i hi)
    ·exact hmv i (h1 i (.tail _ hi))) (fun i hi j hj=>hmv j (h2 i (List.mem_of_mem_erase hi) j hj)) (by rw [List.length_append]; omega)
   rcases List.mem_cons.1 hx with rfl | hx
   ·exact KO _ _ _ _ (List.mem_append_right _ (.head _))
   ·exact ih x (List.mem_append_right _ hx)
theorem DU {σ:Heap} {P:Nat→Prop} (hP:∀ i,P i→∀ j∈Up σ i,P j):∀ (m:Nat) (w acc:List Nat),(∀ i∈w,P i)→(∀ i∈acc,P i)→∀ i∈Y6 σ m w acc,P i
 | 0,_,_,_,h,i,hi=>h i hi
 | m+1,[],_,_,h,i,hi=>h i hi
 | m+1,b::w,acc,hw,h,i,hi=>by
  unfold Y6 at hi
  cases hc:acc.contains b with
  | true=>rw [hc,cond_true] at hi; exact DU hP m w acc (fun i hi=>hw i (.tail _ hi)) h i hi
  | false =>
   rw [hc,cond_false] at hi
   refine DU hP m _ _ (fun i hi=>?_) (fun i hi=>?_) i hi
   ·rcases List.mem_append.1 hi with hi | hi
    ·exact hP b (hw b (.head _)) i hi
    ·exact hw i (.tail _ hi)
   ·rcases List.mem_append.1 hi with hi | hi
    ·exact h i hi
    ·rcases List.mem_cons.1 hi with rfl | hi
     ·exact hw _ (.head _)
     ·cases hi
theorem Rd {σ:Heap}:∀ (m:Nat) (w acc:List Nat),acc.Nodup→(Y6 σ m w acc).Nodup
 | 0,_,_,h=>h
 | m+1,[],_,h=>h
 | m+1,b::w,acc,h=>by
  unfold Y6
  cases hc:acc.contains b with
  | true=>exact Rd m w acc h
  | false =>
   refine Rd m _ _ ?_
   rw [List.nodup_append]
   refine ⟨h,List.nodup_cons.2 ⟨(fun h=>by cases h),List.nodup_nil⟩,fun x hx y hy=>?_⟩
   rcases List.mem_cons.1 hy with rfl | hy
   ·intro e; subst e
    rw [List.contains_iff_mem.2 hx] at hc; cases hc
   ·cases hy
theorem zQ {k b:Nat} (hb:k≤b):∀ {R:List Nat},R.Nodup→(∀ i∈R,i < k∨i = b)→b∈R→R.filter (fun i=>Nat.ble k i) = [b]
 | [],_,_,h=>by cases h
 | x::R,hn,h1,h2=>by
  obtain ⟨hx,hn⟩:=List.nodup_cons.1 hn
  by_cases e:x = b
  ·subst e
   have:R.filter (fun i=>Nat.ble k i) = []:=by
    rw [List.filter_eq_nil_iff]
    intro i hi
    rcases h1 i (.tail _ hi) with h | h
    ·simp only [Bool.not_eq_true]
     cases hb:Nat.ble k i with
     | false=>rfl
     | true=>have:=Nat.le_of_ble_eq_true hb; omega
    ·subst h; exact absurd hi hx
   rw [List.filter_cons,Nat.ble_eq_true_of_le hb,if_pos rfl,this]
  ·have hlt:x < k:=by
    rcases h1 x (.head _) with h | h
    ·exact h
    ·exact absurd h e
   have hf:Nat.ble k x = false:=by
    cases hb:Nat.ble k x with
    | false=>rfl
    | true=>have:=Nat.le_of_ble_eq_true hb; omega
   rw [List.filter_cons,hf,if_neg (by decide)]
   refine zQ hb hn (fun i hi=>h1 i (.tail _ hi)) ?_
   rcases List.mem_cons.1 h2 with h | h
   ·exact absurd h.symm e
   ·exact h
def KJ (g:Nat→Option Nat):List Blk→Option (List Blk)
 | []=>some []
 | B::Bs=>match Blk.ren false g B,KJ g Bs with
  | some C,some r=>some (C::r)
  | _,_=>none
theorem se {g:Nat→Option Nat} {σ1:Heap}:∀ {Bs Cs:List Blk} {k:Nat},QN σ1 k Bs→KJ g Bs = some Cs→Y9 false g σ1 (List.range' k Bs.length) = some Cs
 | [],Cs,k,_,h=>by injection h with h; subst h; rfl
 | B::Bs,Cs,k,hf,h=>by
  simp only [KJ] at h
  split at h
  ·rename_i C r h1 h2
   injection h with h
   subst h
   rw [List.length_cons,List.range'_succ]
   simp only [Y9,hf.1,Option.bind_some,h1,se hf.2 h2]
  ·cases h
theorem yz {rs ns:List Nat} {n:Nat}:∀ {Bs Cs:List Blk},(∀ B∈Bs,B.plain = true)→Xn rs Bs = some Cs→KJ (Xs rs ns n rs.length) Bs = some Cs
 | [],Cs,_,h=>h
 | B::Bs,Cs,hp,h=>by
  simp only [Xn] at h
  split at h
  ·rename_i C r h1 h2
   injection h with h
   subst h
   simp only [KJ,Blk.ren_lo (hp B (.head _)) h1,yz (fun B hB=>hp B (.tail _ hB)) h2]
  ·cases h
theorem qk {g:Nat→Option Nat}:∀ {a b ca cb:List Blk},KJ g a = some ca→KJ g b = some cb→KJ g (a++b) = some (ca++cb)
 | [],b,ca,cb,h1,h2=>by injection h1 with h1; subst h1; exact h2
 | B::a,b,ca,cb,h1,h2=>by
  simp only [KJ] at h1
  split at h1
  ·rename_i C r h3 h4
   injection h1 with h1
   subst h1
   simp only [List.cons_append,KJ,h3,qk h4 h2]
  ·cases h1
abbrev Vf (md:Md) (b m z:Nat):Blk:=.vs md [.sl b 0 m z .whole]
theorem sa {rs:List Nat} (hn:rs.Nodup) {σ σ1:Heap} {r r':V} {pre post Cpre Cpost:List Blk} {b m z q:Nat} {mo md:Md} {g:Nat→S} (hl:(pre++Vf mo b m z::post).length = rs.length) (hf:QN σ1 0 (pre++Vf mo b m z::post)) (hb:rs.length≤b) (hbl:σ1[b]? = some (.sc md q g))
  (hp:∀ B∈pre,B.plain = true) (hp2:∀ B∈post,B.plain = true) (hr:V.ren (ixo rs) r = some r') (hB:Xn rs pre = some Cpre) (hB2:Xn rs post = some Cpost) (hfu:(r.refs++(pre++Vf mo b m z::post).flatMap Blk.refs).length+((pre++Vf mo b m z::post).flatMap Blk.refs).length < 64) :
  XE false σ rs r σ1 = some (r',XM σ rs (Cpre++Vf mo σ.length m z::Cpost)++[.sc md q g]):=by
 generalize hBs:pre++Vf mo b m z::post = Bs at *
 have hat:∀ i,i < Bs.length→σ1[i]? = Bs[i]?:=fun i hi=>by have:=T6 hf hi; simpa using this
 have htake:σ1.take rs.length = Bs:=by have:=Rf hf; rw [List.drop_zero,hl] at this; exact this
 have hrefs:∀ i∈Bs.flatMap Blk.refs,i < rs.length∨i = b:=fun i hi=>by
  rw [← hBs,List.flatMap_append,List.flatMap_cons] at hi
  rcases List.mem_append.1 hi with hi | hi
  ·exact .inl (KQ hn hp hB i hi)
  ·rcases List.mem_append.1 hi with hi | hi
   ·have:i∈[b]:=by simpa [Blk.refs,V.refsL,V.refs] using hi
    exact .inr (List.mem_singleton.1 this)
   ·exact .inl (KQ hn hp2 hB2 i hi)
 have hbin:b∈Bs.flatMap Blk.refs:=by
  rw [← hBs,List.flatMap_append,List.flatMap_cons]
  exact List.mem_append_right _ (List.mem_append_left _ (by simp [Blk.refs,V.refsL,V.refs]))
 have hgd:∀ i,i < Bs.length→Up σ1 i = (Bs.getD i .dead).refs:=fun i hi=>by
  show (σ1.getD i .dead).refs = _
  rw [List.getD_eq_getElem?_getD,hat i hi,List.getD_eq_getElem?_getD]
 have hgb:Up σ1 b = []:=by
  show (σ1.getD b .dead).refs = []
  rw [List.getD_eq_getElem?_getD,hbl]; rfl
 have hmem:∀ i,i < Bs.length→∀ j∈Up σ1 i,j∈Bs.flatMap Blk.refs:=fun i hi j hj=>by
  rw [hgd i hi,List.getD_eq_getElem?_getD,List.getElem?_eq_getElem hi] at hj
  exact List.mem_flatMap.2 ⟨Bs[i],List.getElem_mem hi,hj⟩
 have hw:∀ i∈r.refs++Bs.flatMap Blk.refs,i < rs.length∨i = b:=fun i hi=>by
  rcases List.mem_append.1 hi with hi | hi
  ·exact .inl ((V.ren_refs r r' hr).2 i hi)
  ·exact hrefs i hi
 have hU:(List.range Bs.length++[b]).flatMap (Up σ1) = Bs.flatMap Blk.refs:=by
  rw [List.flatMap_append,List.flatMap_cons,hgb]
  simp only [List.flatMap_nil,List.append_nil]
  have:Bs = (List.range Bs.length).map (fun i=>Bs.getD i .dead):=by
   refine List.ext_getElem (by simp) fun i h1 h2=>?_
   rw [List.getElem_map,List.getElem_range,List.getD_eq_getElem?_getD,List.getElem?_eq_getElem h1]; rfl
  conv=>rhs; rw [this]
  rw [List.flatMap_map]
  rw [List.flatMap_def,List.flatMap_def]
  refine congrArg List.flatten (List.map_congr_left fun i hi=>hgd i (List.mem_range.1 hi))
 have hns:X2 false rs.length r σ1 = [b]:=by
  unfold X2
  rw [cond_false,htake]
  refine zQ hb (Rd _ _ _ List.nodup_nil) (DU (P:=fun i=>i < rs.length∨i = b) (fun i hi j hj=>?_) _ _ _ hw (fun i hi=>by cases hi)) ?_
  ·rcases hi with hi | hi
   ·exact hrefs j (hmem i (by omega) j hj)
   ·subst hi; rw [hgb] at hj; cases hj
  ·refine EL 64 _ [] (List.range Bs.length++[b]) (fun i hi=>.inr ?_) (fun i hi j hj=>.inr ?_) ?_ b (List.mem_append_right _ hbin)
   ·rcases hw i hi with h | h
    ·exact List.mem_append_left _ (List.mem_range.2 (by omega))
    ·subst h; exact List.mem_append_right _ (.head _)
   ·have:j < rs.length∨j = b:=by
     rcases List.mem_append.1 hi with hi | hi
     ·exact hrefs j (hmem i (List.mem_range.1 hi) j hj)
     ·rw [List.mem_singleton.1 hi,hgb] at hj; cases hj
    rcases this with h | h
    ·exact List.mem_append_left _ (List.mem_range.2 (by omega))
    ·subst h; exact List.mem_append_right _ (.head _)
   ·rw [hU]; exact hfu
 have hnd:=Qq hn
 have hble:Nat.ble rs.length σ1.length = true:=Nat.ble_eq_true_of_le (by have:=Tg hf (Nat.zero_le _); omega)
 have hpk:Y9 false (Xs rs [b] σ.length rs.length) σ1 (List.range rs.length) = some (Cpre++Vf mo σ.length m z::Cpost):=by
  rw [List.range_eq_range',← hl]
  refine se hf ?_
  rw [← hBs]
  refine qk (by rw [hBs,hl]; exact yz hp hB) ?_
  have h2:KJ (Xs rs [b] σ.length rs.length) post = some Cpost:=yz hp2 hB2
  have hv:Blk.ren false (Xs rs [b] σ.length rs.length) (Vf mo b m z) = some (Vf mo σ.length m z):=by
   simp only [Vf,Blk.ren,V.renL,V.ren,Tn hb,Option.map_some,XW,cond_false]
  rw [hBs,hl]
  simp only [KJ,hv,h2]
 unfold XE
 have hpb:Y9 false (Xs rs [b] σ.length rs.length) σ1 [b] = some [.sc md q g]:=by
  simp only [Y9,hbl,Option.bind_some,Blk.ren,XW,cond_false]
 have hn1:nodup [b] = true:=rfl
 simp only [hns,hnd,hn1,hble,Bool.and_self,cond_true,V.ren_lo r r' hr,hpb,cond_false,hpk]
section
variable {A:AP} {N:Nat} {f:FE} {n:Nat} {L:HA} {K:KN} {Zp:V→KN}
def vS (Lr L0:HA) (k:Nat) (n:Nat) (K:V→Nat→HA→Prop):KR:=fun r _ L1 =>
 (∃ Bs r' Cs,UQ L1 0 Bs∧Bs.length = k∧Bs.all Blk.plain = true∧V.ren (ixo (Lr.map (·.1))) r = some r'∧Xn (Lr.map (·.1)) Bs = some Cs∧K r' n ((Lr.map (·.1)).zip Cs++L0)) ∨
 (∃ pre post b m z q mo md g r' Cpre Cpost,UQ L1 0 (pre++Vf mo b m z::post)∧(pre++Vf mo b m z::post).length = k∧k≤b∧(b,Blk.sc md q g)∈L1∧pre.all Blk.plain = true∧post.all Blk.plain = true∧V.ren (ixo (Lr.map (·.1))) r = some r' ∧
  Xn (Lr.map (·.1)) pre = some Cpre∧Xn (Lr.map (·.1)) post = some Cpost∧(r.refs++(pre++Vf mo b m z::post).flatMap Blk.refs).length+((pre++Vf mo b m z::post).flatMap Blk.refs).length < 64 ∧
  K r' (n+1) ((n,.sc md q g)::((Lr.map (·.1)).zip (Cpre++Vf mo n m z::Cpost)++L0)))
theorem runN {fid:FuncId} {all vs mk:List V} {Bs:List Blk} {Lr L0:HA} {K:V→Nat→HA→Prop} (hv:V.renL (ixo (Lr.map (·.1))) vs = some all) (hB:Xn (Lr.map (·.1)) Bs = some (Lr.map (·.2))) (hp:Bs.all Blk.plain = true) (hr:Y6 Bs 64 (V.refsL vs) [] = List.range Bs.length)
  (h:WR A fid (mk++vs) Bs (vS Lr L0 Bs.length n K)) {σ:Heap} (hσ:Hp σ n (Lr++L0)) :
  ∃ y r' σ' n' L',XJ false all σ = some (Lr.map (·.1),vs,Bs)∧Run A fid (mk++vs) Bs = some y∧XE false σ (Lr.map (·.1)) y.1 y.2 = some (r',σ')∧Hp σ' n' L'∧K r' n' L':=by
 obtain ⟨r,σ1,n1,L1,h1,h2,h3⟩:=h
 have hn:=xW hσ
 have hc:=DI hσ (fun p hp=>List.mem_append_left _ hp) hp hB
 have hen:=Dv hn hc hv hr
 have hlen:Bs.length = (Lr.map (·.1)).length:=hc.len.symm
 rcases h3 with ⟨Bs1,r',Cs,e1,e2,e3,e4,e5,e6⟩ | ⟨pre,post,b,m,z,q,mo,md,g,r',Cpre,Cpost,e1,e2,e3,e4,e5,e6,e7,e8,e9,e10,e11⟩
 ·have hlv:=DC (σ:=σ) hn (e2.trans hlen) (JU h2 e1) (List.all_eq_true.1 e3) e4 e5
  exact ⟨(r,σ1),r',_,n,_,hen,h1,hlv,hσ.putZ (by rw [Kz e5,e2,hlen,List.length_map]),e6⟩
 ·have hlv:=sa (σ:=σ) hn (e2.trans hlen) (JU h2 e1) (by omega) (h2.2.mem e4).2 (List.all_eq_true.1 e5) (List.all_eq_true.1 e6) e7 e8 e9 e10
  rw [hσ.1] at hlv
  have hcl:(Cpre++Vf mo n m z::Cpost).length = Lr.length:=by
   rw [List.length_append,List.length_cons,Kz e8,Kz e9]
   rw [List.length_append,List.length_cons,hlen,List.length_map] at e2
   exact e2
  exact ⟨(r,σ1),r',_,n+1,_,hen,h1,hlv,(hσ.putZ hcl).new _,e11⟩
theorem qw {x:O} {xs:List O} {args vs:List V} {b k:Nat} {rd:RD} {caps:List V} {st:Nat} {Bs:List Blk} {l:List I} {od:Option Nat} {Lr L0:HA} (hL:List.Perm L (Lr++L0)) (hf:x.fv N f = .yv b) (ha:xs.map (O.fv N f) = args) (hm:(b,Blk.lp k rd caps st)∈L)
  (hv:V.renL (ixo (Lr.map (·.1))) vs = some (.yv b::args)) (hB:Xn (Lr.map (·.1)) Bs = some (Lr.map (·.2))) (hp:Bs.all Blk.plain = true) (hr:Y6 Bs 64 (V.refsL vs) [] = List.range Bs.length)
  (h:WR A k (.pan .undef::vs) Bs (vS Lr L0 Bs.length n fun v n' L'=>WOx A N l (Y8 f od v) n' L' K Zp)):WOx A N (⟨od,none,.h (.call x xs)⟩::l) f n L K Zp :=
 ka rfl rfl hf hm fun σ hσ=>by
  rw [ha]
  obtain ⟨y,r',σ',n',L',e1,e2,e3,e4,e5⟩:=runN (mk:=[.pan .undef]) hv hB hp hr h (hσ.perm hL)
  refine ⟨r',_,n',_,?_,e4,e5⟩
  unfold U2
  rw [e1,Option.bind_some]
  have e2:Run A k (.pan .undef::vs) Bs = some y:=e2
  dsimp only
  rw [e2,Option.bind_some]
  exact e3
theorem yI {X:Nat→KN} {R:KN} {g:O} {k:Nat} {rd:RD} {gf:FuncId} {gcaps vs:List V} {Bs:List Blk} {Lr L0:HA} (hL:List.Perm L (Lr++L0)) (hg:g.fv N f = .fn gf gcaps)
  (hv:V.renL (ixo (n::Lr.map (·.1))) vs = some (.yv n::gcaps)) (hB:Xn (n::Lr.map (·.1)) Bs = some (.lp k rd (E N f) 0::Lr.map (·.2))) (hp:Bs.all Blk.plain = true) (hr:Y6 Bs 64 (V.refsL vs) [] = List.range Bs.length)
  (h:WR A gf vs Bs (vS ((n,.lp k rd (E N f) 0)::Lr) L0 Bs.length (n+1) fun _ n' L'=>∃ k' rd' caps st L1,List.Perm L' ((n,.lp k' rd' caps st)::L1)∧(match st with
   | 0=>K f n' L1
   | 1=>False
   | 2=>R f n' L1
   | j+3=>X j f n' L1))):WP A N (.rfn g k rd) f n L K X R Zp:=fun σ hσ=>by
 have hσ1:=(hσ.perm hL).new (.lp k rd (E N f) 0)
 obtain ⟨y,r',τ,n',L',e1,e2,e3,e4,k',rd',caps,st,L1,eL,e5⟩:=runN (Lr:=(n,.lp k rd (E N f) 0)::Lr) (mk:=[]) hv hB hp hr h hσ1
 rw [List.nil_append] at e2
 have hcall:VG (Run A) gf (.yv n::gcaps) (σ++[.lp k rd (E N f) 0]) = some (r',τ):=by
  unfold VG
  rw [e1,Option.bind_some]
  dsimp only
  rw [e2,Option.bind_some]
  exact e3
 have e4:=e4.perm eL
 have hl:τ[n]? = some (.lp k' rd' caps st):=(e4.2.mem (.head _)).2
 have hend:Hp (kill τ n) n' L1:=(e4.set (B':=.dead) .here).drop
 have hx:∀ x,UH (Run A) g k rd (E N f) σ = some (x,E N f,kill τ n)→WS A (.rfn g k rd) (E N f) σ = some (x,E N f,kill τ n):=fun x h=>by rw [q4]; exact h
 match st,e5,hl with
 | 0,e5,hl =>
  refine ⟨.normal,f,_,n',_,hx _ ?_,hend,e5⟩
  unfold UH
  rw [Y7,hg]
  simp only [hσ.1,hcall,hl]
 | 2,e5,hl =>
  refine ⟨.ret,f,_,n',_,hx _ ?_,hend,e5⟩
  unfold UH
  rw [Y7,hg]
  simp only [hσ.1,hcall,hl]
 | j+3,e5,hl =>
  refine ⟨.exit j,f,_,n',_,hx _ ?_,hend,e5⟩
  unfold UH
  rw [Y7,hg]
  simp only [hσ.1,hcall,hl]
theorem pG {z bytes d:Nat} {s x:O} {l c:List Int} {v w:V} {own L0 ownx:HA} {rest:List I} (hs:s.fv N f = v) (hr:Rw z l v own) (hx:x.fv N f = w) (hrx:Rx z c w ownx) (hb:∀ p∈ownx,p∈L) (hd:Dr own L L0) (hz:0 < z) (hroom:(l.length+c.length)*bytes≤140737488355328)
  (k:∀ v' own' n',Rw z (l++c) v' own'→(∀ p∈own',n≤p.1)→WO A N rest (upd f d v') n' (own'++(own.map (fun p=>(p.1,Blk.dead))++L0)) K Zp):WO A N (⟨some d,none,.h (.append z bytes s x)⟩::rest) f n L K Zp:=by
 cases hr with
 | nil h =>
  subst h
  have e:L0 = L:=by
   have:=hd.all.length_eq
   exact (hd.sub.eq_of_length (by simpa using this.symm))
  subst e
  cases hrx with
  | nil h =>
   subst h
   refine Wj (v:=.snil) (fun σ hσ=>⟨σ,?_,hσ⟩) (k .snil [] n (.nil rfl) (fun p hp=>by cases hp))
   simp only [YJ,Y7,hs,hx,V2,Ul,if_true]
  | @row b' m' q' md' cp R hl' hR =>
   have hb0:=hb _ (.head _)
   rcases Nat.eq_zero_or_pos m' with hm' | hm'
   ·subst hm'
    obtain rfl:c = []:=List.eq_nil_of_length_eq_zero (by rw [hl',Nat.zero_mul])
    refine Wj (v:=.snil) (fun σ hσ=>⟨σ,?_,hσ⟩) (k .snil [] n (.nil rfl) (fun p hp=>by cases hp))
    simp only [YJ,Y7,hs,hx,V2,Ul,(hσ.2.mem hb0).2,if_true]
   ·have hm1:m'≤c.length:=by rw [hl']; exact Nat.le_mul_of_pos_right _ hz
    refine ET hs hx hb0 (by omega) (Ql (Nat.le_trans (Nat.mul_le_mul_right _ (by simpa using hm1)) hroom)) ?_
    exact k _ [(n,_)] _ (.row (by simpa using hl') fun i hi=>by simpa using hR i (by simpa using hi)) (fun p hp=>by rw [List.mem_singleton.1 hp]; exact Nat.le_refl _)
 | @row b m q F hl hF =>
  obtain ⟨L1,h1,h2⟩:=hd.at (B':=.dead)
  have hm1:m≤l.length:=by rw [hl]; exact Nat.le_mul_of_pos_right _ hz
  cases hrx with
  | @row b' m' q' md' cp R hl' hR =>
   have hm2:m'≤c.length:=by rw [hl']; exact Nat.le_mul_of_pos_right _ hz
   refine TP hs hx (hb _ (.head _)) h1 (Ql (Nat.le_trans (Nat.mul_le_mul_right _ (by omega)) hroom)) ?_
   refine V7 (L':=(n,_)::(b,.dead)::L0) (h2.cons _) ?_
   exact k _ [(n,_)] _ (.row (by rw [List.length_append,hl,hl',Nat.add_mul]) (kx hl rfl hF (fun i hi=>by rw [Nat.zero_add]; exact hR i hi))) (fun p hp=>by rw [List.mem_singleton.1 hp]; exact Nat.le_refl _)
  | nil h =>
   subst h
   have hroom':X1 (m+0) bytes = true:=Ql (Nat.le_trans (Nat.mul_le_mul_right _ (by simp; omega)) hroom)
   refine Wj (v:=.sl n 0 (m+0) z .whole) (n':=n+1) (L':=(n,.sc .grow (m*z+0) (ia fun i=>bif Nat.blt i (m*z) then F (0+i) else 0))::(b,.dead)::L0) (fun σ hσ=>⟨kill σ b++[.sc .grow (m*z+0) (ia fun i=>bif Nat.blt i (m*z) then F (0+i) else 0)],?_,?_⟩) (k _ [(n,_)] _ (.row (by rw [List.append_nil]; exact hl) fun i hi=>by
    rw [List.append_nil] at hi ⊢
    rw [show Nat.blt i (m*z) = true from Nat.ble_eq_true_of_le (by omega),cond_true,Nat.zero_add]; exact hF i hi) (fun p hp=>by rw [List.mem_singleton.1 hp]; exact Nat.le_refl _))
   ·simp only [YJ,Y7,hs,hx,V2,Ul,(hσ.2.mem h1.mem).2,if_true,hroom',cond_true,V8,Nat.zero_mul,Option.map_some,hσ.1]
    refine congrArg some (Prod.ext rfl ?_)
    refine congrArg (fun B=>kill σ b++[B]) ?_
    refine congrArg (Blk.sc .grow (m*z+0)) ?_
    funext i
    show (bif Nat.blt i (m*z) then S.int .i64 (F (0+i)) else S.zero) = S.int .i64 (bif Nat.blt i (m*z) then F (0+i) else 0)
    cases Nat.blt i (m*z) <;> rfl
   ·exact ((hσ.set h1).perm h2).new _
theorem R9 {z bytes d:Nat} {s x:O} {l c:List Int} {v w:V} {own L0 ownx:HA} {rest:List I} (hs:s.fv N f = v) (hr:Rw z l v own) (hx:x.fv N f = w) (hrx:Rx z c w ownx) (hb:∀ p∈ownx,p∈L) (hd:Dr own L L0) (hz:0 < z) (hroom:(l.length+c.length)*bytes≤140737488355328)
  (k:∀ v' own' n',Rw z (l++c) v' own'→(∀ p∈own',∀ q∈L,q.1 < p.1)→WO A N rest (upd f d v') n' (own'++(own.map (fun p=>(p.1,Blk.dead))++L0)) K Zp):WO A N (⟨some d,none,.h (.append z bytes s x)⟩::rest) f n L K Zp:=fun σ hσ =>
 pG hs hr hx hrx hb hd hz hroom (fun v' own' n' hr' hn=>k v' own' n' hr' (fun p hp _ hq=>Nat.lt_of_lt_of_le (hσ.2.mem hq).1 (hn p hp))) σ hσ
def V.row:V→Bool
 | .snil=>true
 | .sl _ _ _ _ .whole=>true
 | _=>false
theorem Rw.isrow {z:Nat} {l:List Int} {v:V} {own:HA} (h:Rw z l v own):v.row = true:=by cases h <;> rfl
theorem Ru {a x:O} {b:Nat} {u v:V} {l:List I} {L':HA} (ha:a.fv N f = .ptr b 0 1) (hx:x.fv N f = v) (hv:v.row = true) (hm:At b (.vs .var [u]) (.vs .var [v]) L L') (k:WO A N l f n L' K Zp):WO A N (⟨none,none,.h (.store 1 a x)⟩::l) f n L K Zp :=
 Wj (v:=.undef) (d:=none) (fun σ hσ=>⟨σ.set b (.vs .var [v]),by
  have h:=(hσ.2.mem hm.mem).2
  have hc:v.vcells 1 = some [v]∧v.one = true:=by
   cases v <;> first | exact ⟨rfl,rfl⟩ | cases hv
  simp only [YJ,Y7,ha,hx,wrV,h,hc.1,hc.2,Md.mut,if_true,Option.bind_some,List.length_cons,List.length_nil,List.all_cons,List.all_nil,Bool.and_self,Nat.zero_add,Nat.le_refl,and_self,List.take_zero,List.nil_append,List.append_nil,List.drop_succ_cons,List.drop_zero,Option.map_some],hσ.set hm⟩) k
theorem uh {fid:FuncId} {a:AF} {as:List V} {Bs:List Blk} {K:KR} (hp:A.prims fid = none) (ha:A.fns fid = some a) (f:FE) (hf:Kp a as = E a.nt f) {m c0:Nat} (hm:Bs.length = m) (hres:a.res = [.cell c0 false 1])
  (h:WP A a.nt a.body f m (Xj 0 Bs) (fun _ _ _=>False) (fun _ _ _ _=>False) (fun f n L=>∃ b md v,rd a.nt f c0 = .ptr b 0 1∧(b,Blk.vs md [v])∈L∧K v n L) (fun _ _ _ _=>False)) (hmk:UK as = false:=by rfl):WR A fid as Bs K:=by
 subst hm
 obtain ⟨x,f',σ',n',L',h1,h2,h3⟩:=h Bs (R1 Bs)
 cases x with
 | normal=>exact h3.elim
 | exit j=>exact h3.elim
 | panic v=>exact h3.elim
 | ret =>
  obtain ⟨b,md,v,e1,e2,hK⟩:=h3
  have hr:Tx (E a.nt f') σ' a.res = some v:=by
   unfold Tx
   rw [hres]
   simp only [Jw,y8,Uq,e1,Nat.le_refl,if_true,rdV,(h2.2.mem e2).2,cond_false,List.getElem?_cons_zero]
  exact ⟨v,σ',n',L',by rw [yq hp ha as Bs hmk,hf,h1]; simp [Qc,hr],h2,hK⟩
def TK (L:HA) (pre post:List Blk) (l:List Int):Prop:=(l = []∧UQ L 0 (pre++.vs .var [.snil]::post))∨∃ b m q F,pre.length+(post.length+1)≤b∧(b,Blk.sc .grow q (ia F))∈L∧UQ L 0 (pre++Vf .var b m 3::post)∧l.length = m*3∧∀ i,i < l.length→F i = l.getD i 0
theorem K0 {L own:HA} {pre post:List Blk} {l:List Int} {v:V} (h:Rw 3 l v own) (hf:UQ L 0 (pre++.vs .var [v]::post)) (ho:∀ p∈own,p∈L∧pre.length+(post.length+1)≤p.1):TK L pre post l:=by
 cases h with
 | nil h=>exact .inl ⟨h,hf⟩
 | row hl hF=>exact .inr ⟨_,_,_,_,(ho _ (.head _)).2,(ho _ (.head _)).1,hf,hl,hF⟩
theorem To {k:Nat} {rd:RD} {caps:Nat→List V} {xa:List V} {g1 gq:Nat→S} {x:O} {xs:List O} {l:List I} {od:Option Nat} {acc acc':List Int} {v:V} {own L0:HA} (h33:V.renL (ixo [0,1,2,3]) (caps 3) = some (caps 3)) (h43:∀ b,V.renL (ixo [0,1,2,b,3]) (caps 4) = some (caps 3)) (has:V.looseL xa = true)
  (hr3:Y6 [.lp k rd (caps 3) 0,.sc .var 133 g1,.vs .var [.snil],.sc .var 133 gq] 64 (V.refsL (.yv 0::xa)) [] = List.range 4) (hr4:∀ m q F,Y6 [.lp k rd (caps 4) 0,.sc .var 133 g1,Vf .var 3 m 3,.sc .grow q (ia F),.sc .var 133 gq] 64 (V.refsL (.yv 0::xa)) [] = List.range 5)
  (hn3:(ddp (V.refsL (caps 3))).length≤20) (hn4:(ddp (V.refsL (caps 4))).length≤20) (hf:x.fv N f = .yv 0) (ha:xs.map (O.fv N f) = xa) (hr:Rw 3 acc v own) (hL:List.Perm L (own++([(0,.lp k rd (caps 3) 0),(1,.sc .var 133 g1),(2,.vs .var [v]),(3,.sc .var 133 gq)]++L0)))
  (hnil:acc = []→WR A k (.pan .undef::.yv 0::xa) [.lp k rd (caps 3) 0,.sc .var 133 g1,.vs .var [.snil],.sc .var 133 gq] (fun v _ L=>v = .s (.bool true)∧TK L [.lp k rd (caps 3) 0,.sc .var 133 g1] [.sc .var 133 gq] acc'))
  (hrow:∀ m q F,acc.length = m*3→(∀ i,i < acc.length→F i = acc.getD i 0)→WR A k (.pan .undef::.yv 0::xa) [.lp k rd (caps 4) 0,.sc .var 133 g1,Vf .var 3 m 3,.sc .grow q (ia F),.sc .var 133 gq] (fun v _ L=>v = .s (.bool true)∧TK L [.lp k rd (caps 4) 0,.sc .var 133 g1] [.dead,.sc .var 133 gq] acc'))
  (kk:∀ v' own' n',Rw 3 acc' v' own'→(∀ p∈own',4≤p.1)→WOx A N l (Y8 f od (.s (.bool true))) n' (own'++([(0,.lp k rd (caps 3) 0),(1,.sc .var 133 g1),(2,.vs .var [v']),(3,.sc .var 133 gq)]++L0)) K Zp):WOx A N (⟨od,none,.h (.call x xs)⟩::l) f n L K Zp:=by
 intro σ hσ
 have h3n:3 < n:=(hσ.2.mem (hL.symm.subset (List.mem_append_right _ (.tail _ (.tail _ (.tail _ (.head _))))))).1
 have hnn:∀ (B:Blk),∀ p∈[(n,B)],4≤p.1:=fun B p hp=>by rw [List.mem_singleton.1 hp]; exact h3n
 have hno:∀ p∈([]:HA),4≤p.1:=fun p hp=>by cases hp
 have hmem:(0,Blk.lp k rd (caps 3) 0)∈L:=hL.symm.subset (List.mem_append_right _ (.head _))
 have hargs:∀ rs:List Nat,rs[0]? = some 0→V.renL (ixo rs) (.yv 0::xa) = some (.yv 0::xa):=fun rs h=>by
  have h2:=V.looseL_ren (ixo rs) xa has
  have h1:V.ren (ixo rs) (.yv 0) = some (.yv 0):=by
   show (ixo rs 0).map V.yv = _
   rw [show ixo rs 0 = some 0 from h]; rfl
  simp only [V.renL,h1,h2]
 have hnl:∀ (a b:List Nat),a.length≤20→b.length≤1→(([]:List Nat)++(a++b)).length+(a++b).length < 64:=fun a b h1 h2=>by
  simp only [List.length_append,List.nil_append]; omega
 have hrefs:∀ (c b m z:Nat) (post:List Blk),post.flatMap Blk.refs = []→([Blk.lp k rd (caps c) 0,.sc .var 133 g1]++Vf .var b m z::post).flatMap Blk.refs = ddp (V.refsL (caps c))++[b]:=fun c b m z post h=>by
  simp only [List.cons_append,List.nil_append,List.flatMap_cons,h,List.append_nil]
  simp only [Blk.refs,V.refsL,V.refs,List.nil_append,List.append_nil]
 cases hr with
 | nil h =>
  have hB3:Xn [0,1,2,3] [.lp k rd (caps 3) 0,.sc .var 133 g1,.vs .var [.snil],.sc .var 133 gq] = some [.lp k rd (caps 3) 0,.sc .var 133 g1,.vs .var [.snil],.sc .var 133 gq]:=by
   simp only [Xn,Blk.ren,cond_false,h33,V.renL,V.ren,Option.map_some,XW]
  refine qw (Lr:=[(0,_),(1,_),(2,_),(3,_)]) (L0:=L0) (vs:=.yv 0::xa) hL hf ha hmem (hargs [0,1,2,3] rfl) hB3 rfl hr3 (U0 (hnil h) ?_) σ hσ
  rintro r n1 L1 ⟨rfl,ho⟩
  rcases ho with ⟨e1,e2⟩ | ⟨b,m,q,F,e1,e2,e3,e4,e5⟩
  ·exact .inl ⟨_,.s (.bool true),_,e2,rfl,rfl,rfl,hB3,kk .snil [] _ (.nil e1) hno⟩
  ·refine .inr ⟨[.lp k rd (caps 3) 0,.sc .var 133 g1],[.sc .var 133 gq],b,m,3,q,.var,.grow,ia F,.s (.bool true),[.lp k rd (caps 3) 0,.sc .var 133 g1],[.sc .var 133 gq],e3,rfl,e1,e2,rfl,rfl,rfl,?_,rfl,?_,kk _ [(n,_)] _ (.row e4 e5) (hnn _)⟩
   ·show Xn [0,1,2,3] _ = _
    simp only [Xn,Blk.ren,cond_false,h33,Option.map_some,XW]
   ·rw [hrefs 3 b m 3 _ rfl]
    exact hnl _ _ hn3 (Nat.le_refl _)
 | @row b0 m0 q0 F0 hl hF =>
  have hL':List.Perm L ([(0,.lp k rd (caps 3) 0),(1,.sc .var 133 g1),(2,Vf .var b0 m0 3),(b0,.sc .grow q0 (ia F0)),(3,.sc .var 133 gq)]++L0):=hL.trans (List.perm_middle (l₁:=[_,_,_]) (l₂:=_::L0)).symm
  have hB4:Xn [0,1,2,b0,3] [.lp k rd (caps 4) 0,.sc .var 133 g1,Vf .var 3 m0 3,.sc .grow q0 (ia F0),.sc .var 133 gq] = some [.lp k rd (caps 3) 0,.sc .var 133 g1,Vf .var b0 m0 3,.sc .grow q0 (ia F0),.sc .var 133 gq]:=by
   have e:ixo [0,1,2,b0,3] 3 = some b0:=rfl
   simp only [Xn,Blk.ren,cond_false,h43 b0,V.renL,V.ren,Option.map_some,XW,e]
  refine qw (Lr:=[(0,_),(1,_),(2,_),(b0,_),(3,_)]) (L0:=L0) (vs:=.yv 0::xa) hL' hf ha hmem (hargs [0,1,2,b0,3] rfl) hB4 rfl (hr4 m0 q0 F0) (U0 (hrow m0 q0 F0 hl hF) ?_) σ hσ
  rintro r n1 L1 ⟨rfl,ho⟩
  rcases ho with ⟨e1,e2⟩ | ⟨b,m,q,F,e1,e2,e3,e4,e5⟩
  ·refine .inl ⟨_,.s (.bool true),[.lp k rd (caps 3) 0,.sc .var 133 g1,.vs .var [.snil],.dead,.sc .var 133 gq],e2,rfl,rfl,rfl,?_,Qn (.cons_cons _ (.cons_cons _ (.cons_cons _ (.cons _ (.refl _))))) (kk .snil [] _ (.nil e1) hno)⟩
   show Xn [0,1,2,b0,3] _ = _
   simp only [List.cons_append,List.nil_append,Xn,Blk.ren,cond_false,h43 b0,V.renL,V.ren,Option.map_some,XW]
  ·refine .inr ⟨[.lp k rd (caps 4) 0,.sc .var 133 g1],[.dead,.sc .var 133 gq],b,m,3,q,.var,.grow,ia F,.s (.bool true),[.lp k rd (caps 3) 0,.sc .var 133 g1],[.dead,.sc .var 133 gq],e3,rfl,e1,e2,rfl,rfl,rfl,?_,rfl,?_,?_⟩
   ·show Xn [0,1,2,b0,3] _ = _
    simp only [Xn,Blk.ren,cond_false,h43 b0,Option.map_some,XW]
   ·rw [hrefs 4 b m 3 _ rfl]
    exact hnl _ _ hn4 (Nat.le_refl _)
   ·exact Qn (.cons_cons _ (.cons_cons _ (.cons_cons _ (.cons_cons _ (.cons _ (.refl _)))))) (kk _ [(n,_)] _ (.row e4 e5) (hnn _))
end
end Go.Am
