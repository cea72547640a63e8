/- Texts of this seat, joined. -/
import Derived.Lib.Bytealg
import Derived.KernelRfl
import Derived.Shelf.SlicesG.Cmp
import Derived.Ground.SlgcProg
import Derived.Shelf.Sort.Plain
import Derived.Shelf.Slices.In.SortNone
import Derived.Shelf.SlicesE.DeleteFunc
import Derived.Shelf.SlicesE.IndexFunc
import Derived.Shelf.SlSortCmp.WholeK
import Derived.Shelf.Spec.SlicesGrow
import Derived.Ground.SlgfProg
import Derived.Ground.SlsfProg
import Derived.Ground.Names8Prog
import Derived.Ground.Names2Prog
import Derived.Test.YtlkighkfkdpncaaGreatDoorProg
import Derived.Lib.Builder
import Derived.Deep.QuietTactic
import Derived.BigQuiet
import Derived.StillTailTactics
import Derived.Test.YtlkighkfkdpncaaGreatDoorM0
set_option linter.unusedSimpArgs false
set_option linter.unusedVariables false
noncomputable section
namespace Go.Am
open Go
theorem qX:∀ {l1 l2:List Int},l1.Pairwise (· < ·)->l2.Pairwise (· < ·)->(∀ x,x∈l1↔x∈l2)->l1=l2
 | [],[],_,_,_=>rfl
 | [],y::l2,_,_,h=>by have:=(h y).2 ZM; cases this
 | x::l1,[],_,_,h=>by have:=(h x).1 ZM; cases this
 | x::l1,y::l2,h1,h2,h=>by
  rw [List.pairwise_cons] at h1 h2
  have e:x=y:=by
   have hx:=(h x).1 ZM
   have hy:=(h y).2 ZM
   rcases Zco.1 hx with e | hx
   ·exact e
   rcases Zco.1 hy with e | hy
   ·exact e.symm
   have:=h2.1 x hx; have:=h1.1 y hy; omega
  subst e
  refine congrArg (x::·) (qX h1.2 h2.2 fun z=>?_)
  constructor
  ·intro hz
   rcases Zco.1 ((h z).1 (.tail _ hz)) with e | hz'
   ·subst e; have:=h1.1 z hz; omega
   exact hz'
  intro hz
  rcases Zco.1 ((h z).2 (.tail _ hz)) with e | hz'
  ·subst e; have:=h2.1 z hz; omega
  exact hz'
def KI (l:List Int):List Int:=l.mergeSort fun x y=>decide (x<=y)
theorem Q5 (l:List Int):(KI l).Perm l:=List.mergeSort_perm _ _
theorem srtM_mem {l:List Int} {x:Int}:x∈KI l↔x∈l:=(Q5 l).mem_iff
theorem srtM_le (l:List Int):(KI l).Pairwise (·<=·):=by
 have h:=List.pairwise_mergeSort (le:=fun x y:Int=>decide (x<=y)) (by intro a b c h1 h2; simp at *; omega) (by intro a b; simp; omega) l
 exact h.imp (fun h=>by simpa using h)
theorem TN:∀ {l:List Int},l.Pairwise (·<=·)->l.Nodup->l.Pairwise (· < ·)
 | [],_,_=>.nil
 | x::l,h1,h2=>by
  rw [List.pairwise_cons] at h1
  rw [List.nodup_cons] at h2
  rw [List.pairwise_cons]
  refine ⟨fun y hy=>?_,TN h1.2 h2.2⟩
  have:=h1.1 y hy
  have:x≠y:=fun e=>h2.1 (by rw [e]; exact hy)
  omega
theorem srtM_lt {l:List Int} (h:l.Nodup):(KI l).Pairwise (· < ·):=TN (srtM_le l) ((Q5 l).nodup_iff.2 h)
theorem srtM_is {l r:List Int} (h:l.Nodup) (hr:r.Pairwise (· < ·)) (hm:∀ x,x∈l↔x∈r):KI l=r:=qX (srtM_lt h) hr fun x=>srtM_mem.trans (hm x)
theorem xS {α:Type} {r:α->α->Prop} (asy:∀ x y,r x y->¬ r y x):∀ {l1 l2:List α},l1.Pairwise r->l2.Pairwise r->(∀ x,x∈l1↔x∈l2)->l1=l2
 | [],[],_,_,_=>rfl
 | [],y::l2,_,_,h=>by have:=(h y).2 ZM; cases this
 | x::l1,[],_,_,h=>by have:=(h x).1 ZM; cases this
 | x::l1,y::l2,h1,h2,h=>by
  rw [List.pairwise_cons] at h1 h2
  have irr:∀ x,¬ r x x:=fun x h=>asy x x h h
  have e:x=y:=by
   have hx:=(h x).1 ZM
   have hy:=(h y).2 ZM
   rcases Zco.1 hx with e | hx
   ·exact e
   rcases Zco.1 hy with e | hy
   ·exact e.symm
   exact absurd (h2.1 x hx) (asy _ _ (h1.1 y hy))
  subst e
  refine congrArg (x::·) (xS asy h1.2 h2.2 fun z=>?_)
  constructor
  ·intro hz
   rcases Zco.1 ((h z).1 (.tail _ hz)) with e | hz'
   ·subst e; exact absurd (h1.1 z hz) (irr _)
   exact hz'
  intro hz
  rcases Zco.1 ((h z).2 (.tail _ hz)) with e | hz'
  ·subst e; exact absurd (h2.1 z hz) (irr _)
  exact hz'
abbrev Mv:=Int × Int × Int
def lt3 (a b:Mv):Prop:=a.1 < b.1\/a.1=b.1/\(a.2.1 < b.2.1\/a.2.1=b.2.1/\a.2.2 < b.2.2)
instance (a b:Mv):Decidable (lt3 a b):=by unfold lt3; infer_instance
theorem we (x y:Mv) (h:lt3 x y):¬ lt3 y x:=by unfold lt3 at *; omega
theorem lt3_tr (a b c:Mv) (h1:(!decide (lt3 b a))=true) (h2:(!decide (lt3 c b))=true):(!decide (lt3 c a))=true:=by
 simp only [Zb6,ZbJ] at h1 h2 ⊢
 unfold lt3 at *
 omega
theorem lt3_tot (a b:Mv):((!decide (lt3 b a)) || !decide (lt3 a b))=true:=by
 simp only [Bool.or_eq_true,Zb6,ZbJ]
 unfold lt3
 omega
def KH (l:List Mv):List Mv:=l.mergeSort fun x y=>!decide (lt3 y x)
theorem Qa (l:List Mv):(KH l).Perm l:=List.mergeSort_perm _ _
theorem to (l:List Mv):(KH l).Pairwise (fun x y=>¬ lt3 y x):=by
 have h:=List.pairwise_mergeSort (le:=fun x y:Mv=>!decide (lt3 y x)) lt3_tr lt3_tot l
 exact h.imp (fun h=>by simpa using h)
theorem pi:∀ {l:List Mv},l.Pairwise (fun x y=>¬ lt3 y x)->l.Nodup->l.Pairwise lt3
 | [],_,_=>.nil
 | x::l,h1,h2=>by
  rw [List.pairwise_cons] at h1
  rw [List.nodup_cons] at h2
  rw [List.pairwise_cons]
  refine ⟨fun y hy=>?_,pi h1.2 h2.2⟩
  have h3:=h1.1 y hy
  have hne:x≠y:=fun e=>h2.1 (by rw [e]; exact hy)
  obtain ⟨x1,x2,x3⟩:=x
  obtain ⟨y1,y2,y3⟩:=y
  have:¬ (x1=y1/\x2=y2/\x3=y3):=fun ⟨a,b,c⟩=>hne (by rw [a,b,c])
  unfold lt3 at *
  simp only at *
  omega
theorem srt3_is {l r:List Mv} (h:l.Nodup) (hr:r.Pairwise lt3) (hm:∀ x,x∈l↔x∈r):KH l=r :=
 xS we (pi (to l) ((Qa l).nodup_iff.2 h)) hr fun x=>(Qa l).mem_iff.trans (hm x)
theorem zQ {α:Type} {r:α->α->Prop} (anti:∀ x y,r x y->r y x->x=y):∀ {l1 l2:List α},l1.Perm l2->l1.Pairwise r->l2.Pairwise r->l1=l2
 | [],l2,h,_,_=>(List.Perm.nil_eq h)
 | x::l1,[],h,_,_=>absurd h.length_eq (by simp)
 | x::l1,y::l2,h,h1,h2=>by
  rw [List.pairwise_cons] at h1 h2
  have e:x=y:=by
   have hx:=h.mem_iff.1 List.mem_cons_self
   have hy:=h.mem_iff.2 List.mem_cons_self
   rcases Zco.1 hx with e | hx
   ·exact e
   rcases Zco.1 hy with e | hy
   ·exact e.symm
   exact anti _ _ (h1.1 y hy) (h2.1 x hx)
  subst e
  exact congrArg (x::·) (zQ anti (List.Perm.cons_inv h) h1.2 h2.2)
theorem go {l r:List Mv} (h:r.Perm l) (hs:r.Pairwise (fun x y=>¬ lt3 y x)):r=KH l :=
 zQ (fun x y h1 h2=>by
  obtain ⟨x1,x2,x3⟩:=x
  obtain ⟨y1,y2,y3⟩:=y
  unfold lt3 at h1 h2
  simp only at h1 h2
  have e1:x1=y1:=by omega
  have e2:x2=y2:=by omega
  have e3:x3=y3:=by omega
  rw [e1,e2,e3]) (h.trans (Qa l).symm) hs (to l)
def YV (l:List Mv):List Int:=l.flatMap fun m=>[m.1,m.2.1,m.2.2]
theorem YQ:∀ l:List Mv,(YV l).length=l.length*3
 | []=>rfl
 | m::l=>by
  have:=YQ l
  unfold YV at *
  rw [Zb8,Zb2,this]
  simp only [Zcd,List.length_nil]
  omega
end Go.Am
namespace Go.Am
open Go
def VJ:S->Bool
 | .int .i64 _=>true
 | _=>false
def Wm:S->Int
 | .int _ n=>n
 | _=>0
def X1 (g:Nat->S) (m:Nat):List Int:=(List.range m).map fun i=>Wm (g i)
def EL (l:List Int) (g:Nat->S):Nat->S:=fun i=>bif Nat.blt i l.length then .int .i64 (l.getD i 0) else g i
def TO:List V->Heap->Option (V × Heap)
 | [.snil],σ=>some (.tup [],σ)
 | [.sl b 0 m 1 .whole],σ=>match σ[b]? with
  | some (.sc .grow q g)=>bif Xp m (fun i=>VJ (g i))&&Nat.blt m 4611686018427387904 then some (.tup [],σ.set b (.sc .grow q (EL (KI (X1 g m)) g))) else none
  | _=>none
 | _,_=>none
def VE (g:Nat->S) (m:Nat):List Mv:=(List.range m).map fun i=>(Wm (g (3*i)),Wm (g (3*i+1)),Wm (g (3*i+2)))
def RH (cmp:FuncId):List V->Heap->Option (V × Heap)
 | [.snil,.fn f []],σ=>if f=cmp then some (.tup [],σ) else none
 | [.sl b 0 m 3 .whole,.fn f []],σ=>match σ[b]? with
  | some (.sc .grow q g)=>bif decide (f=cmp)&&(Xp (m*3) (fun i=>VJ (g i))&&Nat.blt m 4611686018427387904) then some (.tup [],σ.set b (.sc .grow q (EL (YV (KH (VE g m))) g))) else none
  | _=>none
 | _,_=>none
def UT (h:Nat->S) (t:Int):Bool:=!(decide (Wm (h (t.toNat*2))=0)&&decide (Wm (h (t.toNat*2+1))=0))&&decide (Wm (h (t.toNat*2+1))=Wm (h 135))
def Tz (own:FuncId):List V->Heap->Option (V × Heap)
 | [.snil,.fn f [.ptr c 0 136]],σ=>if f=own then (match σ[c]? with
  | some (.sc _ 136 _)=>some (.snil,σ)
  | _=>none) else none
 | [.sl b 0 m 1 .whole,.fn f [.ptr c 0 136]],σ=>match σ[b]?,σ[c]? with
  | some (.sc .grow q g),some (.sc _ 136 h)=>bif decide (f=own)&&(decide (b≠c)&&(Xp m (fun i=>VJ (g i)&&(decide (0<=Wm (g i))&&decide (Wm (g i) < 64)))&&(Xp 136 (fun i=>VJ (h i))&&Nat.ble m 4611686018427387904))) then
   some (.sl σ.length 0 ((X1 g m).filter fun t=>!UT h t).length 1 .whole,kill σ b++[.sc .grow ((X1 g m).filter fun t=>!UT h t).length fun i=>.int .i64 (((X1 g m).filter fun t=>!UT h t).getD i 0)]) else none
  | _,_=>none
 | _,_=>none
def Ty:List V->Heap->Option (V × Heap)
 | [.snil,.s (.int .i64 n)],σ=>if 0 < n/\n<=1000000 then some (.sl σ.length 0 0 2 .whole,σ++[.sc .grow 0 fun _=>S.zero]) else none
 | _,_=>none
end Go.Am
namespace Go.Am
open Go
def TE:List V->Heap->Option (V × Heap)
 | [.s (.str s),.s (.int .u8 c)],σ=>some (.s (.int .i64 (Lib.indexByte s.data.toList c.toNat.toUInt8)),σ)
 | _,_=>none
def zn:List V->Heap->Option (V × Heap)
 | [.s (.str s)],σ=>if s.size=0 then some (.s (.str s),σ) else if s.size=1/\65<=(s.data.getD 0 0).toNat/\(s.data.getD 0 0).toNat<=90 then some (.s (.str ⟨#[s.data.getD 0 0+32]⟩),σ) else none
 | _,_=>none
def Rp (T:TypeId):List V->Heap->Option (V × Heap)
 | [.ptr b 0 2],σ=>match σ[b]? with
  | some (.vs (.ty t) [.pnil,x])=>if t=T then some (.tup [],σ.set b (.vs (.ty t) [.ptr b 0 2,x])) else none
  | some (.vs (.ty t) [.ptr c 0 2,_])=>if t=T/\c=b then some (.tup [],σ) else none
  | _=>none
 | _,_=>none
def growPrim (T el:TypeId):List V->Heap->Option (V × Heap)
 | [.ptr b 0 2,.s (.int .i64 n)],σ=>match σ[b]? with
  | some (.vs (.ty t) [.ptr c 0 2,.snil])=>if t=T/\c=b/\0<=n/\n<=281474976710656 then some (.tup [],σ.set b (.vs (.ty t) [.ptr b 0 2,.sl σ.length 0 0 1 .whole])++[.sc (.gty el) 0 (Xv .empty)]) else none
  | _=>none
 | _,_=>none
def Ro:S->Bool
 | .int .u8 n=>decide (0<=n/\n < 256)
 | _=>false
def bytesOf (f:Nat->S) (m:Nat):List UInt8:=(List.range m).map fun i=>UInt8.ofNat (byteOf (f i))
def JQ (T el:TypeId):List V->Heap->Option (V × Heap)
 | [.ptr b 0 2],σ=>match σ[b]? with
  | some (.vs (.ty t) [_,.sl g 0 m 1 .whole])=>(match σ[g]? with
   | some (.sc (.gty e) _ f)=>if t=T/\e=el/\m≠0/\m<=140737488355328/\(List.range m).all (fun i=>Ro (f i))=true then some (.s (.str ⟨(bytesOf f m).toArray⟩),σ.set g .dead) else none
   | _=>none)
  | some (.vs (.ty t) [_,.snil])=>if t=T then some (.s (.str ⟨#[]⟩),σ) else none
  | _=>none
 | _,_=>none
end Go.Am
namespace Go.Am
open Go
def primL:List (FuncId × (List V->Heap->Option (V × Heap))):=[(175,TO),(128,(RH 129)),(156,(Tz 155)),(167,Ty),(82,TE),(40,zn),(83,(Rp 54)),(26,(JQ 54 5))]
def sy (f:FuncId):List (FuncId × (List V->Heap->Option (V × Heap)))->Option (List V->Heap->Option (V × Heap))
 | []=>none
 | (g,p)::l=>bif Nat.beq f g then some p else sy f l
def sR (f:FuncId):Option (List V->Heap->Option (V × Heap)):=sy f primL
end Go.Am
namespace Go.Proofs.YtlkighkfkdpncaaGreatDoor
open Go Go.Am
set_option maxRecDepth 100000
def fnsL:List (FuncId × AF):=[(7,a7),(8,a8),(10,a10),(11,a11),(12,a12),(13,a13),(15,a15),(17,a17),(19,a19),(20,a20),(21,a21),(22,a22),(23,a23),(24,a24),(25,a25),(28,a28),(30,a30),(33,a33),(34,a34),(35,a35),(36,a36),(37,a37),(38,a38),(39,a39),(41,a41),(44,a44),(45,a45),(46,a46),(47,a47),(48,a48),(49,a49),(50,a50),(51,a51),(52,a52),(53,a53),(54,a54),(55,a55),(57,a57),(58,a58),(59,a59),(61,a61),(62,a62),(63,a63),(64,a64),(65,a65),(70,a70),(71,a71),(72,a72),(73,a73),(74,a74),(79,a79),(81,a81),(84,a84),(85,a85),(86,a86),(87,a87),(88,a88),(89,a89),(90,a90),(91,a91),(92,a92),(95,a95),(98,a98),(99,a99),(100,a100),(101,a101),(102,a102),(109,a109),(112,a112),(113,a113),(114,a114),(115,a115),(122,a122),(123,a123),(124,a124),(125,a125),(126,a126),(127,a127),(134,a134),(136,a136),(137,a137),(138,a138),(139,a139),(140,a140),(141,a141),(142,a142),(149,a149),(150,a150),(151,a151),(152,a152),(153,a153),(154,a154),(157,a157),(158,a158),(168,a168),(172,a172),(173,a173),(174,a174),(189,a189),(190,a190)]
theorem goodL:sw Tryz.prog fnsL:=⟨⟨_,false,Tryz.func7,by kernel_rfl⟩,⟨_,false,Tryz.func8,by kernel_rfl⟩,⟨_,false,Tryz.func10,by kernel_rfl⟩,⟨_,false,Tryz.func11,by kernel_rfl⟩,⟨_,false,Tryz.func12,by kernel_rfl⟩,⟨_,false,Tryz.func13,by kernel_rfl⟩,⟨_,false,Tryz.func15,by kernel_rfl⟩,⟨_,false,Tryz.func17,by kernel_rfl⟩,⟨_,false,Tryz.func19,by kernel_rfl⟩,⟨_,false,Tryz.func20,by kernel_rfl⟩,⟨_,false,Tryz.func21,by kernel_rfl⟩,⟨_,false,Tryz.func22,by kernel_rfl⟩,⟨_,false,Tryz.func23,by kernel_rfl⟩,⟨_,false,Tryz.func24,by kernel_rfl⟩,⟨_,false,Tryz.func25,by kernel_rfl⟩,⟨_,false,Tryz.func28,by kernel_rfl⟩,⟨_,false,Tryz.func30,by kernel_rfl⟩,⟨_,false,Tryz.func33,by kernel_rfl⟩,⟨_,false,Tryz.func34,by kernel_rfl⟩,⟨_,false,Tryz.func35,by kernel_rfl⟩,⟨_,false,Tryz.func36,by kernel_rfl⟩,⟨_,false,Tryz.func37,by kernel_rfl⟩,⟨_,false,Tryz.func38,by kernel_rfl⟩,⟨_,false,Tryz.func39,by kernel_rfl⟩,⟨_,false,Tryz.func41,by kernel_rfl⟩,⟨_,false,Tryz.func44,by kernel_rfl⟩,⟨_,false,Tryz.func45,by kernel_rfl⟩,⟨_,false,Tryz.func46,by kernel_rfl⟩,⟨_,false,Tryz.func47,by kernel_rfl⟩,⟨_,false,Tryz.func48,by kernel_rfl⟩,⟨_,false,Tryz.func49,by kernel_rfl⟩,⟨_,false,Tryz.func50,by kernel_rfl⟩,⟨_,false,Tryz.func51,by kernel_rfl⟩,⟨_,false,Tryz.func52,by kernel_rfl⟩,⟨_,false,Tryz.func53,by kernel_rfl⟩,⟨_,false,Tryz.func54,by kernel_rfl⟩,⟨_,false,Tryz.func55,by kernel_rfl⟩,⟨_,false,Tryz.func57,by kernel_rfl⟩,⟨_,false,Tryz.func58,by kernel_rfl⟩,⟨_,false,Tryz.func59,by kernel_rfl⟩,⟨_,false,Tryz.func61,by kernel_rfl⟩,⟨_,false,Tryz.func62,by kernel_rfl⟩,⟨_,false,Tryz.func63,by kernel_rfl⟩,⟨_,false,Tryz.func64,by kernel_rfl⟩,⟨_,false,Tryz.func65,by kernel_rfl⟩,⟨_,false,Tryz.func70,by kernel_rfl⟩,⟨_,false,Tryz.func71,by kernel_rfl⟩,⟨_,false,Tryz.func72,by kernel_rfl⟩,⟨_,false,Tryz.func73,by kernel_rfl⟩,⟨_,false,Tryz.func74,by kernel_rfl⟩,⟨_,false,Tryz.func79,by kernel_rfl⟩,⟨_,false,Tryz.func81,by kernel_rfl⟩,⟨_,false,Tryz.func84,by kernel_rfl⟩,⟨_,false,Tryz.func85,by kernel_rfl⟩,⟨_,false,Tryz.func86,by kernel_rfl⟩,⟨_,false,Tryz.func87,by kernel_rfl⟩,⟨_,false,Tryz.func88,by kernel_rfl⟩,⟨_,false,Tryz.func89,by kernel_rfl⟩,⟨_,false,Tryz.func90,by kernel_rfl⟩,⟨_,false,Tryz.func91,by kernel_rfl⟩,⟨_,false,Tryz.func92,by kernel_rfl⟩,⟨_,false,Tryz.func95,by kernel_rfl⟩,⟨_,false,Tryz.func98,by kernel_rfl⟩,⟨_,false,Tryz.func99,by kernel_rfl⟩,⟨_,false,Tryz.func100,by kernel_rfl⟩,⟨_,false,Tryz.func101,by kernel_rfl⟩,⟨_,false,Tryz.func102,by kernel_rfl⟩,⟨_,false,Tryz.func109,by kernel_rfl⟩,⟨_,false,Tryz.func112,by kernel_rfl⟩,⟨_,true,Tryz.func113,by kernel_rfl⟩,⟨_,false,Tryz.func114,by kernel_rfl⟩,⟨_,false,Tryz.func115,by kernel_rfl⟩,⟨_,false,Tryz.func122,by kernel_rfl⟩,⟨_,false,Tryz.func123,by kernel_rfl⟩,⟨_,false,Tryz.func124,by kernel_rfl⟩,⟨_,false,Tryz.func125,by kernel_rfl⟩,⟨_,false,Tryz.func126,by kernel_rfl⟩,⟨_,true,Tryz.func127,by kernel_rfl⟩,⟨_,false,Tryz.func134,by kernel_rfl⟩,⟨_,false,Tryz.func136,by kernel_rfl⟩,⟨_,false,Tryz.func137,by kernel_rfl⟩,⟨_,false,Tryz.func138,by kernel_rfl⟩,⟨_,false,Tryz.func139,by kernel_rfl⟩,⟨_,false,Tryz.func140,by kernel_rfl⟩,⟨_,false,Tryz.func141,by kernel_rfl⟩,⟨_,false,Tryz.func142,by kernel_rfl⟩,⟨_,false,Tryz.func149,by kernel_rfl⟩,⟨_,false,Tryz.func150,by kernel_rfl⟩,⟨_,false,Tryz.func151,by kernel_rfl⟩,⟨_,false,Tryz.func152,by kernel_rfl⟩,⟨_,false,Tryz.func153,by kernel_rfl⟩,⟨_,false,Tryz.func154,by kernel_rfl⟩,⟨_,false,Tryz.func157,by kernel_rfl⟩,⟨_,false,Tryz.func158,by kernel_rfl⟩,⟨_,false,Tryz.func168,by kernel_rfl⟩,⟨_,false,Tryz.func172,by kernel_rfl⟩,⟨_,false,Tryz.func173,by kernel_rfl⟩,⟨_,false,Tryz.func174,by kernel_rfl⟩,⟨_,false,Tryz.func189,by kernel_rfl⟩,⟨_,false,Tryz.func190,by kernel_rfl⟩,trivial⟩
def B11:BF:=⟨KQ,[6,7],g11,b11⟩
def B54:BF:=⟨wz,[22],g54,b54⟩
def B100:BF:=⟨Kx,[6],g100,b100⟩
def bodF (k:Nat):Option BF:=bif Nat.beq k 607 then some B11 else bif Nat.beq k 22 then some B54 else bif Nat.beq k 6 then some B100 else none
def AM:AP:={ fns:=fun f=>yX f fnsL,prims:=sR,bods:=bodF }
theorem bod11:B11.rd.ps.toList=B11.ps/\Wg Tryz.prog false B11.rd.asg=some B11.asg/\Wg Tryz.prog false B11.rd.body=some B11.body/\WC B11.rd.asg=true/\WC B11.rd.body=true/\WQ B11.rd.asg=true/\WQ B11.rd.body=true:=⟨by kernel_rfl,by kernel_rfl,by kernel_rfl,by kernel_rfl,by kernel_rfl,by kernel_rfl,by kernel_rfl⟩
theorem bod54:B54.rd.ps.toList=B54.ps/\Wg Tryz.prog false B54.rd.asg=some B54.asg/\Wg Tryz.prog false B54.rd.body=some B54.body/\WC B54.rd.asg=true/\WC B54.rd.body=true/\WQ B54.rd.asg=true/\WQ B54.rd.body=true:=⟨by kernel_rfl,by kernel_rfl,by kernel_rfl,by kernel_rfl,by kernel_rfl,by kernel_rfl,by kernel_rfl⟩
theorem bod100:B100.rd.ps.toList=B100.ps/\Wg Tryz.prog false B100.rd.asg=some B100.asg/\Wg Tryz.prog false B100.rd.body=some B100.body/\WC B100.rd.asg=true/\WC B100.rd.body=true/\WQ B100.rd.asg=true/\WQ B100.rd.body=true:=⟨by kernel_rfl,by kernel_rfl,by kernel_rfl,by kernel_rfl,by kernel_rfl,by kernel_rfl,by kernel_rfl⟩
theorem bodsOK:xV Tryz.prog AM:=fun k B h=>by
 have h:bodF k=some B:=h
 unfold bodF at h
 cases h0:Nat.beq k 607 with
 | true=>rw [h0,cond_true] at h; injection h with h; subst h; exact bod11
 | false =>
 rw [h0,cond_false] at h
 cases h0:Nat.beq k 22 with
 | true=>rw [h0,cond_true] at h; injection h with h; subst h; exact bod54
 | false =>
 rw [h0,cond_false] at h
 cases h0:Nat.beq k 6 with
 | true=>rw [h0,cond_true] at h; injection h with h; subst h; exact bod100
 | false =>
 rw [h0,cond_false] at h
 cases h
theorem fnsOK:jp Tryz.prog AM:=fun _ _ h=>wa goodL h
end Go.Proofs.YtlkighkfkdpncaaGreatDoor
namespace Go.Proofs
open Go.Shelf
def Tryz.lays189_ren:Go.Shelf.Ren:=⟨fun | 189=>175 | 125=>160 | 257=>191 | 128=>184 | 129=>185 | 294=>197 | 295=>198 | 296=>199 | 297=>200 | 298=>201 | 299=>202 | 216=>203 | 300=>204 | 301=>205 | 328=>207 | 329=>193 | 330=>194 | 331=>208 | 332=>209 | 215=>186 | 343=>210 | n=>n,fun | 28=>100 | 3=>3 | 46=>147 | 0=>0 | 51=>193 | 53=>212 | 4=>4 | 183=>205 | 182=>204 | 131=>122 | 5=>5 | 9=>9 | 218=>221 | 222=>225 | 228=>233 | 229=>178 | n=>n,fun | n=>n⟩
theorem Tryz.lays189:Go.Proofs.Lays.n189 Tryz.prog Tryz.lays189_ren:={
 mixed:=by kernel_rfl
 f125:=Tryz.func160.trans (congrArg some (by kernel_rfl))
 f128:=Tryz.func184.trans (congrArg some (by kernel_rfl))
 f129:=Tryz.func185.trans (congrArg some (by kernel_rfl))
 f189:=Tryz.func175.trans (congrArg some (by kernel_rfl))
 f215:=Tryz.func186.trans (congrArg some (by kernel_rfl))
 f216:=Tryz.func203.trans (congrArg some (by kernel_rfl))
 f257:=Tryz.func191.trans (congrArg some (by kernel_rfl))
 f294:=Tryz.func197.trans (congrArg some (by kernel_rfl))
 f295:=Tryz.func198.trans (congrArg some (by kernel_rfl))
 f296:=Tryz.func199.trans (congrArg some (by kernel_rfl))
 f297:=Tryz.func200.trans (congrArg some (by kernel_rfl))
 f298:=Tryz.func201.trans (congrArg some (by kernel_rfl))
 f299:=Tryz.func202.trans (congrArg some (by kernel_rfl))
 f300:=Tryz.func204.trans (congrArg some (by kernel_rfl))
 f301:=Tryz.func205.trans (congrArg some (by kernel_rfl))
 f328:=Tryz.func207.trans (congrArg some (by kernel_rfl))
 f329:=Tryz.func193.trans (congrArg some (by kernel_rfl))
 f330:=Tryz.func194.trans (congrArg some (by kernel_rfl))
 f331:=Tryz.func208.trans (congrArg some (by kernel_rfl))
 f332:=Tryz.func209.trans (congrArg some (by kernel_rfl))
 f343:=Tryz.func210.trans (congrArg some (by kernel_rfl))
 t0:=Tryz.underlying0
 a0:=Tryz.isAgg0
 z0:=Tryz.sizeOf0
 v0:=Tryz.zeroValue0
 t3:=Tryz.underlying3
 a3:=Tryz.isAgg3
 z3:=Tryz.sizeOf3
 v3:=Tryz.zeroValue3
 t4:=Tryz.underlying4
 a4:=Tryz.isAgg4
 z4:=Tryz.sizeOf4
 v4:=Tryz.zeroValue4
 t5:=Tryz.underlying5
 a5:=Tryz.isAgg5
 z5:=Tryz.sizeOf5
 v5:=Tryz.zeroValue5
 t9:=Tryz.underlying9
 a9:=Tryz.isAgg9
 z9:=Tryz.sizeOf9
 v9:=Tryz.zeroValue9
 t28:=Tryz.underlying100
 a28:=Tryz.isAgg100
 z28:=Tryz.sizeOf100
 v28:=Tryz.zeroValue100
 t46:=Tryz.underlying147
 a46:=Tryz.isAgg147
 z46:=Tryz.sizeOf147
 v46:=Tryz.zeroValue147
 t51:=Tryz.underlying193
 a51:=Tryz.isAgg193
 z51:=Tryz.sizeOf193
 v51:=Tryz.zeroValue193
 t53:=Tryz.underlying212
 a53:=Tryz.isAgg212
 z53:=Tryz.sizeOf212
 v53:=Tryz.zeroValue212
 t131:=Tryz.underlying122
 a131:=Tryz.isAgg122
 z131:=Tryz.sizeOf122
 v131:=Tryz.zeroValue122
 t182:=Tryz.underlying204
 a182:=Tryz.isAgg204
 z182:=Tryz.sizeOf204
 v182:=Tryz.zeroValue204
 t183:=Tryz.underlying205
 a183:=Tryz.isAgg205
 z183:=Tryz.sizeOf205
 v183:=Tryz.zeroValue205
 t218:=Tryz.underlying221
 a218:=Tryz.isAgg221
 z218:=Tryz.sizeOf221
 v218:=Tryz.zeroValue221
 t222:=Tryz.underlying225
 a222:=Tryz.isAgg225
 z222:=Tryz.sizeOf225
 v222:=Tryz.zeroValue225
 t228:=Tryz.underlying233
 a228:=Tryz.isAgg233
 z228:=Tryz.sizeOf233
 v228:=Tryz.zeroValue233
 t229:=Tryz.underlying178
 a229:=Tryz.isAgg178
 z229:=Tryz.sizeOf178
 v229:=Tryz.zeroValue178 }
open Go.Sort Go.RowKit in
theorem Tryz.slices_Sort_int (blk off cap:Nat) (zs:List Int) (w:World) (hH:Holds (Value.int .i64) w blk off zs.toArray) (hblk:blk < w.heap.size) (hsz:zs.length < 4611686018427387904) :
 Calls Tryz.prog 175 #[.slice (some ⟨blk,off,none⟩) zs.length cap] w fun e w' =>
  e=.returned (.tuple #[])/\∃ n os,w'=grow (putRow (Value.int .i64) (Sort.ahead w n) blk off (zs.mergeSort fun x y=>decide (x<=y)).toArray) os:=Any.slices_Sort_int Tryz.lays189 blk off cap zs w hH hblk hsz
open Go.RowKit Go.Sort in
theorem Tryz.slices_Sort_int_none (p:Option Addr) (cap:Nat) (w:World) :
 Calls Tryz.prog 175 #[.slice p 0 cap] w fun e w'=>e=.returned (.tuple #[])/\w'=w:=Any.slices_Sort_int_none Tryz.lays189 p cap w
def Tryz.laysSlH6_f174_ren:Go.Shelf.Ren:=⟨fun | 6=>174 | n=>n,fun | 22=>100 | 23=>3 | 25=>103 | 3=>3 | 0=>0 | 4=>4 | n=>n,fun | n=>n⟩
theorem Tryz.laysSlH6_f174:Go.Proofs.SlLaysH.n6 Tryz.prog Tryz.laysSlH6_f174_ren:={
 mixed:=by kernel_rfl
 f6:=⟨Tryz.f174.name,by decide,Tryz.func174.trans (congrArg some (by kernel_rfl))⟩
 t0:=Tryz.underlying0
 a0:=Tryz.isAgg0
 z0:=Tryz.sizeOf0
 v0:=Tryz.zeroValue0
 t3:=Tryz.underlying3
 a3:=Tryz.isAgg3
 z3:=Tryz.sizeOf3
 v3:=Tryz.zeroValue3
 t4:=Tryz.underlying4
 a4:=Tryz.isAgg4
 z4:=Tryz.sizeOf4
 v4:=Tryz.zeroValue4
 t22:=Tryz.underlying100
 a22:=Tryz.isAgg100
 z22:=Tryz.sizeOf100
 v22:=Tryz.zeroValue100
 a23:=Tryz.isAgg3
 z23:=Tryz.sizeOf3
 t25:=Tryz.underlying103
 a25:=Tryz.isAgg103
 z25:=Tryz.sizeOf103
 v25:=Tryz.zeroValue103 }
open Go.RowKit Go.Lib in
theorem Tryz.slices_IndexFunc_empty {α:Type} [Inhabited α] (a:Option Addr) (c:Nat) (fv:Value) (w:World) :
 Calls Tryz.prog 174 #[.slice a 0 c,fv] w fun e w'=>e=.returned (.int .i64 (-1))/\w'=w:=AnyE.slices_IndexFunc_empty Tryz.laysSlH6_f174 a c fv w
def Tryz.laysSlH10_f156_ren:Go.Shelf.Ren:=⟨fun | 10=>156 | 6=>174 | n=>n,fun | 22=>100 | 23=>3 | 25=>103 | 3=>3 | 4=>4 | 0=>0 | n=>n,fun | n=>n⟩
theorem Tryz.laysSlH10_f156:Go.Proofs.SlLaysH.n10 Tryz.prog Tryz.laysSlH10_f156_ren:={
 mixed:=by kernel_rfl
 f6:=⟨Tryz.f174.name,by decide,Tryz.func174.trans (congrArg some (by kernel_rfl))⟩
 f10:=⟨Tryz.f156.name,by decide,Tryz.func156.trans (congrArg some (by kernel_rfl))⟩
 t0:=Tryz.underlying0
 a0:=Tryz.isAgg0
 z0:=Tryz.sizeOf0
 v0:=Tryz.zeroValue0
 t3:=Tryz.underlying3
 a3:=Tryz.isAgg3
 z3:=Tryz.sizeOf3
 v3:=Tryz.zeroValue3
 t4:=Tryz.underlying4
 a4:=Tryz.isAgg4
 z4:=Tryz.sizeOf4
 v4:=Tryz.zeroValue4
 t22:=Tryz.underlying100
 a22:=Tryz.isAgg100
 z22:=Tryz.sizeOf100
 v22:=Tryz.zeroValue100
 a23:=Tryz.isAgg3
 z23:=Tryz.sizeOf3
 t25:=Tryz.underlying103
 a25:=Tryz.isAgg103
 z25:=Tryz.sizeOf103
 v25:=Tryz.zeroValue103 }
open Go.RowKit Go.Lib Go.Sort in
theorem Tryz.slices_DeleteFunc {α:Type} [Inhabited α] (enc:α->Value) (hO:OneCell enc) (p:α->Bool) (g:Nat) (lb:Array Value) (eg:∀ args w,(callFunc g args).run Tryz.prog w=.ok (.enter g args) w) (zr:α) (v23:∀ w,(zeroValue 3).run Tryz.prog w=.ok (enc zr) w) (blk off cap:Nat) (d:Array α) (w:World) (hp:PredAt Tryz.prog g lb enc p w) (hpo:PredOver Tryz.prog g lb enc p blk off d.size w) (hH:Holds enc w blk off d) (hsz:d.size<=9223372036854775807) (hcap:d.size<=cap) :
 Calls Tryz.prog 156 #[.slice (some ⟨blk,off,none⟩) d.size cap,.func (.func g) #[] lb] w fun e w'=>e=.returned (.slice (some ⟨blk,off,none⟩) (d.toList.filter fun x=>!p x).length cap)/\∃ q,w'=putRow enc (Sort.ahead w q) blk off ((d.toList.filter fun x=>!p x)++List.replicate (d.size - (d.toList.filter fun x=>!p x).length) zr).toArray:=AnyE.slices_DeleteFunc Tryz.laysSlH10_f156 enc hO p g lb eg zr v23 blk off cap d w hp hpo hH hsz hcap
def Tryz.laysSF_ren:Go.Shelf.Ren:=⟨fun | 6=>128 | 15=>160 | 14=>159 | 28=>184 | 29=>185 | 20=>176 | 21=>177 | 22=>178 | 23=>179 | 24=>180 | 25=>181 | 26=>182 | 27=>183 | 46=>192 | 47=>193 | 48=>194 | 49=>195 | 50=>196 | 57=>206 | n=>n,fun | 22=>37 | 24=>31 | 25=>162 | 3=>3 | 39=>147 | 0=>0 | 53=>193 | 55=>212 | 4=>4 | 46=>205 | 45=>204 | 50=>122 | 5=>5 | 9=>9 | 66=>221 | 70=>225 | 76=>233 | 77=>178 | n=>n,fun | n=>n⟩
theorem Tryz.laysSF:Go.Proofs.SlLaysF0.n6 Tryz.prog Tryz.laysSF_ren:={
 mixed:=by kernel_rfl
 f6:=⟨Tryz.f128.name,by decide,Tryz.func128.trans (congrArg some (by kernel_rfl))⟩
 f14:=⟨Tryz.f159.name,by decide,Tryz.func159.trans (congrArg some (by kernel_rfl))⟩
 f15:=Tryz.func160.trans (congrArg some (by kernel_rfl))
 f20:=⟨Tryz.f176.name,by decide,Tryz.func176.trans (congrArg some (by kernel_rfl))⟩
 f21:=⟨Tryz.f177.name,by decide,Tryz.func177.trans (congrArg some (by kernel_rfl))⟩
 f22:=⟨Tryz.f178.name,by decide,Tryz.func178.trans (congrArg some (by kernel_rfl))⟩
 f23:=⟨Tryz.f179.name,by decide,Tryz.func179.trans (congrArg some (by kernel_rfl))⟩
 f24:=⟨Tryz.f180.name,by decide,Tryz.func180.trans (congrArg some (by kernel_rfl))⟩
 f25:=⟨Tryz.f181.name,by decide,Tryz.func181.trans (congrArg some (by kernel_rfl))⟩
 f26:=⟨Tryz.f182.name,by decide,Tryz.func182.trans (congrArg some (by kernel_rfl))⟩
 f27:=⟨Tryz.f183.name,by decide,Tryz.func183.trans (congrArg some (by kernel_rfl))⟩
 f28:=Tryz.func184.trans (congrArg some (by kernel_rfl))
 f29:=Tryz.func185.trans (congrArg some (by kernel_rfl))
 f46:=⟨Tryz.f192.name,by decide,Tryz.func192.trans (congrArg some (by kernel_rfl))⟩
 f47:=Tryz.func193.trans (congrArg some (by kernel_rfl))
 f48:=Tryz.func194.trans (congrArg some (by kernel_rfl))
 f49:=⟨Tryz.f195.name,by decide,Tryz.func195.trans (congrArg some (by kernel_rfl))⟩
 f50:=⟨Tryz.f196.name,by decide,Tryz.func196.trans (congrArg some (by kernel_rfl))⟩
 f57:=⟨Tryz.f206.name,by decide,Tryz.func206.trans (congrArg some (by kernel_rfl))⟩
 t0:=Tryz.underlying0
 a0:=Tryz.isAgg0
 z0:=Tryz.sizeOf0
 v0:=Tryz.zeroValue0
 t3:=Tryz.underlying3
 a3:=Tryz.isAgg3
 z3:=Tryz.sizeOf3
 v3:=Tryz.zeroValue3
 t4:=Tryz.underlying4
 a4:=Tryz.isAgg4
 z4:=Tryz.sizeOf4
 v4:=Tryz.zeroValue4
 t5:=Tryz.underlying5
 a5:=Tryz.isAgg5
 z5:=Tryz.sizeOf5
 v5:=Tryz.zeroValue5
 t9:=Tryz.underlying9
 a9:=Tryz.isAgg9
 z9:=Tryz.sizeOf9
 v9:=Tryz.zeroValue9
 t22:=Tryz.underlying37
 a22:=Tryz.isAgg37
 z22:=Tryz.sizeOf37
 v22:=Tryz.zeroValue37
 t25:=Tryz.underlying162
 a25:=Tryz.isAgg162
 z25:=Tryz.sizeOf162
 v25:=Tryz.zeroValue162
 t39:=Tryz.underlying147
 a39:=Tryz.isAgg147
 z39:=Tryz.sizeOf147
 v39:=Tryz.zeroValue147
 t45:=Tryz.underlying204
 a45:=Tryz.isAgg204
 z45:=Tryz.sizeOf204
 v45:=Tryz.zeroValue204
 t46:=Tryz.underlying205
 a46:=Tryz.isAgg205
 z46:=Tryz.sizeOf205
 v46:=Tryz.zeroValue205
 t50:=Tryz.underlying122
 a50:=Tryz.isAgg122
 z50:=Tryz.sizeOf122
 v50:=Tryz.zeroValue122
 t53:=Tryz.underlying193
 a53:=Tryz.isAgg193
 z53:=Tryz.sizeOf193
 v53:=Tryz.zeroValue193
 t55:=Tryz.underlying212
 a55:=Tryz.isAgg212
 z55:=Tryz.sizeOf212
 v55:=Tryz.zeroValue212
 t66:=Tryz.underlying221
 a66:=Tryz.isAgg221
 z66:=Tryz.sizeOf221
 v66:=Tryz.zeroValue221
 t70:=Tryz.underlying225
 a70:=Tryz.isAgg225
 z70:=Tryz.sizeOf225
 v70:=Tryz.zeroValue225
 t76:=Tryz.underlying233
 a76:=Tryz.isAgg233
 z76:=Tryz.sizeOf233
 v76:=Tryz.zeroValue233
 t77:=Tryz.underlying178
 a77:=Tryz.isAgg178
 z77:=Tryz.sizeOf178
 v77:=Tryz.zeroValue178 }
def Tryz.laysGrow_ren:Go.Shelf.Ren:=⟨fun | 4=>167 | n=>n,fun | 22=>175 | 25=>169 | 3=>3 | 4=>4 | 9=>9 | 20=>20 | 0=>0 | n=>n,fun | n=>n⟩
theorem Tryz.laysGrow:Go.Proofs.Lays8.n4 Tryz.prog Tryz.laysGrow_ren:={
 mixed:=by kernel_rfl
 f4:=⟨Tryz.f167.name,by decide,Tryz.func167.trans (congrArg some (by kernel_rfl))⟩
 t0:=Tryz.underlying0
 a0:=Tryz.isAgg0
 z0:=Tryz.sizeOf0
 v0:=Tryz.zeroValue0
 t3:=Tryz.underlying3
 a3:=Tryz.isAgg3
 z3:=Tryz.sizeOf3
 v3:=Tryz.zeroValue3
 t4:=Tryz.underlying4
 a4:=Tryz.isAgg4
 z4:=Tryz.sizeOf4
 v4:=Tryz.zeroValue4
 t9:=Tryz.underlying9
 a9:=Tryz.isAgg9
 z9:=Tryz.sizeOf9
 v9:=Tryz.zeroValue9
 t20:=Tryz.underlying20
 a20:=Tryz.isAgg20
 z20:=Tryz.sizeOf20
 v20:=Tryz.zeroValue20
 t22:=Tryz.underlying175
 a22:=Tryz.isAgg175
 z22:=Tryz.sizeOf175
 v22:=Tryz.zeroValue175 }
def Tryz.laysCmp_ren:Go.Shelf.Ren:=⟨fun | 5=>162 | 7=>186 | n=>n,fun | 22=>3 | 3=>3 | 4=>4 | n=>n,fun | n=>n⟩
theorem Tryz.laysCmp:Go.Proofs.SlLaysC2.n5 Tryz.prog Tryz.laysCmp_ren:={
 mixed:=by kernel_rfl
 f5:=⟨Tryz.f162.name,by decide,Tryz.func162.trans (congrArg some (by kernel_rfl))⟩
 f7:=⟨Tryz.f186.name,by decide,Tryz.func186.trans (congrArg some (by kernel_rfl))⟩
 t3:=Tryz.underlying3
 a3:=Tryz.isAgg3
 z3:=Tryz.sizeOf3
 v3:=Tryz.zeroValue3
 t4:=Tryz.underlying4
 a4:=Tryz.isAgg4
 z4:=Tryz.sizeOf4
 v4:=Tryz.zeroValue4
 t22:=Tryz.underlying3
 a22:=Tryz.isAgg3
 z22:=Tryz.sizeOf3
 v22:=Tryz.zeroValue3 }
def Tryz.laysCmpK_ren:Go.Shelf.Ren:=⟨fun | 5=>163 | 7=>187 | n=>n,fun | 22=>22 | 3=>3 | 4=>4 | n=>n,fun | n=>n⟩
theorem Tryz.laysCmpK:Go.Proofs.SlLaysC2.n5 Tryz.prog Tryz.laysCmpK_ren:={
 mixed:=by kernel_rfl
 f5:=⟨Tryz.f163.name,by decide,Tryz.func163.trans (congrArg some (by kernel_rfl))⟩
 f7:=⟨Tryz.f187.name,by decide,Tryz.func187.trans (congrArg some (by kernel_rfl))⟩
 t3:=Tryz.underlying3
 a3:=Tryz.isAgg3
 z3:=Tryz.sizeOf3
 v3:=Tryz.zeroValue3
 t4:=Tryz.underlying4
 a4:=Tryz.isAgg4
 z4:=Tryz.sizeOf4
 v4:=Tryz.zeroValue4
 t22:=Tryz.underlying22
 a22:=Tryz.isAgg22
 z22:=Tryz.sizeOf22
 v22:=Tryz.zeroValue22 }
end Go.Proofs
namespace Go.Proofs.YtlkighkfkdpncaaGreatDoor
open Go Go.Am Go.RowKit
theorem vg [Bas] {ι:Inj} {σ:Heap} {W W':World} (hR:RelW ι σ W) {b:Nat} {p:Am.Place} {x x':Blk} (hp:ι b=some p) (hb:σ[b]? = some x) (hm:x.mut=true)
  (hs:Same W W') (hh:∀ c,c < W.heap.size->c≠p.c->W'.heap[c]? = W.heap[c]?) (hx:BlkR ι W' x' p):Post ι σ W ι (σ.set b x') W':=by
 have hlt:b < σ.length:=by
  rcases Zcr b σ.length with h | h
  ·exact h
  rw [ZbQ h] at hb; simp at hb
 have hmut:∀ c,mutb (σ.set b x') c->mutb σ c:=by
  rintro c ⟨y,hy,hym⟩
  by_cases e:b=c
  ·subst e; exact ⟨x,hb,hm⟩
  rw [ZbX e] at hy; exact ⟨y,hy,hym⟩
 have hlive:∀ c,X9 (σ.set b x') c->X9 σ c:=by
  rintro c ⟨y,hy,hym⟩
  by_cases e:b=c
  ·subst e; exact ⟨x,hb,qZ hm⟩
  rw [ZbX e] at hy; exact ⟨y,hy,hym⟩
 refine ⟨hs,.refl ι,⟨fun c q hq=>Zb3 (hR.lt c q hq) hs.size,fun c q y hq hy=>?_,fun c c' q q' hq hq' hne h1 h2=>hR.sep c c' q q' hq hq' hne (hmut c h1) (hlive c' h2),fun c q hq h=>hR.gap c q hq (hmut c h),Zcq hR.bsz hs.size,fun c hc=>(hh c (Zb3 hc hR.bsz) (by have:=hR.gap b p hp ⟨x,hb,hm⟩; omega)).trans (hR.bas c hc)⟩,by simp,fun c hc1 hc=>?_,fun c q hq hn=>by simp [hq] at hn,fun c _ h=>hmut c h,fun c _ h=>hlive c h⟩
 ·by_cases e:b=c
  ·subst e
   rw [hp] at hq
   injection hq with hq
   subst hq
   rw [ZbL hlt] at hy
   injection hy with hy
   subst hy
   exact hx
  rw [ZbX e] at hy
  have hold:=hR.blk c q y hq hy
  cases hyl:y.live with
  | true=>exact hold.keep (.refl ι) (hh _ (hR.lt c q hq) (fun hc=>hR.sep b c p q hp hq e ⟨x,hb,hm⟩ ⟨y,hy,hyl⟩ hc.symm))
  | false=>cases y <;> simp [Blk.live] at hyl; trivial
 exact hh c hc1 (fun e=>hc b p hp ⟨x,hb,hm⟩ e.symm)
theorem wA {α:Type} [Inhabited α] {ι:Inj} {W:World} {q:Nat} {g:Nat->S} {p:Am.Place} (hB:BlkR ι W (.sc .grow q g) p) (enc:α->Value) (d:Array α) (l:List Int) (hl:d.size=l.length) (hq:l.length<=q) (hd:∀ i,i < l.length->enc d[i]! = .int .i64 (l.getD i 0)) (n:Nat) (os:Array Obj) (hlt:p.c < W.heap.size) :
  BlkR ι (Sort.grow (Sort.putRow enc (Sort.ahead W n) p.c p.base d) os) (.sc .grow q (EL l g)) p/\(∀ c,c < W.heap.size->c≠p.c->(Sort.grow (Sort.putRow enc (Sort.ahead W n) p.c p.base d) os).heap[c]? = W.heap[c]?):=by
 obtain ⟨h1,h2,h3⟩:=hB
 obtain ⟨hb0,hle,cs,T,hc,hs,hT⟩:=h3 rfl
 have hH:(Sort.putRow enc (Sort.ahead W n) p.c p.base d).heap=W.heap.modify p.c (Sort.onCells (Sort.putCells enc p.base d)):=rfl
 have hsz:(Sort.putRow enc (Sort.ahead W n) p.c p.base d).heap.size=W.heap.size:=by rw [hH]; simp
 have hg:(Sort.grow (Sort.putRow enc (Sort.ahead W n) p.c p.base d) os).heap[p.c]? = some (.cells (Sort.putCells enc p.base d cs) T (0,0)):=by
  rw [Sort.heap_grow_old _ _ (by rw [hsz]; exact hlt),hH,Array.getElem?_modify,ZcA rfl,hc]; rfl
 have hcell:∀ i,(Sort.grow (Sort.putRow enc (Sort.ahead W n) p.c p.base d) os).cell? ⟨p.c,p.base+i,none⟩=(Sort.putCells enc p.base d cs)[p.base+i]?:=fun i=>Lib.cell_of_heap hg _
 refine ⟨⟨h1,fun i hi=>?_,fun _=>⟨hb0,hle,_,T,hg,?_,hT⟩⟩,fun c hc1 hc2=>?_⟩
 ·rw [hcell]
  have h0:=h2 i hi
  rw [Lib.cell_of_heap hc] at h0
  unfold Sort.putCells EL
  rw [Array.getElem?_mapIdx,h0,Option.map_some]
  by_cases hil:i < l.length
  ·rw [ZcA (by omega),show Nat.blt i l.length=true from ZbN hil,cond_true,Nat.add_sub_cancel_left,hd i hil]; rfl
  have hbf:Nat.blt i l.length=false:=by
   cases h:Nat.blt i l.length with
   | false=>rfl
   | true=>exact absurd (YF h) (by omega)
  rw [Zcz (by omega),hbf,cond_false]
 ·unfold Sort.putCells
  rw [Array.size_mapIdx]; exact hs
 rw [Sort.heap_grow_old _ _ (by rw [hsz]; exact hc1),hH,Array.getElem?_modify,Zcz (fun e=>hc2 e.symm)]
theorem D5 {x:S} (h:VJ x=true):x.val=.int .i64 (Wm x):=by
 cases x with
 | int k n=>cases k <;> first | rfl | cases h
 | _=>cases h
theorem JX {p:Nat->Bool}:∀ {n:Nat},Xp n p=true->∀ i,i < n->p i=true
 | n+1,h,i,hi=>by
  have h:(Xp n p&&p n)=true:=h
  rw [Zca] at h
  by_cases e:i=n
  ·subst e; exact h.2
  exact JX h.1 i (by omega)
theorem Qk (g:Nat->S) (m:Nat):(X1 g m).length=m:=by simp [X1]
theorem sa (g:Nat->S) {m i:Nat} (hi:i < m):(X1 g m).getD i 0=Wm (g i):=by
 unfold X1
 rw [ZbD,Zb9,ZbZ hi]; rfl
theorem wv (l:List Int) {i:Nat} (hi:i < l.length):l.toArray[i]! = l.getD i 0:=by
 rw [ZbD,ZbH hi,getElem!_pos l.toArray i (by simpa using hi)]; simp
theorem qN {ι:Inj} {W:World} {q m:Nat} {g:Nat->S} {p:Am.Place} (hB:BlkR ι W (.sc .grow q g) p) (hm:m<=q) (hg:∀ i,i < m->VJ (g i)=true):Sort.Holds (Value.int .i64) W p.c p.base (X1 g m).toArray:=by
 obtain ⟨h1,h2,h3⟩:=hB
 obtain ⟨hb0,hle,cs,T,hc,hs,hT⟩:=h3 rfl
 intro j hj
 have hj:j < m:=by simpa [X1] using hj
 refine ⟨?_,Lib.frozen_of_heap hc _⟩
 rw [h2 j (by omega),D5 (hg j hj),wv _ (by rw [Qk]; exact hj),sa g hj]
section
variable {σ σ':Heap} {args:List V} {v:V} {ι:Inj} {W:World} {av:List Value}
theorem srt_ok [Bas] (h:TO args σ=some (v,σ')) (hR:RelW ι σ W) (hD:Dom ι σ) (hv:VRL ι args av) :
  Calls Tryz.prog 175 av.toArray W fun e W'=>∃ ι' v',e=.returned v'/\VR ι' v v'/\Post ι σ W ι' σ' W':=by
 unfold TO at h
 split at h
 ·injection h with h
  injection h with h1 h2
  subst h1; subst h2
  simp only [VRL,VR] at hv
  obtain ⟨_,_,rfl,rfl,rfl⟩:=hv
  refine (Tryz.slices_Sort_int_none none 0 W).mono ?_
  rintro e W' ⟨rfl,rfl⟩
  exact ⟨ι,_,rfl,⟨[],rfl,rfl⟩,(QPost.refl hR).post⟩
 ·rename_i b m
  split at h
  ·rename_i q g hb
   cases hc:(Xp m (fun i=>VJ (g i))&&Nat.blt m 4611686018427387904) with
   | false=>rw [hc] at h; cases h
   | true =>
    rw [hc,cond_true] at h
    rw [Zca] at hc
    injection h with h
    injection h with h1 h2
    subst h1; subst h2
    simp only [VRL,VR] at hv
    obtain ⟨_,_,rfl,⟨p,c,hp,hle,rfl,hcap⟩,rfl⟩:=hv
    have hB:=hR.blk b p _ hp hb
    have hlt:=hR.lt b p hp
    have hmq:m<=q:=by have:=hB.1; omega
    have hm:m < 4611686018427387904:=YF hc.2
    have hcon:=Tryz.slices_Sort_int p.c p.base c (X1 g m) W (qN hB hmq (JX hc.1)) hlt (by rw [Qk]; exact hm)
    rw [Qk] at hcon
    refine hcon.mono ?_
    rintro e W' ⟨rfl,n,os,rfl⟩
    have hsl:(KI (X1 g m)).length=m:=by rw [(Q5 _).length_eq,Qk]
    obtain ⟨r1,r2⟩:=wA hB (Value.int .i64) (KI (X1 g m)).toArray (KI (X1 g m)) (by simp) (by omega) (fun i hi=>congrArg (Value.int .i64) (wv _ hi)) n os hlt
    refine ⟨ι,_,rfl,⟨[],rfl,rfl⟩,vg hR hp hb rfl ⟨rfl,rfl,rfl,?_⟩ r2 r1⟩
    simp [Sort.grow,Sort.putRow,Sort.mapBlock,Sort.ahead]
  cases h
 cases h
end
end Go.Proofs.YtlkighkfkdpncaaGreatDoor
namespace Go.Proofs.YtlkighkfkdpncaaGreatDoor
open Go Go.Am Go.RowKit Go.Sort Go.Lib
set_option maxHeartbeats 4000000 in
theorem qd (H:Nat->Int) (t:Int) (ht:0<=t/\t < 64) (B o:Nat) (W:World) (hc:∀ i,i < 136->W.cell? ⟨B,o+i,none⟩=some (.int .i64 (H i))) :
  FnGives Tryz.prog 155 #[.pointer (some ⟨B,o,none⟩)] #[.int .i64 t] (.bool (UT (ia H) t)) W:=by
 show Calls Tryz.prog 155 #[.int .i64 t,.pointer (some ⟨B,o,none⟩)] W _
 have h1:=hc (t.toNat*2) (by omega)
 have h2:=hc (t.toNat*2+1) (by omega)
 have h3:=hc 135 (by omega)
 have hr:UT (ia H) t=(!(decide (H (t.toNat*2)=0)&&decide (H (t.toNat*2+1)=0))&&decide (H (t.toNat*2+1)=H 135)):=rfl
 rw [hr]
 clear hr hc
 obtain ⟨h0,h64⟩:=ht
 generalize H (t.toNat*2)=a at *
 generalize H (t.toNat*2+1)=b at *
 generalize H 135=c at *
 have g2:W.cell? ⟨B,o+t.toNat*2+1,none⟩=some (.int .i64 b):=h2
 have g3:W.cell? ⟨B,o+134+1,none⟩=some (.int .i64 c):=h3
 by_cases e1:a=0 <;> by_cases e2:b=0 <;> by_cases e3:b=c
 all_goals
  go_enter Tryz.func155,Tryz.ntmps155
  go_wp2
  go_quiet ((fail))
  go_wp2
  all_goals (go_ret; exact ⟨(by simp [*] <;> first | omega | (rw [Zce]; simp <;> omega)),_,rfl⟩)
def Ee (x:Fin 64):Value:=.int .i64 (x.val:Int)
theorem pw:∀ {l:List Int},(∀ t∈l,0≤t∧t < 64)→∃ d:List (Fin 64),d.map (fun x=>(x.val:Int))=l
 | [],_=>⟨[],rfl⟩
 | t::l,h=>by
  obtain ⟨d,hd⟩:=pw fun u hu=>h u (.tail _ hu)
  have:=h t ZM
  exact ⟨⟨t.toNat,by omega⟩::d,by rw [List.map_cons,hd]; simp; omega⟩
theorem Zbs {p:Int->Bool} (d:List (Fin 64)):(d.map (fun x=>(x.val:Int))).filter p=(d.filter fun x=>p (x.val:Int)).map fun x=>(x.val:Int):=by
 rw [List.filter_map]; rfl
theorem arr64 (D:List (Fin 64)) {i:Nat} (hi:i < D.length):Ee D.toArray[i]! = .int .i64 ((D.map fun x=>(x.val:Int)).getD i 0):=by
 rw [ZbD,Zb9,ZbH hi,getElem!_pos D.toArray i (by simpa using hi)]
 simp [Ee]
theorem pD (w:World):Sort.grow w #[]=w:=by
 cases w; simp [Sort.grow]
theorem ZaX (fv:Value) (W:World):Calls Tryz.prog 156 #[.slice none 0 0,fv] W fun e w'=>e=.returned (.slice none 0 0)/\w'=W:=by
 go_enter Tryz.func156,Tryz.ntmps156
 go_wp2_with (go_at_call 174; refine (Tryz.slices_IndexFunc_empty (α:=Int) none 0 fv W).mono ?_; rintro e w' ⟨rfl,rfl⟩)
 go_ret
 exact ⟨rfl,rfl⟩
section
variable {σ σ':Heap} {args:List V} {v:V} {ι:Inj} {W:World} {av:List Value}
theorem del_ok [Bas] (h:Tz 155 args σ=some (v,σ')) (hR:RelW ι σ W) (hD:Dom ι σ) (hv:VRL ι args av) :
  Calls Tryz.prog 156 av.toArray W fun e W'=>∃ ι' v',e=.returned v'/\VR ι' v v'/\Post ι σ W ι' σ' W':=by
 have eg:∀ args w,(callFunc 155 args).run Tryz.prog w=.ok (.enter 155 args) w:=enters_of Tryz.func155 (by kernel_rfl) rfl
 unfold Tz at h
 split at h
 ·rename_i f c
  split at h
  ·rename_i hf
   subst hf
   split at h
   ·rename_i md hcell hc
    injection h with h
    injection h with h1 h2
    subst h1; subst h2
    simp only [VRL,VR] at hv
    obtain ⟨_,_,rfl,rfl,_,_,rfl,⟨cs,rfl,_⟩,rfl⟩:=hv
    refine (ZaX _ W).mono ?_
    rintro e W' ⟨rfl,rfl⟩
    exact ⟨ι,_,rfl,rfl,(QPost.refl hR).post⟩
   cases h
  cases h
 ·rename_i b m f c
  split at h
  ·rename_i q g md hh hb hc
   cases hcond:(decide (f=155)&&(decide (b≠c)&&(Xp m (fun i=>VJ (g i)&&(decide (0<=Wm (g i))&&decide (Wm (g i) < 64)))&&(Xp 136 (fun i=>VJ (hh i))&&Nat.ble m 4611686018427387904)))) with
   | false=>rw [hcond] at h; cases h
   | true =>
    rw [hcond,cond_true] at h
    injection h with h
    injection h with h1 h2
    subst h1; subst h2
    simp only [Zca,Zb7] at hcond
    obtain ⟨rfl,hne,hg,hh64,hm⟩:=hcond
    have hm:=YF hm
    have hg1:∀ i,i < m->VJ (g i)=true/\0<=Wm (g i)/\Wm (g i) < 64:=fun i hi=>by
     have:=JX hg i hi
     simpa only [Zca,Zb7] using this
    simp only [VRL,VR] at hv
    obtain ⟨_,_,rfl,⟨p,cap,hp,hle,rfl,hcap⟩,_,_,rfl,⟨cs,rfl,_,_,rfl,⟨pc,hpc,hle2,rfl⟩,rfl⟩,rfl⟩:=hv
    obtain ⟨_,hb0,hcp,hmc,hsz,hmn⟩:=hcap
    have hB:=hR.blk b p _ hp hb
    have hC:=hR.blk c pc _ hpc hc
    have hlt:=hR.lt b p hp
    have hltc:=hR.lt c pc hpc
    have hpne:p.c≠pc.c:=hR.sep b c p pc hp hpc hne ⟨_,hb,rfl⟩ ⟨_,hc,rfl⟩
    have hq:q=m:=by have:=hB.1; omega
    obtain ⟨d,hd⟩:=pw (l:=X1 g m) (fun t ht=>by
     unfold X1 at ht
     obtain ⟨i,hi,rfl⟩:=List.mem_map.1 ht
     exact (hg1 i (Zck.1 hi)).2)
    have hdl:d.length=m:=by rw [<- Qk g m,<- hd,List.length_map]
    have hcell:∀ i,i < 136->W.cell? ⟨pc.c,pc.base+0+i,none⟩=some (.int .i64 (Wm (hh i))):=fun i hi=>by
     rw [Nat.add_zero,hC.2.1 i hi,D5 (JX hh64 i hi)]
    have hH:Sort.Holds Ee W p.c (p.base+0) d.toArray:=fun j hj=>by
     have hj:j < m:=by simpa [hdl] using hj
     have h0:=qN (m:=m) hB (by omega) (fun i hi=>(hg1 i hi).1) j (by simpa [X1] using hj)
     refine ⟨?_,h0.2⟩
     rw [Nat.add_zero,h0.1,wv _ (by rw [Qk]; exact hj)]
     have e:(X1 g m).getD j 0=((d.toArray[j]!).val:Int):=by
      rw [<- hd,ZbD,Zb9,ZbH (by omega),getElem!_pos d.toArray j (by simpa [hdl] using hj)]; simp
     rw [e]; rfl
    have hcon:=Tryz.slices_DeleteFunc Ee (fun _=>rfl) (fun x=>UT hh (x.val:Int)) 155 #[.pointer (some ⟨pc.c,pc.base+0,none⟩)] eg 0 Tryz.zeroValue3 p.c (p.base+0) cap d.toArray W
     (fun W' x hb'=>qd (fun i=>Wm (hh i)) (x.val:Int) (by omega) pc.c (pc.base+0) W' (fun i hi=>(hb'.cell (p:=⟨pc.c,pc.base+0+i,none⟩) hltc).trans (hcell i hi)))
     (fun n os dk x _=>qd (fun i=>Wm (hh i)) (x.val:Int) (by omega) pc.c (pc.base+0) _ (fun i hi=>by
      unfold sortWorld
      rw [cell?_grow _ _ _ (by show pc.c < (putRow _ _ _ _ _).heap.size; rw [size_putRow]; exact hltc),cell?_putRow_other _ _ p.c (p.base+0) _ _ (Or.inl (fun e=>hpne e.symm))]
      exact hcell i hi)) hH (by simp [hdl]; omega) (by simp [hdl]; omega)
    rw [show d.toArray.size=m by simp [hdl]] at hcon
    rw [show d.toArray.toList=d from rfl] at hcon
    have hL:(d.filter fun x=>!UT hh (x.val:Int)).map (fun x=>(x.val:Int))=(X1 g m).filter fun t=>!UT hh t:=by
     rw [<- hd,Zbs (p:=fun t=>!UT hh t)]
    have hDm:(d.filter fun x=>!UT hh (x.val:Int)).length<=m:=by rw [<- hdl]; exact ZbU _ _
    generalize (d.filter fun x=>!UT hh (x.val:Int))=D at hcon hL hDm
    generalize ((X1 g m).filter fun t=>!UT hh t)=l at hL ⊢
    refine hcon.mono ?_
    rintro e W' ⟨rfl,n,rfl⟩
    have hlen:l.length=D.length:=by rw [<- hL,List.length_map]
    have hfull:(D++List.replicate (m - D.length) (0:Fin 64)).map (fun x=>(x.val:Int))=l++List.replicate (m - D.length) 0:=by
     rw [List.map_append,hL,List.map_replicate]; rfl
    have hrp:=wA hB Ee (D++List.replicate (m - D.length) (0:Fin 64)).toArray (l++List.replicate (m - D.length) 0) (by simp [hlen]) (by simp [hlen]; omega)
     (fun i hi=>by rw [<- hfull]; exact arr64 _ (by rw [<- hfull,List.length_map] at hi; exact hi)) n #[] hlt
    rw [pD] at hrp
    obtain ⟨⟨r1,r2,r3⟩,r4⟩:=hrp
    have hlt':p.c < (putRow Ee (Sort.ahead W n) p.c p.base (D++List.replicate (m - D.length) (0:Fin 64)).toArray).heap.size:=by rw [size_putRow]; exact hlt
    refine ⟨ι.put σ.length ⟨p.c,p.base,l.length,p.cap,p.sz⟩,_,rfl,⟨⟨p.c,p.base,l.length,p.cap,p.sz⟩,cap,Inj.put_same _ _ _,by simp,by rw [hlen],rfl,hb0,hcp,by omega,hsz,by simp⟩,?_⟩
    change Post _ _ _ _ _ (putRow Ee (Sort.ahead W n) p.c p.base (D++List.replicate (m - D.length) (0:Fin 64)).toArray)
    refine TH hR hD hp hb rfl ⟨rfl,rfl,rfl,by rw [size_putRow]; exact Zcs _⟩ r4 (.inl rfl) hlt' ⟨rfl,fun i hi=>?_,fun _=>?_⟩
    ·have h0:=r2 i (by omega)
     rw [h0]
     have hi':i < l.length:=hi
     unfold EL
     rw [show Nat.blt i (l++List.replicate (m - D.length) (0:Int)).length=true from ZbN (by simp; omega),cond_true,ZbD,ZbF hi',<- ZbD]
    obtain ⟨x1,x2,x3⟩:=r3 rfl
    exact ⟨x1,by show l.length<=p.sz; omega,x3⟩
  cases h
 cases h
end
end Go.Proofs.YtlkighkfkdpncaaGreatDoor
namespace Go.Proofs.YtlkighkfkdpncaaGreatDoor
open Go Go.Am Go.RowKit Go.Sort Go.Lib
section
variable {σ σ':Heap} {args:List V} {v:V} {ι:Inj} {W:World} {av:List Value}
theorem grw_ok [Bas] (h:Ty args σ=some (v,σ')) (hR:RelW ι σ W) (hD:Dom ι σ) (hv:VRL ι args av) :
  Calls Tryz.prog 167 av.toArray W fun e W'=>∃ ι' v',e=.returned v'/\VR ι' v v'/\Post ι σ W ι' σ' W':=by
 unfold Ty at h
 split at h
 ·rename_i n
  split at h
  ·rename_i hn
   injection h with h
   injection h with h1 h2
   subst h1; subst h2
   simp only [VRL,VR,S.val] at hv
   obtain ⟨_,_,rfl,rfl,_,_,rfl,rfl,rfl⟩:=hv
   obtain ⟨m,rfl⟩:∃ m:Nat,n=m:=⟨n.toNat,by omega⟩
   have h169:(Tryz.laysGrow_ren).t 25=169:=rfl
   obtain ⟨i,zv,hi,hisz,hiby,hizero,hzv⟩:=wy (P:=Tryz.prog) (e:=169) (n:=2) (bytes:=16) (z:=.ints 2) (by kernel_rfl) (by kernel_rfl) (by kernel_rfl)
   have hzc:zv.cells.size=2:=by rw [<- Vu hzv]; rfl
   have hcon:=Any8.slices_Grow_grow Tryz.laysGrow i zv hi hizero (by omega) none 0 0 m [] W (Zcs _) (by omega) (by rw [hiby]; omega) (by omega) (by simp) (fun _=>rfl) (fun a e=>by cases e)
   refine Calls.mono hcon ?_
   rintro e W' ⟨rfl,rfl⟩
   have hge:=grownCap_ge W (0+m) 0 169
   refine ⟨ι.put σ.length ⟨W.heap.size,0,0,grownCap W (0+m) 0 169,grownCap W (0+m) 0 169*2⟩,_,rfl,⟨⟨W.heap.size,0,0,grownCap W (0+m) 0 169,grownCap W (0+m) 0 169*2⟩,_,Inj.put_same _ _ _,by simp,rfl,rfl,rfl,rfl,by omega,rfl,by simp⟩,?_⟩
   refine xO hR hD _ _ _ _ rfl (fun W' hw=>⟨rfl,fun i hi=>absurd hi (by simp),fun _=>⟨rfl,Zct _,_,_,hw,?_,trivial⟩⟩)
   have hge':m<=grownCap W m 0 169:=by simpa using hge
   simp [size_zeroCells,hzc,h169]
   omega
  cases h
 cases h
end
end Go.Proofs.YtlkighkfkdpncaaGreatDoor
namespace Go.Proofs.YtlkighkfkdpncaaGreatDoor
open Go Go.Am Go.RowKit Go.Sort Go.Lib
def or3M (a b c:Int):Int:=if a≠0 then a else if b≠0 then b else c
set_option maxHeartbeats 4000000 in
theorem or3 (a b c:Int) (B:Nat) (W:World) (h0:W.cell? ⟨B,0,none⟩=some (.int .i64 a)) (h1:W.cell? ⟨B,0+1,none⟩=some (.int .i64 b)) (h2:W.cell? ⟨B,0+2,none⟩=some (.int .i64 c)) :
  Calls Tryz.prog 161 #[.slice (some ⟨B,0,none⟩) 3 3] W fun e w'=>e=.returned (.int .i64 (or3M a b c))/\w'=W:=by
 unfold or3M
 go_enter Tryz.func161,Tryz.ntmps161
 go_wp2
 go_loop [8] (fun i=>∃ k:Nat,k<=3/\i=.int .i64 k/\(0 < k->a=0)/\(1 < k->b=0)/\(2 < k->c=0)) (fun i=>3 - (intOf i).toNat)
 case atStart=>exact ⟨0,by omega,rfl,by omega,by omega,by omega⟩
 case round =>
  obtain ⟨k,hk,rfl,k0,k1,k2⟩:=hrel
  obtain rfl | rfl | rfl | rfl:k=0\/k=1\/k=2\/k=3:=by omega
  ·by_cases e:a=0
   ·go_wp2
    all_goals exact ⟨⟨1,by omega,rfl,fun _=>e,by omega,by omega⟩,by simp [intOf]⟩
   go_wp2
   all_goals (go_ret; exact ⟨by simp [*],rfl⟩)
  ·have k0:=k0 (by omega)
   subst k0
   by_cases e:b=0
   ·go_wp2
    all_goals exact ⟨⟨2,by omega,rfl,by simp,fun _=>e,by omega⟩,by simp [intOf]⟩
   go_wp2
   all_goals (go_ret; exact ⟨by simp [*],rfl⟩)
  ·have k0:=k0 (by omega)
   have k1:=k1 (by omega)
   subst k0; subst k1
   by_cases e:c=0
   ·go_wp2
    all_goals exact ⟨⟨3,by omega,rfl,by simp,by simp,fun _=>e⟩,by simp [intOf]⟩
   go_wp2
   all_goals (go_ret; exact ⟨by simp [*],rfl⟩)
  have k0:=k0 (by omega)
  have k1:=k1 (by omega)
  have k2:=k2 (by omega)
  subst k0; subst k1; subst k2
  go_wp2
  all_goals (go_ret; exact ⟨rfl,rfl⟩)
end Go.Proofs.YtlkighkfkdpncaaGreatDoor
namespace Go.Proofs.YtlkighkfkdpncaaGreatDoor
open Go Go.Am Go.RowKit Go.Sort Go.Lib
theorem jd {P:Program} {id:Nat} {Q:Exit->Act->World->Prop} {a:Act} {w W3:World} {l:List Oper} (n:Nat) (hm:P.follows .mixedOrders=true) (hB:Region.lexTailB .any l.toArray n=true) (hw:W3=w.drew)
  (h:wpStill P l.toArray W3 (fun a'=>wpList P l.toArray Q (l.drop n) a' W3) (l.take n) a):(Code.region id l.toArray true).wp P Q a w:=by
 subst hw
 exact wp_region_still_tail n hm hB h
def TX (m:Mv):List Value:=[.int .i64 m.1,.int .i64 m.2.1,.int .i64 m.2.2]
def wu (x y:Mv):Int:=or3M (Lib.compareInt x.1 y.1) (Lib.compareInt x.2.1 y.2.1) (Lib.compareInt x.2.2 y.2.2)
set_option maxRecDepth 100000 in
set_option maxHeartbeats 1000000 in
theorem rF (x y:Mv) (W:World):Calls Tryz.prog 129 #[.agg (TX x).toArray,.agg (TX y).toArray] W fun e w'=>e=.returned (.int .i64 (wu x y))/\∃ q os',w'=grow (W.drewN q) os':=by
 obtain ⟨a,b,c⟩:=x
 obtain ⟨a',b',c'⟩:=y
 have hc:=fun (x y:Int) (W':World)=>AnyG.cmp_Compare_int Tryz.laysCmp x y W'
 have hk:=fun (x y:Int) (W':World)=>AnyG.cmp_Compare_int Tryz.laysCmpK x y W'
 change ∀ x y W',Calls Tryz.prog 162 _ _ _ at hc
 change ∀ x y W',Calls Tryz.prog 163 _ _ _ at hk
 show Calls _ _ #[.agg #[.int .i64 a,.int .i64 b,.int .i64 c],.agg #[.int .i64 a',.int .i64 b',.int .i64 c']] _ _
 unfold wu
 go_enter Tryz.func129,Tryz.ntmps129
 go_wp2
 obtain ⟨W3,hW3⟩:∃ W3,W3=((W.alloc (Obj.cells #[Value.int IntKind.i64 a,Value.int IntKind.i64 b,Value.int IntKind.i64 c] 31)).alloc (Obj.cells #[Value.int IntKind.i64 a',Value.int IntKind.i64 b',Value.int IntKind.i64 c'] 31)).drew:=⟨_,rfl⟩
 have c0:W3.cell? ⟨W.heap.size,0,none⟩=some (.int .i64 a):=by subst hW3; simp
 have c1:W3.cell? ⟨W.heap.size,1,none⟩=some (.int .i64 b):=by subst hW3; simp
 have c2:W3.cell? ⟨W.heap.size,2,none⟩=some (.int .i64 c):=by subst hW3; simp
 have d0:W3.cell? ⟨W.heap.size+1,0,none⟩=some (.int .i64 a'):=by subst hW3; simp
 have d1:W3.cell? ⟨W.heap.size+1,1,none⟩=some (.int .i64 b'):=by subst hW3; simp
 have d2:W3.cell? ⟨W.heap.size+1,2,none⟩=some (.int .i64 c'):=by subst hW3; simp
 refine jd 15 (by kernel_rfl) (by kernel_rfl) hW3 ?_
 simp only [List.take_succ_cons,List.take_zero,List.drop_succ_cons,List.drop_zero]
 repeat still_step
 still_call (hc _ _ _)
 repeat still_step
 still_call (hc _ _ _)
 repeat still_step
 still_call (hk _ _ _)
 repeat still_step
 refine wpStill_nil ?_
 clear hc hk c0 c1 c2 d0 d1 d2
 have hsz:W3.heap.size=W.heap.size+2:=by subst hW3; simp
 have HW:Hid (W3=((W.alloc (Obj.cells #[Value.int IntKind.i64 a,Value.int IntKind.i64 b,Value.int IntKind.i64 c] 31)).alloc (Obj.cells #[Value.int IntKind.i64 a',Value.int IntKind.i64 b',Value.int IntKind.i64 c'] 31)).drew):=hW3
 clear hW3 hsz
 generalize hp:Lib.compareInt a a'=p
 generalize hq:Lib.compareInt b b'=q
 generalize hr:Lib.compareInt c c'=r
 go_wp2_with (go_at_call 161; refine (or3 p q r W3.heap.size (W3.alloc (Obj.cells #[Value.int IntKind.i64 p,Value.int IntKind.i64 q,Value.int IntKind.i64 r] 3)) (by simp) (by simp) (by simp)).mono ?_; rintro e w' ⟨rfl,rfl⟩)
 go_ret
 subst hp; subst hq; subst hr
 refine ⟨rfl,1,#[Obj.cells #[Value.int IntKind.i64 a,Value.int IntKind.i64 b,Value.int IntKind.i64 c] 31,Obj.cells #[Value.int IntKind.i64 a',Value.int IntKind.i64 b',Value.int IntKind.i64 c'] 31,Obj.cells #[Value.int IntKind.i64 (Lib.compareInt a a'),Value.int IntKind.i64 (Lib.compareInt b b'),Value.int IntKind.i64 (Lib.compareInt c c')] 3],?_⟩
 rw [HW.out,alloc_eq_grow,alloc_eq_grow,alloc_eq_grow,grow_grow,drew_grow,grow_grow]
 rfl
end Go.Proofs.YtlkighkfkdpncaaGreatDoor
namespace Go.Proofs.YtlkighkfkdpncaaGreatDoor
open Go Go.Am Go.RowKit Go.Sort Go.Lib Go.Shelf
set_option maxHeartbeats 2000000 in
theorem ins_nil (fv:Value) (W:World):Calls Tryz.prog 176 #[.slice none 0 0,.int .i64 0,.int .i64 0,fv] W fun e w'=>e=.returned (.tuple #[])/\w'=W:=by
 go_enter Tryz.func176,Tryz.ntmps176
 go_wp2
 refine wp_loop_rounds 1 ?_
 rw [rounds_succ]
 go_wp2
 go_end0
 exact ⟨rfl,rfl⟩
set_option maxHeartbeats 2000000 in
theorem pdq_nil (lim:Int) (fv:Value) (W:World):Calls Tryz.prog 159 #[.slice none 0 0,.int .i64 0,.int .i64 0,.int .i64 lim,fv] W fun e w'=>e=.returned (.tuple #[])/\w'=W:=by
 have hi:=fun W=>ins_nil fv W
 go_enter Tryz.func159,Tryz.ntmps159
 go_wp2
 refine wp_loop_rounds 1 ?_
 rw [rounds_succ]
 go_wp2_with (go_at_call 176; refine (hi _).mono ?_; rintro e w' ⟨rfl,rfl⟩)
 (try simp only [Exit.inBlock,Exit.then]); refine bodyPost_ret (results_none rfl _ _ _) rfl ?_
 exact ⟨rfl,rfl⟩
set_option maxHeartbeats 2000000 in
theorem Zag (fv:Value) (W:World):Calls Tryz.prog 128 #[.slice none 0 0,fv] W fun e w'=>e=.returned (.tuple #[])/\w'=W:=by
 have hp:=fun lim W=>pdq_nil lim fv W
 have hl:∀ W,Calls Tryz.prog 160 #[.int .u64 0] W fun e w'=>e=.returned (.int .i64 (Lib.bitLen 0:Nat))/\w'=W:=fun W=>by
  have h:=Any.bits_Len (SlLaysF0.n15.bits (P:=Tryz.prog) (ρ:=Tryz.laysSF_ren) { Tryz.laysSF with }) 0 W (by omega) (by omega)
  exact h
 go_enter Tryz.func128,Tryz.ntmps128
 go_wp2_with (first | (go_at_call 160; refine (hl _).mono ?_; rintro e w' ⟨rfl,rfl⟩) | (go_at_call 159; refine (hp _ _).mono ?_; rintro e w' ⟨rfl,rfl⟩))
 go_end0
 exact ⟨rfl,rfl⟩
open Go Go.Am
def ofL (x:Int):List S:=if 0<=x/\x < 64 then [.int .i64 (x % 8),.int .i64 (x / 8),.bool true] else [.int .i64 (-1),.int .i64 (-1),.bool false]
theorem gi (x:Int):WR AM 49 [.s (.int .i64 x)] [] (fun v _ _=>v=.agg 3 (lc (ofL x))):=by
 refine YL (a:=a49) rfl rfl (YI _) (ZQ rfl) (m:=0) rfl (Ze (Dx rfl (Yc (Ye (Ze (Zj rfl (Zr rfl (Zk rfl (Ys (t:=5) rfl (fun h1=>?_) (fun h1=>?_)))))))))) <;> simp only [NM] at h1
 ·refine ZD rfl (Zq rfl (Yc (ZA rfl (Ze (YB rfl (.one rfl (.one rfl .nil)) (Kh rfl rfl (.part (v:=.agg _ _) (ys:=[_,_,_]) rfl rfl rfl rfl .nil) (Qu (v:=.agg _ _) rfl rfl rfl rfl rfl (V8 (ys:=[_,_,_]) rfl rfl) .here (Yc (Yi (⟨_,XM rfl rfl ZM (YW),?_⟩))))))))))
  (rw [show ofL x=[.int .i64 (-1),.int .i64 (-1),.bool false] from Zcz (by omega)]; rfl)
 refine Yb rfl (Zj rfl (Yb rfl (Zr rfl (Zq rfl (Yc (Yj rfl (fun h2=>?_) (fun h2=>?_))))))) <;> simp only [NM] at h2
 ·refine Ze (YB rfl (.one rfl (.one rfl .nil)) (Kh rfl rfl (.part (v:=.agg _ _) (ys:=[_,_,_]) rfl rfl rfl rfl .nil) (Qu (v:=.agg _ _) rfl rfl rfl rfl rfl (V8 (ys:=[_,_,_]) rfl rfl) .here (Yc (Yi (⟨_,XM rfl rfl ZM (YW),?_⟩))))))
  (rw [show ofL x=[.int .i64 (-1),.int .i64 (-1),.bool false] from Zcz (by omega)]; rfl)
 refine Yh (Ze (Zj rfl (Zv rfl rfl (Zj rfl (Zu rfl rfl (YB rfl (.one rfl (.one rfl .nil)) (Kh rfl rfl (.part (v:=.agg _ _) (ys:=[_,_,_]) rfl rfl rfl rfl (.part (v:=.s (.bool _)) (ys:=[_,_,_]) rfl rfl rfl rfl .nil)) (Qu (v:=.agg _ _) rfl rfl rfl rfl rfl (V8 (ys:=[_,_,_]) rfl rfl) .here (Yc (Yi (⟨_,XM rfl rfl ZM (YW),?_⟩)))))))))))
 (rw [show ofL x=[.int .i64 (x % 8),.int .i64 (x / 8),.bool true] from ZcA (by omega)]; rfl)
theorem xg (x:Int) (h:0<=x/\x < 64):RF AM 49 [.s (.int .i64 x)] (.agg 3 (lc [.int .i64 (x % 8),.int .i64 (x / 8),.bool true])):=by
 have:=YP (gi x)
 rw [ofL,ZcA h] at this
 exact this
open Go Go.Am
theorem Dg (x:Int) (h:¬ (0<=x/\x < 64)):RF AM 49 [.s (.int .i64 x)] (.agg 3 (lc [.int .i64 (-1),.int .i64 (-1),.bool false])):=by
 have:=YP (gi x)
 rw [ofL,Zcz h] at this
 exact this
def zy (x:Int):Int:=if 0<=x/\x < 64 then x % 8 else -1
def Wh (x:Int):Int:=if 0<=x/\x < 64 then x / 8 else -1
def isM (x:Int):Bool:=decide (0<=x/\x < 64)
def atM (a b:Int):Int:=if 0<=a/\a < 8/\0<=b/\b < 8 then b*8+a else -1
theorem File_in (x:Int) (h:0<=x/\x < 64):WR AM 87 [.s (.int .i64 x)] [] (fun v _ _=>v=.s (.int .i64 (zy x))):=by
 refine YL (a:=a87) rfl rfl (YI _) (ZQ rfl) (m:=0) rfl (Ze (Yq rfl (Zf (Zj rfl (Yt rfl (xg _ h) rfl rfl rfl (zm rfl rfl (JV (a:=.int _ _) rfl rfl rfl (Zj rfl (Yc (Yi (⟨_,YH (v:=_) rfl (YW),?_⟩)))))))))))
 rw [zy,ZcA h]; rfl
theorem Zat (x:Int) (h:¬ (0<=x/\x < 64)):WR AM 87 [.s (.int .i64 x)] [] (fun v _ _=>v=.s (.int .i64 (zy x))):=by
 refine YL (a:=a87) rfl rfl (YI _) (ZQ rfl) (m:=0) rfl (Ze (Yq rfl (Zf (Zj rfl (Yt rfl (Dg _ h) rfl rfl rfl (zm rfl rfl (JV (a:=.int _ _) rfl rfl rfl (Zj rfl (Yc (Yi (⟨_,YH (v:=_) rfl (YW),?_⟩)))))))))))
 rw [zy,Zcz h]; rfl
theorem Za8 (x:Int):RF AM 87 [.s (.int .i64 x)] (.s (.int .i64 (zy x))):=by
 by_cases h:0<=x/\x < 64
 ·exact YP (File_in x h)
 exact YP (Zat x h)
theorem Rank_in (x:Int) (h:0<=x/\x < 64):WR AM 84 [.s (.int .i64 x)] [] (fun v _ _=>v=.s (.int .i64 (Wh x))):=by
 refine YL (a:=a84) rfl rfl (YI _) (ZQ rfl) (m:=0) rfl (Ze (Yq rfl (Zf (Zj rfl (Yt rfl (xg _ h) rfl rfl rfl (zm rfl rfl (JV (a:=.int _ _) rfl rfl rfl (Zj rfl (Yc (Yi (⟨_,YH (v:=_) rfl (YW),?_⟩)))))))))))
 rw [Wh,ZcA h]; rfl
theorem g7 (x:Int) (h:¬ (0<=x/\x < 64)):WR AM 84 [.s (.int .i64 x)] [] (fun v _ _=>v=.s (.int .i64 (Wh x))):=by
 refine YL (a:=a84) rfl rfl (YI _) (ZQ rfl) (m:=0) rfl (Ze (Yq rfl (Zf (Zj rfl (Yt rfl (Dg _ h) rfl rfl rfl (zm rfl rfl (JV (a:=.int _ _) rfl rfl rfl (Zj rfl (Yc (Yi (⟨_,YH (v:=_) rfl (YW),?_⟩)))))))))))
 rw [Wh,Zcz h]; rfl
theorem KG (x:Int):RF AM 84 [.s (.int .i64 x)] (.s (.int .i64 (Wh x))):=by
 by_cases h:0<=x/\x < 64
 ·exact YP (Rank_in x h)
 exact YP (g7 x h)
theorem Is_in (x:Int) (h:0<=x/\x < 64):WR AM 74 [.s (.int .i64 x)] [] (fun v _ _=>v=.s (.bool (isM x))):=by
 refine YL (a:=a74) rfl rfl (YI _) (ZQ rfl) (m:=0) rfl (Ze (Yq rfl (Zf (Zj rfl (Yt rfl (xg _ h) rfl rfl rfl (JV (a:=.bool _) rfl rfl rfl (Yq (v:=.s _) rfl (Yc (Yi (⟨_,YH (v:=_) rfl (YW),?_⟩))))))))))
 rw [isM,Zcl h]; rfl
theorem Is_out (x:Int) (h:¬ (0<=x/\x < 64)):WR AM 74 [.s (.int .i64 x)] [] (fun v _ _=>v=.s (.bool (isM x))):=by
 refine YL (a:=a74) rfl rfl (YI _) (ZQ rfl) (m:=0) rfl (Ze (Yq rfl (Zf (Zj rfl (Yt rfl (Dg _ h) rfl rfl rfl (JV (a:=.bool _) rfl rfl rfl (Yq (v:=.s _) rfl (Yc (Yi (⟨_,YH (v:=_) rfl (YW),?_⟩))))))))))
 rw [isM,Zci h]; rfl
theorem U4 (x:Int):RF AM 74 [.s (.int .i64 x)] (.s (.bool (isM x))):=by
 by_cases h:0<=x/\x < 64
 ·exact YP (Is_in x h)
 exact YP (Is_out x h)
theorem kD {A:AP} {N:Nat} {f:FE} {n:Nat} {L:HA} {K:KN} {Zp:V->KN} {l:List I} {d:Nat} {kd kd':IntKind} {x:O} {a:Int} (hx:x.fv N f=.s (.int kd' a)) (k:WO A N l (upd f d (.s (.int kd (kd.wrap a)))) n L K Zp):WO A N (⟨some d,none,.p (.conv kd x)⟩::l) f n L K Zp :=
 Va (v:=.s (.int kd (kd.wrap a))) (by simp only [YY,Y2,hx]) k
theorem zL {a:Int} (h:-9223372036854775808<=a/\a<=9223372036854775807):IntKind.u64.wrap a < 8↔0<=a/\a < 8:=by
 rw [IntKind.wrap_u64]
 omega
theorem atM_bd (a b:Int):-1<=atM a b/\atM a b < 64:=by
 unfold atM
 split <;> omega
theorem y4 (P:Nat->Int) (ha:-9223372036854775808<=P 0/\P 0<=9223372036854775807) (hb:-9223372036854775808<=P 1/\P 1<=9223372036854775807):WR AM 134 [.agg 2 (ia P)] [] (fun v _ _=>v=.s (.bool (decide (0<=P 0/\P 0 < 8/\0<=P 1/\P 1 < 8)))):=by
 refine YL (a:=a134) rfl rfl (YI _) (ZQ rfl) (m:=0) rfl (Ze (YC rfl (Yq rfl (Zf (Zy rfl (Ym rfl rfl ZM rfl (kD rfl (Zr rfl (Zk rfl (Ys (t:=7) rfl (fun h1=>?_) (fun h1=>?_))))))))))) <;> simp only [NM] at h1
 ·refine Yb rfl (Zz rfl (Yb rfl (Ym rfl rfl ZM rfl (Yb rfl (kD rfl (Yb rfl (Zr rfl (Zq rfl (Zk rfl (Zg rfl (ZI ?_)))))))))))
  have e0:=zL ha
  have e1:=zL hb
  rw [Zce]
  simp only [Zb7,Zb1,Zcv]
  omega
 refine ZE rfl (Zq rfl (Zk rfl (Zg rfl (ZI ?_))))
 have e0:=zL ha
 have e1:=zL hb
 rw [Zce]
 simp only [Zb7,Zb1,Zcv]
 omega
theorem Jv (P:Nat->Int) (ha:-9223372036854775808<=P 0/\P 0<=9223372036854775807) (hb:-9223372036854775808<=P 1/\P 1<=9223372036854775807):WR AM 112 [.agg 2 (ia P)] [] (fun v _ _=>v=.s (.int .i64 (atM (P 0) (P 1)))):=by
 refine YL (a:=a112) rfl rfl (YI _) (ZQ rfl) (m:=0) rfl (Ze (YC rfl (Yq rfl (Yc (Ye (Ze (Yo rfl rfl ZM (Yt rfl (YP (y4 _ ha hb)) rfl rfl rfl (Yv (r:=.bool _) rfl rfl (Yc (Yj rfl (fun h2=>?_) (fun h2=>?_)))))))))))) <;> simp only [NM] at h2
 ·refine Ze (Yq rfl (Yc (Yi (⟨_,ZL rfl,?_⟩))))
  refine ZJ ?_
  unfold atM
  split <;> omega
 refine Yh (Ze (Zz rfl (Ym rfl rfl ZM rfl (Wn rfl rfl (by omega) (Zy rfl (Ym rfl rfl ZM rfl (Zs rfl rfl (Zj rfl (Yc (Yi (⟨_,ZL rfl,?_⟩)))))))))))
 refine ZJ ?_
 unfold atM
 split <;> omega
theorem At_run (a b:Int) (ha:-9223372036854775808<=a/\a<=9223372036854775807) (hb:-9223372036854775808<=b/\b<=9223372036854775807):WR AM 86 [.s (.int .i64 a),.s (.int .i64 b)] [] (fun v _ _=>v=.s (.int .i64 (atM a b))):=by
 refine YL (a:=a86) rfl rfl (YI _) (ZQ rfl) (m:=0) rfl (Ze (Yq rfl (Zf (Zj rfl (Zj rfl (YB rfl (.one rfl (.one rfl .nil)) (Yt rfl (YP (Jv _ ha hb)) rfl rfl rfl (Zj rfl (Yc (Yi (⟨_,ZL rfl,?_⟩)))))))))))
 rfl
def XT (s:Int):Int:=if s=0 then 1 else 0
def Xm (k s:Int):Bool:=decide (1<=k/\k<=6/\(s=0\/s=1))
def JL (x:Int):Int:=(7 - x / 8)*8+x % 8
def sideT (k s:Int):Int:=if Xm k s=true then XT s else s
theorem Wb {P:Nat->Int} {o m:Nat} {Q:Nat->Int} {i:Nat} (h:i < o\/o+m<=i):ovA P o m Q i=P i:=by
 have e:(Nat.ble o i&&Nat.blt i (o+m))=false:=by
  cases h1:Nat.ble o i with
  | false=>rfl
  | true =>
   cases h2:Nat.blt i (o+m) with
   | false=>rfl
   | true =>
    have:=YF h1
    have:=YF h2
    omega
 show (bif Nat.ble o i&&Nat.blt i (o+m) then Q (i - o) else P i)=P i
 rw [e]; rfl
theorem X3 {P:Nat->Int} {o m:Nat} {Q:Nat->Int} {i:Nat} (h:o<=i/\i < o+m):ovA P o m Q i=Q (i - o):=by
 have e:(Nat.ble o i&&Nat.blt i (o+m))=true:=by
  rw [ZbN h.1,show Nat.blt i (o+m)=true from ZbN h.2]; rfl
 show (bif Nat.ble o i&&Nat.blt i (o+m) then Q (i - o) else P i)=Q (i - o)
 rw [e]; rfl
theorem VW (s:Int):WR AM 53 [.s (.int .i64 s)] [] (fun v _ _=>v=.s (.int .i64 (XT s))):=by
 refine YL (a:=a53) rfl rfl (YI _) (ZQ rfl) (m:=0) rfl (Ze (Yq rfl (Yc (Ye (Ze (Zj rfl (Zr rfl (Yc (Yj rfl (fun h3=>?_) (fun h3=>?_)))))))))) <;> simp only [NM] at h3
 ·refine Ze (Yq rfl (Yc (Yi (⟨_,ZL rfl,?_⟩))))
  (rw [show XT s=1 from ZcA (by omega)]; rfl)
 refine Yh (Ze (Yq rfl (Yc (Yi (⟨_,ZL rfl,?_⟩)))))
 (rw [show XT s=0 from Zcz (by omega)]; rfl)
theorem tB (P:Nat->Int):WR AM 149 [.agg 2 (ia P)] [] (fun v _ _=>v=.s (.bool (Xm (P 0) (P 1)))):=by
 refine YL (a:=a149) rfl rfl (YI _) (ZQ rfl) (m:=0) rfl (Ze (YC rfl (Yq rfl (Zf (Zy rfl (Ym rfl rfl ZM rfl (Zr rfl (Zk rfl (Ys (t:=6) rfl (fun h4=>?_) (fun h4=>?_)))))))))) <;> simp only [NM] at h4
 ·refine Yb rfl (Zy rfl (Yb rfl (Ym rfl rfl ZM rfl (Yb rfl (Zr rfl (Zq rfl (Zk rfl (Ys (t:=11) rfl (fun h5=>?_) (fun h5=>?_))))))))) <;> simp only [NM] at h5
  ·refine Yb rfl (Zz rfl (Yb rfl (Ym rfl rfl ZM rfl (Yb rfl (Zr rfl (Yb rfl (Zk rfl (Ys (t:=15) rfl (fun h6=>?_) (fun h6=>?_))))))))) <;> simp only [NM] at h6
   ·refine ZD rfl (ZC rfl (Yb rfl (Zq rfl (Zq rfl (Zk rfl (Zg rfl (ZI ?_)))))))
    unfold Xm
    rw [Zce]
    simp only [Zcu,Zb7,Zb1,Zcx,Zcv]
    omega
   refine Yb rfl (Zz rfl (Yb rfl (Ym rfl rfl ZM rfl (Yb rfl (Zr rfl (Yb rfl (Zq rfl (Zq rfl (Zk rfl (Zg rfl (ZI ?_)))))))))))
   unfold Xm
   rw [Zce]
   simp only [Zcu,Zb7,Zb1,Zcx,Zcv]
   omega
  refine ZE rfl (YJ rfl (YJ rfl (YJ rfl (ZC rfl (Zq rfl (Zk rfl (Zg rfl (ZI ?_))))))))
  unfold Xm
  rw [Zce]
  simp only [Zcu,Zb7,Zb1,Zcx,Zcv]
  omega
 refine ZD rfl (ZC rfl (Zq rfl (Zk rfl (ZE rfl (YJ rfl (YJ rfl (YJ rfl (ZC rfl (Zq rfl (Zk rfl (Zg rfl (ZI ?_))))))))))))
 unfold Xm
 rw [Zce]
 simp only [Zcu,Zb7,Zb1,Zcx,Zcv]
 omega
def castT (c:Int):Int:=if 0<=c/\c<=15 then c / 4+c % 4*4 else c
def overT (x:Int):Int:=if isM x=true then JL x else x
def acr (s:Nat):Nat:=(7 - s / 8)*8+s % 8
def Turned (P Q:Nat->Int) (i:Nat):Prop:=∀ s:Nat,s < i->Q (acr s*2)=P (s*2)/\Q (acr s*2+1)=sideT (P (s*2)) (P (s*2+1))
theorem XF {P:Nat->Int} {o i:Nat} {x:Int} (h:i≠o):ov P o x i=P i:=by
 have e:Nat.beq i o=false:=by
  cases hb:Nat.beq i o with
  | false=>rfl
  | true=>exact absurd (ZbR hb) h
 show (bif Nat.beq i o then x else P i)=P i
 rw [e]; rfl
structure TurnOf (P Q:Nat->Int):Prop where
 sq:Turned P Q 64
 side:Q 128=XT (P 128)
 castle:Q 129=castT (P 129)
 WE:Q 130=overT (P 130)
 half:Q 131=P 131
 full:Q 132=P 132
 out:∀ i,133<=i->Q i=0
open Go Go.Am
abbrev sqI (x:Int):Nat:=0+x.toNat*2
theorem Uw {P Q X Y:Nat->Int} {o m:Nat} {n:Nat} (h:∀ i,i < n->P i=Q i) (hx:∀ j,j < m->X j=Y j):∀ i,i < n->ovA P o m X i=ovA Q o m Y i:=by
 intro i hi
 by_cases k:o<=i/\i < o+m
 ·rw [X3 k,X3 k]; exact hx _ (by omega)
 rw [Wb (by omega),Wb (by omega)]; exact h i hi
theorem sT (s:Int):WR AM 33 [.s (.int .i64 s)] [] (fun v _ _=>v=.s (.int .i64 (XT s))):=by
 refine YL (a:=a33) rfl rfl (YI _) (ZQ rfl) (m:=0) rfl (Ze (Yq rfl (Yc (Ye (Ze (Zj rfl (Zr rfl (Yc (Yj rfl (fun h1=>?_) (fun h1=>?_)))))))))) <;> simp only [NM] at h1
 ·refine Ze (Yq rfl (Yc (Yi (⟨_,ZL rfl,?_⟩))))
  (rw [show XT s=1 from ZcA (by omega)]; rfl)
 refine Yh (Ze (Yq rfl (Yc (Yi (⟨_,ZL rfl,?_⟩)))))
 (rw [show XT s=0 from Zcz (by omega)]; rfl)
theorem ZaP (P:Nat->Int):WR AM 95 [.agg 2 (ia P)] [] (fun v _ _=>v=.s (.bool (Xm (P 0) (P 1)))):=by
 refine YL (a:=a95) rfl rfl (YI _) (ZQ rfl) (m:=0) rfl (Ze (YC rfl (Yq rfl (Zf (Zy rfl (Ym rfl rfl ZM rfl (Zr rfl (Zk rfl (Ys (t:=6) rfl (fun h2=>?_) (fun h2=>?_)))))))))) <;> simp only [NM] at h2
 ·refine Yb rfl (Zy rfl (Yb rfl (Ym rfl rfl ZM rfl (Yb rfl (Zr rfl (Zq rfl (Zk rfl (Ys (t:=11) rfl (fun h3=>?_) (fun h3=>?_))))))))) <;> simp only [NM] at h3
  ·refine Yb rfl (Zz rfl (Yb rfl (Ym rfl rfl ZM rfl (Yb rfl (Zr rfl (Yb rfl (Zk rfl (Ys (t:=15) rfl (fun h4=>?_) (fun h4=>?_))))))))) <;> simp only [NM] at h4
   ·refine ZD rfl (ZC rfl (Yb rfl (Zq rfl (Zq rfl (Zk rfl (Zg rfl (ZI ?_)))))))
    rw [Zce]
    simp only [Zcu,bne_iff_ne,ne_eq,Zb7,Zb1,Zcx,Zcv,gt_iff_lt,ge_iff_le,isM,Xm,Bool.true_eq_false,Zcy,Zcw]
    omega
   refine Yb rfl (Zz rfl (Yb rfl (Ym rfl rfl ZM rfl (Yb rfl (Zr rfl (Yb rfl (Zq rfl (Zq rfl (Zk rfl (Zg rfl (ZI ?_)))))))))))
   rw [Zce]
   simp only [Zcu,bne_iff_ne,ne_eq,Zb7,Zb1,Zcx,Zcv,gt_iff_lt,ge_iff_le,isM,Xm,Bool.true_eq_false,Zcy,Zcw]
   omega
  refine ZE rfl (YJ rfl (YJ rfl (YJ rfl (ZC rfl (Zq rfl (Zk rfl (Zg rfl (ZI ?_))))))))
  rw [Zce]
  simp only [Zcu,bne_iff_ne,ne_eq,Zb7,Zb1,Zcx,Zcv,gt_iff_lt,ge_iff_le,isM,Xm,Bool.true_eq_false,Zcy,Zcw]
  omega
 refine ZD rfl (ZC rfl (Zq rfl (Zk rfl (ZE rfl (YJ rfl (YJ rfl (YJ rfl (ZC rfl (Zq rfl (Zk rfl (Zg rfl (ZI ?_))))))))))))
 rw [Zce]
 simp only [Zcu,bne_iff_ne,ne_eq,Zb7,Zb1,Zcx,Zcv,gt_iff_lt,ge_iff_le,isM,Xm,Bool.true_eq_false,Zcy,Zcw]
 omega
def YT (s f r:Int):Int:=if (0<=s/\s < 64)/\(-8 < f/\f < 8)/\(-8 < r/\r < 8) then atM (s % 8+f) (s / 8+r) else -1
theorem V9 (s f r:Int):-1<=YT s f r/\YT s f r < 64:=by
 unfold YT
 split
 ·exact atM_bd _ _
 omega
def onM (s f r:Int):Nat->Int:=if (0<=s/\s < 64)/\(-8 < f/\f < 8)/\(-8 < r/\r < 8) then (fun i=>if i=0 then s % 8+f else if i=1 then s / 8+r else 0) else (fun i=>if i=0 then -1 else if i=1 then -1 else 0)
theorem Dj {x y:Int}:ovA (fun _=>0) 0 2 (ov (ov (fun _=>0) 0 x) 1 y)=fun i=>if i=0 then x else if i=1 then y else 0:=by
 funext i
 by_cases h0:i=0
 ·subst h0; rfl
 by_cases h1:i=1
 ·subst h1; rfl
 rw [Wb (by omega),Zcz h0,Zcz h1]
theorem on_in (s f r:Int) (h:0<=s/\s < 64):WR AM 172 [.agg 3 (lc [.int .i64 (s % 8),.int .i64 (s / 8),.bool true]),.s (.int .i64 f),.s (.int .i64 r)] [] (fun v _ _=>v=.agg 2 (ia (onM s f r))):=by
 refine YL (a:=a172) rfl rfl (YI _) (ZQ rfl) (m:=0) rfl (Ze (YC rfl (Yy (Yc (Ye (Ze (Yd (o':=2) rfl rfl rfl (Yn (x:=.bool _) rfl rfl ZN rfl (Yv (r:=.bool _) rfl rfl (Zk rfl (Yb rfl (Zj rfl (Yb rfl (Zj rfl (Yb rfl (WO_mx2 rfl rfl (Yb rfl (Zr rfl (Zq rfl (Zk rfl (Ys (t:=16) rfl (fun h5=>?_) (fun h5=>?_)))))))))))))))))))))) <;> simp only [NM] at h5
 ·refine ZE rfl (Zq rfl (Yc (ZA rfl (Ze (YB rfl (.one rfl (.one rfl .nil)) (Yz rfl rfl rfl rfl .here (Yc (Yi (⟨_,XM rfl rfl ZM (YW),?_⟩)))))))))
  refine congrArg (fun g=>V.agg 2 (ia g)) ?_
  rw [Dj]
  exact (Zcz (fun q=>by omega)).symm
 refine Yb rfl (Zj rfl (Yb rfl (Zj rfl (Yb rfl (Dw rfl rfl (Yb rfl (Zr rfl (Zq rfl (Yc (Yj rfl (fun h6=>?_) (fun h6=>?_))))))))))) <;> simp only [NM] at h6
 ·refine Ze (YB rfl (.one rfl (.one rfl .nil)) (Yz rfl rfl rfl rfl .here (Yc (Yi (⟨_,XM rfl rfl ZM (YW),?_⟩)))))
  refine congrArg (fun g=>V.agg 2 (ia g)) ?_
  rw [Dj]
  exact (Zcz (fun q=>by omega)).symm
 refine Yh (Ze (Zy rfl (Zy rfl (Yn (x:=.int _ _) rfl rfl ZN rfl (Zj rfl (Zs rfl rfl (Zy rfl (Zz rfl (Yn (x:=.int _ _) rfl rfl ZN rfl (Zj rfl (Zs rfl rfl (YB rfl (.one rfl (.one rfl .nil)) (Yz rfl rfl rfl rfl .here (Yc (Yi (⟨_,XM rfl rfl ZM (YW),?_⟩))))))))))))))))
 refine congrArg (fun g=>V.agg 2 (ia g)) ?_
 rw [Dj]
 exact (ZcA ⟨h,by omega,by omega⟩).symm
theorem on_out (s f r:Int) (h:¬ (0<=s/\s < 64)):WR AM 172 [.agg 3 (lc [.int .i64 (-1),.int .i64 (-1),.bool false]),.s (.int .i64 f),.s (.int .i64 r)] [] (fun v _ _=>v=.agg 2 (ia (onM s f r))):=by
 refine YL (a:=a172) rfl rfl (YI _) (ZQ rfl) (m:=0) rfl (Ze (YC rfl (Yy (Yc (Ye (Ze (Yd (o':=2) rfl rfl rfl (Yn (x:=.bool _) rfl rfl ZN rfl (Yv (r:=.bool _) rfl rfl (Zk rfl (ZE rfl (Zq rfl (Zk rfl (ZE rfl (Zq rfl (Yc (ZA rfl (Ze (YB rfl (.one rfl (.one rfl .nil)) (Yz rfl rfl rfl rfl .here (Yc (Yi (⟨_,XM rfl rfl ZM (YW),?_⟩)))))))))))))))))))))))
 refine congrArg (fun g=>V.agg 2 (ia g)) ?_
 rw [Dj]
 exact (Zcz (fun q=>by omega)).symm
theorem xj (s:Int) {f r:Int} (i:Nat):-9223372036854775808<=onM s f r i/\onM s f r i<=9223372036854775807:=by
 unfold onM
 split
 ·dsimp only; split
  ·omega
  split <;> omega
 dsimp only; split
 ·omega
 split <;> omega
theorem pH (s f r:Int):atM (onM s f r 0) (onM s f r 1)=YT s f r:=by
 unfold onM YT
 by_cases h:(0<=s/\s < 64)/\(-8 < f/\f < 8)/\(-8 < r/\r < 8)
 ·rw [ZcA h,ZcA h]; rfl
 rw [Zcz h,Zcz h]; rfl
theorem Step_in (s f r:Int) (h:0<=s/\s < 64):WR AM 152 [.s (.int .i64 s),.s (.int .i64 f),.s (.int .i64 r)] [] (fun v _ _=>v=.s (.int .i64 (YT s f r))):=by
 refine YL (a:=a152) rfl rfl (YI _) (ZQ rfl) (m:=0) rfl (Ze (Yq rfl (Zf (Zj rfl (Yt rfl (xg _ h) rfl rfl rfl (Zj rfl (Zj rfl (Yt rfl (YP (on_in _ _ _ h)) rfl rfl rfl (Yt rfl (YP (Jv _ (xj s 0) (xj s 1))) rfl rfl rfl (Zj rfl (Yc (Yi (⟨_,ZL rfl,?_⟩)))))))))))))
 exact congrArg (fun b=>V.s (S.int .i64 b)) (pH s f r)
theorem ZaN (s f r:Int) (h:¬ (0<=s/\s < 64)):WR AM 152 [.s (.int .i64 s),.s (.int .i64 f),.s (.int .i64 r)] [] (fun v _ _=>v=.s (.int .i64 (YT s f r))):=by
 refine YL (a:=a152) rfl rfl (YI _) (ZQ rfl) (m:=0) rfl (Ze (Yq rfl (Zf (Zj rfl (Yt rfl (Dg _ h) rfl rfl rfl (Zj rfl (Zj rfl (Yt rfl (YP (on_out _ _ _ h)) rfl rfl rfl (Yt rfl (YP (Jv _ (xj s 0) (xj s 1))) rfl rfl rfl (Zj rfl (Yc (Yi (⟨_,ZL rfl,?_⟩)))))))))))))
 exact congrArg (fun b=>V.s (S.int .i64 b)) (pH s f r)
theorem UC (s f r:Int):RF AM 152 [.s (.int .i64 s),.s (.int .i64 f),.s (.int .i64 r)] (.s (.int .i64 (YT s f r))):=by
 by_cases h:0<=s/\s < 64
 ·exact YP (Step_in s f r h)
 exact YP (ZaN s f r h)
def pickM (x n:Int):Int:=if x.tmod n < 0 then x.tmod n+n else x.tmod n
open Go Go.Am
def Xf (P:Nat->Int) (x:Int):Bool:=eqI 2 (dp P (sqI x)) (fun _=>0)
def pc (k c:Int):Nat->Int:=fun i=>if i=0 then k else c
def yW:Nat->Int:=fun _=>0
def atT (P:Nat->Int) (k a t:Int):Int:=if k=1/\t % 8≠a % 8/\t=P 130/\Xf P t=true then a / 8*8+t % 8 else t
def Y7 (P:Nat->Int) (k a t:Int):Int:=if Xf P (atT P k a t)=true then -1 else atT P k a t
def Y4 (c:Int):Int:=if c=0 then 1 else 4
def Y3 (k a t c C:Int):Int:=if k=6/\a=56*c+4/\t=a+2/\C / Y4 c % 2=1 then 1 else if k=6/\a=56*c+4/\t=a - 2/\C / (2*Y4 c) % 2=1 then -1 else 0
def W9 (k a t c:Int):Bool:=decide (k=1/\t % 8=a % 8/\a / 8=1+5*c/\t / 8=a / 8+2*(1 - 2*c))
def W7 (P:Nat->Int):Int:=if P 129 < 0\/15 < P 129 then 0 else P 129
def Xx (s:Int):Int:=if 4=s then 3 else if 7=s then 1 else if 0=s then 2 else if 60=s then 12 else if 63=s then 4 else if 56=s then 8 else 0
def orM (x y:Int):Int:=IntKind.i64.wrap (BitVec.ofInt 64 x ||| BitVec.ofInt 64 y).toNat
def KW (x y:Int):Int:=IntKind.i64.wrap (BitVec.ofInt 64 x &&& BitVec.ofInt 64 y).toNat
def VQ (x y:Int):Int:=IntKind.i64.wrap (BitVec.ofInt 64 x &&& ~~~(BitVec.ofInt 64 y)).toNat
def Qi (c s k:Int):Int:=if c / k % 2=1/\s / k % 2=0 then k else 0
def Vo (c s:Int):Int:=Qi c s 1+Qi c s 2+Qi c s 4+Qi c s 8
def XI (P:Nat->Int) (a t b:Int):Bool:=decide (1<=P (sqI a)/\P (sqI a)<=6/\P (sqI a+1)=P 128/\(P (sqI a+1)=0\/P (sqI a+1)=1)/\(if P (sqI a)=1/\t / 8=7*(1 - P (sqI a+1)) then 2<=b/\b<=5 else b=0))
def Wj (P:Nat->Int) (a t b:Int):Int:=if (0<=a/\a < 64)/\(0<=t/\t < 64)/\a≠t then (if XI P a t b=true then 0 else 8) else 6
def DM (P:Nat->Int) (w:Int):Nat->Int:=if 0<=w then ovA P (sqI w) 2 yW else P
def brd2 (P:Nat->Int) (w a:Int):Nat->Int:=ovA (DM P w) (sqI a) 2 yW
def EX (P:Nat->Int) (w a t k c b:Int):Nat->Int:=ovA (brd2 P w a) (sqI t) 2 (pc (if b=0 then k else b) c)
def VK (P:Nat->Int) (w a t k c b g:Int):Nat->Int :=
 if g=1 then ovA (ovA (EX P w a t k c b) (sqI (a+3)) 2 yW) (sqI (a+1)) 2 (pc 4 c)
 else if g=-1 then ovA (ovA (EX P w a t k c b) (sqI (a - 4)) 2 yW) (sqI (a - 1)) 2 (pc 4 c) else EX P w a t k c b
def Uz (k a t c:Int):Int:=if W9 k a t c=true then (a+t) / 2 else -1
def Ug (P:Nat->Int) (k w:Int):Int:=if k=1\/0<=w then 0 else IntKind.i64.wrap (min (P 131) 1023+1)
def QU (P:Nat->Int):Int:=if P 128=1 then IntKind.i64.wrap (min (P 132) 16383+1) else P 132
def Uq (P:Nat->Int) (k c a t b C:Int):Nat->Int:=fun i =>
 if i < 128 then VK P (Y7 P k a t) a t k c b (Y3 k a t c C) i else if i=128 then XT (P 128) else if i=129 then VQ C (orM (orM 0 (Xx a)) (Xx t))
 else if i=130 then Uz k a t c else if i=131 then Ug P k (Y7 P k a t) else if i=132 then QU P else 0
def XV (P:Nat->Int) (a t b:Int):Nat->Int:=if Wj P a t b=0 then Uq P (P (sqI a)) (P (sqI a+1)) a t b (W7 P) else fun _=>0
theorem UD {P:Nat->Int} {a t b:Int} (h:¬ ((0<=a/\a < 64)/\(0<=t/\t < 64)/\a≠t)):Wj P a t b=6:=Zcz h
theorem Wo {P:Nat->Int} {a t b:Int} (h:(0<=a/\a < 64)/\(0<=t/\t < 64)/\a≠t) (hc:XI P a t b=false):Wj P a t b=8:=by
 rw [Wj,ZcA h,hc]; rfl
theorem Vi {P:Nat->Int} {a t b:Int} (h:(0<=a/\a < 64)/\(0<=t/\t < 64)/\a≠t) (hc:XI P a t b=true):Wj P a t b=0:=by
 rw [Wj,ZcA h,hc]; rfl
theorem xE {P:Nat->Int} {k a t:Int} (ha:0<=a/\a < 64) (ht:0<=t/\t < 64):0<=atT P k a t/\atT P k a t < 64:=by
 unfold atT; split <;> omega
theorem VY {P:Nat->Int} {k a t:Int} (ha:0<=a/\a < 64) (ht:0<=t/\t < 64):-1<=Y7 P k a t/\Y7 P k a t < 64:=by
 have:=xE (P:=P) (k:=k) ha ht
 unfold Y7; split <;> omega
theorem gm {c:Int} (h:c=0\/c=1):Wc .shl (.int .i64 1) (.int .i64 (2*c))=some (.int .i64 (Y4 c)):=by
 rcases h with rfl | rfl <;> rfl
theorem oM {c:Int} (h:c=0\/c=1):Wc .shl (.int .i64 (Y4 c)) (.int .u64 1)=some (.int .i64 (2*Y4 c)):=by
 rcases h with rfl | rfl <;> rfl
theorem and_bit:∀ C:Fin 16,∀ s∈[1,2,4,8],(KW (C.val:Int) s≠0↔(C.val:Int) / s % 2=1):=by decide +kernel
theorem ka {C s:Int} (h:0<=C/\C<=15) (hs:s=1\/s=2\/s=4\/s=8):KW C s≠0↔C / s % 2=1:=by
 obtain ⟨n,rfl⟩:∃ n:Nat,C=n:=⟨C.toNat,by omega⟩
 exact and_bit ⟨n,by omega⟩ s (by simp; omega)
theorem uB (s:Int):Xx s∈[0,1,2,3,4,8,12]:=by
 unfold Xx
 repeat' split
 all_goals decide
theorem ua:∀ C:Fin 16,∀ x∈[0,1,2,3,4,8,12],∀ y∈[0,1,2,3,4,8,12],Vo (Vo (C.val:Int) x) y=VQ (C.val:Int) (orM (orM 0 x) y):=by decide +kernel
theorem sb {C:Int} (h:0<=C/\C<=15) (a t:Int):Vo (Vo C (Xx a)) (Xx t)=VQ C (orM (orM 0 (Xx a)) (Xx t)):=by
 obtain ⟨n,rfl⟩:∃ n:Nat,C=n:=⟨C.toNat,by omega⟩
 exact ua ⟨n,by omega⟩ _ (uB a) _ (uB t)
theorem KD (c s:Int) {k:Int} (hk:0<=k):0<=Qi c s k/\Qi c s k<=k:=by
 unfold Qi; split <;> omega
theorem zU (c s:Int):0<=Vo c s/\Vo c s<=15:=by
 have:=KD c s (k:=1) (by omega)
 have:=KD c s (k:=2) (by omega)
 have:=KD c s (k:=4) (by omega)
 have:=KD c s (k:=8) (by omega)
 unfold Vo; omega
theorem jR (s:Int):0<=Xx s/\Xx s<=15:=by
 unfold Xx
 repeat' split
 all_goals omega
theorem EO (P:Nat->Int):0<=W7 P/\W7 P<=15:=by
 unfold W7; split <;> omega
theorem xK {P:Nat->Int} {x:Int}:Xf P x=true↔P (sqI x)=0/\P (sqI x+1)=0:=by
 unfold Xf
 rw [Qo]
 constructor
 ·intro h; exact ⟨h 0 (by omega),h 1 (by omega)⟩
 rintro ⟨h0,h1⟩ i hi
 have:i=0\/i=1:=by omega
 rcases this with rfl | rfl
 ·exact h0
 exact h1
theorem Ti {P Q:Nat->Int} {x:Int} (hx:0<=x/\x < 64) (h:∀ i,i < 128->P i=Q i):Xf P x=Xf Q x:=by
 have e:sqI x+1 < 128:=by show 0+x.toNat*2+1 < 128; omega
 rw [Zce,xK,xK,h _ (by omega),h _ e]
theorem Zal {P Q:Nat->Int} {k a t:Int} (ht:0<=t/\t < 64) (h:∀ i,i < 128->P i=Q i) (h130:P 130=Q 130):atT P k a t=atT Q k a t:=by
 unfold atT
 rw [Ti ht h,h130]
theorem ye {P Q:Nat->Int} {k a t:Int} (ha:0<=a/\a < 64) (ht:0<=t/\t < 64) (h:∀ i,i < 128->P i=Q i) (h130:P 130=Q 130):Y7 P k a t=Y7 Q k a t:=by
 unfold Y7
 rw [Zal ht h h130,Ti (xE ha ht) h]
theorem wK {x:Int} (h:0<=x/\x < 64):RF AM 87 [.s (.int .i64 x)] (.s (.int .i64 (x % 8))):=by
 have:=Za8 x
 rw [zy,ZcA h] at this
 exact this
theorem TI {x:Int} (h:0<=x/\x < 64):RF AM 84 [.s (.int .i64 x)] (.s (.int .i64 (x / 8))):=by
 have:=KG x
 rw [Wh,ZcA h] at this
 exact this
theorem zo (x:Int):WR AM 57 [.s (.int .i64 x)] [] (fun v _ _=>v=.s (.bool (isM x))):=by
 refine YL (a:=a57) rfl rfl (YI _) (ZQ rfl) (m:=0) rfl (Ze (Yq rfl (Zf (Zj rfl (Zr rfl (Zk rfl (Ys (t:=5) rfl (fun h1=>?_) (fun h1=>?_)))))))) <;> simp only [NM] at h1
 ·refine Yb rfl (Zj rfl (Yb rfl (Zr rfl (Zq rfl (Zk rfl (Zg rfl (ZI ?_)))))))
  rw [Zce]
  simp only [Zcu,bne_iff_ne,ne_eq,Zb7,Zb1,Zcx,Zcv,gt_iff_lt,ge_iff_le,isM,Xm,W9,XI,Bool.true_eq_false,Zcy,Zcw]
  omega
 refine ZD rfl (Zq rfl (Zk rfl (Zg rfl (ZI ?_))))
 rw [Zce]
 simp only [Zcu,bne_iff_ne,ne_eq,Zb7,Zb1,Zcx,Zcv,gt_iff_lt,ge_iff_le,isM,Xm,W9,XI,Bool.true_eq_false,Zcy,Zcw]
 omega
theorem VG (P:Nat->Int):WR AM 63 [.agg 133 (ia P)] [] (fun v _ _=>v=.s (.int .i64 (W7 P))):=by
 refine YL (a:=a63) rfl rfl (YI _) (ZQ rfl) (m:=0) rfl (Ze (YC rfl (Yq rfl (Yc (Ye (Ze (Yd (o':=129) rfl rfl rfl (Ym rfl rfl ZM rfl (Zr rfl (Zk rfl (Ys (t:=6) rfl (fun h2=>?_) (fun h2=>?_)))))))))))) <;> simp only [NM] at h2
 ·refine ZD rfl (ZC rfl (Zq rfl (Yc (ZA rfl (Ze (Yq rfl (Yc (Yi (⟨_,ZL rfl,?_⟩)))))))))
  exact congrArg (fun b=>V.s (S.int .i64 b)) (ZcA (by omega)).symm
 refine Yb rfl (Yd (o':=129) rfl rfl rfl (Yb rfl (Ym rfl rfl ZM rfl (Yb rfl (Zr rfl (Zq rfl (Yc (Yj rfl (fun h3=>?_) (fun h3=>?_))))))))) <;> simp only [NM] at h3
 ·refine Ze (Yq rfl (Yc (Yi (⟨_,ZL rfl,?_⟩))))
  exact congrArg (fun b=>V.s (S.int .i64 b)) (ZcA (by omega)).symm
 refine Yh (Ze (Yd (o':=129) rfl rfl rfl (Ym rfl rfl ZM rfl (Zj rfl (Yc (Yi (⟨_,ZL rfl,?_⟩)))))))
 exact congrArg (fun b=>V.s (S.int .i64 b)) (Zcz (by omega)).symm
theorem w9 (s:Int):WR AM 64 [.s (.int .i64 s)] [] (fun v _ _=>v=.s (.int .i64 (Xx s))):=by
 refine YL (a:=a64) rfl rfl (YI _) (ZQ rfl) (m:=0) rfl (Ze (Yq rfl (Yc (Ye (Ze (Zj rfl (Yc (Yk (Ze (Zr rfl (Zk rfl (Yc (Yj rfl (fun h4=>?_) (fun h4=>?_)))))))))))))) <;> simp only [NM] at h4
 ·refine Ze (Yq rfl (Yc (Yi (⟨_,ZL rfl,?_⟩))))
  refine ZJ ?_
  unfold Xx
  repeat' split
  all_goals omega
 refine Ze (Zr rfl (Zk rfl (Yc (Yj rfl (fun h5=>?_) (fun h5=>?_))))) <;> simp only [NM] at h5
 ·refine Ze (Yq rfl (Yc (Yi (⟨_,ZL rfl,?_⟩))))
  refine ZJ ?_
  unfold Xx
  repeat' split
  all_goals omega
 refine Ze (Zr rfl (Zk rfl (Yc (Yj rfl (fun h6=>?_) (fun h6=>?_))))) <;> simp only [NM] at h6
 ·refine Ze (Yq rfl (Yc (Yi (⟨_,ZL rfl,?_⟩))))
  refine ZJ ?_
  unfold Xx
  repeat' split
  all_goals omega
 refine Ze (Zr rfl (Zk rfl (Yc (Yj rfl (fun h7=>?_) (fun h7=>?_))))) <;> simp only [NM] at h7
 ·refine Ze (Yq rfl (Yc (Yi (⟨_,ZL rfl,?_⟩))))
  refine ZJ ?_
  unfold Xx
  repeat' split
  all_goals omega
 refine Ze (Zr rfl (Zk rfl (Yc (Yj rfl (fun h8=>?_) (fun h8=>?_))))) <;> simp only [NM] at h8
 ·refine Ze (Yq rfl (Yc (Yi (⟨_,ZL rfl,?_⟩))))
  refine ZJ ?_
  unfold Xx
  repeat' split
  all_goals omega
 refine Ze (Zr rfl (Zk rfl (Yc (Yj rfl (fun h9=>?_) (fun h9=>?_))))) <;> simp only [NM] at h9
 ·refine Ze (Yq rfl (Yc (Yi (⟨_,ZL rfl,?_⟩))))
  refine ZJ ?_
  unfold Xx
  repeat' split
  all_goals omega
 refine Yh (Ze (Yq rfl (Yc (Yi (⟨_,ZL rfl,?_⟩)))))
 refine ZJ ?_
 unfold Xx
 repeat' split
 all_goals omega
def upM (c s k:Int):Int:=if k<=1 then 0 else if k<=2 then Qi c s 1 else if k<=4 then Qi c s 1+Qi c s 2 else if k<=8 then Qi c s 1+Qi c s 2+Qi c s 4 else Vo c s
theorem yV {c s k:Int} (h:k=1\/k=2\/k=4\/k=8):upM c s (2*k)=upM c s k+Qi c s k:=by
 rcases h with rfl | rfl | rfl | rfl <;> simp [upM,Vo]
theorem upM_bd (c s k:Int):0<=upM c s k/\upM c s k<=15:=by
 have:=KD c s (k:=1) (by omega)
 have:=KD c s (k:=2) (by omega)
 have:=KD c s (k:=4) (by omega)
 have:=zU c s
 unfold upM
 repeat' split
 all_goals omega
theorem yg (c s:Int) (hc:0<=c/\c<=15) (hs:0<=s/\s<=15):WR AM 62 [.s (.int .i64 c),.s (.int .i64 s)] [] (fun v _ _=>v=.s (.int .i64 (Vo c s))):=by
 refine YL (a:=a62) rfl rfl (YI _) (ZQ rfl) (m:=0) rfl (Ze (Yq rfl (Zf (Yq rfl (Yc (Ye (Ze (Yq rfl (Yc (Yk (Xo (L':=[]) .slnil (Xu (fun m f _ L=>∃ (k:Int),(k=1\/k=2\/k=4\/k=8\/k=16)/\(m=16 - k.toNat)/\(f 0=.s (.int .i64 c))/\(f 1=.s (.int .i64 s))/\(f 5=.s (.int .i64 (upM c s k)))/\(f 6=.s (.int .i64 k))/\(L=[])) (fun m f nb L hI=>?_) (15) ⟨1,by omega,rfl,rfl,rfl,rfl,rfl,rfl⟩))))))))))))
 obtain ⟨k,hk,hm,k0,k1,k5,k6,rfl⟩:=hI
 refine Za 0 k0 (Za 1 k1 (Za 5 k5 (Za 6 k6 ?_)))
 have hu:=upM_bd c s k
 have hq:0<=c / k:=Int.ediv_nonneg (by omega) (by omega)
 have hq2:0<=s / k:=Int.ediv_nonneg (by omega) (by omega)
 refine Ye (Ze (Zj rfl (Zr rfl (Yc (Yj rfl (fun h10=>?_) (fun h10=>?_)))))) <;> simp only [NM] at h10
 ·refine Yh (Ye (Yk (Ze (Zj rfl (Zj rfl (Zu rfl rfl (Zv rfl rfl (Zr rfl (Zk rfl (Ys (t:=16) rfl (fun h11=>?_) (fun h11=>?_))))))))))) <;> simp only [NM] at h11
  ·refine Yb rfl (Zj rfl (Yb rfl (Zj rfl (Yb rfl (Zu rfl rfl (Yb rfl (Zv rfl rfl (Yb rfl (Zr rfl (Zq rfl (Yc (Yj rfl (fun h12=>?_) (fun h12=>?_))))))))))))) <;> simp only [NM] at h12
   ·refine Yf (Zj rfl (Zj rfl (Zs rfl rfl (Zj rfl (Yc (Yf (Zj rfl (Wn rfl rfl (by omega) (Zj rfl (Yc (⟨16 - (2*k).toNat,_,by omega,.slnil,2*k,by omega,rfl,rfl,rfl,?_,rfl,rfl⟩)))))))))))
    rw [yV (by omega),Qi]
    (rw [ZcA (by omega)]; rfl)
   refine Yh (Yf (Zj rfl (Wn rfl rfl (by omega) (Zj rfl (Yc (⟨16 - (2*k).toNat,_,by omega,.slnil,2*k,by omega,rfl,rfl,rfl,?_,rfl,rfl⟩))))))
   rw [yV (by omega),Qi]
   (rw [Zcz (by omega),Int.add_zero]; rfl)
  refine ZE rfl (ZC rfl (Zq rfl (Yc (ZB rfl (Yh (Yf (Zj rfl (Wn rfl rfl (by omega) (Zj rfl (Yc (⟨16 - (2*k).toNat,_,by omega,.slnil,2*k,by omega,rfl,rfl,rfl,?_,rfl,rfl⟩)))))))))))
  rw [yV (by omega),Qi]
  (rw [Zcz (by omega),Int.add_zero]; rfl)
 refine Y0 (Xb (Ze (Zj rfl (Zj rfl (Yc (Yi (⟨_,ZL rfl,?_⟩)))))))
 obtain rfl:k=16:=by omega
 rfl
theorem kK (P m:Nat->Int) (ha:0<=m 0/\m 0 < 64) (ht:0<=m 1/\m 1 < 64):WR AM 58 [.agg 133 (ia P),.agg 3 (ia m)] [] (fun v _ _=>v=.s (.bool (XI P (m 0) (m 1) (m 2)))):=by
 refine YL (a:=a58) rfl rfl (YI _) (ZQ rfl) (m:=0) rfl (Ze (YC rfl (YC rfl (Yq rfl (Zf (Zy rfl (Ym rfl rfl ZM rfl (Zy rfl (Zw rfl rfl rfl (Yp rfl rfl ZN (Yy (Yz rfl rfl rfl rfl .here (Yc (Ye (Ze (Yo rfl rfl ZM (Yt rfl (show RF AM 95 _ (.s (.bool (Xm (P (sqI (m 0))) (P (sqI (m 0)+1))))) from YP (ZaP (ovA (fun _=>0) 0 2 (dp P (sqI (m 0)))))) rfl rfl rfl (Yv (r:=.bool _) rfl rfl (Zk rfl (Ys (t:=15) rfl (fun h13=>?_) (fun h13=>?_))))))))))))))))))))) <;> simp only [NM] at h13
 ·refine ZE rfl (ZC rfl (Zq rfl (Yc (ZA rfl (Ze (Yq rfl (Zg rfl (ZI ?_))))))))
  simp only [Xm,Zb7,ZbJ] at *
  unfold XI
  rw [Zce]
  simp only [Zcu,Zb7,Zb1,Zcx,Zcv,Zcy,Zcw]
  first | omega | (split <;> omega)
 refine Yb rfl (Zz rfl (Yb rfl (Ym (x:=P (sqI (m 0)+1)) rfl rfl ZM (rfl) (Yb rfl (Yd (o':=128) rfl rfl rfl (Yb rfl (Ym rfl rfl ZO rfl (Yb rfl (Zr rfl (Zq rfl (Yc (Yj rfl (fun h14=>?_) (fun h14=>?_))))))))))))) <;> simp only [NM] at h14
 ·refine Ze (Yq rfl (Zg rfl (ZI ?_)))
  simp only [Xm,Zb7,ZbJ] at *
  unfold XI
  rw [Zce]
  simp only [Zcu,Zb7,Zb1,Zcx,Zcv,Zcy,Zcw]
  first | omega | (split <;> omega)
 refine Yh (Ze (Zy rfl (Ym (x:=P (sqI (m 0))) rfl rfl ZM (rfl) (Zr rfl (Zk rfl (Ys (t:=25) rfl (fun h15=>?_) (fun h15=>?_))))))) <;> simp only [NM] at h15
 ·refine Yb rfl (Zz rfl (Yb rfl (Ym (x:=P (sqI (m 0)+1)) rfl rfl ZM (rfl) (Yb rfl (Zr rfl (Yb rfl (Zk rfl (Ys (t:=29) rfl (fun h16=>?_) (fun h16=>?_))))))))) <;> simp only [NM] at h16
  ·refine Yb rfl (Zz rfl (Yb rfl (Ym rfl rfl ZN rfl (Yb rfl (Zu rfl rfl (Yb rfl (Zr rfl (Yb rfl (Zq rfl (Yb rfl (Zk rfl (Ys (t:=35) rfl (fun h17=>?_) (fun h17=>?_))))))))))))) <;> simp only [NM] at h17
   ·refine ZE rfl (YJ rfl (YJ rfl (YJ rfl (YJ rfl (ZC rfl (Yb rfl (Zq rfl (Zq rfl (Zk rfl (Yc (Ye (Ze (Zk rfl (Yc (ZA rfl (Ze (Yd (o':=2) rfl rfl rfl (Ym rfl rfl ZN rfl (Zr rfl (Zk rfl (Ys (t:=51) rfl (fun h18=>?_) (fun h18=>?_)))))))))))))))))))))) <;> simp only [NM] at h18
    ·refine Yb rfl (Yd (o':=2) rfl rfl rfl (Yb rfl (Ym rfl rfl ZN rfl (Yb rfl (Zr rfl (Zq rfl (Zk rfl (Zg rfl (ZI ?_)))))))))
     simp only [Xm,Zb7,ZbJ] at *
     unfold XI
     rw [Zce]
     simp only [Zcu,Zb7,Zb1,Zcx,Zcv,Zcy,Zcw]
     first | omega | (split <;> omega)
    refine ZD rfl (ZC rfl (Zq rfl (Zk rfl (Zg rfl (ZI ?_)))))
    simp only [Xm,Zb7,ZbJ] at *
    unfold XI
    rw [Zce]
    simp only [Zcu,Zb7,Zb1,Zcx,Zcv,Zcy,Zcw]
    first | omega | (split <;> omega)
   refine Yb rfl (Zz rfl (Yb rfl (Ym (x:=P (sqI (m 0)+1)) rfl rfl ZM (rfl) (Yb rfl (Zr rfl (Yb rfl (Zk rfl (Ys (t:=39) rfl (fun h19=>?_) (fun h19=>?_))))))))) <;> simp only [NM] at h19
   ·refine Yb rfl (Zz rfl (Yb rfl (Ym rfl rfl ZN rfl (Yb rfl (Zu rfl rfl (Yb rfl (Zr rfl (Yb rfl (Zq rfl (Yb rfl (Zq rfl (Zq rfl (Zk rfl (Yc (Ye (Ze (Zk rfl (Yc (Yj rfl (fun h20=>?_) (fun h20=>?_)))))))))))))))))))) <;> simp only [NM] at h20
    ·refine Ze (Yd (o':=2) rfl rfl rfl (Ym rfl rfl ZN rfl (Zr rfl (Zk rfl (Ys (t:=51) rfl (fun h21=>?_) (fun h21=>?_)))))) <;> simp only [NM] at h21
     ·refine Yb rfl (Yd (o':=2) rfl rfl rfl (Yb rfl (Ym rfl rfl ZN rfl (Yb rfl (Zr rfl (Zq rfl (Zk rfl (Zg rfl (ZI ?_)))))))))
      simp only [Xm,Zb7,ZbJ] at *
      unfold XI
      rw [Zce]
      simp only [Zcu,Zb7,Zb1,Zcx,Zcv,Zcy,Zcw]
      first | omega | (split <;> omega)
     refine ZD rfl (ZC rfl (Zq rfl (Zk rfl (Zg rfl (ZI ?_)))))
     simp only [Xm,Zb7,ZbJ] at *
     unfold XI
     rw [Zce]
     simp only [Zcu,Zb7,Zb1,Zcx,Zcv,Zcy,Zcw]
     first | omega | (split <;> omega)
    refine Yh (Ze (Yd (o':=2) rfl rfl rfl (Ym rfl rfl ZN rfl (Zr rfl (Zk rfl (Zg rfl (ZI ?_)))))))
    simp only [Xm,Zb7,ZbJ] at *
    unfold XI
    rw [Zce]
    simp only [Zcu,Zb7,Zb1,Zcx,Zcv,Zcy,Zcw]
    first | omega | (split <;> omega)
   refine ZE rfl (Yb rfl (Zq rfl (Yb rfl (Zq rfl (Zq rfl (Zk rfl (Yc (Ye (Ze (Zk rfl (Yc (ZB rfl (Yh (Ze (Yd (o':=2) rfl rfl rfl (Ym rfl rfl ZN rfl (Zr rfl (Zk rfl (Zg rfl (ZI ?_))))))))))))))))))))
   simp only [Xm,Zb7,ZbJ] at *
   unfold XI
   rw [Zce]
   simp only [Zcu,Zb7,Zb1,Zcx,Zcv,Zcy,Zcw]
   first | omega | (split <;> omega)
  refine ZE rfl (Yb rfl (Zq rfl (Yb rfl (Zk rfl (Yb rfl (Zz rfl (Yb rfl (Ym (x:=P (sqI (m 0)+1)) rfl rfl ZM (rfl) (Yb rfl (Zr rfl (Yb rfl (Zk rfl (Ys (t:=39) rfl (fun h22=>?_) (fun h22=>?_)))))))))))))) <;> simp only [NM] at h22
  ·refine Yb rfl (Zz rfl (Yb rfl (Ym rfl rfl ZN rfl (Yb rfl (Zu rfl rfl (Yb rfl (Zr rfl (Yb rfl (Zq rfl (Yb rfl (Zq rfl (Zq rfl (Zk rfl (Yc (Ye (Ze (Zk rfl (Yc (Yj rfl (fun h23=>?_) (fun h23=>?_)))))))))))))))))))) <;> simp only [NM] at h23
   ·refine Ze (Yd (o':=2) rfl rfl rfl (Ym rfl rfl ZN rfl (Zr rfl (Zk rfl (Ys (t:=51) rfl (fun h24=>?_) (fun h24=>?_)))))) <;> simp only [NM] at h24
    ·refine Yb rfl (Yd (o':=2) rfl rfl rfl (Yb rfl (Ym rfl rfl ZN rfl (Yb rfl (Zr rfl (Zq rfl (Zk rfl (Zg rfl (ZI ?_)))))))))
     simp only [Xm,Zb7,ZbJ] at *
     unfold XI
     rw [Zce]
     simp only [Zcu,Zb7,Zb1,Zcx,Zcv,Zcy,Zcw]
     first | omega | (split <;> omega)
    refine ZD rfl (ZC rfl (Zq rfl (Zk rfl (Zg rfl (ZI ?_)))))
    simp only [Xm,Zb7,ZbJ] at *
    unfold XI
    rw [Zce]
    simp only [Zcu,Zb7,Zb1,Zcx,Zcv,Zcy,Zcw]
    first | omega | (split <;> omega)
   refine Yh (Ze (Yd (o':=2) rfl rfl rfl (Ym rfl rfl ZN rfl (Zr rfl (Zk rfl (Zg rfl (ZI ?_)))))))
   simp only [Xm,Zb7,ZbJ] at *
   unfold XI
   rw [Zce]
   simp only [Zcu,Zb7,Zb1,Zcx,Zcv,Zcy,Zcw]
   first | omega | (split <;> omega)
  refine ZE rfl (Yb rfl (Zq rfl (Yb rfl (Zq rfl (Zq rfl (Zk rfl (Yc (Ye (Ze (Zk rfl (Yc (ZB rfl (Yh (Ze (Yd (o':=2) rfl rfl rfl (Ym rfl rfl ZN rfl (Zr rfl (Zk rfl (Zg rfl (ZI ?_))))))))))))))))))))
  simp only [Xm,Zb7,ZbJ] at *
  unfold XI
  rw [Zce]
  simp only [Zcu,Zb7,Zb1,Zcx,Zcv,Zcy,Zcw]
  first | omega | (split <;> omega)
 refine ZE rfl (YJ rfl (YJ rfl (YJ rfl (YJ rfl (ZD rfl (YJ rfl (YJ rfl (YJ rfl (YJ rfl (YJ rfl (YJ rfl (YJ rfl (YJ rfl (YJ rfl (ZC rfl (Zq rfl (Zk rfl (Yc (Ye (Ze (Zk rfl (Yc (ZB rfl (Yh (Ze (Yd (o':=2) rfl rfl rfl (Ym rfl rfl ZN rfl (Zr rfl (Zk rfl ?_)))))))))))))))))))))))))))))
 refine Zg rfl (ZI ?_)
 simp only [Xm,Zb7,ZbJ] at *
 unfold XI
 rw [Zce]
 simp only [Zcu,Zb7,Zb1,Zcx,Zcv,Zcy,Zcw]
 first | omega | (split <;> omega)
theorem p8 (P m:Nat->Int) (ha:0<=m 0/\m 0 < 64) (ht:0<=m 1/\m 1 < 64):WR AM 59 [.agg 133 (ia P),.agg 3 (ia m)] [] (fun v _ _=>v=.s (.bool (decide (P (sqI (m 0))=1/\m 1 % 8≠m 0 % 8/\m 1=P 130/\Xf P (m 1)=true)))):=by
 refine YL (a:=a59) rfl rfl (YI _) (ZQ rfl) (m:=0) rfl (Ze (YC rfl (YC rfl (Yq rfl (Zf (Zy rfl (Ym rfl rfl ZM rfl (Zy rfl (Zw rfl rfl rfl (Yd rfl rfl rfl (Ym (x:=P (sqI (m 0))) rfl rfl ZN (rfl) (Zr rfl (Zk rfl (Ys (t:=12) rfl (fun h25=>?_) (fun h25=>?_))))))))))))))) <;> simp only [NM] at h25
 ·refine Yb rfl (Zy rfl (Yb rfl (Ym (x:=m 0) rfl rfl ZM (rfl) (Yb rfl (Zv rfl rfl (Yb rfl (Zz rfl (Yb rfl (Ym (x:=m 1) rfl rfl ZM (rfl) (Yb rfl (Zv rfl rfl (Yb rfl (Zr rfl (Zq rfl (Zk rfl (Ys (t:=21) rfl (fun h26=>?_) (fun h26=>?_))))))))))))))))) <;> simp only [NM] at h26
  ·refine Yb rfl (Zz rfl (Yb rfl (Ym (x:=m 1) rfl rfl ZM (rfl) (Yb rfl (Yd (o':=130) rfl rfl rfl (Yb rfl (Ym (x:=P 130) rfl rfl ZN (rfl) (Yb rfl (Zr rfl (Zq rfl (Zk rfl (Ys (t:=28) rfl (fun h27=>?_) (fun h27=>?_))))))))))))) <;> simp only [NM] at h27
   ·refine Yb rfl (Zz rfl (Yb rfl (Ym rfl rfl ZM rfl (Yb rfl (Zy rfl (Yb rfl (Zw rfl rfl rfl (Yb rfl (Yp rfl rfl ZN (Yb rfl (YB rfl .nil (Yb rfl (Yw rfl rfl (Zq rfl (Zk rfl (Zg rfl (ZI ?_)))))))))))))))))
    obtain ⟨e,he⟩:∃ e,e=Xf P (m 1):=⟨_,rfl⟩
    (show Xf P (m 1)=_; rw [<- he]; cases e)
    all_goals rw [Zce]
    all_goals simp only [Zcu,Zb7,Zb1,Zcx,Zcv,Zcy,Zcw,and_true,and_false,not_false_eq_true]
    all_goals omega
   refine ZE rfl (ZD rfl (ZC rfl (Zq rfl (Zk rfl (Zg rfl (ZI ?_))))))
   obtain ⟨e,he⟩:∃ e,e=Xf P (m 1):=⟨_,rfl⟩
   rw [<- he]
   all_goals rw [Zce]
   all_goals simp only [Zcu,Zb7,Zb1,Zcx,Zcv,Zcy,Zcw,and_true,and_false,not_false_eq_true]
   all_goals omega
  refine ZE rfl (ZC rfl (Zq rfl (Zk rfl (ZE rfl (ZD rfl (ZC rfl (Zq rfl (Zk rfl (Zg rfl (ZI ?_))))))))))
  obtain ⟨e,he⟩:∃ e,e=Xf P (m 1):=⟨_,rfl⟩
  rw [<- he]
  all_goals rw [Zce]
  all_goals simp only [Zcu,Zb7,Zb1,Zcx,Zcv,Zcy,Zcw,and_true,and_false,not_false_eq_true]
  all_goals omega
 refine ZE rfl (ZD rfl (ZC rfl (Zq rfl (Zk rfl (ZE rfl (ZC rfl (Zq rfl (Zk rfl (ZE rfl (ZD rfl (ZC rfl (Zq rfl (Zk rfl (Zg rfl (ZI ?_)))))))))))))))
 obtain ⟨e,he⟩:∃ e,e=Xf P (m 1):=⟨_,rfl⟩
 rw [<- he]
 all_goals rw [Zce]
 all_goals simp only [Zcu,Zb7,Zb1,Zcx,Zcv,Zcy,Zcw,and_true,and_false,not_false_eq_true]
 all_goals omega
theorem pa (X m:Nat->Int) (hc:X 1=0\/X 1=1) (ha:0<=m 0/\m 0 < 64) (ht:0<=m 1/\m 1 < 64):WR AM 65 [.agg 2 (ia X),.agg 3 (ia m)] [] (fun v _ _=>v=.s (.bool (W9 (X 0) (m 0) (m 1) (X 1)))):=by
 refine YL (a:=a65) rfl rfl (YI _) (ZQ rfl) (m:=0) rfl (Ze (YC rfl (YC rfl (Yq rfl (Yc (Ye (Ze (Zy rfl (Ym rfl rfl ZN rfl (Zr rfl (Zk rfl (Ys (t:=8) rfl (fun h28=>?_) (fun h28=>?_))))))))))))) <;> simp only [NM] at h28
 ·refine ZE rfl (ZD rfl (ZC rfl (Zq rfl (Yc (ZA rfl (Ze (Yq rfl (Zg rfl (ZI ?_)))))))))
  unfold W9
  rw [Zce]
  simp only [Zcu,Zb7,Zb1,Zcx,Zcv,Zcy,Zcw]
  omega
 refine Yb rfl (Zy rfl (Yb rfl (Ym rfl rfl ZM rfl (Yb rfl (Zv rfl rfl (Yb rfl (Zz rfl (Yb rfl (Ym rfl rfl ZM rfl (Yb rfl (Zv rfl rfl (Yb rfl (Zr rfl (Zq rfl (Yc (Yj rfl (fun h29=>?_) (fun h29=>?_))))))))))))))))) <;> simp only [NM] at h29
 ·refine Ze (Yq rfl (Zg rfl (ZI ?_)))
  unfold W9
  rw [Zce]
  simp only [Zcu,Zb7,Zb1,Zcx,Zcv,Zcy,Zcw]
  omega
 refine Yh (Ze (Zz rfl (Ym rfl rfl ZN rfl (Zr rfl (Zk rfl (Ys (t:=20) rfl (fun h30=>?_) (fun h30=>?_))))))) <;> simp only [NM] at h30
 ·refine Yb rfl (Zy rfl (Yb rfl (Ym rfl rfl ZM rfl (Yb rfl (Zu rfl rfl (Yb rfl (Zr rfl (Zq rfl (Zk rfl (Ys (t:=26) rfl (fun h31=>?_) (fun h31=>?_))))))))))) <;> simp only [NM] at h31
  ·refine Yb rfl (Zz rfl (Yb rfl (Ym rfl rfl ZM rfl (Yb rfl (Zu rfl rfl (Yb rfl (Zr rfl (Zq rfl (Zk rfl (Ys (t:=32) rfl (fun h32=>?_) (fun h32=>?_))))))))))) <;> simp only [NM] at h32
   ·refine ZE rfl (YJ rfl (YJ rfl (YJ rfl (YJ rfl (ZD rfl (YJ rfl (YJ rfl (YJ rfl (YJ rfl (ZC rfl (Zq rfl (Zk rfl (Zg rfl (ZI ?_))))))))))))))
    unfold W9
    rw [Zce]
    simp only [Zcu,Zb7,Zb1,Zcx,Zcv,Zcy,Zcw]
    omega
   refine Yb rfl (Zz rfl (Yb rfl (Ym rfl rfl ZN rfl (Yb rfl (Zr rfl (Yb rfl (Zk rfl (Ys (t:=36) rfl (fun h33=>?_) (fun h33=>?_))))))))) <;> simp only [NM] at h33
   ·refine Yb rfl (Zy rfl (Yb rfl (Ym rfl rfl ZM rfl (Yb rfl (Zu rfl rfl (Yb rfl (Zr rfl (Yb rfl (Zq rfl (Yb rfl (Zk rfl (Ys (t:=42) rfl (fun h34=>?_) (fun h34=>?_))))))))))))) <;> simp only [NM] at h34
    ·refine Yb rfl (Zz rfl (Yb rfl (Ym rfl rfl ZM rfl (Yb rfl (Zu rfl rfl (Yb rfl (Zr rfl (Yb rfl (Zq rfl (Zq rfl (Zk rfl (Zg rfl (ZI ?_)))))))))))))
     unfold W9
     rw [Zce]
     simp only [Zcu,Zb7,Zb1,Zcx,Zcv,Zcy,Zcw]
     omega
    refine ZE rfl (Yb rfl (Zq rfl (Zq rfl (Zk rfl (Zg rfl (ZI ?_))))))
    unfold W9
    rw [Zce]
    simp only [Zcu,Zb7,Zb1,Zcx,Zcv,Zcy,Zcw]
    omega
   refine ZE rfl (Yb rfl (Zq rfl (Yb rfl (Zk rfl (ZE rfl (Yb rfl (Zq rfl (Zq rfl (Zk rfl (Zg rfl (ZI ?_)))))))))))
   unfold W9
   rw [Zce]
   simp only [Zcu,Zb7,Zb1,Zcx,Zcv,Zcy,Zcw]
   omega
  refine ZE rfl (Zq rfl (Zk rfl (Yb rfl (Zz rfl (Yb rfl (Ym rfl rfl ZN rfl (Yb rfl (Zr rfl (Yb rfl (Zk rfl (Ys (t:=36) rfl (fun h35=>?_) (fun h35=>?_)))))))))))) <;> simp only [NM] at h35
  ·refine Yb rfl (Zy rfl (Yb rfl (Ym rfl rfl ZM rfl (Yb rfl (Zu rfl rfl (Yb rfl (Zr rfl (Yb rfl (Zq rfl (Yb rfl (Zk rfl (Ys (t:=42) rfl (fun h36=>?_) (fun h36=>?_))))))))))))) <;> simp only [NM] at h36
   ·refine Yb rfl (Zz rfl (Yb rfl (Ym rfl rfl ZM rfl (Yb rfl (Zu rfl rfl (Yb rfl (Zr rfl (Yb rfl (Zq rfl (Zq rfl (Zk rfl (Zg rfl (ZI ?_)))))))))))))
    unfold W9
    rw [Zce]
    simp only [Zcu,Zb7,Zb1,Zcx,Zcv,Zcy,Zcw]
    omega
   refine ZE rfl (Yb rfl (Zq rfl (Zq rfl (Zk rfl (Zg rfl (ZI ?_))))))
   unfold W9
   rw [Zce]
   simp only [Zcu,Zb7,Zb1,Zcx,Zcv,Zcy,Zcw]
   omega
  refine ZE rfl (Yb rfl (Zq rfl (Yb rfl (Zk rfl (ZE rfl (Yb rfl (Zq rfl (Zq rfl (Zk rfl (Zg rfl (ZI ?_)))))))))))
  unfold W9
  rw [Zce]
  simp only [Zcu,Zb7,Zb1,Zcx,Zcv,Zcy,Zcw]
  omega
 refine ZE rfl (Zq rfl (Zk rfl (ZE rfl (Zq rfl (Zk rfl (Yb rfl (Zz rfl (Yb rfl (Ym rfl rfl ZN rfl (Yb rfl (Zr rfl (Yb rfl (Zk rfl (Ys (t:=36) rfl (fun h37=>?_) (fun h37=>?_))))))))))))))) <;> simp only [NM] at h37
 ·refine Yb rfl (Zy rfl (Yb rfl (Ym rfl rfl ZM rfl (Yb rfl (Zu rfl rfl (Yb rfl (Zr rfl (Yb rfl (Zq rfl (Yb rfl (Zk rfl (Ys (t:=42) rfl (fun h38=>?_) (fun h38=>?_))))))))))))) <;> simp only [NM] at h38
  ·refine Yb rfl (Zz rfl (Yb rfl (Ym rfl rfl ZM rfl (Yb rfl (Zu rfl rfl (Yb rfl (Zr rfl (Yb rfl (Zq rfl (Zq rfl (Zk rfl (Zg rfl (ZI ?_)))))))))))))
   unfold W9
   rw [Zce]
   simp only [Zcu,Zb7,Zb1,Zcx,Zcv,Zcy,Zcw]
   omega
  refine ZE rfl (Yb rfl (Zq rfl (Zq rfl (Zk rfl (Zg rfl (ZI ?_))))))
  unfold W9
  rw [Zce]
  simp only [Zcu,Zb7,Zb1,Zcx,Zcv,Zcy,Zcw]
  omega
 refine ZE rfl (Yb rfl (Zq rfl (Yb rfl (Zk rfl (ZE rfl (Yb rfl (Zq rfl (Zq rfl (Zk rfl (Zg rfl (ZI ?_)))))))))))
 unfold W9
 rw [Zce]
 simp only [Zcu,Zb7,Zb1,Zcx,Zcv,Zcy,Zcw]
 omega
theorem zG {C:Int} (h:0<=C) (s:Int) (hs:s=1\/s=2\/s=4\/s=8):0<=C / s:=Int.ediv_nonneg h (by omega)
theorem jn (P m:Nat->Int) (hc:P (sqI (m 0)+1)=0\/P (sqI (m 0)+1)=1) (ha:0<=m 0/\m 0 < 64) (ht:0<=m 1/\m 1 < 64):WR AM 61 [.agg 133 (ia P),.agg 3 (ia m)] [] (fun v _ _=>v=.s (.int .i64 (Y3 (P (sqI (m 0))) (m 0) (m 1) (P (sqI (m 0)+1)) (W7 P)))):=by
 have hC:=EO P
 have d1:=zG hC.1 1 (by omega)
 have d2:=zG hC.1 2 (by omega)
 have d4:=zG hC.1 4 (by omega)
 have d8:=zG hC.1 8 (by omega)
 refine YL (a:=a61) rfl rfl (YI _) (ZQ rfl) (m:=0) rfl (Ze (YC rfl (YC rfl (Yq rfl (Zf (Zy rfl (Ym rfl rfl ZM rfl (Zy rfl (Zw rfl rfl rfl (Yp rfl rfl ZN (Yy (Yz rfl rfl rfl rfl .here (Zf (Yq rfl (Yq rfl (Yq rfl (Yc (Ye (Ze (Zz rfl (Ym (x:=P (sqI (m 0)+1)) rfl rfl ZM (rfl) (Zr rfl (Yc (Yj rfl (fun h39=>?_) (fun h39=>?_))))))))))))))))))))))))) <;> simp only [NM] at h39
 ·refine Yf (Yq rfl (Yq rfl (Yq rfl (Yc (Ye (Ze (Zy rfl (Ym (x:=P (sqI (m 0))) rfl rfl ZM (rfl) (Zr rfl (Zk rfl (Ys (t:=20) rfl (fun h40=>?_) (fun h40=>?_)))))))))))) <;> simp only [NM] at h40
  ·refine ZE rfl (Zq rfl (Yc (ZA rfl (Ze (Yq rfl (Yc (Yi (⟨_,ZL rfl,?_⟩))))))))
   refine ZJ ?_
   rcases hc with hc | hc
   all_goals simp only [Y3,Y4,hc,if_true,if_false,Int.reduceEq,Int.reduceMul,Int.reduceAdd]
   all_goals (repeat' split) <;> omega
  refine Yb rfl (Zy rfl (Yb rfl (Ym (x:=m 0) rfl rfl ZN (rfl) (Yb rfl (Zj rfl (Yb rfl (Zr rfl (Zq rfl (Yc (Yj rfl (fun h41=>?_) (fun h41=>?_))))))))))) <;> simp only [NM] at h41
  ·refine Ze (Yq rfl (Yc (Yi (⟨_,ZL rfl,?_⟩))))
   refine ZJ ?_
   rcases hc with hc | hc
   all_goals simp only [Y3,Y4,hc,if_true,if_false,Int.reduceEq,Int.reduceMul,Int.reduceAdd]
   all_goals (repeat' split) <;> omega
  refine Yh (Ye (Ze (Zz rfl (Ym (x:=m 1) rfl rfl ZN (rfl) (Zj rfl (Zs rfl rfl (Zr rfl (Zk rfl (Ys (t:=31) rfl (fun h42=>?_) (fun h42=>?_)))))))))) <;> simp only [NM] at h42
  ·refine Yb rfl (Yo rfl rfl ZO (Yb rfl (Yt rfl (YP (VG _)) rfl rfl rfl (Yb rfl (Zj rfl (Yb rfl (Zu rfl rfl (Yb rfl (Zv rfl rfl (Yb rfl (Zr rfl (Zq rfl (Yc (Yj rfl (fun h43=>?_) (fun h43=>?_))))))))))))))) <;> simp only [NM] at h43
   ·refine Ze (Yq rfl (Yc (Yi (⟨_,ZL rfl,?_⟩))))
    refine ZJ ?_
    rcases hc with hc | hc
    all_goals simp only [Y3,Y4,hc,if_true,if_false,Int.reduceEq,Int.reduceMul,Int.reduceAdd]
    all_goals (repeat' split) <;> omega
   refine Yh (Ye (Ze (Zz rfl (Ym (x:=m 1) rfl rfl ZN (rfl) (Zj rfl (Zt rfl rfl (Zr rfl (Zk rfl (Ys (t:=44) rfl (fun h44=>?_) (fun h44=>?_)))))))))) <;> simp only [NM] at h44
   ·refine Yb rfl (Yo rfl rfl ZO (Yb rfl (Yt rfl (YP (VG _)) rfl rfl rfl (Yb rfl (Zj rfl (Yb rfl (Zu rfl rfl (Yb rfl (Zv rfl rfl (Yb rfl (Zr rfl (Zq rfl (Yc (Yj rfl (fun h45=>?_) (fun h45=>?_))))))))))))))) <;> simp only [NM] at h45
    ·refine Ze (Yq rfl (Yc (Yi (⟨_,ZL rfl,?_⟩))))
     refine ZJ ?_
     rcases hc with hc | hc
     all_goals simp only [Y3,Y4,hc,if_true,if_false,Int.reduceEq,Int.reduceMul,Int.reduceAdd]
     all_goals (repeat' split) <;> omega
    refine Yh (Ze (Yq rfl (Yc (Yi (⟨_,ZL rfl,?_⟩)))))
    refine ZJ ?_
    rcases hc with hc | hc
    all_goals simp only [Y3,Y4,hc,if_true,if_false,Int.reduceEq,Int.reduceMul,Int.reduceAdd]
    all_goals (repeat' split) <;> omega
   refine ZE rfl (ZD rfl (Zq rfl (Yc (ZB rfl (Yh (Ze (Yq rfl (Yc (Yi (⟨_,ZL rfl,?_⟩))))))))))
   refine ZJ ?_
   rcases hc with hc | hc
   all_goals simp only [Y3,Y4,hc,if_true,if_false,Int.reduceEq,Int.reduceMul,Int.reduceAdd]
   all_goals (repeat' split) <;> omega
  refine ZE rfl (ZD rfl (Zq rfl (Yc (ZB rfl (Yh (Ye (Ze (Zz rfl (Ym (x:=m 1) rfl rfl ZN (rfl) (Zj rfl (Zt rfl rfl (Zr rfl (Zk rfl (Ys (t:=44) rfl (fun h46=>?_) (fun h46=>?_))))))))))))))) <;> simp only [NM] at h46
  ·refine Yb rfl (Yo rfl rfl ZO (Yb rfl (Yt rfl (YP (VG _)) rfl rfl rfl (Yb rfl (Zj rfl (Yb rfl (Zu rfl rfl (Yb rfl (Zv rfl rfl (Yb rfl (Zr rfl (Zq rfl (Yc (Yj rfl (fun h47=>?_) (fun h47=>?_))))))))))))))) <;> simp only [NM] at h47
   ·refine Ze (Yq rfl (Yc (Yi (⟨_,ZL rfl,?_⟩))))
    refine ZJ ?_
    rcases hc with hc | hc
    all_goals simp only [Y3,Y4,hc,if_true,if_false,Int.reduceEq,Int.reduceMul,Int.reduceAdd]
    all_goals (repeat' split) <;> omega
   refine Yh (Ze (Yq rfl (Yc (Yi (⟨_,ZL rfl,?_⟩)))))
   refine ZJ ?_
   rcases hc with hc | hc
   all_goals simp only [Y3,Y4,hc,if_true,if_false,Int.reduceEq,Int.reduceMul,Int.reduceAdd]
   all_goals (repeat' split) <;> omega
  refine ZE rfl (ZD rfl (Zq rfl (Yc (ZB rfl (Yh (Ze (Yq rfl (Yc (Yi (⟨_,ZL rfl,?_⟩))))))))))
  refine ZJ ?_
  rcases hc with hc | hc
  all_goals simp only [Y3,Y4,hc,if_true,if_false,Int.reduceEq,Int.reduceMul,Int.reduceAdd]
  all_goals (repeat' split) <;> omega
 refine Yh (Ye (Ze (Zy rfl (Ym (x:=P (sqI (m 0))) rfl rfl ZM (rfl) (Zr rfl (Zk rfl (Ys (t:=20) rfl (fun h48=>?_) (fun h48=>?_)))))))) <;> simp only [NM] at h48
 ·refine ZE rfl (Zq rfl (Yc (ZA rfl (Ze (Yq rfl (Yc (Yi (⟨_,ZL rfl,?_⟩))))))))
  refine ZJ ?_
  rcases hc with hc | hc
  all_goals simp only [Y3,Y4,hc,if_true,if_false,Int.reduceEq,Int.reduceMul,Int.reduceAdd]
  all_goals (repeat' split) <;> omega
 refine Yb rfl (Zy rfl (Yb rfl (Ym (x:=m 0) rfl rfl ZN (rfl) (Yb rfl (Zj rfl (Yb rfl (Zr rfl (Zq rfl (Yc (Yj rfl (fun h49=>?_) (fun h49=>?_))))))))))) <;> simp only [NM] at h49
 ·refine Ze (Yq rfl (Yc (Yi (⟨_,ZL rfl,?_⟩))))
  refine ZJ ?_
  rcases hc with hc | hc
  all_goals simp only [Y3,Y4,hc,if_true,if_false,Int.reduceEq,Int.reduceMul,Int.reduceAdd]
  all_goals (repeat' split) <;> omega
 refine Yh (Ye (Ze (Zz rfl (Ym (x:=m 1) rfl rfl ZN (rfl) (Zj rfl (Zs rfl rfl (Zr rfl (Zk rfl (Ys (t:=31) rfl (fun h50=>?_) (fun h50=>?_)))))))))) <;> simp only [NM] at h50
 ·refine Yb rfl (Yo rfl rfl ZO (Yb rfl (Yt rfl (YP (VG _)) rfl rfl rfl (Yb rfl (Zj rfl (Yb rfl (Zu rfl rfl (Yb rfl (Zv rfl rfl (Yb rfl (Zr rfl (Zq rfl (Yc (Yj rfl (fun h51=>?_) (fun h51=>?_))))))))))))))) <;> simp only [NM] at h51
  ·refine Ze (Yq rfl (Yc (Yi (⟨_,ZL rfl,?_⟩))))
   refine ZJ ?_
   rcases hc with hc | hc
   all_goals simp only [Y3,Y4,hc,if_true,if_false,Int.reduceEq,Int.reduceMul,Int.reduceAdd]
   all_goals (repeat' split) <;> omega
  refine Yh (Ye (Ze (Zz rfl (Ym (x:=m 1) rfl rfl ZN (rfl) (Zj rfl (Zt rfl rfl (Zr rfl (Zk rfl (Ys (t:=44) rfl (fun h52=>?_) (fun h52=>?_)))))))))) <;> simp only [NM] at h52
  ·refine Yb rfl (Yo rfl rfl ZO (Yb rfl (Yt rfl (YP (VG _)) rfl rfl rfl (Yb rfl (Zj rfl (Yb rfl (Zu rfl rfl (Yb rfl (Zv rfl rfl (Yb rfl (Zr rfl (Zq rfl (Yc (Yj rfl (fun h53=>?_) (fun h53=>?_))))))))))))))) <;> simp only [NM] at h53
   ·refine Ze (Yq rfl (Yc (Yi (⟨_,ZL rfl,?_⟩))))
    refine ZJ ?_
    rcases hc with hc | hc
    all_goals simp only [Y3,Y4,hc,if_true,if_false,Int.reduceEq,Int.reduceMul,Int.reduceAdd]
    all_goals (repeat' split) <;> omega
   refine Yh (Ze (Yq rfl (Yc (Yi (⟨_,ZL rfl,?_⟩)))))
   refine ZJ ?_
   rcases hc with hc | hc
   all_goals simp only [Y3,Y4,hc,if_true,if_false,Int.reduceEq,Int.reduceMul,Int.reduceAdd]
   all_goals (repeat' split) <;> omega
  refine ZE rfl (ZD rfl (Zq rfl (Yc (ZB rfl (Yh (Ze (Yq rfl (Yc (Yi (⟨_,ZL rfl,?_⟩))))))))))
  refine ZJ ?_
  rcases hc with hc | hc
  all_goals simp only [Y3,Y4,hc,if_true,if_false,Int.reduceEq,Int.reduceMul,Int.reduceAdd]
  all_goals (repeat' split) <;> omega
 refine ZE rfl (ZD rfl (Zq rfl (Yc (ZB rfl (Yh (Ye (Ze (Zz rfl (Ym (x:=m 1) rfl rfl ZN (rfl) (Zj rfl (Zt rfl rfl (Zr rfl (Zk rfl (Ys (t:=44) rfl (fun h54=>?_) (fun h54=>?_))))))))))))))) <;> simp only [NM] at h54
 ·refine Yb rfl (Yo rfl rfl ZO (Yb rfl (Yt rfl (YP (VG _)) rfl rfl rfl (Yb rfl (Zj rfl (Yb rfl (Zu rfl rfl (Yb rfl (Zv rfl rfl (Yb rfl (Zr rfl (Zq rfl (Yc (Yj rfl (fun h55=>?_) (fun h55=>?_))))))))))))))) <;> simp only [NM] at h55
  ·refine Ze (Yq rfl (Yc (Yi (⟨_,ZL rfl,?_⟩))))
   refine ZJ ?_
   rcases hc with hc | hc
   all_goals simp only [Y3,Y4,hc,if_true,if_false,Int.reduceEq,Int.reduceMul,Int.reduceAdd]
   all_goals (repeat' split) <;> omega
  refine Yh (Ze (Yq rfl (Yc (Yi (⟨_,ZL rfl,?_⟩)))))
  refine ZJ ?_
  rcases hc with hc | hc
  all_goals simp only [Y3,Y4,hc,if_true,if_false,Int.reduceEq,Int.reduceMul,Int.reduceAdd]
  all_goals (repeat' split) <;> omega
 refine ZE rfl (ZD rfl (Zq rfl (Yc (ZB rfl (Yh (Ze (Yq rfl (Yc (Yi (⟨_,ZL rfl,?_⟩))))))))))
 refine ZJ ?_
 rcases hc with hc | hc
 all_goals simp only [Y3,Y4,hc,if_true,if_false,Int.reduceEq,Int.reduceMul,Int.reduceAdd]
 all_goals (repeat' split) <;> omega
theorem tP (P m:Nat->Int):WR AM 28 [.agg 133 (ia P),.agg 3 (ia m)] [] (fun v _ _=>v=.s (.int .i64 (if Wj P (m 0) (m 1) (m 2)=0 then Y7 P (P (sqI (m 0))) (m 0) (m 1) else -1))):=by
 refine YL (a:=a28) rfl rfl (YI _) (ZQ rfl) (m:=0) rfl (Ze (YC rfl (YC rfl (Yq rfl (Yc (Ye (Ze (Zy rfl (Ym rfl rfl ZM rfl (Yt rfl (YP (zo _)) rfl rfl rfl (Yv (r:=.bool _) rfl rfl (Zk rfl (Ys (t:=10) rfl (fun h56=>?_) (fun h56=>?_)))))))))))))) <;> simp only [NM] at h56
 ·try simp only [isM,Zb7,ZbJ] at h56
  refine ZE rfl (Zq rfl (Zk rfl (ZE rfl (ZC rfl (Zq rfl (Zk rfl (ZE rfl (Zq rfl (Yc (ZA rfl (Ze (Yq rfl (Yc (Yi (⟨_,ZL rfl,?_⟩)))))))))))))))
  refine ZJ ?_
  (rw [UD (by omega)]; rfl)
 try simp only [isM,Zb7,ZbJ] at h56
 refine Yb rfl (Zz rfl (Yb rfl (Ym rfl rfl ZM rfl (Yb rfl (Yt rfl (YP (zo _)) rfl rfl rfl (Yb rfl (Yv (r:=.bool _) rfl rfl (Zq rfl (Zk rfl (Ys (t:=16) rfl (fun h57=>?_) (fun h57=>?_))))))))))) <;> simp only [NM] at h57
 ·try simp only [isM,Zb7,ZbJ] at h57
  refine ZE rfl (ZC rfl (Zq rfl (Zk rfl (ZE rfl (Zq rfl (Yc (ZA rfl (Ze (Yq rfl (Yc (Yi (⟨_,ZL rfl,?_⟩))))))))))))
  refine ZJ ?_
  (rw [UD (by omega)]; rfl)
 try simp only [isM,Zb7,ZbJ] at h57
 refine Yb rfl (Zy rfl (Yb rfl (Ym rfl rfl ZM rfl (Yb rfl (Zz rfl (Yb rfl (Ym rfl rfl ZM rfl (Yb rfl (Zr rfl (Zq rfl (Zk rfl (Ys (t:=23) rfl (fun h58=>?_) (fun h58=>?_))))))))))))) <;> simp only [NM] at h58
 ·refine ZE rfl (Zq rfl (Yc (ZA rfl (Ze (Yq rfl (Yc (Yi (⟨_,ZL rfl,?_⟩))))))))
  refine ZJ ?_
  (rw [UD (by omega)]; rfl)
 refine Yb rfl (Yo rfl rfl ZN (Yb rfl (Yo rfl rfl ZM (Yb rfl (Yt rfl (YP (kK _ _ (by assumption) (by assumption))) rfl rfl rfl (Yb rfl (Yv (r:=.bool _) rfl rfl (Zq rfl (Yc (Yj rfl (fun h59=>?_) (fun h59=>?_))))))))))) <;> simp only [NM] at h59
 ·refine Ze (Yq rfl (Yc (Yi (⟨_,ZL rfl,?_⟩))))
  refine ZJ ?_
  (rw [Wo (by omega) (by assumption)]; rfl)
 refine Yh (Ze (Zz rfl (Ym rfl rfl ZM rfl (Zj rfl (Yc (Wz (fun f n L=>(Wj P (m 0) (m 1) (m 2)=0)/\(0<=m 0/\m 0 < 64)/\(0<=m 1/\m 1 < 64)/\(f 2=.ptr 0 0 133)/\(f 3=.ptr 1 0 3)/\(f 4=.s (.int .i64 0))/\(f 5=.s (.int .i64 (atT P (P (sqI (m 0))) (m 0) (m 1))))/\(L=[(1,.sc .var 3 (ia m)),(0,.sc .var 133 (ia P))])/\(n=2)) ?_ (fun f nb L hI=>?_)))))))
 ·refine Ze (Yo rfl rfl ZN (Yo rfl rfl ZM (Yt rfl (YP (p8 _ _ (by assumption) (by assumption))) rfl rfl rfl (Yc (Yj rfl (fun h60=>?_) (fun h60=>?_)))))) <;> simp only [NM] at h60
  ·refine Yf (Zy rfl (Ym rfl rfl ZM rfl (Zu rfl rfl (Wn rfl rfl (by omega) (Zz rfl (Ym rfl rfl ZM rfl (Zv rfl rfl (Zs rfl rfl (Zj rfl (Yc (⟨_,(.refl _),?_,by assumption,by assumption,rfl,rfl,rfl,?_,rfl,rfl⟩)))))))))))
   ·exact Vi (by omega) (by assumption)
   refine ZJ ?_
   unfold atT
   exact (ZcA (by assumption)).symm
  refine Yh (⟨_,(.refl _),?_,by assumption,by assumption,rfl,rfl,rfl,?_,rfl,rfl⟩)
  ·exact Vi (by omega) (by assumption)
  refine ZJ ?_
  unfold atT
  exact (Zcz (by assumption)).symm
 obtain ⟨ge,ha,ht,k2,k3,k4,k5,rfl,rfl⟩:=hI
 refine Za 2 k2 (Za 3 k3 (Za 4 k4 (Za 5 k5 ?_)))
 have hat:=xE (P:=P) (k:=P (sqI (m 0))) ha ht
 refine Ye (Ze (Zj rfl (Zy rfl (Zw rfl rfl rfl (Yp rfl rfl ZN (YB rfl .nil (Yw rfl rfl (Yc (Yj rfl (fun h61=>?_) (fun h61=>?_)))))))))) <;> simp only [NM] at h61
 ·refine Ze (Yq rfl (Yc (Yi (⟨_,ZL rfl,?_⟩))))
  refine ZJ ?_
  (rw [ZcA ge,Y7,show Xf P (atT P (P (sqI (m 0))) (m 0) (m 1))=true from (by assumption)]; rfl)
 refine Yh (Ze (Zj rfl (Zj rfl (Yc (Yi (⟨_,ZL rfl,?_⟩))))))
 refine ZJ ?_
 (rw [ZcA ge,Y7,show Xf P (atT P (P (sqI (m 0))) (m 0) (m 1))=false from (by assumption)]; rfl)
open Go Go.Am
def straightL:List (Int × Int):=[(1,0),(-1,0),(0,1),(0,-1)]
def slantL:List (Int × Int):=[(1,1),(1,-1),(-1,1),(-1,-1)]
def jumpL:List (Int × Int):=[(1,2),(2,1),(2,-1),(1,-2),(-1,-2),(-2,-1),(-2,1),(-1,2)]
def Vb (f r:Int):Nat->Int->List Int
 | 0,_=>[]
 | k+1,s=>if YT s f r=-1 then [] else YT s f r::Vb f r k (YT s f r)
def VU (P:Nat->Int):List Int->List Int
 | []=>[]
 | t::l=>if Xf P t=true then t::VU P l else [t]
def X8 (P:Nat->Int) (s:Int) (ways:List (Int × Int)):List Int:=ways.flatMap fun w=>VU P (Vb w.1 w.2 8 s)
def X7 (s:Int) (ways:List (Int × Int)):List Int:=(ways.map fun w=>YT s w.1 w.2).filter fun t=>t != -1
def Ui (P:Nat->Int) (s k c:Int):List Int :=
 if c=0\/c=1 then
  if k=1 then X7 s [(-1,1 - 2*c),(1,1 - 2*c)]
  else if k=2 then X7 s jumpL
  else if k=6 then X7 s (straightL++slantL)
  else if k=4 then X8 P s straightL
  else if k=3 then X8 P s slantL
  else if k=5 then X8 P s (straightL++slantL)
  else []
 else []
def Wd (P:Nat->Int) (s:Int):List Int:=Ui P s (P (sqI s)) (P (sqI s+1))
def Wk (P:Nat->Int) (s:Int):List Int:=if 0<=s/\s < 64 then KI (Wd P s) else []
def Vl (n:Int):Int:=if n < 0 then -n else n
def sgnM (n:Int):Int:=if n < 0 then -1 else if 0 < n then 1 else 0
def wi (a b:Int):Int:=8*sgnM (b / 8 - a / 8)+sgnM (b % 8 - a % 8)
def kq (a b:Int):Nat:=max (Vl (b / 8 - a / 8)).toNat (Vl (b % 8 - a % 8)).toNat
def zw (P:Nat->Int) (a b:Int):Bool:=(List.range (kq a b - 1)).all fun (j:Nat)=>Xf P (a+wi a b*((j:Int)+1))
def Uh (a b:Int):Bool:=decide (b % 8 - a % 8=0\/b / 8 - a / 8=0)
def Uf (a b:Int):Bool:=decide (Vl (b % 8 - a % 8)=Vl (b / 8 - a / 8))
def wt (P:Nat->Int) (a b k c:Int):Bool :=
 if Xm k c=false\/a=b then false
 else if k=1 then decide (Vl (b % 8 - a % 8)=1/\b / 8 - a / 8=1 - 2*c)
 else if k=2 then decide (Vl (b % 8 - a % 8)*Vl (b / 8 - a / 8)=2)
 else if k=6 then decide (Vl (b % 8 - a % 8)<=1/\Vl (b / 8 - a / 8)<=1)
 else if k=4 then Uh a b&&zw P a b
 else if k=3 then Uf a b&&zw P a b
 else (Uh a b || Uf a b)&&zw P a b
def Kv (P:Nat->Int) (a b:Int):Bool:=wt P a b (P (sqI a)) (P (sqI a+1))
def KT (a b:Int):Int × Int:=(sgnM (b % 8 - a % 8),sgnM (b / 8 - a / 8))
def DJ (a b:Int):List Int:=(List.range (kq a b - 1)).map fun (j:Nat)=>a+wi a b*((j:Int)+1)
def JA (f:Nat->Bool):Bool:=Xp 64 f
theorem V6 {f:Nat->Bool} (h:JA f=true) (x:Fin 64):f x.val=true:=by
 have:∀ n,Xp n f=true->∀ i,i < n->f i=true:=by
  intro n
  induction n with
  | zero=>intro _ i hi; omega
  | succ n ih =>
   intro h i hi
   simp only [Xp,Zca] at h
   by_cases e:i=n
   ·subst e; exact h.2
   exact ih h.1 i (by omega)
 exact this 64 h x.val x.isLt
def vk:List Int->List Int->Bool
 | [],[]=>true
 | x::l,y::r=>decide (x=y)&&vk l r
 | _,_=>false
theorem uY:∀ {l r:List Int},vk l r=true->l=r
 | [],[],_=>rfl
 | x::l,y::r,h=>by
  simp only [vk,Zca,Zb7] at h
  rw [h.1,uY h.2]
 | [],_::_,h=>by cases h
 | _::_,[],h=>by cases h
def Th (b:Int):List Int->Bool
 | []=>false
 | x::l=>decide (b=x) || Th b l
theorem Ki {b:Int}:∀ {l:List Int},Th b l=decide (b∈l)
 | []=>by simp [Th]
 | x::l=>by simp only [Th,Ki (l:=l),Zco,Bool.decide_or]
def prefL (b:Int):List Int->List Int
 | []=>[]
 | x::l=>if x=b then [] else x::prefL b l
def chk (a:Int) (w:Int × Int):List Int->List Int->Bool
 | _,[]=>true
 | pre,b::l=>(decide (a≠b)&&(decide ((KT a b).1=w.1)&&decide ((KT a b).2=w.2))&&(Uh a b || Uf a b))&&vk pre (DJ a b)&&!Th b pre&&chk a w (pre++[b]) l
theorem pX {a b:Int} {w:Int × Int}:∀ {r pre:List Int},chk a w pre r=true->b∈r->(a≠b/\KT a b=w/\(Uh a b || Uf a b)=true)/\(b ∉ pre/\pre++r.takeWhile (fun t=>t != b)=DJ a b)
 | [],_,_,h=>by cases h
 | x::r,pre,h,hm=>by
  simp only [chk,Zca,Zb7,Zb6,Ki,ZbJ] at h
  obtain ⟨⟨⟨⟨⟨h1,h2,h3⟩,h4⟩,h5⟩,h6⟩,h7⟩:=h
  by_cases e:x=b
  ·subst e
   refine ⟨⟨h1,Prod.ext h2 h3,h4⟩,h6,?_⟩
   have:(x::r).takeWhile (fun t=>t != x)=[]:=by simp
   rw [this,Zcf]
   exact uY h5
  rcases Zco.1 hm with e' | hm
  ·exact absurd e'.symm e
  obtain ⟨k1,k2,k3⟩:=pX h7 hm
  refine ⟨k1,fun h=>k2 (ZbV _ h),?_⟩
  have:(x::r).takeWhile (fun t=>t != b)=x::r.takeWhile (fun t=>t != b):=by simp [e]
  rw [this,<- k3,Zb5]; rfl
def rayOK (a b:Int):Bool:=decide (a=b) || (!(Uh a b || Uf a b) || Th b (Vb (KT a b).1 (KT a b).2 8 a))
theorem ray_all:(JA fun a=>JA fun b=>rayOK a b)=true:=by decide +kernel
theorem chk_all:(JA fun a=>(straightL++slantL).all fun w=>chk a w [] (Vb w.1 w.2 8 a))=true:=by decide +kernel
theorem ray_to (a b:Fin 64) (hn:(a.val:Int)≠b.val) (h:(Uh a.val b.val || Uf a.val b.val)=true):(b.val:Int)∈Vb (KT a.val b.val).1 (KT a.val b.val).2 8 a.val:=by
 have h1:=V6 (V6 ray_all a) b
 unfold rayOK at h1
 rw [Zci hn,Bool.false_or,h,Bool.not_true,Bool.false_or,Ki] at h1
 exact of_decide_eq_true h1
theorem gH {a:Fin 64} {b:Int} {w:Int × Int} (hw:w∈straightL++slantL) (h:b∈Vb w.1 w.2 8 a.val):((a.val:Int)≠b/\KT a.val b=w/\(Uh a.val b || Uf a.val b)=true)/\(Vb w.1 w.2 8 a.val).takeWhile (fun t=>t != b)=DJ a.val b:=by
 have h2:=pX (Zcc.1 (V6 chk_all a) w hw) h
 exact ⟨h2.1,by simpa using h2.2.2⟩
def sI (a b:Int):Bool:=decide (a=b) || (Uh a b == (decide (KT a b∈straightL)&&(Uh a b || Uf a b))&&(Uf a b == (decide (KT a b∈slantL)&&(Uh a b || Uf a b))))
def DT (a b:Int):Bool :=
 (Th b (X7 a jumpL) == (decide (a≠b)&&decide (Vl (b % 8 - a % 8)*Vl (b / 8 - a / 8)=2))) &&
 (Th b (X7 a (straightL++slantL)) == (decide (a≠b)&&(decide (Vl (b % 8 - a % 8)<=1)&&decide (Vl (b / 8 - a / 8)<=1)))) &&
 [0,1].all fun c=>Th b (X7 a [(-1,1 - 2*c),(1,1 - 2*c)]) == (decide (a≠b)&&(decide (Vl (b % 8 - a % 8)=1)&&decide (b / 8 - a / 8=1 - 2*c)))
theorem u4:(JA fun a=>JA fun b=>sI a b)=true:=by decide +kernel
theorem Zbu:(JA fun a=>JA fun b=>DT a b)=true:=by decide +kernel
theorem gX (a b:Fin 64) (hn:(a.val:Int)≠b.val):Uh a.val b.val=decide (KT a.val b.val∈straightL/\(Uh a.val b.val || Uf a.val b.val)=true):=by
 have h:=V6 (V6 u4 a) b
 unfold sI at h
 rw [Zci hn,Bool.false_or,Zca,Zcu,Zcu] at h
 rw [Bool.decide_and]
 exact h.1.trans (by simp)
theorem Zaf (a b:Fin 64) (hn:(a.val:Int)≠b.val):Uf a.val b.val=decide (KT a.val b.val∈slantL/\(Uh a.val b.val || Uf a.val b.val)=true):=by
 have h:=V6 (V6 u4 a) b
 unfold sI at h
 rw [Zci hn,Bool.false_or,Zca,Zcu,Zcu] at h
 rw [Bool.decide_and]
 exact h.2.trans (by simp)
theorem wJ (a b:Fin 64):DT a.val b.val=true:=V6 (V6 Zbu a) b
theorem qn (a b:Fin 64) (c:Int) (hc:c∈[0,1]):decide ((b.val:Int)∈X7 a.val [(-1,1 - 2*c),(1,1 - 2*c)])=decide ((a.val:Int)≠b.val/\Vl ((b.val:Int) % 8 - (a.val:Int) % 8)=1/\(b.val:Int) / 8 - (a.val:Int) / 8=1 - 2*c):=by
 have h:=wJ a b
 unfold DT at h
 rw [Zca] at h
 have h:=Zcc.1 h.2 c hc
 rw [Zcu,Ki] at h
 rw [h,Bool.decide_and,Bool.decide_and]
theorem qz (a b:Fin 64):decide ((b.val:Int)∈X7 a.val jumpL)=decide ((a.val:Int)≠b.val/\Vl ((b.val:Int) % 8 - (a.val:Int) % 8)*Vl ((b.val:Int) / 8 - (a.val:Int) / 8)=2):=by
 have h:=wJ a b
 unfold DT at h
 rw [Zca,Zca,Zcu,Ki] at h
 rw [h.1.1,Bool.decide_and]
theorem qV (a b:Fin 64):decide ((b.val:Int)∈X7 a.val (straightL++slantL))=decide ((a.val:Int)≠b.val/\Vl ((b.val:Int) % 8 - (a.val:Int) % 8)<=1/\Vl ((b.val:Int) / 8 - (a.val:Int) / 8)<=1):=by
 have h:=wJ a b
 unfold DT at h
 rw [Zca,Zca,Zcu,Zcu,Ki,Ki] at h
 rw [h.1.2,Bool.decide_and,Bool.decide_and]
def yL:List Int->Bool
 | []=>true
 | x::l=>!Th x l&&yL l
theorem TD:∀ {l:List Int},yL l=true->l.Nodup
 | [],_=>.nil
 | x::l,h=>by
  simp only [yL,Zca,Zb6,Ki,ZbJ] at h
  exact List.nodup_cons.2 ⟨h.1,TD h.2⟩
theorem nod_all:(JA fun a=>yL (X7 a jumpL)&&yL (X7 a (straightL++slantL))&&([0,1].all fun c=>yL (X7 a [(-1,1 - 2*c),(1,1 - 2*c)]))&&yL ((straightL++slantL).flatMap fun w=>Vb w.1 w.2 8 a))=true:=by decide +kernel
theorem x6 (a:Fin 64):(X7 a.val jumpL).Nodup∧(X7 a.val (straightL++slantL)).Nodup∧(∀ c∈[0,1],(X7 a.val [(-1,1 - 2*c),(1,1 - 2*c)]).Nodup)∧((straightL++slantL).flatMap fun w=>Vb w.1 w.2 8 a.val).Nodup:=by
 have h:=V6 nod_all a
 simp only [Zca] at h
 exact ⟨TD h.1.1.1,TD h.1.1.2,fun c hc=>TD (Zcc.1 h.1.2 c hc),TD h.2⟩
theorem upto_mem {P:Nat->Int} {b:Int}:∀ {l:List Int},b∈VU P l↔b∈l/\(l.takeWhile (fun t=>t != b)).all (fun t=>Xf P t)=true
 | []=>by simp [VU]
 | t::l=>by
  unfold VU
  by_cases e:t=b
  ·subst e
   have h:(t::l).takeWhile (fun s=>s != t)=[]:=by simp
   rw [h]
   by_cases h:Xf P t=true
   ·rw [ZcA h]; simp
   rw [Zcz h]; simp
  have h1:(t::l).takeWhile (fun s=>s != b)=t::l.takeWhile (fun s=>s != b):=by simp [e]
  rw [h1]
  by_cases h:Xf P t=true
  ·rw [ZcA h,Zco,Zco,upto_mem,List.all_cons,h,Bool.true_and]
   have:b≠t:=Ne.symm e
   simp [this]
  rw [Zcz h,List.all_cons]
  have:b≠t:=Ne.symm e
  simp [this,h]
theorem T6 (P:Nat->Int):∀ l:List Int,List.Sublist (VU P l) l
 | []=>.slnil
 | t::l=>by
  unfold VU
  by_cases h:Xf P t=true
  ·rw [ZcA h]; exact (T6 P l).cons_cons _
  rw [Zcz h]; exact (List.nil_sublist l).cons_cons _
theorem ko {α β:Type} {f g:α->List β} (h:∀ x,List.Sublist (f x) (g x)):∀ l:List α,List.Sublist (l.flatMap f) (l.flatMap g)
 | []=>by simp
 | x::l=>by rw [Zb8,Zb8]; exact (h x).append (ko h l)
theorem Zbr {α β:Type} {f:α->List β} {l1 l2:List α} (h:List.Sublist l1 l2):List.Sublist (l1.flatMap f) (l2.flatMap f):=by
 induction h with
 | slnil=>exact .refl _
 | cons x _ ih=>rw [Zb8]; exact ih.trans (List.sublist_append_right _ _)
 | cons_cons x _ ih=>rw [Zb8,Zb8]; exact (List.Sublist.refl _).append ih
theorem RE {a:Int} (h:0<=a/\a < 64):∃ x:Fin 64,(x.val:Int)=a:=⟨⟨a.toNat,by omega⟩,by simp; omega⟩
theorem Tm {P:Nat->Int} {s:Int} (hs:0<=s/\s < 64) {ways:List (Int × Int)} (hw:List.Sublist ways (straightL++slantL)):(X8 P s ways).Nodup:=by
 obtain ⟨x,rfl⟩:=RE hs
 exact ((ko (fun w=>T6 P _) ways).trans (Zbr hw)).nodup (x6 x).2.2.2
theorem y5 {P:Nat->Int} {s:Int} (hs:0<=s/\s < 64):(Wd P s).Nodup:=by
 have hn:∀ k c,(Ui P s k c).Nodup:=by
  intro k c
  unfold Ui
  obtain ⟨x,hx⟩:=RE hs
  have h:=x6 x
  rw [hx] at h
  by_cases hc:c=0\/c=1
  ·rw [ZcA hc]
   have h3:=h.2.2.1 c (by rcases hc with rfl | rfl <;> simp)
   repeat' split
   ·exact h3
   ·exact h.1
   ·exact h.2.1
   ·exact Tm hs (List.sublist_append_left _ _)
   ·exact Tm hs (List.sublist_append_right _ _)
   ·exact Tm hs (.refl _)
   exact .nil
  rw [Zcz hc]; exact .nil
 exact hn _ _
theorem RV {P:Nat→Int} {a b:Int} (ha:0≤a∧a < 64) (hb:0≤b∧b < 64) {ways:List (Int × Int)} (hw:∀ w∈ways,w∈straightL++slantL) :
  b∈X8 P a ways↔a≠b/\KT a b∈ways/\(Uh a b || Uf a b)=true/\zw P a b=true:=by
 obtain ⟨x,rfl⟩:=RE ha
 obtain ⟨y,rfl⟩:=RE hb
 have ho:zw P x.val y.val=(DJ x.val y.val).all fun t=>Xf P t:=by
  unfold zw DJ
  rw [List.all_map]; rfl
 unfold X8
 rw [List.mem_flatMap]
 constructor
 ·rintro ⟨w,hm,hu⟩
  obtain ⟨h1,h2⟩:=upto_mem.1 hu
  obtain ⟨⟨f1,f2,f3⟩,f4⟩:=gH (hw w hm) h1
  rw [f4,<- ho] at h2
  exact ⟨f1,by rw [f2]; exact hm,f3,h2⟩
 rintro ⟨h1,h2,h3,h4⟩
 have f1:=ray_to x y h1 h3
 obtain ⟨_,f4⟩:=gH (hw _ h2) f1
 exact ⟨_,h2,upto_mem.2 ⟨f1,by rw [f4,<- ho]; exact h4⟩⟩
theorem ku {P:Nat->Int} {a b:Int} (ha:0<=a/\a < 64) (hb:0<=b/\b < 64):b∈Wd P a↔Kv P a b=true:=by
 have hk:∀ k c,b∈Ui P a k c↔wt P a b k c=true:=by
  intro k c
  unfold Ui wt
  by_cases hab:a=b
  ·have hor:Xm k c=false\/a=b:=.inr hab
   rw [ZcA hor]
   clear hor
   subst hab
   have e1:=qn; have e2:=qz; have e3:=qV
   obtain ⟨x,hx⟩:=RE ha
   have g2:=e2 x x; have g3:=e3 x x
   rw [hx] at g2 g3
   simp only [ne_eq,not_true_eq_false,false_and,decide_false,ZbJ] at g2 g3
   simp only [Zb1,Zcw]
   by_cases hc:c=0\/c=1
   ·rw [ZcA hc]
    have g1:=e1 x x c (by rcases hc with rfl | rfl <;> simp)
    rw [hx] at g1
    simp only [ne_eq,not_true_eq_false,false_and,decide_false,ZbJ] at g1
    have ga:∀ ways:List (Int × Int),(∀ w∈ways,w∈straightL++slantL)→a ∉ X8 P a ways:=fun ways hw h=>((RV ha ha hw).1 h).1 rfl
    repeat' split
    ·exact g1
    ·exact g2
    ·exact g3
    ·exact ga _ fun w h=>ZbV _ h
    ·exact ga _ fun w h=>ZbM _ h
    ·exact ga _ fun w h=>h
    simp
   rw [Zcz hc]; simp
  obtain ⟨x,hx⟩:=RE ha
  obtain ⟨y,hy⟩:=RE hb
  have hxy:(x.val:Int)≠y.val:=by rw [hx,hy]; exact hab
  by_cases hc:c=0\/c=1
  ·rw [ZcA hc]
   by_cases hm:Xm k c=true
   ·have hn:¬ (Xm k c=false\/a=b):=by
     rintro (h | h)
     ·rw [hm] at h; cases h
     exact hab h
    rw [Zcz hn]
    have hk:1<=k/\k<=6:=by
     unfold Xm at hm
     simp only [Zb7] at hm
     omega
    have g1:=qn x y c (by rcases hc with rfl | rfl <;> simp)
    have g2:=qz x y
    have g3:=qV x y
    have g4:=gX x y hxy
    have g5:=Zaf x y hxy
    rw [hx,hy] at g1 g2 g3 g4 g5
    simp only [ne_eq,hab,not_false_eq_true,true_and] at g1 g2 g3
    by_cases k1:k=1
    ·rw [ZcA k1,ZcA k1,<- g1,Zb7]
    rw [Zcz k1,Zcz k1]
    by_cases k2:k=2
    ·rw [ZcA k2,ZcA k2,<- g2,Zb7]
    rw [Zcz k2,Zcz k2]
    by_cases k6:k=6
    ·rw [ZcA k6,ZcA k6,<- g3,Zb7]
    rw [Zcz k6,Zcz k6]
    by_cases k4:k=4
    ·rw [ZcA k4,ZcA k4,RV ha hb fun w h=>ZbV _ h,Zca]
     constructor
     ·rintro ⟨_,h1,h2,h3⟩
      exact ⟨g4.trans (Zcl ⟨h1,h2⟩),h3⟩
     rintro ⟨h1,h2⟩
     obtain ⟨h3,h4⟩:=of_decide_eq_true (g4.symm.trans h1)
     exact ⟨hab,h3,h4,h2⟩
    rw [Zcz k4,Zcz k4]
    by_cases k3:k=3
    ·rw [ZcA k3,ZcA k3,RV ha hb fun w h=>ZbM _ h,Zca]
     constructor
     ·rintro ⟨_,h1,h2,h3⟩
      exact ⟨g5.trans (Zcl ⟨h1,h2⟩),h3⟩
     rintro ⟨h1,h2⟩
     obtain ⟨h3,h4⟩:=of_decide_eq_true (g5.symm.trans h1)
     exact ⟨hab,h3,h4,h2⟩
    rw [Zcz k3,Zcz k3,ZcA (show k=5 by omega),RV ha hb fun w h=>h,Zca]
    simp only [ne_eq,hab,not_false_eq_true,true_and]
    constructor
    ·rintro ⟨_,h⟩; exact h
    rintro ⟨h1,h2⟩
    refine ⟨?_,h1,h2⟩
    rw [Bool.or_eq_true] at h1
    rcases h1 with h | h
    ·rw [g4] at h
     exact ZbV _ (of_decide_eq_true h).1
    rw [g5] at h
    exact ZbM _ (of_decide_eq_true h).1
   have hm':Xm k c=false:=by simpa using hm
   rw [ZcA (show Xm k c=false\/a=b from .inl hm')]
   unfold Xm at hm
   simp only [Zb7] at hm
   rw [Zcz (by omega),Zcz (by omega),Zcz (by omega),Zcz (by omega),Zcz (by omega),Zcz (by omega)]
   simp
  rw [Zcz hc]
  have hm':Xm k c=false:=by
   unfold Xm
   simp only [ZbJ]
   omega
  rw [ZcA (show Xm k c=false\/a=b from .inl hm')]
  simp
 exact hk _ _
theorem ring_bd {s t:Int} {ways:List (Int × Int)} (h:t∈X7 s ways):0<=t/\t < 64:=by
 unfold X7 at h
 rw [Zch,List.mem_map] at h
 obtain ⟨⟨w,_,rfl⟩,h⟩:=h
 have:=V9 s w.1 w.2
 have:YT s w.1 w.2≠-1:=by simpa using h
 omega
theorem xN {f r:Int}:∀ {k:Nat} {s t:Int},t∈Vb f r k s->0<=t/\t < 64
 | 0,s,t,h=>by cases h
 | k+1,s,t,h=>by
  unfold Vb at h
  split at h
  ·cases h
  rename_i hn
  rcases Zco.1 h with rfl | h
  ·have:=V9 s f r; omega
  exact xN h
theorem tA {P:Nat->Int} {s t:Int} (h:t∈Wd P s):0<=t/\t < 64:=by
 have ha:∀ ways,t∈X8 P s ways->0<=t/\t < 64:=by
  intro ways h
  unfold X8 at h
  rw [List.mem_flatMap] at h
  obtain ⟨w,_,h⟩:=h
  exact xN ((T6 P _).subset h)
 have hk:∀ k c,t∈Ui P s k c->0<=t/\t < 64:=by
  intro k c h
  unfold Ui at h
  repeat' split at h
  all_goals first | exact ring_bd h | exact ha _ h | cases h
 exact hk _ _ h
def Wq (n:Nat):List Int:=(List.range n).map fun (i:Nat)=>(i:Int)
def attL (P:Nat->Int) (s:Int):List Int:=if 0<=s/\s < 64 then (Wq 64).filter (Kv P s) else []
theorem Zbj (p:Int->Bool) (n:Nat):((Wq n).filter p).Pairwise (· < ·):=by
 refine List.Pairwise.filter _ ?_
 unfold Wq
 rw [List.pairwise_map]
 exact List.pairwise_lt_range.imp (fun h=>by omega)
theorem Zar (P:Nat->Int) (s:Int):Wk P s=attL P s:=by
 unfold Wk attL
 by_cases h:0<=s/\s < 64
 ·rw [ZcA h,ZcA h]
  refine srtM_is (y5 h) (Zbj _ _) fun x=>?_
  rw [Zch]
  unfold Wq
  rw [List.mem_map]
  constructor
  ·intro hx
   have hb:=tA hx
   exact ⟨⟨x.toNat,Zck.2 (by omega),by omega⟩,(ku h hb).1 hx⟩
  rintro ⟨⟨i,hi,rfl⟩,hx⟩
  exact (ku h ⟨by omega,by have:=Zck.1 hi; omega⟩).2 hx
 rw [Zcz h,Zcz h]
end Go.Proofs.YtlkighkfkdpncaaGreatDoor
namespace Go.Am
open Go
section
variable {A:AP} {N:Nat} {f:FE} {n:Nat} {L:HA} {K:KN} {Zp:V->KN} {l:List I} {d:Nat}
def bytes2 (a b:Int):Nat->S:=WE (WE (fun _=>.int .u8 0) (0*1) 1 (fun _=>.int .u8 a)) (1*1) 1 (fun _=>.int .u8 b)
end
end Go.Am
namespace Go.Proofs.YtlkighkfkdpncaaGreatDoor
open Go Go.Am
def darkM (x:Int):Bool:=decide ((0<=x/\x < 64)/\(x % 8+x / 8) % 2=0)
def YS (x:Int):ByteArray:=if 0<=x/\x < 64 then ⟨#[UInt8.ofNat (97+(x % 8).toNat),UInt8.ofNat (49+(x / 8).toNat)]⟩ else ⟨#[]⟩
theorem ZdH {x:Int} (h:0<=x/\x < 64):YS x=⟨#[UInt8.ofNat (97+(x % 8).toNat),UInt8.ofNat (49+(x / 8).toNat)]⟩:=ZcA h
theorem pZ:∀ f:Fin 8,(⟨#[97,98,99,100,101,102,103,104]⟩:ByteArray).extract f.val (f.val+1)=⟨#[UInt8.ofNat (97+f.val)]⟩:=by decide +kernel
theorem ZaG:∀ f:Fin 8,(⟨#[49,50,51,52,53,54,55,56]⟩:ByteArray).extract f.val (f.val+1)=⟨#[UInt8.ofNat (49+f.val)]⟩:=by decide +kernel
theorem ZaU {x:Int} (h:0<=x/\x < 64):Wc .add (.str ((⟨#[97,98,99,100,101,102,103,104]⟩:ByteArray).extract (x % 8).toNat (x % 8+1).toNat)) (.str ((⟨#[49,50,51,52,53,54,55,56]⟩:ByteArray).extract (x / 8).toNat (x / 8+1).toNat))=some (.str (YS x)):=by
 have e1:=pZ ⟨(x % 8).toNat,by omega⟩
 have e2:=ZaG ⟨(x / 8).toNat,by omega⟩
 simp only at e1 e2
 rw [show (x % 8+1).toNat=(x % 8).toNat+1 by omega,show (x / 8+1).toNat=(x / 8).toNat+1 by omega,e1,e2,ZdH h]
 rfl
theorem Name_in (x:Int) (h:0<=x/\x < 64):WR AM 22 [.s (.int .i64 x)] [] (fun v _ _=>v=.s (.str (YS x))):=by
 refine YL (a:=a22) rfl rfl (YI _) (ZQ rfl) (m:=0) rfl (Ze (Yq rfl (Zf (Zj rfl (Yt rfl (xg _ h) rfl rfl rfl (Dx rfl (Qu (v:=.agg _ _) rfl rfl rfl rfl rfl (V8 (ys:=[_,_,_]) rfl rfl) .here (Yc (Ye (Ze (Yd (o':=2) rfl rfl rfl (Yn (x:=.bool _) rfl rfl ZM rfl (Yv (r:=.bool _) rfl rfl (Yc (ZB rfl (Yh (Ye (Yg (Zy rfl (Zy rfl (Yn (x:=.int _ _) rfl rfl ZM rfl (Zy rfl (Zy rfl (Yn (x:=.int _ _) rfl rfl ZM rfl (Zs rfl rfl (Da rfl rfl rfl (by show 0<=_/\_<=_/\_<=((8:Nat):Int); omega) (Zy rfl (Zz rfl (Yn (x:=.int _ _) rfl rfl ZM rfl ?_)))))))))))))))))))))))))))))
 refine Zy rfl (Zz rfl (Yn (x:=.int _ _) rfl rfl ZM rfl (Zs rfl rfl (Da rfl rfl rfl (by show 0<=_/\_<=_/\_<=((8:Nat):Int); omega) (Yr rfl rfl (ZaU h) (Yq (v:=.s _) rfl (Yc (Yi (⟨_,YH (v:=.s _) rfl (YW),?_⟩)))))))))
 rfl
theorem ZaH (x:Int) (h:¬ (0<=x/\x < 64)):WR AM 22 [.s (.int .i64 x)] [] (fun v _ _=>v=.s (.str (YS x))):=by
 refine YL (a:=a22) rfl rfl (YI _) (ZQ rfl) (m:=0) rfl (Ze (Yq rfl (Zf (Zj rfl (Yt rfl (Dg _ h) rfl rfl rfl (Dx rfl (Qu (v:=.agg _ _) rfl rfl rfl rfl rfl (V8 (ys:=[_,_,_]) rfl rfl) .here (Yc (Ye (Ze (Yd (o':=2) rfl rfl rfl (Yn (x:=.bool _) rfl rfl ZM rfl (Yv (r:=.bool _) rfl rfl (Yc (ZA rfl (Ze (Yq rfl (Yc (Yi (⟨_,YH (v:=.s _) rfl (YW),?_⟩))))))))))))))))))))
 rw [YS,Zcz h]; rfl
theorem WH (x:Int):RF AM 22 [.s (.int .i64 x)] (.s (.str (YS x))):=by
 by_cases h:0<=x/\x < 64
 ·exact YP (Name_in x h)
 exact YP (ZaH x h)
open Go Go.Am
def rayF (s f r:Int):Nat->Int
 | 0=>YT s f r
 | k+1=>YT (rayF s f r k) f r
def muM (s f r:Int):Nat:=if s < 0 then 0 else if 0 < f then (8 - s % 8).toNat else if f < 0 then (s % 8+1).toNat else if 0 < r then (8 - s / 8).toNat else (s / 8+1).toNat
theorem ZaK {s f r:Int} (h:YT s f r≠-1):(0<=s/\s < 64)/\(0<=s % 8+f/\s % 8+f < 8)/\(0<=s / 8+r/\s / 8+r < 8)/\YT s f r=(s / 8+r)*8+(s % 8+f):=by
 unfold YT atM at h ⊢
 by_cases c:(0<=s/\s < 64)/\(-8 < f/\f < 8)/\(-8 < r/\r < 8)
 ·rw [ZcA c] at h ⊢
  by_cases e:0<=s % 8+f/\s % 8+f < 8/\0<=s / 8+r/\s / 8+r < 8
  ·rw [ZcA e]; exact ⟨c.1,⟨e.1,e.2.1⟩,⟨e.2.2.1,e.2.2.2⟩,rfl⟩
  rw [Zcz e] at h; exact absurd rfl h
 rw [Zcz c] at h; exact absurd rfl h
theorem yT {s f r:Int} (hz:¬ (f=0/\r=0)) (hs:s≠-1) (hb:-1<=s/\s < 64):muM (YT s f r) f r < muM s f r:=by
 have h0:=V9 s f r
 by_cases h:YT s f r=-1
 ·rw [h,show muM (-1) f r=0 from ZcA (by decide)]
  have n2:¬ s < 0:=by omega
  unfold muM
  rw [Zcz n2]
  by_cases a:0 < f
  ·rw [ZcA a]; omega
  rw [Zcz a]
  by_cases b:f < 0
  ·rw [ZcA b]; omega
  rw [Zcz b]
  by_cases c:0 < r
  ·rw [ZcA c]; omega
  rw [Zcz c]; omega
 have ⟨h1,h2,h3,h4⟩:=ZaK h
 have e1:YT s f r % 8=s % 8+f:=by omega
 have e2:YT s f r / 8=s / 8+r:=by omega
 have n1:¬ YT s f r < 0:=by omega
 have n2:¬ s < 0:=by omega
 unfold muM
 rw [Zcz n1,Zcz n2,e1,e2]
 by_cases a:0 < f
 ·rw [ZcA a,ZcA a]; omega
 rw [Zcz a,Zcz a]
 by_cases b:f < 0
 ·rw [ZcA b,ZcA b]; omega
 rw [Zcz b,Zcz b]
 by_cases c:0 < r
 ·rw [ZcA c,ZcA c]; omega
 rw [Zcz c,Zcz c]; omega
theorem oo {s f r:Int} (h:s < 64):muM s f r<=8:=by
 unfold muM
 split
 ·omega
 split
 ·omega
 split
 ·omega
 split <;> omega
structure RayOf (s f r:Int) (n:Nat):Prop where
 on:∀ j:Nat,j < n->rayF s f r j≠-1
 off:rayF s f r n=-1
def jo (s:Int) (K:Nat->Int):Nat->Nat × (Nat->Int)
 | 0=>(0,fun _=>0)
 | i+1=>if YT s (dp K (0+(i:Int).toNat*2) 0) (dp K (0+(i:Int).toNat*2) 1)=-1 then jo s K i else ((jo s K i).1+1,fun j=>if j < (jo s K i).1 then (jo s K i).2 j else YT s (dp K (0+(i:Int).toNat*2) 0) (dp K (0+(i:Int).toNat*2) 1))
end Go.Proofs.YtlkighkfkdpncaaGreatDoor
