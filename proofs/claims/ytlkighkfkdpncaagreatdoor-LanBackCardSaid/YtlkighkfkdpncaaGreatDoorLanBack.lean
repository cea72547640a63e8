/- LanBack: for every input the law answers true, and the input reads as it did; what the row lists of the library's tables lies as the program's text lays it. -/
import Derived.Test.YtlkighkfkdpncaaGreatDoorCards
import Derived.SevenTiedAt
import Derived.SizedLaws
import Derived.ChangeMaps5
import Derived.Test.YtlkighkfkdpncaaGreatDoorM5
namespace Go.Proofs.YtlkighkfkdpncaaGreatDoor
set_option linter.unusedSimpArgs false
set_option linter.unusedVariables false
open Go Go.Am Go.ChangeShapes Go.WideShapes Go.ChangeAt Go.RowKit Go.ChangeMaps
set_option maxRecDepth 100000 in
theorem lanBack_opened {H:Type} {enc:TypeId × Value->H} {W:World} {base:Nat} {args:Array Value} {ds gs:List (DataW H)} {before:List MemPlace}
  (hval:∀ (j:Nat) t v,Tryz.f7.params[j]? = some t->args[j]? = some v->Value.okWide Tryz.prog W .any base t v) (hW:DataW.Whole enc Tryz.prog Tryz.f7.params.toList [] false W args.toList ds gs before) (hsz:(DataW.weightsEach Tryz.prog (Tryz.f7.params.toList++Rows.lanBackSpec.plain.varTypes Tryz.prog) (ds++gs)).all (·<=reachBytes)=true) (hL:laidMetH Tryz.prog Ep W):@rO (basOf W) AM 7 W args:=by
 letI:Bas:=basOf W
 obtain ⟨p,q,hA,hV,_⟩:=hW
 rw [Tryz.params7] at hA hval hsz
 obtain ⟨v0,v1,v2,d0,d1,d2,p0,p1,p2,rfl,rfl,rfl,t0,t1,t2⟩:=trodAll_three hA
 have hflat:=fun (n:Nat) (cs:List Value) (y:DataW H × List MemPlace)=>rJ (H:=H) (enc:=enc) (P:=Tryz.prog) (W:=W) (sp:=fun _=>true) (e:=31) (z:=3) Tryz.underlying31 (fun i hi=>by
  have hi3:i=0\/i=1\/i=2:=by omega
  rcases hi3 with rfl | rfl | rfl
  ·exact ⟨_,.head _,rfl,by kernel_rfl,Tryz.underlying3⟩
  ·exact ⟨_,.tail _ (.head _),rfl,by kernel_rfl,Tryz.underlying3⟩
  exact ⟨_,.tail _ (.tail _ (.head _)),rfl,by kernel_rfl,Tryz.underlying22⟩) n cs y
 obtain ⟨s1,rfl,rfl,_,_⟩:=Go.ChangeMaps.open_string Tryz.underlying9 (hval 1 9 v1 rfl rfl) t1
 have hs1:∀ ι,VR ι (.s (.str s1)) (.string s1):=fun ι=>by simp [VR,S.val]
 have zs1:s1.size<=1000000000000000:=kH (by have:=sized_string hsz (j:=1) (t:=9) (bytes:=s1.data.toList) rfl rfl; rw [Array.length_toList] at this; exact this)
 obtain ⟨s2,rfl,rfl,_,_⟩:=Go.ChangeMaps.open_string Tryz.underlying9 (hval 2 9 v2 rfl rfl) t2
 have hs2:∀ ι,VR ι (.s (.str s2)) (.string s2):=fun ι=>by simp [VR,S.val]
 have zs2:s2.size<=1000000000000000:=kH (by have:=sized_string hsz (j:=2) (t:=9) (bytes:=s2.data.toList) rfl rfl; rw [Array.length_toList] at this; exact this)
 obtain ⟨l,h⟩:=gP Tryz.underlying37 (by kernel_rfl) hflat (hval 0 37 v0 rfl rfl) t0
 rcases h with ⟨rfl,hl⟩ | ⟨⟨es,sp,hd,hel⟩,pl,R,hpn,hlt,hc,hR,hs⟩
 ·obtain ⟨v9,σ',n9,L9,hr,_,rfl⟩:=ZcN [] s1 s2 (by simp) zs1 zs2 .snil [] (.nil rfl)
  exact ⟨R5,[],_,σ',kB W,vC,vrl3 (hl _) (hs1 _) (hs2 _),u5,hr⟩
 subst hd
 have hb:Tryz.prog.bytesOf 31=24:=by kernel_rfl
 have zl:l.length<=1000000000000000:=kH (by have:=sized_slice hsz (j:=0) (t:=37) (e:=31) rfl rfl Tryz.underlying37; rw [hb] at this; omega)
 obtain ⟨v9,σ',n9,L9,hr,_,rfl⟩:=ZcN l s1 s2 zl zs1 zs2 (.sl 0 0 l.length 3 .unk) [.sc .ro pl.n (ia R)] (.row (YQ l) hR)
 obtain ⟨hRr,hD,hro,_⟩:=rel_ro (kB W) vC u5 (p:=pl) (g:=ia R) hlt (fun i hi=>hc i hi)
 exact ⟨_,_,_,σ',hRr,hD,vrl3 (hs _ 0 (Inj.put_same _ _ _)) (hs1 _) (hs2 _),hro,hr⟩
set_option maxRecDepth 100000 in
theorem lanBack_lifted (os:Os) (started:os.Started) (H:Type) (enc:TypeId × Value->H) :
  ReturnsInHanded {} Tryz.checked os 7 .any (fun w args=>(Rows.lanBackSpec.pre enc Tryz.prog Tryz.f7 Rows.lanBackRow.domain false w args/\laidMetH Tryz.prog Ep w)/\sizedMet enc Tryz.prog Tryz.f7 (OpenSpec.ofChange Rows.lanBackSpec) false w args)
   (Rows.lanBackSpec.post enc Tryz.prog Tryz.f7 false true false false):=by
 refine returnsInHanded_of_change_and (C:=Tryz.checked) (X:=fun w _=>laidMetH Tryz.prog Ep w) (fun _ _ _ hh h=>h.of_heap hh) Tryz.own started (by kernel_rfl) Tryz.func7
  (ChangeSpec.witness_shaped (enc:=enc) (C:=Tryz.checked) (os:=os) (X:=fun w _=>laidMetH Tryz.prog Ep w) false (World.laidAll Tryz.prog os Ep) #[.slice none 0 0,.string ⟨#[]⟩,.string ⟨#[]⟩] 20 (World.laidAll_os _ _ _)
   (World.shaped_of_ZipB (by kernel_rfl) (by kernel_rfl)) (by kernel_rfl) (by kernel_rfl) (by kernel_rfl) (Zap os _)) ?_
 intro W base args ds gs before hval hW _ hsz hL _
 have ho:=lanBack_opened hval hW hsz hL
 have hW2:=hW
 obtain ⟨p,q,hA',_⟩:=hW2
 rw [Tryz.params7] at hA'
 obtain ⟨v0,v1,v2,d0,d1,d2,p0,p1,p2,h,rfl,rfl,t0,t1,t2⟩:=trodAll_three hA'
 letI:Bas:=basOf W
 exact vf runOK Tryz.laidOut hW rfl rfl (tb:=Tryz.f7.resultTypes[0]!) (by kernel_rfl) (by kernel_rfl) (by kernel_rfl) ho
theorem lanBack_row:Rows.LanBackSaid :=
 OpenClaim.holds_of_wide 7 Tryz.f7 rfl rfl rfl rfl rfl rfl rfl ⟨rfl,rfl,rfl,rfl,rfl⟩ rfl rfl rfl rfl rfl (by kernel_rfl) Tryz.func7 (by kernel_rfl)
  (of_decide_eq_true (by kernel_rfl)) (by unfold Func.isWrapper; first | (rw [if_pos (by decide +kernel)]; kernel_rfl) | (rw [if_neg (by decide +kernel)]; exact ⟨rfl,rfl⟩))
  (fun os started H enc _=>lanBack_lifted os started H enc)
theorem lanBack_holds:Rows.LanBackCardSaid :=
 Claim7.holds_tied_plain_at .later [] [.data, .pinned, .pinned] true (true, "1275aaa319b7a90ddf7d7b3937096b8866b80a1578a908a685144f30884f0206") false
  lanBack_row (fun _ h=>by cases h) (by kernel_rfl) (fun _ h=>by cases h) lanBack_row_tie rfl ⟨rfl,rfl⟩ (by kernel_rfl) rfl
  (fun f fn hf hfn=>by
   obtain rfl : f = 7 := Option.some.inj ((show Tryz.prog.funcNamed "zugzwang/zugzwanglaw16.LanBack" = some 7 by kernel_rfl).symm.trans hf) |>.symm
   obtain rfl:fn=Tryz.f7:=(Option.some.inj (Tryz.func7.symm.trans hfn)).symm
   exact ⟨by kernel_rfl,fun j t ht=>by
    rw [Tryz.params7] at ht
    have hm:t∈[37,9,9]:=by
     have:=Array.mem_of_getElem? ht
     simp at this
     simp [this]
    have hall:([37,9,9].all fun u=>!Tryz.prog.wantsStandIn u)=true:=by kernel_rfl
    exact (show Tryz.prog.wantsStandIn t=false by simpa using List.all_eq_true.1 hall t hm)⟩)
  (by kernel_rfl)
end Go.Proofs.YtlkighkfkdpncaaGreatDoor
