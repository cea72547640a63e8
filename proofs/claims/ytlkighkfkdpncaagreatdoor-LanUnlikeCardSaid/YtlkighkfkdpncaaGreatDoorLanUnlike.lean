/- LanUnlike: for every input the law answers true, and the input reads as it did; what the row lists of the library's tables lies as the program's text lays it. -/
import Derived.Test.YtlkighkfkdpncaaGreatDoorCards
import Derived.SevenTiedAt
import Derived.SizedLaws
import Derived.ChangeMaps5
import Derived.Test.YtlkighkfkdpncaaGreatDoorM5
namespace Go.Proofs.YtlkighkfkdpncaaGreatDoor
set_option linter.unusedSimpArgs false
set_option linter.unusedVariables false
open Go Go.Am Go.ChangeShapes Go.WideShapes Go.ChangeAt Go.RowKit Go.ChangeMaps
set_option maxRecDepth 100000 in
theorem lanUnlike_opened {H:Type} {enc:TypeId × Value->H} {W:World} {base:Nat} {args:Array Value} {ds gs:List (DataW H)} {before:List MemPlace}
  (hval:∀ (j:Nat) t v,Tryz.f4.params[j]? = some t->args[j]? = some v->Value.okWide Tryz.prog W .any base t v) (hW:DataW.Whole enc Tryz.prog Tryz.f4.params.toList [] false W args.toList ds gs before) (hsz:(DataW.weightsEach Tryz.prog (Tryz.f4.params.toList++Rows.lanUnlikeSpec.plain.varTypes Tryz.prog) (ds++gs)).all (·<=reachBytes)=true) (hL:laidMetH Tryz.prog Ey W):@sJ (basOf W) AM 4 W args:=by
 letI:Bas:=basOf W
 obtain ⟨p,q,hA,hV,_⟩:=hW
 rw [Tryz.params4] at hA hval hsz
 obtain ⟨v0,v1,d0,d1,p0,p1,rfl,rfl,rfl,t0,t1⟩:=trodAll_two hA
 obtain ⟨P,hP,_,zP⟩:=qm (n:=133) (by kernel_rfl) (hval 0 29 v0 rfl rfl)
 obtain ⟨M,hM,_,zM⟩:=qm (n:=3) (by kernel_rfl) (hval 1 31 v1 rfl rfl)
 obtain ⟨v9,σ',n9,L9,hr,_,rfl⟩:=ZbT P M zP
 exact ⟨RZ,[],_,σ',gW W,gB,vrl2 (hP _) (hM _),ro_none,hr⟩
set_option maxRecDepth 100000 in
theorem lanUnlike_lifted (os:Os) (started:os.Started) (H:Type) (enc:TypeId × Value->H) :
  ReturnsInHanded {} Tryz.checked os 4 .any (fun w args=>(Rows.lanUnlikeSpec.pre enc Tryz.prog Tryz.f4 Rows.lanUnlikeRow.domain false w args/\laidMetH Tryz.prog Ey w)/\sizedMet enc Tryz.prog Tryz.f4 (OpenSpec.ofChange Rows.lanUnlikeSpec) false w args)
   (Rows.lanUnlikeSpec.post enc Tryz.prog Tryz.f4 false true false false):=by
 refine returnsInHanded_of_change_and (C:=Tryz.checked) (X:=fun w _=>laidMetH Tryz.prog Ey w) (fun _ _ _ hh h=>h.of_heap hh) Tryz.own started (by kernel_rfl) Tryz.func4
  (ChangeSpec.witness_shaped (enc:=enc) (C:=Tryz.checked) (os:=os) (X:=fun w _=>laidMetH Tryz.prog Ey w) false (World.laidAll Tryz.prog os Ey) #[zeros 133,zeros 3] 20 (World.laidAll_os _ _ _)
   (World.shaped_of_ZipB (by kernel_rfl) (by kernel_rfl)) (by kernel_rfl) (by kernel_rfl) (by kernel_rfl) (Zaq os _)) ?_
 intro W base args ds gs before hval hW _ hsz hL _
 have ho:=lanUnlike_opened hval hW hsz hL
 have hW2:=hW
 obtain ⟨p,q,hA',_⟩:=hW2
 rw [Tryz.params4] at hA'
 obtain ⟨v0,v1,d0,d1,p0,p1,h,rfl,rfl,t0,t1⟩:=trodAll_two hA'
 letI:Bas:=basOf W
 exact jh runOK Tryz.laidOut hW rfl rfl (tb:=Tryz.f4.resultTypes[0]!) (by kernel_rfl) (by kernel_rfl) (by kernel_rfl) ho
theorem lanUnlike_row:Rows.LanUnlikeSaid :=
 OpenClaim.holds_of_wide 4 Tryz.f4 rfl rfl rfl rfl rfl rfl rfl ⟨rfl,rfl,rfl,rfl,rfl⟩ rfl rfl rfl rfl rfl (by kernel_rfl) Tryz.func4 (by kernel_rfl)
  (of_decide_eq_true (by kernel_rfl)) (by unfold Func.isWrapper; first | (rw [if_pos (by decide +kernel)]; kernel_rfl) | (rw [if_neg (by decide +kernel)]; exact ⟨rfl,rfl⟩))
  (fun os started H enc _=>lanUnlike_lifted os started H enc)
theorem lanUnlike_holds:Rows.LanUnlikeCardSaid :=
 Claim7.holds_tied_plain_at .later [] [.data, .pinned, .pinned] true (true, "1275aaa319b7a90ddf7d7b3937096b8866b80a1578a908a685144f30884f0206") false
  lanUnlike_row (fun _ h=>by cases h) (by kernel_rfl) (fun _ h=>by cases h) lanUnlike_row_tie rfl ⟨rfl,rfl⟩ (by kernel_rfl) rfl
  (fun f fn hf hfn=>by
   obtain rfl : f = 4 := Option.some.inj ((show Tryz.prog.funcNamed "zugzwang/zugzwanglaw16.LanUnlike" = some 4 by kernel_rfl).symm.trans hf) |>.symm
   obtain rfl:fn=Tryz.f4:=(Option.some.inj (Tryz.func4.symm.trans hfn)).symm
   exact ⟨by kernel_rfl,fun j t ht=>by
    rw [Tryz.params4] at ht
    have hm:t∈[29,31]:=by
     have:=Array.mem_of_getElem? ht
     simp at this
     simp [this]
    have hall:([29,31].all fun u=>!Tryz.prog.wantsStandIn u)=true:=by kernel_rfl
    exact (show Tryz.prog.wantsStandIn t=false by simpa using List.all_eq_true.1 hall t hm)⟩)
  (by kernel_rfl)
end Go.Proofs.YtlkighkfkdpncaaGreatDoor
