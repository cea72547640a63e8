/- LanEnds: for every input the law answers true,and the input reads as it did;what the row lists of the library's tables lies as the program's text lays it. -/
import Derived.Test.YtlkighkfkdpncaaGreatDoorCards
import Derived.SevenTiedAt
import Derived.SizedLaws
import Derived.ChangeMaps5
import Derived.Test.YtlkighkfkdpncaaGreatDoorM8
namespace Go.Proofs.YtlkighkfkdpncaaGreatDoor
set_option linter.unusedSimpArgs false
set_option linter.unusedVariables false
open Go Go.Am Go.ChangeShapes Go.WideShapes Go.ChangeAt Go.RowKit Go.ChangeMaps
set_option maxRecDepth 100000 in
theorem lanEnds_opened{H:Type}{enc:TypeId×Value->H}{W:World}{base:Nat}{args:Array Value}{ds gs:List (DataW H)}{before:List MemPlace}
  (hval:∀ (j:Nat) t v,Tryz.f6.params[j]? = some t->args[j]? = some v->Value.okWide Tryz.prog W .any base t v) (hW:DataW.Whole enc Tryz.prog Tryz.f6.params.toList [] false W args.toList ds gs before) (hsz:(DataW.weightsEach Tryz.prog (Tryz.f6.params.toList++Rows.lanEndsSpec.plain.varTypes Tryz.prog) (ds++gs)).all (·<=reachBytes)=true) (hL:laidMetH Tryz.prog Ep W):@rO (basOf W) AM 6 W args:=by
 letI:Bas:=basOf W
 obtain⟨p,q,hA,hV,_⟩:=hW
 rw[Tryz.params6]at hA hval hsz
 obtain⟨rfl,_,_⟩:=trodAll_none hA
 obtain⟨v9,σ',n9,L9,hr,_,rfl⟩:=Zer
 exact⟨R5,[],_,σ',kB W,vC,(show VRL R5 [] _ by simp[VRL]),ro_none,hr⟩
set_option maxRecDepth 100000 in
theorem lanEnds_lifted(os:Os)(started:os.Started)(H:Type)(enc:TypeId×Value->H) :
  ReturnsInHanded {} Tryz.checked os 6 .any (fun w args=>(Rows.lanEndsSpec.pre enc Tryz.prog Tryz.f6 Rows.lanEndsRow.domain false w args/\laidMetH Tryz.prog Ep w)/\sizedMet enc Tryz.prog Tryz.f6 (OpenSpec.ofChange Rows.lanEndsSpec) false w args)
   (Rows.lanEndsSpec.post enc Tryz.prog Tryz.f6 false true false false):=by
 refine returnsInHanded_of_change_and (C:=Tryz.checked) (X:=fun w _=>laidMetH Tryz.prog Ep w) (fun _ _ _ hh h=>h.of_heap hh) Tryz.own started (by kernel_rfl) Tryz.func6
  (ChangeSpec.witness_shaped (enc:=enc) (C:=Tryz.checked) (os:=os) (X:=fun w _=>laidMetH Tryz.prog Ep w) false (World.laidAll Tryz.prog os Ep) #[] 20 (World.laidAll_os _ _ _)
   (World.shaped_of_ZipB (by kernel_rfl) (by kernel_rfl)) (by kernel_rfl) (by kernel_rfl) (by kernel_rfl) (Zap os _)) ?_
 intro W base args ds gs before hval hW _ hsz hL _
 have ho:=lanEnds_opened hval hW hsz hL
 have hW2:=hW
 obtain⟨p,q,hA',_⟩:=hW2
 rw[Tryz.params6]at hA'
 obtain⟨rfl,rfl,_⟩:=trodAll_none hA'
 letI:Bas:=basOf W
 exact vf runOK Tryz.laidOut hW rfl rfl (tb:=Tryz.f6.resultTypes[0]!) (by kernel_rfl) (by kernel_rfl) (by kernel_rfl) ho
theorem lanEnds_row:Rows.LanEndsSaid :=
 OpenClaim.holds_of_wide 6 Tryz.f6 rfl rfl rfl rfl rfl rfl rfl ⟨rfl,rfl,rfl,rfl,rfl⟩ rfl rfl rfl rfl rfl (by kernel_rfl) Tryz.func6 (by kernel_rfl)
  (of_decide_eq_true (by kernel_rfl)) (by unfold Func.isWrapper;first|(rw[if_pos (by decide +kernel)];kernel_rfl)|(rw[if_neg (by decide +kernel)];exact⟨rfl,rfl⟩))
  (fun os started H enc _=>lanEnds_lifted os started H enc)
theorem lanEnds_holds:Rows.LanEndsCardSaid :=
 Claim7.holds_tied_plain_at .later [] [.data,.pinned,.pinned] true (true,"1275aaa319b7a90ddf7d7b3937096b8866b80a1578a908a685144f30884f0206") false
  lanEnds_row (fun _ h=>by cases h) (by kernel_rfl) (fun _ h=>by cases h) lanEnds_row_tie rfl ⟨rfl,rfl⟩ (by kernel_rfl) rfl
  (fun f fn hf hfn=>by
   obtain rfl : f = 6 := Option.some.inj ((show Tryz.prog.funcNamed "zugzwang/zugzwanglaw16.LanEnds" = some 6 by kernel_rfl).symm.trans hf) |>.symm
   obtain rfl:fn=Tryz.f6:=(Option.some.inj (Tryz.func6.symm.trans hfn)).symm
   exact⟨by kernel_rfl,fun j t ht=>by
    rw[Tryz.params6]at ht
    simp at ht⟩)
  (by kernel_rfl)
end Go.Proofs.YtlkighkfkdpncaaGreatDoor
