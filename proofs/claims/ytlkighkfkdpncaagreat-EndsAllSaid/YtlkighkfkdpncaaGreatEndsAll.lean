/- EndsAll: for every input the law answers true, and the input reads as it did. -/
import Derived.Test.YtlkighkfkdpncaaGreatRows
import Derived.Test.YtlkighkfkdpncaaGreatAm0
import Derived.Test.YtlkighkfkdpncaaGreatAm1
import Derived.Test.YtlkighkfkdpncaaGreatAm2
import Derived.Test.YtlkighkfkdpncaaGreatM0
import Derived.Test.YtlkighkfkdpncaaGreatM1
import Derived.Test.YtlkighkfkdpncaaGreatM2
import Derived.Test.YtlkighkfkdpncaaGreatM3
import Derived.Test.YtlkighkfkdpncaaGreatM4
import Derived.Test.YtlkighkfkdpncaaGreatM5
import Derived.Test.YtlkighkfkdpncaaGreatM6
namespace Go.Proofs.YtlkighkfkdpncaaGreat
set_option linter.unusedSimpArgs false
set_option linter.unusedVariables false
open Go Go.Am Go.ChangeShapes Go.WideShapes Go.ChangeAt Go.RowKit
theorem Tryz.own:ownKnob Tryz.prog.godebug = none:=by kernel_rfl
theorem Tryz.laidOut:laidOutB Tryz.prog = true:=by kernel_rfl
theorem WR_run {A:AP} {fid:FuncId} {vs:List V} {Bs:List Blk} {v:V} {K:KR} (h:WR A fid vs Bs K) (hK:∀ v' n L,K v' n L→v' = v):∃ σ',Run A fid vs Bs = some (v,σ'):=by
 obtain ⟨v',σ',n',L',h1,_,h2⟩:=h
 exact ⟨σ',by rw [h1,hK _ _ _ h2]⟩
set_option maxRecDepth 100000 in
theorem endsAll_opened {H:Type} {enc:TypeId × Value→H} {W:World} {base:Nat} {args:Array Value} {ds gs:List (DataW H)} {before:List MemPlace}
  (hval:∀ (j:Nat) t v,Tryz.f4.params[j]? = some t→args[j]? = some v→Value.okWide Tryz.prog W .any base t v) (hW:DataW.Whole enc Tryz.prog Tryz.f4.params.toList [] false W args.toList ds gs before):@uR ⟨W⟩ AM 4 W args:=by
 letI:Bas:=⟨W⟩
 obtain ⟨p,q,hA,hV,_⟩:=hW
 rw [Tryz.params4] at hA hval
 obtain ⟨ha,rfl,_⟩:=trodAll_nil hA
 obtain ⟨σ',hr⟩:=WR_run tc fun _ _ _ h=>h
 refine ⟨JF,[],[],σ',pk W,po,?_,ro_none,hr⟩
 rw [ha]
 rfl
def zeros (n:Nat):Value:=.agg (Array.replicate n (.int .i64 0))
set_option maxRecDepth 100000 in
theorem endsAll_lifted (os:Os) (started:os.Started) (H:Type) (enc:TypeId × Value→H) :
  ReturnsInHanded {} Tryz.checked os 4 .any (Rows.endsAllSpec.pre6 enc Tryz.prog Tryz.f4 Rows.endsAllRow.domain false) (Rows.endsAllSpec.post enc Tryz.prog Tryz.f4 false true false false):=by
 refine returnsInHanded_of_change (C:=Tryz.checked) Tryz.own started (by kernel_rfl) Tryz.func4
  (ChangeSpec.witness6 (enc:=enc) (C:=Tryz.checked) false ⟨#[],#[],[]⟩ 20 (by kernel_rfl) (by kernel_rfl) (by kernel_rfl) (by kernel_rfl)) ?_
 intro W base args ds gs before hval hW _ _
 have ho:=endsAll_opened hval hW
 have hW2:=hW
 obtain ⟨p,q,hA',_⟩:=hW2
 rw [Tryz.params4] at hA'
 obtain ⟨_,rfl,_⟩:=trodAll_nil hA'
 letI:Bas:=⟨W⟩
 exact jk runOK Tryz.laidOut hW rfl rfl (tb:=Tryz.f4.resultTypes[0]!) (by kernel_rfl) (by kernel_rfl) (by kernel_rfl) ho
theorem endsAll_holds:Rows.EndsAllSaid :=
 OpenClaim.holds_of_wide 4 Tryz.f4 rfl rfl rfl rfl rfl rfl rfl ⟨rfl,rfl,rfl,rfl,rfl⟩ rfl rfl rfl rfl rfl (by kernel_rfl) Tryz.func4 (by kernel_rfl)
  (of_decide_eq_true (by kernel_rfl)) (by unfold Func.isWrapper; first | (rw [if_pos (by decide +kernel)]; kernel_rfl) | (rw [if_neg (by decide +kernel)]; exact ⟨rfl,rfl⟩))
  (fun os started H enc _=>endsAll_lifted os started H enc)
end Go.Proofs.YtlkighkfkdpncaaGreat
