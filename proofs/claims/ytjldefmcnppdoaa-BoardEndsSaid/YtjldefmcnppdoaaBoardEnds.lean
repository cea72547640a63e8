/- BoardEnds: the row. -/
import Derived.Test.YtjldefmcnppdoaaRows
import Derived.Test.YtjldefmcnppdoaaAmLawB
import Derived.Test.YtjldefmcnppdoaaM0
import Derived.Test.YtjldefmcnppdoaaM1
import Derived.Test.YtjldefmcnppdoaaM2
namespace Go.Proofs.Ytjldefmcnppdoaa
set_option linter.unusedSimpArgs false
set_option linter.unusedVariables false
open Go Go.Am Go.ChangeShapes Go.WideShapes Go.ChangeAt Go.RowKit

theorem Try.own : ownKnob Try.prog.godebug = none := by kernel_rfl
theorem Try.laidOut : laidOutB Try.prog = true := by kernel_rfl

theorem WR_run {A : AP} {fid : FuncId} {vs : List V} {Bs : List Blk} {v : V} {K : KR} (h : WR A fid vs Bs K) (hK : ∀ v' n L, K v' n L → v' = v) : ∃ σ', Run A fid vs Bs = some (v, σ') := by
  obtain ⟨v', σ', n', L', h1, _, h2⟩ := h
  exact ⟨σ', by rw [h1, hK _ _ _ h2]⟩


set_option maxRecDepth 100000 in
theorem boardEnds_opened {H : Type} {enc : TypeId × Value → H} {W : World} {base : Nat} {args : Array Value} {ds gs : List (DataW H)} {before : List MemPlace}
    (hval : ∀ (j : Nat) t v, Try.f16.params[j]? = some t → args[j]? = some v → Value.okWide Try.prog W .any base t v) (hW : DataW.Whole enc Try.prog Try.f16.params.toList [] false W args.toList ds gs before) : Opened AM 16 W args := by
  obtain ⟨p, q, hA, hV, _⟩ := hW
  rw [Try.params16] at hA hval
  obtain ⟨ha, rfl, _⟩ := trodAll_nil hA
  obtain ⟨σ', hr⟩ := WR_run BoardEnds_run fun _ _ _ h => h
  refine ⟨noInj, [], [], σ', rel_none W, dom_none, ?_, ro_none, hr⟩
  rw [ha]
  rfl

def zeros (n : Nat) : Value := .agg (Array.replicate n (.int .i64 0))

set_option maxRecDepth 100000 in
theorem boardEnds_lifted (os : Os) (started : os.Started) (H : Type) (enc : TypeId × Value → H) :
    ReturnsInHanded {} Try.checked os 16 .any (Rows.boardEndsSpec.pre6 enc Try.prog Try.f16 Rows.boardEndsRow.domain false) (Rows.boardEndsSpec.post enc Try.prog Try.f16 false true false false) := by
  refine returnsInHanded_of_change (C := Try.checked) Try.own started (by kernel_rfl) Try.func16
    (ChangeSpec.witness6 (enc := enc) (C := Try.checked) false ⟨#[], #[], []⟩ 20 (by kernel_rfl) (by kernel_rfl) (by kernel_rfl) (by kernel_rfl)) ?_
  intro W base args ds gs before hval hW _ _
  have ho := boardEnds_opened hval hW
  have hW2 := hW
  obtain ⟨p, q, hA', _⟩ := hW2
  rw [Try.params16] at hA'
  obtain ⟨_, rfl, _⟩ := trodAll_nil hA'
  exact law_contract runOK Try.laidOut hW rfl rfl (tb := Try.f16.resultTypes[0]!) (by kernel_rfl) (by kernel_rfl) (by kernel_rfl) ho

theorem boardEnds_holds : Rows.BoardEndsSaid :=
  OpenClaim.holds_of_wide 16 Try.f16 rfl rfl rfl rfl rfl rfl rfl ⟨rfl, rfl, rfl, rfl, rfl⟩ rfl rfl rfl rfl rfl (by kernel_rfl) Try.func16 (by kernel_rfl)
    (of_decide_eq_true (by kernel_rfl)) (by unfold Func.isWrapper; first | (rw [if_pos (by decide +kernel)]; kernel_rfl) | (rw [if_neg (by decide +kernel)]; exact ⟨rfl, rfl⟩))
    (fun os started H enc _ => boardEnds_lifted os started H enc)

end Go.Proofs.Ytjldefmcnppdoaa
