/- PlayFew: the row. -/
import Derived.Test.YtjldefmcnppdoaaRows
import Derived.Test.YtjldefmcnppdoaaAmLawB
import Derived.Test.YtjldefmcnppdoaaM0
import Derived.Test.YtjldefmcnppdoaaM1
import Derived.Test.YtjldefmcnppdoaaM2
namespace Go.Proofs.Ytjldefmcnppdoaa
set_option linter.unusedSimpArgs false
set_option linter.unusedVariables false
open Go Go.Am Go.ChangeShapes Go.WideShapes Go.ChangeAt Go.RowKit

theorem Try.own : ownKnob Try.prog.godebug = none := by kernel_rfl
theorem Try.laidOut : laidOutB Try.prog = true := by kernel_rfl

theorem WR_run {A : AP} {fid : FuncId} {vs : List V} {Bs : List Blk} {v : V} {K : KR} (h : WR A fid vs Bs K) (hK : ∀ v' n L, K v' n L → v' = v) : ∃ σ', Run A fid vs Bs = some (v, σ') := by
  obtain ⟨v', σ', n', L', h1, _, h2⟩ := h
  exact ⟨σ', by rw [h1, hK _ _ _ h2]⟩


set_option maxRecDepth 100000 in
theorem playFew_opened {H : Type} {enc : TypeId × Value → H} {W : World} {base : Nat} {args : Array Value} {ds gs : List (DataW H)} {before : List MemPlace}
    (hval : ∀ (j : Nat) t v, Try.f17.params[j]? = some t → args[j]? = some v → Value.okWide Try.prog W .any base t v) (hW : DataW.Whole enc Try.prog Try.f17.params.toList [] false W args.toList ds gs before) : Opened AM 17 W args := by
  obtain ⟨p, q, hA, hV, _⟩ := hW
  rw [Try.params17] at hA hval
  obtain ⟨v0, v1, v2, v3, d0, d1, d2, d3, p0, p1, p2, p3, rfl, rfl, rfl, t0, t1, t2, t3⟩ := trodAll_four hA
  obtain ⟨P, hP, _⟩ := open_flat (n := 133) (by kernel_rfl) (hval 0 29 v0 rfl rfl)
  obtain ⟨x1, hX1, _⟩ := open_i64 Try.underlying3 (hval 1 3 v1 rfl rfl)
  obtain ⟨x2, hX2, _⟩ := open_i64 Try.underlying3 (hval 2 3 v2 rfl rfl)
  obtain ⟨x3, hX3, _⟩ := open_i64 Try.underlying3 (hval 3 3 v3 rfl rfl)
  obtain ⟨σ', hr⟩ := WR_run (PlayFew_run P x1 x2 x3) fun _ _ _ h => h
  exact ⟨noInj, [], _, σ', rel_none W, dom_none, vrl4 (hP _) (hX1 _) (hX2 _) (hX3 _), ro_none, hr⟩

def zeros (n : Nat) : Value := .agg (Array.replicate n (.int .i64 0))

set_option maxRecDepth 100000 in
theorem playFew_lifted (os : Os) (started : os.Started) (H : Type) (enc : TypeId × Value → H) :
    ReturnsInHanded {} Try.checked os 17 .any (Rows.playFewSpec.pre6 enc Try.prog Try.f17 Rows.playFewRow.domain false) (Rows.playFewSpec.post enc Try.prog Try.f17 false true false false) := by
  refine returnsInHanded_of_change (C := Try.checked) Try.own started (by kernel_rfl) Try.func17
    (ChangeSpec.witness6 (enc := enc) (C := Try.checked) false ⟨#[], #[zeros 133, .int .i64 0, .int .i64 0, .int .i64 0], []⟩ 20 (by kernel_rfl) (by kernel_rfl) (by kernel_rfl) (by kernel_rfl)) ?_
  intro W base args ds gs before hval hW _ _
  have ho := playFew_opened hval hW
  have hW2 := hW
  obtain ⟨p, q, hA', _⟩ := hW2
  rw [Try.params17] at hA'
  obtain ⟨v0, v1, v2, v3, d0, d1, d2, d3, p0, p1, p2, p3, h, rfl, rfl, t0, t1, t2, t3⟩ := trodAll_four hA'
  exact law_contract runOK Try.laidOut hW rfl rfl (tb := Try.f17.resultTypes[0]!) (by kernel_rfl) (by kernel_rfl) (by kernel_rfl) ho

theorem playFew_holds : Rows.PlayFewSaid :=
  OpenClaim.holds_of_wide 17 Try.f17 rfl rfl rfl rfl rfl rfl rfl ⟨rfl, rfl, rfl, rfl, rfl⟩ rfl rfl rfl rfl rfl (by kernel_rfl) Try.func17 (by kernel_rfl)
    (of_decide_eq_true (by kernel_rfl)) (by unfold Func.isWrapper; first | (rw [if_pos (by decide +kernel)]; kernel_rfl) | (rw [if_neg (by decide +kernel)]; exact ⟨rfl, rfl⟩))
    (fun os started H enc _ => playFew_lifted os started H enc)

end Go.Proofs.Ytjldefmcnppdoaa
