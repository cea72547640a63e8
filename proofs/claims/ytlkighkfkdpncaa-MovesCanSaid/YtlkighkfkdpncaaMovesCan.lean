/- MovesCan: for every input the law answers true, and the input reads as it did. -/
import Derived.Test.YtlkighkfkdpncaaRows
import Derived.Test.YtlkighkfkdpncaaAm0
import Derived.Test.YtlkighkfkdpncaaAm1
import Derived.Test.YtlkighkfkdpncaaAm2
import Derived.Test.YtlkighkfkdpncaaM0
import Derived.Test.YtlkighkfkdpncaaM1
import Derived.Test.YtlkighkfkdpncaaM2
import Derived.Test.YtlkighkfkdpncaaM3
namespace Go.Proofs.Ytlkighkfkdpncaa
set_option linter.unusedSimpArgs false
set_option linter.unusedVariables false
open Go Go.Am Go.ChangeShapes Go.WideShapes Go.ChangeAt Go.RowKit
theorem Try.own : ownKnob Try.prog.godebug = none := by kernel_rfl
theorem Try.laidOut : laidOutB Try.prog = true := by kernel_rfl
theorem WR_run {A : AP} {fid : FuncId} {vs : List V} {Bs : List Blk} {v : V} {K : KR} (h : WR A fid vs Bs K) (hK : ∀ v' n L, K v' n L → v' = v) : ∃ σ', Run A fid vs Bs = some (v, σ') := by
 obtain ⟨v', σ', n', L', h1, _, h2⟩ := h
 exact ⟨σ', by rw [h1, hK _ _ _ h2]⟩
set_option maxRecDepth 100000 in
theorem movesCan_opened {H : Type} {enc : TypeId × Value → H} {W : World} {base : Nat} {args : Array Value} {ds gs : List (DataW H)} {before : List MemPlace}
  (hval : ∀ (j : Nat) t v, Try.f3.params[j]? = some t → args[j]? = some v → Value.okWide Try.prog W .any base t v) (hW : DataW.Whole enc Try.prog Try.f3.params.toList [] false W args.toList ds gs before) : @Opened ⟨W⟩ AM 3 W args := by
 letI : Bas := ⟨W⟩
 obtain ⟨p, q, hA, hV, _⟩ := hW
 rw [Try.params3] at hA hval
 obtain ⟨v0, d0, rfl, rfl, t0⟩ := trodAll_one hA
 obtain ⟨P, hP, _⟩ := open_flat (n := 133) (by kernel_rfl) (hval 0 29 v0 rfl rfl)
 obtain ⟨σ', hr⟩ := WR_run (MovesCan_run P) fun _ _ _ h => h
 exact ⟨noInj, [], _, σ', rel_none W, dom_none, vrl1 (hP _), ro_none, hr⟩
def zeros (n : Nat) : Value := .agg (Array.replicate n (.int .i64 0))
set_option maxRecDepth 100000 in
theorem movesCan_lifted (os : Os) (started : os.Started) (H : Type) (enc : TypeId × Value → H) :
  ReturnsInHanded {} Try.checked os 3 .any (Rows.movesCanSpec.pre6 enc Try.prog Try.f3 Rows.movesCanRow.domain false) (Rows.movesCanSpec.post enc Try.prog Try.f3 false true false false) := by
 refine returnsInHanded_of_change (C := Try.checked) Try.own started (by kernel_rfl) Try.func3
  (ChangeSpec.witness6 (enc := enc) (C := Try.checked) false ⟨#[], #[zeros 133], []⟩ 20 (by kernel_rfl) (by kernel_rfl) (by kernel_rfl) (by kernel_rfl)) ?_
 intro W base args ds gs before hval hW _ _
 have ho := movesCan_opened hval hW
 have hW2 := hW
 obtain ⟨p, q, hA', _⟩ := hW2
 rw [Try.params3] at hA'
 obtain ⟨v0, d0, _, rfl, t0⟩ := trodAll_one hA'
 letI : Bas := ⟨W⟩
 exact law_contract runOK Try.laidOut hW rfl rfl (tb := Try.f3.resultTypes[0]!) (by kernel_rfl) (by kernel_rfl) (by kernel_rfl) ho
theorem movesCan_holds : Rows.MovesCanSaid :=
 OpenClaim.holds_of_wide 3 Try.f3 rfl rfl rfl rfl rfl rfl rfl ⟨rfl, rfl, rfl, rfl, rfl⟩ rfl rfl rfl rfl rfl (by kernel_rfl) Try.func3 (by kernel_rfl)
  (of_decide_eq_true (by kernel_rfl)) (by unfold Func.isWrapper; first | (rw [if_pos (by decide +kernel)]; kernel_rfl) | (rw [if_neg (by decide +kernel)]; exact ⟨rfl, rfl⟩))
  (fun os started H enc _ => movesCan_lifted os started H enc)
end Go.Proofs.Ytlkighkfkdpncaa
