/- DeadAdds: the row. -/
import Derived.Test.YtjldefmcnppdoaaRows
import Derived.Test.YtjldefmcnppdoaaDeadC
import Derived.Test.YtjldefmcnppdoaaAmLaw
namespace Go.Proofs.Ytjldefmcnppdoaa
set_option linter.unusedSimpArgs false
set_option linter.unusedVariables false
open Go Go.Am Go.ChangeShapes Go.WideShapes Go.ChangeAt Go.RowKit

theorem Try.own : ownKnob Try.prog.godebug = none := by kernel_rfl
theorem Try.laidOut : laidOutB Try.prog = true := by kernel_rfl

theorem WR_run {A : AP} {fid : FuncId} {vs : List V} {Bs : List Blk} {v : V} {K : KR} (h : WR A fid vs Bs K) (hK : ∀ v' n L, K v' n L → v' = v) : ∃ σ', Run A fid vs Bs = some (v, σ') := by
  obtain ⟨v', σ', n', L', h1, _, h2⟩ := h
  exact ⟨σ', by rw [h1, hK _ _ _ h2]⟩


set_option maxRecDepth 100000 in
theorem deadAdds_opened {H : Type} {enc : TypeId × Value → H} {W : World} {base : Nat} {args : Array Value} {ds gs : List (DataW H)} {before : List MemPlace}
    (hval : ∀ (j : Nat) t v, Try.f5.params[j]? = some t → args[j]? = some v → Value.okWide Try.prog W .any base t v) (hW : DataW.Whole enc Try.prog Try.f5.params.toList [] false W args.toList ds gs before) : Opened AM 5 W args := by
  obtain ⟨p, q, hA, hV, _⟩ := hW
  rw [Try.params5] at hA hval
  obtain ⟨v0, v1, d0, d1, p0, p1, rfl, rfl, rfl, t0, t1⟩ := trodAll_two hA
  obtain ⟨x, hX, _⟩ := open_i64 Try.underlying3 (hval 1 3 v1 rfl rfl)
  rcases open_slI Try.underlying32 Try.underlying2 (by kernel_rfl) (hval 0 32 v0 rfl rfl) t0 with h | h | ⟨n, pl, R, hn, hpn, hlt, hc, _, hs⟩
  · obtain ⟨σ', hr⟩ := WR_run (DeadAdds_runN x) fun _ _ _ h => h
    exact ⟨noInj, [], _, σ', rel_none W, dom_none, vrl2 (h _) (hX _), ro_none, hr⟩
  · obtain ⟨σ', hr⟩ := WR_run (DeadAdds_runZ x) fun _ _ _ h => h
    exact ⟨noInj, [], _, σ', rel_none W, dom_none, vrl2 (h _) (hX _), ro_none, hr⟩
  · obtain ⟨σ', hr⟩ := WR_run (DeadAdds_run (q := pl.n) R n hn x) fun _ _ _ h => h
    obtain ⟨hR, hD, hro, _⟩ := rel_ro (rel_none W) dom_none ro_none (p := pl) (g := ia R) hlt (fun i hi => hc i (by omega))
    exact ⟨_, _, _, σ', hR, hD, vrl2 (hs _ 0 (Inj.put_same _ _ _)) (hX _), hro, hr⟩

def zeros (n : Nat) : Value := .agg (Array.replicate n (.int .i64 0))

set_option maxRecDepth 100000 in
theorem deadAdds_lifted (os : Os) (started : os.Started) (H : Type) (enc : TypeId × Value → H) :
    ReturnsInHanded {} Try.checked os 5 .any (Rows.deadAddsSpec.pre6 enc Try.prog Try.f5 Rows.deadAddsRow.domain false) (Rows.deadAddsSpec.post enc Try.prog Try.f5 false true false false) := by
  refine returnsInHanded_of_change (C := Try.checked) Try.own started (by kernel_rfl) Try.func5
    (ChangeSpec.witness6 (enc := enc) (C := Try.checked) false ⟨#[], #[.slice none 0 0, .int .i64 0], []⟩ 20 (by kernel_rfl) (by kernel_rfl) (by kernel_rfl) (by kernel_rfl)) ?_
  intro W base args ds gs before hval hW _ _
  have ho := deadAdds_opened hval hW
  have hW2 := hW
  obtain ⟨p, q, hA', _⟩ := hW2
  rw [Try.params5] at hA'
  obtain ⟨v0, v1, d0, d1, p0, p1, h, rfl, rfl, t0, t1⟩ := trodAll_two hA'
  exact law_contract runOK Try.laidOut hW rfl rfl (tb := Try.f5.resultTypes[0]!) (by kernel_rfl) (by kernel_rfl) (by kernel_rfl) ho

theorem deadAdds_holds : Rows.DeadAddsSaid :=
  OpenClaim.holds_of_wide 5 Try.f5 rfl rfl rfl rfl rfl rfl rfl ⟨rfl, rfl, rfl, rfl, rfl⟩ rfl rfl rfl rfl rfl (by kernel_rfl) Try.func5 (by kernel_rfl)
    (of_decide_eq_true (by kernel_rfl)) (by unfold Func.isWrapper; first | (rw [if_pos (by decide +kernel)]; kernel_rfl) | (rw [if_neg (by decide +kernel)]; exact ⟨rfl, rfl⟩))
    (fun os started H enc _ => deadAdds_lifted os started H enc)

end Go.Proofs.Ytjldefmcnppdoaa
