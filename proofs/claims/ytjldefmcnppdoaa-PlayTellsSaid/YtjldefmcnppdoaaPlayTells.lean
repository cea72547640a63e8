/- PlayTells: the row. -/
import Derived.Test.YtjldefmcnppdoaaRows
import Derived.Test.YtjldefmcnppdoaaPlayE
import Derived.Test.YtjldefmcnppdoaaAmLawB
namespace Go.Proofs.Ytjldefmcnppdoaa
set_option linter.unusedSimpArgs false
set_option linter.unusedVariables false
open Go Go.Am Go.ChangeShapes Go.WideShapes Go.ChangeAt Go.RowKit

theorem Try.own : ownKnob Try.prog.godebug = none := by kernel_rfl
theorem Try.laidOut : laidOutB Try.prog = true := by kernel_rfl

theorem WR_run {A : AP} {fid : FuncId} {vs : List V} {Bs : List Blk} {v : V} {K : KR} (h : WR A fid vs Bs K) (hK : ∀ v' n L, K v' n L → v' = v) : ∃ σ', Run A fid vs Bs = some (v, σ') := by
  obtain ⟨v', σ', n', L', h1, _, h2⟩ := h
  exact ⟨σ', by rw [h1, hK _ _ _ h2]⟩


set_option maxRecDepth 100000 in
theorem playTells_opened {H : Type} {enc : TypeId × Value → H} {W : World} {base : Nat} {args : Array Value} {ds gs : List (DataW H)} {before : List MemPlace}
    (hval : ∀ (j : Nat) t v, Try.f13.params[j]? = some t → args[j]? = some v → Value.okWide Try.prog W .any base t v) (hW : DataW.Whole enc Try.prog Try.f13.params.toList [] false W args.toList ds gs before) : Opened AM 13 W args := by
  obtain ⟨p, q, hA, hV, _⟩ := hW
  rw [Try.params13] at hA hval
  obtain ⟨v0, v1, d0, d1, p0, p1, rfl, rfl, rfl, t0, t1⟩ := trodAll_two hA
  obtain ⟨P, hP, _⟩ := open_flat (n := 133) (by kernel_rfl) (hval 0 29 v0 rfl rfl)
  have hflat := fun (n : Nat) (cs : List Value) (y : DataW H × List MemPlace) => trod_ints (H := H) (enc := enc) (P := Try.prog) (W := W) (sp := fun _ => true) (e := 80) (z := 3) Try.underlying80 (fun i hi => by
    have hi3 : i = 0 ∨ i = 1 ∨ i = 2 := by omega
    rcases hi3 with rfl | rfl | rfl
    · exact ⟨_, .head _, rfl, by kernel_rfl, Try.underlying3⟩
    · exact ⟨_, .tail _ (.head _), rfl, by kernel_rfl, Try.underlying3⟩
    · exact ⟨_, .tail _ (.tail _ (.head _)), rfl, by kernel_rfl, Try.underlying22⟩) n cs y
  rcases open_slR (z := 3) Try.underlying75 (by kernel_rfl) (by omega) hflat (hval 1 75 v1 rfl rfl) t1 with h | h | ⟨n, pl, R, hn, hpn, hlt, hc, _, hs⟩
  · obtain ⟨σ', hr⟩ := WR_run (PlayTells_runN P) fun _ _ _ h => h
    exact ⟨noInj, [], _, σ', rel_none W, dom_none, vrl2 (hP _) (h _), ro_none, hr⟩
  · obtain ⟨σ', hr⟩ := WR_run (PlayTells_runZ P) fun _ _ _ h => h
    exact ⟨noInj, [], _, σ', rel_none W, dom_none, vrl2 (hP _) (h _), ro_none, hr⟩
  · obtain ⟨σ', hr⟩ := WR_run (PlayTells_run (md := .ro) (c := .unk) (q := pl.n) P R n hn) fun _ _ _ h => h
    obtain ⟨hR, hD, hro, _⟩ := rel_ro (rel_none W) dom_none ro_none (p := pl) (g := ia R) hlt (fun i hi => hc i (by omega))
    exact ⟨_, _, _, σ', hR, hD, vrl2 (hP _) (hs _ 0 (Inj.put_same _ _ _)), hro, hr⟩

def zeros (n : Nat) : Value := .agg (Array.replicate n (.int .i64 0))

set_option maxRecDepth 100000 in
theorem playTells_lifted (os : Os) (started : os.Started) (H : Type) (enc : TypeId × Value → H) :
    ReturnsInHanded {} Try.checked os 13 .any (Rows.playTellsSpec.pre6 enc Try.prog Try.f13 Rows.playTellsRow.domain false) (Rows.playTellsSpec.post enc Try.prog Try.f13 false true false false) := by
  refine returnsInHanded_of_change (C := Try.checked) Try.own started (by kernel_rfl) Try.func13
    (ChangeSpec.witness6 (enc := enc) (C := Try.checked) false ⟨#[], #[zeros 133, .slice none 0 0], []⟩ 20 (by kernel_rfl) (by kernel_rfl) (by kernel_rfl) (by kernel_rfl)) ?_
  intro W base args ds gs before hval hW _ _
  have ho := playTells_opened hval hW
  have hW2 := hW
  obtain ⟨p, q, hA', _⟩ := hW2
  rw [Try.params13] at hA'
  obtain ⟨v0, v1, d0, d1, p0, p1, h, rfl, rfl, t0, t1⟩ := trodAll_two hA'
  exact law_contract runOK Try.laidOut hW rfl rfl (tb := Try.f13.resultTypes[0]!) (by kernel_rfl) (by kernel_rfl) (by kernel_rfl) ho

theorem playTells_holds : Rows.PlayTellsSaid :=
  OpenClaim.holds_of_wide 13 Try.f13 rfl rfl rfl rfl rfl rfl rfl ⟨rfl, rfl, rfl, rfl, rfl⟩ rfl rfl rfl rfl rfl (by kernel_rfl) Try.func13 (by kernel_rfl)
    (of_decide_eq_true (by kernel_rfl)) (by unfold Func.isWrapper; first | (rw [if_pos (by decide +kernel)]; kernel_rfl) | (rw [if_neg (by decide +kernel)]; exact ⟨rfl, rfl⟩))
    (fun os started H enc _ => playTells_lifted os started H enc)

end Go.Proofs.Ytjldefmcnppdoaa
