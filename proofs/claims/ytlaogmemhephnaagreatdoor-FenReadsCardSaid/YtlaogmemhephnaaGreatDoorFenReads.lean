/- FenReads: for every input the law answers true, and the input reads as it did; what the row lists of the library's tables lies as the program's text lays it. -/
import Derived.Test.YtlaogmemhephnaaGreatDoorCards
import Derived.SevenTiedAt
import Derived.SizedLaws
import Derived.ChangeMaps5
import Derived.Test.YtlaogmemhephnaaGreatDoorAm0
import Derived.Test.YtlaogmemhephnaaGreatDoorAm1
import Derived.Test.YtlaogmemhephnaaGreatDoorAm2
import Derived.Test.YtlaogmemhephnaaGreatDoorM0
import Derived.Test.YtlaogmemhephnaaGreatDoorM1
import Derived.Test.YtlaogmemhephnaaGreatDoorM2
import Derived.Test.YtlaogmemhephnaaGreatDoorM3
namespace Go.Proofs.YtlaogmemhephnaaGreatDoor
set_option linter.unusedSimpArgs false
set_option linter.unusedVariables false
open Go Go.Am Go.ChangeShapes Go.WideShapes Go.ChangeAt Go.RowKit Go.ChangeMaps

set_option maxRecDepth 100000 in
theorem fenReads_opened {H : Type} {enc : TypeId × Value → H} {W : World} {base : Nat} {args : Array Value} {ds gs : List (DataW H)} {before : List MemPlace}
    (hval : ∀ (j : Nat) t v, Tryz.f3.params[j]? = some t → args[j]? = some v → Value.okWide Tryz.prog W .any base t v) (hW : DataW.Whole enc Tryz.prog Tryz.f3.params.toList [] false W args.toList ds gs before) (hsz : (DataW.weightsEach Tryz.prog (Tryz.f3.params.toList ++ Rows.fenReadsSpec.plain.varTypes Tryz.prog) (ds ++ gs)).all (· ≤ reachBytes) = true) (hL : laidMetH Tryz.prog tabsL W) (hS : W.ShapedOpen Tryz.prog) : @Opened (tabsZ hL hS).toBas AM3 3 W args := by
  letI : TabsZ := tabsZ hL hS
  obtain ⟨p, q, hA, hV, _⟩ := hW
  rw [Tryz.params3] at hA hval hsz
  obtain ⟨v0, d0, rfl, rfl, t0⟩ := trodAll_one hA
  obtain ⟨s, hS, hs⟩ := open_str Tryz.underlying9 (hval 0 9 v0 rfl rfl)
  obtain ⟨σ', hr⟩ := Reads_run s
  exact ⟨noInj, [], _, σ', rel_none W, dom_none, vrl1 (hS _), ro_none, hr⟩

set_option maxRecDepth 100000 in
theorem fenReads_lifted (os : Os) (started : os.Started) (H : Type) (enc : TypeId × Value → H) :
    ReturnsInHanded {} Tryz.checked os 3 .any (fun w args => (Rows.fenReadsSpec.pre enc Tryz.prog Tryz.f3 Rows.fenReadsRow.domain false w args ∧ laidMetH Tryz.prog tabsL w) ∧ sizedMet enc Tryz.prog Tryz.f3 (OpenSpec.ofChange Rows.fenReadsSpec) false w args)
      (Rows.fenReadsSpec.post enc Tryz.prog Tryz.f3 false true false false) := by
  refine handed_both (C := Tryz.checked) (X := fun w _ => laidMetH Tryz.prog tabsL w) (fun _ _ _ hh h => h.of_heap hh) Tryz.own started (by kernel_rfl) Tryz.func3
    (ChangeSpec.witness_shaped (enc := enc) (C := Tryz.checked) (os := os) (X := fun w _ => laidMetH Tryz.prog tabsL w) false (World.laidAll Tryz.prog os tabsL) #[.string ⟨#[]⟩] 20 (World.laidAll_os _ _ _)
      (World.shaped_of_ZipB (by kernel_rfl) (by kernel_rfl)) (by kernel_rfl) (by kernel_rfl) (by kernel_rfl) (tabs_met os _)) ?_
  intro W base args ds gs before hval hW hsz hL hS
  have ho := fenReads_opened hval hW hsz hL hS
  have hW2 := hW
  obtain ⟨p, q, hA', _⟩ := hW2
  rw [Tryz.params3] at hA'
  obtain ⟨v0, d0, _, rfl, t0⟩ := trodAll_one hA'
  letI : TabsZ := tabsZ hL hS
  exact law_contract runOK3 Tryz.laidOut hW rfl rfl (tb := Tryz.f3.resultTypes[0]!) (by kernel_rfl) (by kernel_rfl) (by kernel_rfl) ho

theorem fenReads_row : Rows.FenReadsSaid :=
  OpenClaim.holds_of_wide 3 Tryz.f3 rfl rfl rfl rfl rfl rfl rfl ⟨rfl, rfl, rfl, rfl, rfl⟩ rfl rfl rfl rfl rfl (by kernel_rfl) Tryz.func3 (by kernel_rfl)
    (of_decide_eq_true (by kernel_rfl)) (by unfold Func.isWrapper; first | (rw [if_pos (by decide +kernel)]; kernel_rfl) | (rw [if_neg (by decide +kernel)]; exact ⟨rfl, rfl⟩))
    (fun os started H enc _ => fenReads_lifted os started H enc)

theorem fenReads_holds : Rows.FenReadsCardSaid :=
  Claim7.holds_tied_plain_at .later [] [.data, .data, .data, .data, .pinned, .pinned] true (true, "c135b05dcdccef6a8b9504ea54471bd241e4d8895e2a06181a908a258f28b571") true
    fenReads_row (fun _ h => by cases h) (by kernel_rfl) (fun _ h => by cases h) fenReads_row_tie rfl ⟨rfl, rfl⟩ (by kernel_rfl) rfl
    (fun f fn hf hfn => by
      obtain rfl : f = 3 := Option.some.inj ((show Tryz.prog.funcNamed "zugzwang/zugzwanglaw15.FenReads" = some 3 by kernel_rfl).symm.trans hf) |>.symm
      obtain rfl : fn = Tryz.f3 := (Option.some.inj (Tryz.func3.symm.trans hfn)).symm
      exact ⟨by kernel_rfl, fun j t ht => by
        rw [Tryz.params3] at ht
        have hm : t ∈ [9] := by
          have := Array.mem_of_getElem? ht
          simp at this
          simp [this]
        have hall : ([9].all fun u => !Tryz.prog.wantsStandIn u) = true := by kernel_rfl
        exact (show Tryz.prog.wantsStandIn t = false by simpa using List.all_eq_true.1 hall t hm)⟩)
    (by kernel_rfl)

end Go.Proofs.YtlaogmemhephnaaGreatDoor
