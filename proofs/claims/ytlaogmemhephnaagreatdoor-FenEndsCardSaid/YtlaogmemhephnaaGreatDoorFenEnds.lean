/- FenEnds: for every input the law answers true, and the input reads as it did; what the row lists of the library's tables lies as the program's text lays it. -/
import Derived.Test.YtlaogmemhephnaaGreatDoorCards
import Derived.SevenTiedAt
import Derived.SizedLaws
import Derived.ChangeMaps5
import Derived.Test.YtlaogmemhephnaaGreatDoorAm0
import Derived.Test.YtlaogmemhephnaaGreatDoorAm1
import Derived.Test.YtlaogmemhephnaaGreatDoorAm2
import Derived.Test.YtlaogmemhephnaaGreatDoorM0
import Derived.Test.YtlaogmemhephnaaGreatDoorM1
import Derived.Test.YtlaogmemhephnaaGreatDoorM2
import Derived.Test.YtlaogmemhephnaaGreatDoorM3
namespace Go.Proofs.YtlaogmemhephnaaGreatDoor
set_option linter.unusedSimpArgs false
set_option linter.unusedVariables false
open Go Go.Am Go.ChangeShapes Go.WideShapes Go.ChangeAt Go.RowKit Go.ChangeMaps
set_option maxRecDepth 100000 in
theorem fenEnds_opened {H : Type} {enc : TypeId × Value → H} {W : World} {base : Nat} {args : Array Value} {ds gs : List (DataW H)} {before : List MemPlace}
  (hval : ∀ (j : Nat) t v, Tryz.f4.params[j]? = some t → args[j]? = some v → Value.okWide Tryz.prog W .any base t v) (hW : DataW.Whole enc Tryz.prog Tryz.f4.params.toList [] false W args.toList ds gs before) (hsz : (DataW.weightsEach Tryz.prog (Tryz.f4.params.toList ++ Rows.fenEndsSpec.plain.varTypes Tryz.prog) (ds ++ gs)).all (· ≤ reachBytes) = true) (hL : laidMetH Tryz.prog tabsL W) (hS : W.ShapedOpen Tryz.prog) : @Opened (tabsZ hL hS).toBas AM3 4 W args := by
 letI : TabsZ := tabsZ hL hS
 obtain ⟨p, q, hA, hV, _⟩ := hW
 rw [Tryz.params4] at hA hval hsz
 obtain ⟨rfl, _, _⟩ := trodAll_none hA
 obtain ⟨σ', hr⟩ := Ends_run
 exact ⟨noInj, [], _, σ', rel_none W, dom_none, (show VRL noInj [] _ by simp [VRL]), ro_none, hr⟩
set_option maxRecDepth 100000 in
theorem fenEnds_lifted (os : Os) (started : os.Started) (H : Type) (enc : TypeId × Value → H) :
  ReturnsInHanded {} Tryz.checked os 4 .any (fun w args => (Rows.fenEndsSpec.pre enc Tryz.prog Tryz.f4 Rows.fenEndsRow.domain false w args ∧ laidMetH Tryz.prog tabsL w) ∧ sizedMet enc Tryz.prog Tryz.f4 (OpenSpec.ofChange Rows.fenEndsSpec) false w args)
   (Rows.fenEndsSpec.post enc Tryz.prog Tryz.f4 false true false false) := by
 refine handed_both (C := Tryz.checked) (X := fun w _ => laidMetH Tryz.prog tabsL w) (fun _ _ _ hh h => h.of_heap hh) Tryz.own started (by kernel_rfl) Tryz.func4
  (ChangeSpec.witness_shaped (enc := enc) (C := Tryz.checked) (os := os) (X := fun w _ => laidMetH Tryz.prog tabsL w) false (World.laidAll Tryz.prog os tabsL) #[] 20 (World.laidAll_os _ _ _)
   (World.shaped_of_ZipB (by kernel_rfl) (by kernel_rfl)) (by kernel_rfl) (by kernel_rfl) (by kernel_rfl) (tabs_met os _)) ?_
 intro W base args ds gs before hval hW hsz hL hS
 have ho := fenEnds_opened hval hW hsz hL hS
 have hW2 := hW
 obtain ⟨p, q, hA', _⟩ := hW2
 rw [Tryz.params4] at hA'
 obtain ⟨rfl, rfl, _⟩ := trodAll_none hA'
 letI : TabsZ := tabsZ hL hS
 exact law_contract runOK3 Tryz.laidOut hW rfl rfl (tb := Tryz.f4.resultTypes[0]!) (by kernel_rfl) (by kernel_rfl) (by kernel_rfl) ho
theorem fenEnds_row : Rows.FenEndsSaid :=
 OpenClaim.holds_of_wide 4 Tryz.f4 rfl rfl rfl rfl rfl rfl rfl ⟨rfl, rfl, rfl, rfl, rfl⟩ rfl rfl rfl rfl rfl (by kernel_rfl) Tryz.func4 (by kernel_rfl)
  (of_decide_eq_true (by kernel_rfl)) (by unfold Func.isWrapper; first | (rw [if_pos (by decide +kernel)]; kernel_rfl) | (rw [if_neg (by decide +kernel)]; exact ⟨rfl, rfl⟩))
  (fun os started H enc _ => fenEnds_lifted os started H enc)
theorem fenEnds_holds : Rows.FenEndsCardSaid :=
 Claim7.holds_tied_plain_at .later [] [.data, .data, .data, .data, .pinned, .pinned] true (true, "c135b05dcdccef6a8b9504ea54471bd241e4d8895e2a06181a908a258f28b571") true
  fenEnds_row (fun _ h => by cases h) (by kernel_rfl) (fun _ h => by cases h) fenEnds_row_tie rfl ⟨rfl, rfl⟩ (by kernel_rfl) rfl
  (fun f fn hf hfn => by
   obtain rfl : f = 4 := Option.some.inj ((show Tryz.prog.funcNamed "zugzwang/zugzwanglaw15.FenEnds" = some 4 by kernel_rfl).symm.trans hf) |>.symm
   obtain rfl : fn = Tryz.f4 := (Option.some.inj (Tryz.func4.symm.trans hfn)).symm
   exact ⟨by kernel_rfl, fun j t ht => by
    rw [Tryz.params4] at ht
    simp at ht⟩)
  (by kernel_rfl)
end Go.Proofs.YtlaogmemhephnaaGreatDoor
