/- FenShows: for every input the law answers true, and the input reads as it did; what the row lists of the library's tables lies as the program's text lays it. -/
import Derived.Test.YtlaogmemhephnaaDoorCards
import Derived.SevenTiedAt
import Derived.Test.YtlaogmemhephnaaDoorAm0
import Derived.Test.YtlaogmemhephnaaDoorAm1
import Derived.Test.YtlaogmemhephnaaDoorAm2
import Derived.Test.YtlaogmemhephnaaDoorM0
import Derived.Test.YtlaogmemhephnaaDoorM1
import Derived.Test.YtlaogmemhephnaaDoorM2
namespace Go.Proofs.YtlaogmemhephnaaDoor
set_option linter.unusedSimpArgs false
set_option linter.unusedVariables false
open Go Go.Am Go.ChangeShapes Go.WideShapes Go.ChangeAt Go.RowKit

set_option maxRecDepth 100000 in
theorem fenShows_opened {H : Type} {enc : TypeId × Value → H} {W : World} {base : Nat} {args : Array Value} {ds gs : List (DataW H)} {before : List MemPlace}
    (hval : ∀ (j : Nat) t v, Tryd.f3.params[j]? = some t → args[j]? = some v → Value.okWide Tryd.prog W .any base t v) (hW : DataW.Whole enc Tryd.prog Tryd.f3.params.toList [] false W args.toList ds gs before) (hsz : (DataW.weightsEach Tryd.prog (Tryd.f3.params.toList ++ Rows.fenShowsSpec.plain.varTypes Tryd.prog) (ds ++ gs)).all (· ≤ reachBytes) = true) (hL : laidMetH Tryd.prog tabsL W) : @Opened (tabsAt hL).toBas AM2 3 W args := by
  letI : Tabs := tabsAt hL
  obtain ⟨p, q, hA, hV, _⟩ := hW
  rw [Tryd.params3] at hA hval hsz
  obtain ⟨v0, d0, rfl, rfl, t0⟩ := trodAll_one hA
  obtain ⟨P, hP, _⟩ := open_flat (n := 133) (by kernel_rfl) (hval 0 29 v0 rfl rfl)
  obtain ⟨σ', hr⟩ := Shows_run P
  exact ⟨noInj, [], _, σ', rel_none W, dom_none, vrl1 (hP _), ro_none, hr⟩

set_option maxRecDepth 100000 in
theorem fenShows_lifted (os : Os) (started : os.Started) (H : Type) (enc : TypeId × Value → H) :
    ReturnsInHanded {} Tryd.checked os 3 .any (fun w args => (Rows.fenShowsSpec.pre enc Tryd.prog Tryd.f3 Rows.fenShowsRow.domain false w args ∧ laidMetH Tryd.prog tabsL w) ∧ sizedMet enc Tryd.prog Tryd.f3 (OpenSpec.ofChange Rows.fenShowsSpec) false w args)
      (Rows.fenShowsSpec.post enc Tryd.prog Tryd.f3 false true false false) := by
  refine returnsInHanded_of_change_and (C := Tryd.checked) (X := fun w _ => laidMetH Tryd.prog tabsL w) (fun _ _ _ hh h => h.of_heap hh) Tryd.own started (by kernel_rfl) Tryd.func3
    (ChangeSpec.witness_shaped (enc := enc) (C := Tryd.checked) (os := os) (X := fun w _ => laidMetH Tryd.prog tabsL w) false (World.laidAll Tryd.prog os tabsL) #[zeros 133] 20 (World.laidAll_os _ _ _)
      (World.shaped_of_ZipB (by kernel_rfl) (by kernel_rfl)) (by kernel_rfl) (by kernel_rfl) (by kernel_rfl) (tabs_met os _)) ?_
  intro W base args ds gs before hval hW _ hsz hL _
  have ho := fenShows_opened hval hW hsz hL
  have hW2 := hW
  obtain ⟨p, q, hA', _⟩ := hW2
  rw [Tryd.params3] at hA'
  obtain ⟨v0, d0, _, rfl, t0⟩ := trodAll_one hA'
  letI : Tabs := tabsAt hL
  exact law_contract runOK2 Tryd.laidOut hW rfl rfl (tb := Tryd.f3.resultTypes[0]!) (by kernel_rfl) (by kernel_rfl) (by kernel_rfl) ho

theorem fenShows_row : Rows.FenShowsSaid :=
  OpenClaim.holds_of_wide 3 Tryd.f3 rfl rfl rfl rfl rfl rfl rfl ⟨rfl, rfl, rfl, rfl, rfl⟩ rfl rfl rfl rfl rfl (by kernel_rfl) Tryd.func3 (by kernel_rfl)
    (of_decide_eq_true (by kernel_rfl)) (by unfold Func.isWrapper; first | (rw [if_pos (by decide +kernel)]; kernel_rfl) | (rw [if_neg (by decide +kernel)]; exact ⟨rfl, rfl⟩))
    (fun os started H enc _ => fenShows_lifted os started H enc)

theorem fenShows_holds : Rows.FenShowsCardSaid :=
  Claim7.holds_tied_plain_at .later [] [.data, .data, .data, .data, .pinned, .pinned] true (true, "94662656161a8ca53ece9c5295047cfaa61265cfa55c412fad9de49cfe28d94f") true
    fenShows_row (fun _ h => by cases h) (by kernel_rfl) (fun _ h => by cases h) fenShows_row_tie rfl ⟨rfl, rfl⟩ (by kernel_rfl) rfl
    (fun f fn hf hfn => by
      obtain rfl : f = 3 := Option.some.inj ((show Tryd.prog.funcNamed "zugzwang/zugzwanglaw15.FenShows" = some 3 by kernel_rfl).symm.trans hf) |>.symm
      obtain rfl : fn = Tryd.f3 := (Option.some.inj (Tryd.func3.symm.trans hfn)).symm
      exact ⟨by kernel_rfl, fun j t ht => by
        rw [Tryd.params3] at ht
        have hm : t ∈ [29] := by
          have := Array.mem_of_getElem? ht
          simp at this
          simp [this]
        have hall : ([29].all fun u => !Tryd.prog.wantsStandIn u) = true := by kernel_rfl
        exact (show Tryd.prog.wantsStandIn t = false by simpa using List.all_eq_true.1 hall t hm)⟩)
    (by kernel_rfl)

end Go.Proofs.YtlaogmemhephnaaDoor
