/- FenBack: for every input the law answers true, and the input reads as it did; what the row lists of the library's tables lies as the program's text lays it. -/
import Derived.Test.YtlaogmemhephnaaDoorCards
import Derived.SevenTiedAt
import Derived.Test.YtlaogmemhephnaaDoorAm0
import Derived.Test.YtlaogmemhephnaaDoorAm1
import Derived.Test.YtlaogmemhephnaaDoorAm2
import Derived.Test.YtlaogmemhephnaaDoorM0
import Derived.Test.YtlaogmemhephnaaDoorM1
import Derived.Test.YtlaogmemhephnaaDoorM2
namespace Go.Proofs.YtlaogmemhephnaaDoor
set_option linter.unusedSimpArgs false
set_option linter.unusedVariables false
open Go Go.Am Go.ChangeShapes Go.WideShapes Go.ChangeAt Go.RowKit

set_option maxRecDepth 100000 in
theorem fenBack_opened {H : Type} {enc : TypeId × Value → H} {W : World} {base : Nat} {args : Array Value} {ds gs : List (DataW H)} {before : List MemPlace}
    (hval : ∀ (j : Nat) t v, Tryd.f4.params[j]? = some t → args[j]? = some v → Value.okWide Tryd.prog W .any base t v) (hW : DataW.Whole enc Tryd.prog Tryd.f4.params.toList [] false W args.toList ds gs before) (hsz : (DataW.weightsEach Tryd.prog (Tryd.f4.params.toList ++ Rows.fenBackSpec.plain.varTypes Tryd.prog) (ds ++ gs)).all (· ≤ reachBytes) = true) (hL : laidMetH Tryd.prog tabsL W) : @Opened (tabsAt hL).toBas AM2 4 W args := by
  letI : Tabs := tabsAt hL
  obtain ⟨p, q, hA, hV, _⟩ := hW
  rw [Tryd.params4] at hA hval hsz
  obtain ⟨v0, v1, v2, d0, d1, d2, p0, p1, p2, rfl, rfl, rfl, t0, t1, t2⟩ := trodAll_three hA
  obtain ⟨P, hP, _, zP⟩ := open_flat (n := 133) (by kernel_rfl) (hval 0 29 v0 rfl rfl)
  obtain ⟨Q, hQ, _, zQ⟩ := open_flat (n := 133) (by kernel_rfl) (hval 1 29 v1 rfl rfl)
  obtain ⟨s, hS, hs⟩ := open_str Tryd.underlying9 (hval 2 9 v2 rfl rfl)
  obtain ⟨σ', hr⟩ := Back_run P Q s zP zQ hs
  exact ⟨noInj, [], _, σ', rel_none W, dom_none, vrl3 (hP _) (hQ _) (hS _), ro_none, hr⟩

set_option maxRecDepth 100000 in
theorem fenBack_lifted (os : Os) (started : os.Started) (H : Type) (enc : TypeId × Value → H) :
    ReturnsInHanded {} Tryd.checked os 4 .any (fun w args => (Rows.fenBackSpec.pre enc Tryd.prog Tryd.f4 Rows.fenBackRow.domain false w args ∧ laidMetH Tryd.prog tabsL w) ∧ sizedMet enc Tryd.prog Tryd.f4 (OpenSpec.ofChange Rows.fenBackSpec) false w args)
      (Rows.fenBackSpec.post enc Tryd.prog Tryd.f4 false true false false) := by
  refine returnsInHanded_of_change_and (C := Tryd.checked) (X := fun w _ => laidMetH Tryd.prog tabsL w) (fun _ _ _ hh h => h.of_heap hh) Tryd.own started (by kernel_rfl) Tryd.func4
    (ChangeSpec.witness_shaped (enc := enc) (C := Tryd.checked) (os := os) (X := fun w _ => laidMetH Tryd.prog tabsL w) false (World.laidAll Tryd.prog os tabsL) #[zeros 133, zeros 133, .string ⟨#[]⟩] 20 (World.laidAll_os _ _ _)
      (World.shaped_of_ZipB (by kernel_rfl) (by kernel_rfl)) (by kernel_rfl) (by kernel_rfl) (by kernel_rfl) (tabs_met os _)) ?_
  intro W base args ds gs before hval hW _ hsz hL _
  have ho := fenBack_opened hval hW hsz hL
  have hW2 := hW
  obtain ⟨p, q, hA', _⟩ := hW2
  rw [Tryd.params4] at hA'
  obtain ⟨v0, v1, v2, d0, d1, d2, p0, p1, p2, h, rfl, rfl, t0, t1, t2⟩ := trodAll_three hA'
  letI : Tabs := tabsAt hL
  exact law_contract runOK2 Tryd.laidOut hW rfl rfl (tb := Tryd.f4.resultTypes[0]!) (by kernel_rfl) (by kernel_rfl) (by kernel_rfl) ho

theorem fenBack_row : Rows.FenBackSaid :=
  OpenClaim.holds_of_wide 4 Tryd.f4 rfl rfl rfl rfl rfl rfl rfl ⟨rfl, rfl, rfl, rfl, rfl⟩ rfl rfl rfl rfl rfl (by kernel_rfl) Tryd.func4 (by kernel_rfl)
    (of_decide_eq_true (by kernel_rfl)) (by unfold Func.isWrapper; first | (rw [if_pos (by decide +kernel)]; kernel_rfl) | (rw [if_neg (by decide +kernel)]; exact ⟨rfl, rfl⟩))
    (fun os started H enc _ => fenBack_lifted os started H enc)

theorem fenBack_holds : Rows.FenBackCardSaid :=
  Claim7.holds_tied_plain_at .later [] [.data, .data, .data, .data, .pinned, .pinned] true (true, "94662656161a8ca53ece9c5295047cfaa61265cfa55c412fad9de49cfe28d94f") true
    fenBack_row (fun _ h => by cases h) (by kernel_rfl) (fun _ h => by cases h) fenBack_row_tie rfl ⟨rfl, rfl⟩ (by kernel_rfl) rfl
    (fun f fn hf hfn => by
      obtain rfl : f = 4 := Option.some.inj ((show Tryd.prog.funcNamed "zugzwang/zugzwanglaw15.FenBack" = some 4 by kernel_rfl).symm.trans hf) |>.symm
      obtain rfl : fn = Tryd.f4 := (Option.some.inj (Tryd.func4.symm.trans hfn)).symm
      exact ⟨by kernel_rfl, fun j t ht => by
        rw [Tryd.params4] at ht
        have hm : t ∈ [29, 9] := by
          have := Array.mem_of_getElem? ht
          simp at this
          simp [this]
        have hall : ([29, 9].all fun u => !Tryd.prog.wantsStandIn u) = true := by kernel_rfl
        exact (show Tryd.prog.wantsStandIn t = false by simpa using List.all_eq_true.1 hall t hm)⟩)
    (by kernel_rfl)

end Go.Proofs.YtlaogmemhephnaaDoor
