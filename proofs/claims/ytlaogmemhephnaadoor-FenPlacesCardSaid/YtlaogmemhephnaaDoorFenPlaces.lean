/- FenPlaces: for every input the law answers true, and the input reads as it did; what the row lists of the library's tables lies as the program's text lays it. -/
import Derived.Test.YtlaogmemhephnaaDoorCards
import Derived.SevenTiedAt
import Derived.SizedLaws
import Derived.ChangeMaps5
import Derived.Test.YtlaogmemhephnaaDoorAm0
import Derived.Test.YtlaogmemhephnaaDoorAm1
import Derived.Test.YtlaogmemhephnaaDoorAm2
import Derived.Test.YtlaogmemhephnaaDoorM0
import Derived.Test.YtlaogmemhephnaaDoorM1
import Derived.Test.YtlaogmemhephnaaDoorM2
namespace Go.Proofs.YtlaogmemhephnaaDoor
set_option linter.unusedSimpArgs false
set_option linter.unusedVariables false
open Go Go.Am Go.ChangeShapes Go.WideShapes Go.ChangeAt Go.RowKit Go.ChangeMaps

set_option maxRecDepth 100000 in
theorem fenPlaces_opened {H : Type} {enc : TypeId × Value → H} {W : World} {base : Nat} {args : Array Value} {ds gs : List (DataW H)} {before : List MemPlace}
    (hval : ∀ (j : Nat) t v, Tryd.f5.params[j]? = some t → args[j]? = some v → Value.okWide Tryd.prog W .any base t v) (hW : DataW.Whole enc Tryd.prog Tryd.f5.params.toList [] false W args.toList ds gs before) (hsz : (DataW.weightsEach Tryd.prog (Tryd.f5.params.toList ++ Rows.fenPlacesSpec.plain.varTypes Tryd.prog) (ds ++ gs)).all (· ≤ reachBytes) = true) (hL : laidMetH Tryd.prog tabsL W) : @Opened (tabsAt hL).toBas AM2 5 W args := by
  letI : Tabs := tabsAt hL
  obtain ⟨p, q, hA, hV, _⟩ := hW
  rw [Tryd.params5] at hA hval hsz
  obtain ⟨v0, v1, d0, d1, p0, p1, rfl, rfl, rfl, t0, t1⟩ := trodAll_two hA
  obtain ⟨s, rfl, rfl, _, hs⟩ := open_string Tryd.underlying9 (hval 0 9 v0 rfl rfl) t0
  obtain ⟨r, rfl, rfl, _, ht⟩ := open_string Tryd.underlying9 (hval 1 9 v1 rfl rfl) t1
  have hr2 := sized_string hsz (j := 1) (t := 9) rfl rfl
  have hr3 : r.size ≤ 140737488355328 := by
    have e : r.data.toList.length = r.size := by simp
    rw [e] at hr2
    exact Nat.le_trans hr2 (by decide)
  obtain ⟨σ', hr⟩ := Places_run s r hr3
  exact ⟨noInj, [], _, σ', rel_none W, dom_none, vrl2 (by simp [VR, S.val]) (by simp [VR, S.val]), ro_none, hr⟩

set_option maxRecDepth 100000 in
theorem fenPlaces_lifted (os : Os) (started : os.Started) (H : Type) (enc : TypeId × Value → H) :
    ReturnsInHanded {} Tryd.checked os 5 .any (fun w args => (Rows.fenPlacesSpec.pre enc Tryd.prog Tryd.f5 Rows.fenPlacesRow.domain false w args ∧ laidMetH Tryd.prog tabsL w) ∧ sizedMet enc Tryd.prog Tryd.f5 (OpenSpec.ofChange Rows.fenPlacesSpec) false w args)
      (Rows.fenPlacesSpec.post enc Tryd.prog Tryd.f5 false true false false) := by
  refine returnsInHanded_of_change_and (C := Tryd.checked) (X := fun w _ => laidMetH Tryd.prog tabsL w) (fun _ _ _ hh h => h.of_heap hh) Tryd.own started (by kernel_rfl) Tryd.func5
    (ChangeSpec.witness_shaped (enc := enc) (C := Tryd.checked) (os := os) (X := fun w _ => laidMetH Tryd.prog tabsL w) false (World.laidAll Tryd.prog os tabsL) #[.string ⟨#[]⟩, .string ⟨#[]⟩] 20 (World.laidAll_os _ _ _)
      (World.shaped_of_ZipB (by kernel_rfl) (by kernel_rfl)) (by kernel_rfl) (by kernel_rfl) (by kernel_rfl) (tabs_met os _)) ?_
  intro W base args ds gs before hval hW _ hsz hL _
  have ho := fenPlaces_opened hval hW hsz hL
  have hW2 := hW
  obtain ⟨p, q, hA', _⟩ := hW2
  rw [Tryd.params5] at hA'
  obtain ⟨v0, v1, d0, d1, p0, p1, h, rfl, rfl, t0, t1⟩ := trodAll_two hA'
  letI : Tabs := tabsAt hL
  exact law_contract runOK2 Tryd.laidOut hW rfl rfl (tb := Tryd.f5.resultTypes[0]!) (by kernel_rfl) (by kernel_rfl) (by kernel_rfl) ho

theorem fenPlaces_row : Rows.FenPlacesSaid :=
  OpenClaim.holds_of_wide 5 Tryd.f5 rfl rfl rfl rfl rfl rfl rfl ⟨rfl, rfl, rfl, rfl, rfl⟩ rfl rfl rfl rfl rfl (by kernel_rfl) Tryd.func5 (by kernel_rfl)
    (of_decide_eq_true (by kernel_rfl)) (by unfold Func.isWrapper; first | (rw [if_pos (by decide +kernel)]; kernel_rfl) | (rw [if_neg (by decide +kernel)]; exact ⟨rfl, rfl⟩))
    (fun os started H enc _ => fenPlaces_lifted os started H enc)

theorem fenPlaces_holds : Rows.FenPlacesCardSaid :=
  Claim7.holds_tied_plain_at .later [] [.data, .data, .data, .data, .pinned, .pinned] true (true, "94662656161a8ca53ece9c5295047cfaa61265cfa55c412fad9de49cfe28d94f") true
    fenPlaces_row (fun _ h => by cases h) (by kernel_rfl) (fun _ h => by cases h) fenPlaces_row_tie rfl ⟨rfl, rfl⟩ (by kernel_rfl) rfl
    (fun f fn hf hfn => by
      obtain rfl : f = 5 := Option.some.inj ((show Tryd.prog.funcNamed "zugzwang/zugzwanglaw15.FenPlaces" = some 5 by kernel_rfl).symm.trans hf) |>.symm
      obtain rfl : fn = Tryd.f5 := (Option.some.inj (Tryd.func5.symm.trans hfn)).symm
      exact ⟨by kernel_rfl, fun j t ht => by
        rw [Tryd.params5] at ht
        have hm : t ∈ [9] := by
          have := Array.mem_of_getElem? ht
          simp at this
          simp [this]
        have hall : ([9].all fun u => !Tryd.prog.wantsStandIn u) = true := by kernel_rfl
        exact (show Tryd.prog.wantsStandIn t = false by simpa using List.all_eq_true.1 hall t hm)⟩)
    (by kernel_rfl)

end Go.Proofs.YtlaogmemhephnaaDoor
