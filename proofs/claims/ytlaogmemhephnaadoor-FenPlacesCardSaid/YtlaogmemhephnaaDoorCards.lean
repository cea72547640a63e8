/-
  DERIVED. GIVEN WITH THE SEED: THE CARDS: each row of YtlaogmemhephnaaDoorRows.lean that lists a variable, with what it lists TIED to the program's text (the seventh form; the later family's looks); each row that meets fmt, with fmt's text TOLD by the authors' own Lean function (tested against real Go, not proved from fmt's source: count such statements apart). THE CARD IS WHAT COUNTS. Prove the row's statement (the work); the ties are given (YtlaogmemhephnaaDoorTie.lean); close each card by the builder's one call (the guide's Derived/Test/ToyasCard.lean, 'card_holds'). Laid BY PROGRAM, IN A SANDBOX (cutbox-door.mjs). By AI agents, Wed Nov 11 2026. No macro, syntax, notation, axiom, sorry.
-/
import Derived.Test.YtlaogmemhephnaaDoorRows
import GoSem.ClaimSeven
namespace Go.Proofs.YtlaogmemhephnaaDoor
namespace Rows

/-- THE TIED CARD OF 'zugzwanglaw15.FenShows'. -/
def fenShowsCard : Claim7 := { stood := { row := fenShowsRow, standIns := [], harness := (true, "94662656161a8ca53ece9c5295047cfaa61265cfa55c412fad9de49cfe28d94f"), looks := true }, kinds := [], alts := [], laidByText := true, laidKinds := [.data, .data, .data, .data, .pinned, .pinned], laidTests := true, laidLooks := .later }
def FenShowsCardSaid : Prop := Claim7.holds Tryd.pinned (.plain (OpenSpec.ofChange fenShowsSpec)) fenShowsCard

/-- THE TIED CARD OF 'zugzwanglaw15.FenBack'. -/
def fenBackCard : Claim7 := { stood := { row := fenBackRow, standIns := [], harness := (true, "94662656161a8ca53ece9c5295047cfaa61265cfa55c412fad9de49cfe28d94f"), looks := true }, kinds := [], alts := [], laidByText := true, laidKinds := [.data, .data, .data, .data, .pinned, .pinned], laidTests := true, laidLooks := .later }
def FenBackCardSaid : Prop := Claim7.holds Tryd.pinned (.plain (OpenSpec.ofChange fenBackSpec)) fenBackCard

/-- THE TIED CARD OF 'zugzwanglaw15.FenPlaces'. -/
def fenPlacesCard : Claim7 := { stood := { row := fenPlacesRow, standIns := [], harness := (true, "94662656161a8ca53ece9c5295047cfaa61265cfa55c412fad9de49cfe28d94f"), looks := true }, kinds := [], alts := [], laidByText := true, laidKinds := [.data, .data, .data, .data, .pinned, .pinned], laidTests := true, laidLooks := .later }
def FenPlacesCardSaid : Prop := Claim7.holds Tryd.pinned (.plain (OpenSpec.ofChange fenPlacesSpec)) fenPlacesCard

/-- THE SECOND FORM's CARD OF 'zugzwanglaw15.FenShows'. -/
def fenShowsUptoCard : Claim7 := { stood := { row := fenShowsUptoRow, standIns := [], harness := (true, "94662656161a8ca53ece9c5295047cfaa61265cfa55c412fad9de49cfe28d94f"), looks := true }, kinds := [], alts := [], laidByText := true, laidKinds := [.data, .data, .data, .data, .pinned, .pinned], laidTests := true, laidLooks := .later }
def FenShowsUptoCardSaid : Prop := Claim7.holds Tryd.pinned (.plain (OpenSpec.upto fenShowsSpec)) fenShowsUptoCard

/-- THE SECOND FORM's CARD OF 'zugzwanglaw15.FenBack'. -/
def fenBackUptoCard : Claim7 := { stood := { row := fenBackUptoRow, standIns := [], harness := (true, "94662656161a8ca53ece9c5295047cfaa61265cfa55c412fad9de49cfe28d94f"), looks := true }, kinds := [], alts := [], laidByText := true, laidKinds := [.data, .data, .data, .data, .pinned, .pinned], laidTests := true, laidLooks := .later }
def FenBackUptoCardSaid : Prop := Claim7.holds Tryd.pinned (.plain (OpenSpec.upto fenBackSpec)) fenBackUptoCard

/-- THE SECOND FORM's CARD OF 'zugzwanglaw15.FenPlaces'. -/
def fenPlacesUptoCard : Claim7 := { stood := { row := fenPlacesUptoRow, standIns := [], harness := (true, "94662656161a8ca53ece9c5295047cfaa61265cfa55c412fad9de49cfe28d94f"), looks := true }, kinds := [], alts := [], laidByText := true, laidKinds := [.data, .data, .data, .data, .pinned, .pinned], laidTests := true, laidLooks := .later }
def FenPlacesUptoCardSaid : Prop := Claim7.holds Tryd.pinned (.plain (OpenSpec.upto fenPlacesSpec)) fenPlacesUptoCard
end Rows
end Go.Proofs.YtlaogmemhephnaaDoor
