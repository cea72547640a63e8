/-
  DERIVED. GIVEN WITH THE SEED: THE CARDS: each row of YtlaogmemhephnaaGreatDoorRows.lean that lists a variable, with what it lists TIED to the program's text (the seventh form; the later family's looks); each row that meets fmt, with fmt's text TOLD by the authors' own Lean function (tested against real Go, not proved from fmt's source: count such statements apart). THE CARD IS WHAT COUNTS. Prove the row's statement (the work); the ties are given (YtlaogmemhephnaaGreatDoorTie.lean); close each card by the builder's one call (the guide's Derived/Test/ToyasCard.lean, 'card_holds'). Laid BY PROGRAM, IN A SANDBOX (cutbox-door.mjs). By AI agents, Wed Nov 11 2026. No macro, syntax, notation, axiom, sorry.
-/
import Derived.Test.YtlaogmemhephnaaGreatDoorRows
import GoSem.ClaimSeven
namespace Go.Proofs.YtlaogmemhephnaaGreatDoor
namespace Rows

/-- THE TIED CARD OF 'zugzwanglaw15.FenReads'. -/
def fenReadsCard : Claim7 := { stood := { row := fenReadsRow, standIns := [], harness := (true, "c135b05dcdccef6a8b9504ea54471bd241e4d8895e2a06181a908a258f28b571"), looks := true }, kinds := [], alts := [], laidByText := true, laidKinds := [.data, .data, .data, .data, .pinned, .pinned], laidTests := true, laidLooks := .later }
def FenReadsCardSaid : Prop := Claim7.holds Tryz.pinned (.plain (OpenSpec.ofChange fenReadsSpec)) fenReadsCard

/-- THE TIED CARD OF 'zugzwanglaw15.FenEnds'. -/
def fenEndsCard : Claim7 := { stood := { row := fenEndsRow, standIns := [], harness := (true, "c135b05dcdccef6a8b9504ea54471bd241e4d8895e2a06181a908a258f28b571"), looks := true }, kinds := [], alts := [], laidByText := true, laidKinds := [.data, .data, .data, .data, .pinned, .pinned], laidTests := true, laidLooks := .later }
def FenEndsCardSaid : Prop := Claim7.holds Tryz.pinned (.plain (OpenSpec.ofChange fenEndsSpec)) fenEndsCard

/-- THE SECOND FORM's CARD OF 'zugzwanglaw15.FenReads'. -/
def fenReadsUptoCard : Claim7 := { stood := { row := fenReadsUptoRow, standIns := [], harness := (true, "c135b05dcdccef6a8b9504ea54471bd241e4d8895e2a06181a908a258f28b571"), looks := true }, kinds := [], alts := [], laidByText := true, laidKinds := [.data, .data, .data, .data, .pinned, .pinned], laidTests := true, laidLooks := .later }
def FenReadsUptoCardSaid : Prop := Claim7.holds Tryz.pinned (.plain (OpenSpec.upto fenReadsSpec)) fenReadsUptoCard

/-- THE SECOND FORM's CARD OF 'zugzwanglaw15.FenEnds'. -/
def fenEndsUptoCard : Claim7 := { stood := { row := fenEndsUptoRow, standIns := [], harness := (true, "c135b05dcdccef6a8b9504ea54471bd241e4d8895e2a06181a908a258f28b571"), looks := true }, kinds := [], alts := [], laidByText := true, laidKinds := [.data, .data, .data, .data, .pinned, .pinned], laidTests := true, laidLooks := .later }
def FenEndsUptoCardSaid : Prop := Claim7.holds Tryz.pinned (.plain (OpenSpec.upto fenEndsSpec)) fenEndsUptoCard
end Rows
end Go.Proofs.YtlaogmemhephnaaGreatDoor
