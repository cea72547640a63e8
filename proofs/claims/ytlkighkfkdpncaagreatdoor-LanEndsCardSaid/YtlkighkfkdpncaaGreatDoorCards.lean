/-
  DERIVED. GIVEN WITH THE SEED: THE CARDS: each row of YtlkighkfkdpncaaGreatDoorRows.lean that lists a variable, with what it lists TIED to the program's text (the seventh form; the later family's looks); each row that meets fmt, with fmt's text TOLD by the authors' own Lean function (tested against real Go, not proved from fmt's source: count such statements apart). THE CARD IS WHAT COUNTS. Prove the row's statement (the work); the ties are given (YtlkighkfkdpncaaGreatDoorTie.lean); close each card by the builder's one call (the guide's Derived/Test/ToyasCard.lean, 'card_holds'). Laid BY PROGRAM, IN A SANDBOX (cutbox-door.mjs). By AI agents, Wed Nov 11 2026. No macro, syntax, notation, axiom, sorry.
-/
import Derived.Test.YtlkighkfkdpncaaGreatDoorRows
import GoSem.ClaimSeven
namespace Go.Proofs.YtlkighkfkdpncaaGreatDoor
namespace Rows

/-- THE TIED CARD OF 'zugzwanglaw16.LanLong'. -/
def lanLongCard : Claim7 := { stood := { row := lanLongRow, standIns := [], harness := (true, "1275aaa319b7a90ddf7d7b3937096b8866b80a1578a908a685144f30884f0206"), looks := false }, kinds := [], alts := [], laidByText := true, laidKinds := [.data, .pinned, .pinned], laidTests := true, laidLooks := .later }
def LanLongCardSaid : Prop := Claim7.holds Tryz.pinned (.plain (OpenSpec.ofChange lanLongSpec)) lanLongCard

/-- THE TIED CARD OF 'zugzwanglaw16.LanUnlike'. -/
def lanUnlikeCard : Claim7 := { stood := { row := lanUnlikeRow, standIns := [], harness := (true, "1275aaa319b7a90ddf7d7b3937096b8866b80a1578a908a685144f30884f0206"), looks := false }, kinds := [], alts := [], laidByText := true, laidKinds := [.data, .pinned, .pinned], laidTests := true, laidLooks := .later }
def LanUnlikeCardSaid : Prop := Claim7.holds Tryz.pinned (.plain (OpenSpec.ofChange lanUnlikeSpec)) lanUnlikeCard

/-- THE TIED CARD OF 'zugzwanglaw16.LanTexts'. -/
def lanTextsCard : Claim7 := { stood := { row := lanTextsRow, standIns := [], harness := (true, "1275aaa319b7a90ddf7d7b3937096b8866b80a1578a908a685144f30884f0206"), looks := false }, kinds := [], alts := [], laidByText := true, laidKinds := [.data, .pinned, .pinned], laidTests := true, laidLooks := .later }
def LanTextsCardSaid : Prop := Claim7.holds Tryz.pinned (.plain (OpenSpec.ofChange lanTextsSpec)) lanTextsCard

/-- THE TIED CARD OF 'zugzwanglaw16.LanEnds'. -/
def lanEndsCard : Claim7 := { stood := { row := lanEndsRow, standIns := [], harness := (true, "1275aaa319b7a90ddf7d7b3937096b8866b80a1578a908a685144f30884f0206"), looks := false }, kinds := [], alts := [], laidByText := true, laidKinds := [.data, .pinned, .pinned], laidTests := true, laidLooks := .later }
def LanEndsCardSaid : Prop := Claim7.holds Tryz.pinned (.plain (OpenSpec.ofChange lanEndsSpec)) lanEndsCard

/-- THE TIED CARD OF 'zugzwanglaw16.LanBack'. -/
def lanBackCard : Claim7 := { stood := { row := lanBackRow, standIns := [], harness := (true, "1275aaa319b7a90ddf7d7b3937096b8866b80a1578a908a685144f30884f0206"), looks := false }, kinds := [], alts := [], laidByText := true, laidKinds := [.data, .pinned, .pinned], laidTests := true, laidLooks := .later }
def LanBackCardSaid : Prop := Claim7.holds Tryz.pinned (.plain (OpenSpec.ofChange lanBackSpec)) lanBackCard

/-- THE SECOND FORM's CARD OF 'zugzwanglaw16.LanLong'. -/
def lanLongUptoCard : Claim7 := { stood := { row := lanLongUptoRow, standIns := [], harness := (true, "1275aaa319b7a90ddf7d7b3937096b8866b80a1578a908a685144f30884f0206"), looks := false }, kinds := [], alts := [], laidByText := true, laidKinds := [.data, .pinned, .pinned], laidTests := true, laidLooks := .later }
def LanLongUptoCardSaid : Prop := Claim7.holds Tryz.pinned (.plain (OpenSpec.upto lanLongSpec)) lanLongUptoCard

/-- THE SECOND FORM's CARD OF 'zugzwanglaw16.LanUnlike'. -/
def lanUnlikeUptoCard : Claim7 := { stood := { row := lanUnlikeUptoRow, standIns := [], harness := (true, "1275aaa319b7a90ddf7d7b3937096b8866b80a1578a908a685144f30884f0206"), looks := false }, kinds := [], alts := [], laidByText := true, laidKinds := [.data, .pinned, .pinned], laidTests := true, laidLooks := .later }
def LanUnlikeUptoCardSaid : Prop := Claim7.holds Tryz.pinned (.plain (OpenSpec.upto lanUnlikeSpec)) lanUnlikeUptoCard

/-- THE SECOND FORM's CARD OF 'zugzwanglaw16.LanTexts'. -/
def lanTextsUptoCard : Claim7 := { stood := { row := lanTextsUptoRow, standIns := [], harness := (true, "1275aaa319b7a90ddf7d7b3937096b8866b80a1578a908a685144f30884f0206"), looks := false }, kinds := [], alts := [], laidByText := true, laidKinds := [.data, .pinned, .pinned], laidTests := true, laidLooks := .later }
def LanTextsUptoCardSaid : Prop := Claim7.holds Tryz.pinned (.plain (OpenSpec.upto lanTextsSpec)) lanTextsUptoCard

/-- THE SECOND FORM's CARD OF 'zugzwanglaw16.LanEnds'. -/
def lanEndsUptoCard : Claim7 := { stood := { row := lanEndsUptoRow, standIns := [], harness := (true, "1275aaa319b7a90ddf7d7b3937096b8866b80a1578a908a685144f30884f0206"), looks := false }, kinds := [], alts := [], laidByText := true, laidKinds := [.data, .pinned, .pinned], laidTests := true, laidLooks := .later }
def LanEndsUptoCardSaid : Prop := Claim7.holds Tryz.pinned (.plain (OpenSpec.upto lanEndsSpec)) lanEndsUptoCard

/-- THE SECOND FORM's CARD OF 'zugzwanglaw16.LanBack'. -/
def lanBackUptoCard : Claim7 := { stood := { row := lanBackUptoRow, standIns := [], harness := (true, "1275aaa319b7a90ddf7d7b3937096b8866b80a1578a908a685144f30884f0206"), looks := false }, kinds := [], alts := [], laidByText := true, laidKinds := [.data, .pinned, .pinned], laidTests := true, laidLooks := .later }
def LanBackUptoCardSaid : Prop := Claim7.holds Tryz.pinned (.plain (OpenSpec.upto lanBackSpec)) lanBackUptoCard
end Rows
end Go.Proofs.YtlkighkfkdpncaaGreatDoor
