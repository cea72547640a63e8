/-
  No cell of these rows narrows 'for every input' (looked for: loops, veiled, ifaces, maps, wideKeys, modest, calm, conditions, laid).
  DERIVED. THE GIVEN ROWS OF THIS SEAT. 16 by the template 'for every input the law returns true; each argument reads behind the call as it read before'; 0 by the template 'total and deterministic' (their statements: YtjldefmcnppdoaaTotals.lean).
  GIVEN WITH THE SEED: the statements are not yours to turn. If you find one false, say at which input.
  Laid BY PROGRAM, IN A SANDBOX (cutbox-rows.mjs): the forced cells as the released guide's own fill.sh prints them over the translation 4b39ceb9d9e2f5ba… (all of the seat's roots in one cut). By AI agents, Wed Nov 11 2026. No macro, syntax, notation, axiom, sorry.
-/
import Derived.Test.YtjldefmcnppdoaaChecked
import GoSem.Claim
import GoSem.ClaimJoined
import GoSem.ClaimMapViews
import Derived.JoinedTies
import Derived.KernelRfl
namespace Go.Proofs.Ytjldefmcnppdoaa
/- THE CELL 'sum', in the pinned program and in every row, IS THE sha256 OF THE DUMP (.gsa) THAT YtjldefmcnppdoaaProg.lean LOADS. Nothing in Lean hashes anything: it is a label: what it is worth is what the hold of that sum in a sandbox is worth. -/
noncomputable def Try.pinned : Pinned := { name := "ytjldefmcnppdoaa", sum := "4b39ceb9d9e2f5ba5442f5a26378cbb0401de256e406fe7c95f4423669c38226", checked := Try.checked }
namespace Rows
def none {H : Type} : Left H := { results := [], args := [] }

/-- 'zugzwanglaw13.DeadTells': WHATEVER THE INPUT: true; the input reads as it did. -/
def deadTellsSpec : ChangeSpec := { name := "deadTells", fn := fun _ => fun
  | [d1, d2, d3] => { results := [.lit (.bool true)], args := [d1, d2, d3] }
  | _ => none }
def deadTellsRow : OpenClaim := { program := "ytjldefmcnppdoaa", sum := "4b39ceb9d9e2f5ba5442f5a26378cbb0401de256e406fe7c95f4423669c38226", func := "zugzwang/zugzwanglaw13.DeadTells", spec := "deadTells", apart := false }
def DeadTellsSaid : Prop := deadTellsRow.holds Try.pinned (OpenSpec.ofChange deadTellsSpec)

/-- ITS FALSE NEIGHBOUR: 'it returns false'. Refute it at one input. -/
def deadTellsWrong : ChangeSpec := { name := "deadTells", fn := fun _ => fun
  | [d1, d2, d3] => { results := [.lit (.bool false)], args := [d1, d2, d3] }
  | _ => none }
def DeadTellsWrongFalsely : Prop := deadTellsRow.holds Try.pinned (OpenSpec.ofChange deadTellsWrong)

/-- 'zugzwanglaw13.DeadEnds': WHATEVER THE INPUT: true; the input reads as it did. -/
def deadEndsSpec : ChangeSpec := { name := "deadEnds", fn := fun _ => fun
  | [] => { results := [.lit (.bool true)], args := [] }
  | _ => none }
def deadEndsRow : OpenClaim := { program := "ytjldefmcnppdoaa", sum := "4b39ceb9d9e2f5ba5442f5a26378cbb0401de256e406fe7c95f4423669c38226", func := "zugzwang/zugzwanglaw13.DeadEnds", spec := "deadEnds", apart := false }
def DeadEndsSaid : Prop := deadEndsRow.holds Try.pinned (OpenSpec.ofChange deadEndsSpec)

/-- ITS FALSE NEIGHBOUR: 'it returns false'. Refute it at one input. -/
def deadEndsWrong : ChangeSpec := { name := "deadEnds", fn := fun _ => fun
  | [] => { results := [.lit (.bool false)], args := [] }
  | _ => none }
def DeadEndsWrongFalsely : Prop := deadEndsRow.holds Try.pinned (OpenSpec.ofChange deadEndsWrong)

/-- 'zugzwanglaw13.DeadAdds': WHATEVER THE INPUT: true; the input reads as it did. -/
def deadAddsSpec : ChangeSpec := { name := "deadAdds", fn := fun _ => fun
  | [d1, d2] => { results := [.lit (.bool true)], args := [d1, d2] }
  | _ => none }
def deadAddsRow : OpenClaim := { program := "ytjldefmcnppdoaa", sum := "4b39ceb9d9e2f5ba5442f5a26378cbb0401de256e406fe7c95f4423669c38226", func := "zugzwang/zugzwanglaw13.DeadAdds", spec := "deadAdds", apart := false }
def DeadAddsSaid : Prop := deadAddsRow.holds Try.pinned (OpenSpec.ofChange deadAddsSpec)

/-- ITS FALSE NEIGHBOUR: 'it returns false'. Refute it at one input. -/
def deadAddsWrong : ChangeSpec := { name := "deadAdds", fn := fun _ => fun
  | [d1, d2] => { results := [.lit (.bool false)], args := [d1, d2] }
  | _ => none }
def DeadAddsWrongFalsely : Prop := deadAddsRow.holds Try.pinned (OpenSpec.ofChange deadAddsWrong)

/-- 'zugzwanglaw05.SquareRays': WHATEVER THE INPUT: true; the input reads as it did. -/
def squareRaysSpec : ChangeSpec := { name := "squareRays", fn := fun _ => fun
  | [d1, d2, d3] => { results := [.lit (.bool true)], args := [d1, d2, d3] }
  | _ => none }
def squareRaysRow : OpenClaim := { program := "ytjldefmcnppdoaa", sum := "4b39ceb9d9e2f5ba5442f5a26378cbb0401de256e406fe7c95f4423669c38226", func := "zugzwang/zugzwanglaw05.SquareRays", spec := "squareRays", inPlace := ["internal/bytealg.IndexByteString"], apart := false }
def SquareRaysSaid : Prop := squareRaysRow.holds Try.pinned (OpenSpec.ofChange squareRaysSpec)

/-- ITS FALSE NEIGHBOUR: 'it returns false'. Refute it at one input. -/
def squareRaysWrong : ChangeSpec := { name := "squareRays", fn := fun _ => fun
  | [d1, d2, d3] => { results := [.lit (.bool false)], args := [d1, d2, d3] }
  | _ => none }
def SquareRaysWrongFalsely : Prop := squareRaysRow.holds Try.pinned (OpenSpec.ofChange squareRaysWrong)

/-- 'zugzwanglaw05.SquareBack': WHATEVER THE INPUT: true; the input reads as it did. -/
def squareBackSpec : ChangeSpec := { name := "squareBack", fn := fun _ => fun
  | [d1, d2, d3, d4] => { results := [.lit (.bool true)], args := [d1, d2, d3, d4] }
  | _ => none }
def squareBackRow : OpenClaim := { program := "ytjldefmcnppdoaa", sum := "4b39ceb9d9e2f5ba5442f5a26378cbb0401de256e406fe7c95f4423669c38226", func := "zugzwang/zugzwanglaw05.SquareBack", spec := "squareBack", inPlace := ["internal/bytealg.IndexByteString"], apart := false }
def SquareBackSaid : Prop := squareBackRow.holds Try.pinned (OpenSpec.ofChange squareBackSpec)

/-- ITS FALSE NEIGHBOUR: 'it returns false'. Refute it at one input. -/
def squareBackWrong : ChangeSpec := { name := "squareBack", fn := fun _ => fun
  | [d1, d2, d3, d4] => { results := [.lit (.bool false)], args := [d1, d2, d3, d4] }
  | _ => none }
def SquareBackWrongFalsely : Prop := squareBackRow.holds Try.pinned (OpenSpec.ofChange squareBackWrong)

/-- 'zugzwanglaw05.SquareTells': WHATEVER THE INPUT: true; the input reads as it did. -/
def squareTellsSpec : ChangeSpec := { name := "squareTells", fn := fun _ => fun
  | [d1, d2, d3, d4, d5] => { results := [.lit (.bool true)], args := [d1, d2, d3, d4, d5] }
  | _ => none }
def squareTellsRow : OpenClaim := { program := "ytjldefmcnppdoaa", sum := "4b39ceb9d9e2f5ba5442f5a26378cbb0401de256e406fe7c95f4423669c38226", func := "zugzwang/zugzwanglaw05.SquareTells", spec := "squareTells", inPlace := ["internal/bytealg.IndexByteString"], apart := false }
def SquareTellsSaid : Prop := squareTellsRow.holds Try.pinned (OpenSpec.ofChange squareTellsSpec)

/-- ITS FALSE NEIGHBOUR: 'it returns false'. Refute it at one input. -/
def squareTellsWrong : ChangeSpec := { name := "squareTells", fn := fun _ => fun
  | [d1, d2, d3, d4, d5] => { results := [.lit (.bool false)], args := [d1, d2, d3, d4, d5] }
  | _ => none }
def SquareTellsWrongFalsely : Prop := squareTellsRow.holds Try.pinned (OpenSpec.ofChange squareTellsWrong)

/-- 'zugzwanglaw05.SquareAll': WHATEVER THE INPUT: true; the input reads as it did. -/
def squareAllSpec : ChangeSpec := { name := "squareAll", fn := fun _ => fun
  | [] => { results := [.lit (.bool true)], args := [] }
  | _ => none }
def squareAllRow : OpenClaim := { program := "ytjldefmcnppdoaa", sum := "4b39ceb9d9e2f5ba5442f5a26378cbb0401de256e406fe7c95f4423669c38226", func := "zugzwang/zugzwanglaw05.SquareAll", spec := "squareAll", inPlace := ["internal/bytealg.IndexByteString"], apart := false }
def SquareAllSaid : Prop := squareAllRow.holds Try.pinned (OpenSpec.ofChange squareAllSpec)

/-- ITS FALSE NEIGHBOUR: 'it returns false'. Refute it at one input. -/
def squareAllWrong : ChangeSpec := { name := "squareAll", fn := fun _ => fun
  | [] => { results := [.lit (.bool false)], args := [] }
  | _ => none }
def SquareAllWrongFalsely : Prop := squareAllRow.holds Try.pinned (OpenSpec.ofChange squareAllWrong)

/-- 'zugzwanglaw13.DeadLess': WHATEVER THE INPUT: true; the input reads as it did. -/
def deadLessSpec : ChangeSpec := { name := "deadLess", fn := fun _ => fun
  | [d1, d2, d3] => { results := [.lit (.bool true)], args := [d1, d2, d3] }
  | _ => none }
def deadLessRow : OpenClaim := { program := "ytjldefmcnppdoaa", sum := "4b39ceb9d9e2f5ba5442f5a26378cbb0401de256e406fe7c95f4423669c38226", func := "zugzwang/zugzwanglaw13.DeadLess", spec := "deadLess", unfollowed := true, recurses := true, apart := false }
def DeadLessSaid : Prop := deadLessRow.holds Try.pinned (OpenSpec.ofChange deadLessSpec)

/-- ITS FALSE NEIGHBOUR: 'it returns false'. Refute it at one input. -/
def deadLessWrong : ChangeSpec := { name := "deadLess", fn := fun _ => fun
  | [d1, d2, d3] => { results := [.lit (.bool false)], args := [d1, d2, d3] }
  | _ => none }
def DeadLessWrongFalsely : Prop := deadLessRow.holds Try.pinned (OpenSpec.ofChange deadLessWrong)

/-- 'zugzwanglaw06.BoardTurns': WHATEVER THE INPUT: true; the input reads as it did. -/
def boardTurnsSpec : ChangeSpec := { name := "boardTurns", fn := fun _ => fun
  | [d1, d2, d3] => { results := [.lit (.bool true)], args := [d1, d2, d3] }
  | _ => none }
def boardTurnsRow : OpenClaim := { program := "ytjldefmcnppdoaa", sum := "4b39ceb9d9e2f5ba5442f5a26378cbb0401de256e406fe7c95f4423669c38226", func := "zugzwang/zugzwanglaw06.BoardTurns", spec := "boardTurns", unfollowed := true, recurses := true, apart := false }
def BoardTurnsSaid : Prop := boardTurnsRow.holds Try.pinned (OpenSpec.ofChange boardTurnsSpec)

/-- ITS FALSE NEIGHBOUR: 'it returns false'. Refute it at one input. -/
def boardTurnsWrong : ChangeSpec := { name := "boardTurns", fn := fun _ => fun
  | [d1, d2, d3] => { results := [.lit (.bool false)], args := [d1, d2, d3] }
  | _ => none }
def BoardTurnsWrongFalsely : Prop := boardTurnsRow.holds Try.pinned (OpenSpec.ofChange boardTurnsWrong)

/-- 'zugzwanglaw06.BoardPuts': WHATEVER THE INPUT: true; the input reads as it did. -/
def boardPutsSpec : ChangeSpec := { name := "boardPuts", fn := fun _ => fun
  | [d1, d2, d3, d4] => { results := [.lit (.bool true)], args := [d1, d2, d3, d4] }
  | _ => none }
def boardPutsRow : OpenClaim := { program := "ytjldefmcnppdoaa", sum := "4b39ceb9d9e2f5ba5442f5a26378cbb0401de256e406fe7c95f4423669c38226", func := "zugzwang/zugzwanglaw06.BoardPuts", spec := "boardPuts", unfollowed := true, recurses := true, apart := false }
def BoardPutsSaid : Prop := boardPutsRow.holds Try.pinned (OpenSpec.ofChange boardPutsSpec)

/-- ITS FALSE NEIGHBOUR: 'it returns false'. Refute it at one input. -/
def boardPutsWrong : ChangeSpec := { name := "boardPuts", fn := fun _ => fun
  | [d1, d2, d3, d4] => { results := [.lit (.bool false)], args := [d1, d2, d3, d4] }
  | _ => none }
def BoardPutsWrongFalsely : Prop := boardPutsRow.holds Try.pinned (OpenSpec.ofChange boardPutsWrong)

/-- 'zugzwanglaw08.PlayTells': WHATEVER THE INPUT: true; the input reads as it did. -/
def playTellsSpec : ChangeSpec := { name := "playTells", fn := fun _ => fun
  | [d1, d2] => { results := [.lit (.bool true)], args := [d1, d2] }
  | _ => none }
def playTellsRow : OpenClaim := { program := "ytjldefmcnppdoaa", sum := "4b39ceb9d9e2f5ba5442f5a26378cbb0401de256e406fe7c95f4423669c38226", func := "zugzwang/zugzwanglaw08.PlayTells", spec := "playTells", apart := false }
def PlayTellsSaid : Prop := playTellsRow.holds Try.pinned (OpenSpec.ofChange playTellsSpec)

/-- ITS FALSE NEIGHBOUR: 'it returns false'. Refute it at one input. -/
def playTellsWrong : ChangeSpec := { name := "playTells", fn := fun _ => fun
  | [d1, d2] => { results := [.lit (.bool false)], args := [d1, d2] }
  | _ => none }
def PlayTellsWrongFalsely : Prop := playTellsRow.holds Try.pinned (OpenSpec.ofChange playTellsWrong)

/-- 'zugzwanglaw08.PlayEnds': WHATEVER THE INPUT: true; the input reads as it did. -/
def playEndsSpec : ChangeSpec := { name := "playEnds", fn := fun _ => fun
  | [] => { results := [.lit (.bool true)], args := [] }
  | _ => none }
def playEndsRow : OpenClaim := { program := "ytjldefmcnppdoaa", sum := "4b39ceb9d9e2f5ba5442f5a26378cbb0401de256e406fe7c95f4423669c38226", func := "zugzwang/zugzwanglaw08.PlayEnds", spec := "playEnds", apart := false }
def PlayEndsSaid : Prop := playEndsRow.holds Try.pinned (OpenSpec.ofChange playEndsSpec)

/-- ITS FALSE NEIGHBOUR: 'it returns false'. Refute it at one input. -/
def playEndsWrong : ChangeSpec := { name := "playEnds", fn := fun _ => fun
  | [] => { results := [.lit (.bool false)], args := [] }
  | _ => none }
def PlayEndsWrongFalsely : Prop := playEndsRow.holds Try.pinned (OpenSpec.ofChange playEndsWrong)

/-- 'zugzwanglaw06.BoardTells': WHATEVER THE INPUT: true; the input reads as it did. -/
def boardTellsSpec : ChangeSpec := { name := "boardTells", fn := fun _ => fun
  | [d1, d2, d3] => { results := [.lit (.bool true)], args := [d1, d2, d3] }
  | _ => none }
def boardTellsRow : OpenClaim := { program := "ytjldefmcnppdoaa", sum := "4b39ceb9d9e2f5ba5442f5a26378cbb0401de256e406fe7c95f4423669c38226", func := "zugzwang/zugzwanglaw06.BoardTells", spec := "boardTells", unfollowed := true, recurses := true, apart := false }
def BoardTellsSaid : Prop := boardTellsRow.holds Try.pinned (OpenSpec.ofChange boardTellsSpec)

/-- ITS FALSE NEIGHBOUR: 'it returns false'. Refute it at one input. -/
def boardTellsWrong : ChangeSpec := { name := "boardTells", fn := fun _ => fun
  | [d1, d2, d3] => { results := [.lit (.bool false)], args := [d1, d2, d3] }
  | _ => none }
def BoardTellsWrongFalsely : Prop := boardTellsRow.holds Try.pinned (OpenSpec.ofChange boardTellsWrong)

/-- 'zugzwanglaw06.BoardEnds': WHATEVER THE INPUT: true; the input reads as it did. -/
def boardEndsSpec : ChangeSpec := { name := "boardEnds", fn := fun _ => fun
  | [] => { results := [.lit (.bool true)], args := [] }
  | _ => none }
def boardEndsRow : OpenClaim := { program := "ytjldefmcnppdoaa", sum := "4b39ceb9d9e2f5ba5442f5a26378cbb0401de256e406fe7c95f4423669c38226", func := "zugzwang/zugzwanglaw06.BoardEnds", spec := "boardEnds", unfollowed := true, recurses := true, apart := false }
def BoardEndsSaid : Prop := boardEndsRow.holds Try.pinned (OpenSpec.ofChange boardEndsSpec)

/-- ITS FALSE NEIGHBOUR: 'it returns false'. Refute it at one input. -/
def boardEndsWrong : ChangeSpec := { name := "boardEnds", fn := fun _ => fun
  | [] => { results := [.lit (.bool false)], args := [] }
  | _ => none }
def BoardEndsWrongFalsely : Prop := boardEndsRow.holds Try.pinned (OpenSpec.ofChange boardEndsWrong)

/-- 'zugzwanglaw08.PlayFew': WHATEVER THE INPUT: true; the input reads as it did. -/
def playFewSpec : ChangeSpec := { name := "playFew", fn := fun _ => fun
  | [d1, d2, d3, d4] => { results := [.lit (.bool true)], args := [d1, d2, d3, d4] }
  | _ => none }
def playFewRow : OpenClaim := { program := "ytjldefmcnppdoaa", sum := "4b39ceb9d9e2f5ba5442f5a26378cbb0401de256e406fe7c95f4423669c38226", func := "zugzwang/zugzwanglaw08.PlayFew", spec := "playFew", unfollowed := true, recurses := true, apart := false }
def PlayFewSaid : Prop := playFewRow.holds Try.pinned (OpenSpec.ofChange playFewSpec)

/-- ITS FALSE NEIGHBOUR: 'it returns false'. Refute it at one input. -/
def playFewWrong : ChangeSpec := { name := "playFew", fn := fun _ => fun
  | [d1, d2, d3, d4] => { results := [.lit (.bool false)], args := [d1, d2, d3, d4] }
  | _ => none }
def PlayFewWrongFalsely : Prop := playFewRow.holds Try.pinned (OpenSpec.ofChange playFewWrong)

/-- 'zugzwanglaw08.PlayTurns': WHATEVER THE INPUT: true; the input reads as it did. -/
def playTurnsSpec : ChangeSpec := { name := "playTurns", fn := fun _ => fun
  | [d1, d2, d3, d4] => { results := [.lit (.bool true)], args := [d1, d2, d3, d4] }
  | _ => none }
def playTurnsRow : OpenClaim := { program := "ytjldefmcnppdoaa", sum := "4b39ceb9d9e2f5ba5442f5a26378cbb0401de256e406fe7c95f4423669c38226", func := "zugzwang/zugzwanglaw08.PlayTurns", spec := "playTurns", unfollowed := true, recurses := true, apart := false }
def PlayTurnsSaid : Prop := playTurnsRow.holds Try.pinned (OpenSpec.ofChange playTurnsSpec)

/-- ITS FALSE NEIGHBOUR: 'it returns false'. Refute it at one input. -/
def playTurnsWrong : ChangeSpec := { name := "playTurns", fn := fun _ => fun
  | [d1, d2, d3, d4] => { results := [.lit (.bool false)], args := [d1, d2, d3, d4] }
  | _ => none }
def PlayTurnsWrongFalsely : Prop := playTurnsRow.holds Try.pinned (OpenSpec.ofChange playTurnsWrong)

/- THE SECOND FORM. 'bulk': how many values and letters a reading holds, each counted each time it is reached (what is shared counts as often as it is met; a slice's spare places count too). A statement '..UptoSaid' is the law's where the arguments, and the package variables that the reading takes, are together of bulk at most 1048576: NARROWER than '..Said'. Prove '..Said' where nothing that the law and all that it calls make is longer than what came in: it says more and counts as full. Else prove '..UptoSaid'. A law counts once. -/
mutual
def uptoBulk {H : Type} : DataW H → Nat
  | .lit (.string bytes) => bytes.length + 1
  | .lit _ => 1
  | .nil => 1
  | .ptr d => uptoBulk d + 1
  | .slice elems spare => uptoBulkAll elems + uptoBulkAll spare + 1
  | .agg parts => uptoBulkAll parts + 1
  | .iface _ d => uptoBulk d + 1
  | .map entries => uptoBulkEntries entries + 1
  | .held _ => 1
def uptoBulkAll {H : Type} : List (DataW H) → Nat
  | [] => 0
  | d :: r => uptoBulk d + uptoBulkAll r
def uptoBulkEntries {H : Type} : List (Lit × DataW H) → Nat
  | [] => 0
  | x :: r => uptoBulkEntry x + uptoBulkEntries r
def uptoBulkEntry {H : Type} : Lit × DataW H → Nat
  | (.string bytes, d) => bytes.length + uptoBulk d + 1
  | (_, d) => uptoBulk d + 1
 end
def uptoSmall : (H : Type) → List (DataW H) → Bool := fun _ ds => decide (uptoBulkAll ds ≤ 1048576)
def OpenSpec.upto (s : _root_.Go.ChangeSpec) : _root_.Go.OpenSpec := { _root_.Go.OpenSpec.ofChange s with cond := some uptoSmall }

/-- 'zugzwanglaw13.DeadTells', WHERE WHAT IT READS IS OF BULK AT MOST 1048576: true; the input reads as it did. -/
def deadTellsUptoRow : OpenClaim := { program := "ytjldefmcnppdoaa", sum := "4b39ceb9d9e2f5ba5442f5a26378cbb0401de256e406fe7c95f4423669c38226", func := "zugzwang/zugzwanglaw13.DeadTells", spec := "deadTells", apart := false, narrowed := true }
def DeadTellsUptoSaid : Prop := deadTellsUptoRow.holds Try.pinned (OpenSpec.upto deadTellsSpec)

/-- 'zugzwanglaw13.DeadEnds', WHERE WHAT IT READS IS OF BULK AT MOST 1048576: true; the input reads as it did. -/
def deadEndsUptoRow : OpenClaim := { program := "ytjldefmcnppdoaa", sum := "4b39ceb9d9e2f5ba5442f5a26378cbb0401de256e406fe7c95f4423669c38226", func := "zugzwang/zugzwanglaw13.DeadEnds", spec := "deadEnds", apart := false, narrowed := true }
def DeadEndsUptoSaid : Prop := deadEndsUptoRow.holds Try.pinned (OpenSpec.upto deadEndsSpec)

/-- 'zugzwanglaw13.DeadAdds', WHERE WHAT IT READS IS OF BULK AT MOST 1048576: true; the input reads as it did. -/
def deadAddsUptoRow : OpenClaim := { program := "ytjldefmcnppdoaa", sum := "4b39ceb9d9e2f5ba5442f5a26378cbb0401de256e406fe7c95f4423669c38226", func := "zugzwang/zugzwanglaw13.DeadAdds", spec := "deadAdds", apart := false, narrowed := true }
def DeadAddsUptoSaid : Prop := deadAddsUptoRow.holds Try.pinned (OpenSpec.upto deadAddsSpec)

/-- 'zugzwanglaw05.SquareRays', WHERE WHAT IT READS IS OF BULK AT MOST 1048576: true; the input reads as it did. -/
def squareRaysUptoRow : OpenClaim := { program := "ytjldefmcnppdoaa", sum := "4b39ceb9d9e2f5ba5442f5a26378cbb0401de256e406fe7c95f4423669c38226", func := "zugzwang/zugzwanglaw05.SquareRays", spec := "squareRays", inPlace := ["internal/bytealg.IndexByteString"], apart := false, narrowed := true }
def SquareRaysUptoSaid : Prop := squareRaysUptoRow.holds Try.pinned (OpenSpec.upto squareRaysSpec)

/-- 'zugzwanglaw05.SquareBack', WHERE WHAT IT READS IS OF BULK AT MOST 1048576: true; the input reads as it did. -/
def squareBackUptoRow : OpenClaim := { program := "ytjldefmcnppdoaa", sum := "4b39ceb9d9e2f5ba5442f5a26378cbb0401de256e406fe7c95f4423669c38226", func := "zugzwang/zugzwanglaw05.SquareBack", spec := "squareBack", inPlace := ["internal/bytealg.IndexByteString"], apart := false, narrowed := true }
def SquareBackUptoSaid : Prop := squareBackUptoRow.holds Try.pinned (OpenSpec.upto squareBackSpec)

/-- 'zugzwanglaw05.SquareTells', WHERE WHAT IT READS IS OF BULK AT MOST 1048576: true; the input reads as it did. -/
def squareTellsUptoRow : OpenClaim := { program := "ytjldefmcnppdoaa", sum := "4b39ceb9d9e2f5ba5442f5a26378cbb0401de256e406fe7c95f4423669c38226", func := "zugzwang/zugzwanglaw05.SquareTells", spec := "squareTells", inPlace := ["internal/bytealg.IndexByteString"], apart := false, narrowed := true }
def SquareTellsUptoSaid : Prop := squareTellsUptoRow.holds Try.pinned (OpenSpec.upto squareTellsSpec)

/-- 'zugzwanglaw05.SquareAll', WHERE WHAT IT READS IS OF BULK AT MOST 1048576: true; the input reads as it did. -/
def squareAllUptoRow : OpenClaim := { program := "ytjldefmcnppdoaa", sum := "4b39ceb9d9e2f5ba5442f5a26378cbb0401de256e406fe7c95f4423669c38226", func := "zugzwang/zugzwanglaw05.SquareAll", spec := "squareAll", inPlace := ["internal/bytealg.IndexByteString"], apart := false, narrowed := true }
def SquareAllUptoSaid : Prop := squareAllUptoRow.holds Try.pinned (OpenSpec.upto squareAllSpec)

/-- 'zugzwanglaw13.DeadLess', WHERE WHAT IT READS IS OF BULK AT MOST 1048576: true; the input reads as it did. -/
def deadLessUptoRow : OpenClaim := { program := "ytjldefmcnppdoaa", sum := "4b39ceb9d9e2f5ba5442f5a26378cbb0401de256e406fe7c95f4423669c38226", func := "zugzwang/zugzwanglaw13.DeadLess", spec := "deadLess", unfollowed := true, recurses := true, apart := false, narrowed := true }
def DeadLessUptoSaid : Prop := deadLessUptoRow.holds Try.pinned (OpenSpec.upto deadLessSpec)

/-- 'zugzwanglaw06.BoardTurns', WHERE WHAT IT READS IS OF BULK AT MOST 1048576: true; the input reads as it did. -/
def boardTurnsUptoRow : OpenClaim := { program := "ytjldefmcnppdoaa", sum := "4b39ceb9d9e2f5ba5442f5a26378cbb0401de256e406fe7c95f4423669c38226", func := "zugzwang/zugzwanglaw06.BoardTurns", spec := "boardTurns", unfollowed := true, recurses := true, apart := false, narrowed := true }
def BoardTurnsUptoSaid : Prop := boardTurnsUptoRow.holds Try.pinned (OpenSpec.upto boardTurnsSpec)

/-- 'zugzwanglaw06.BoardPuts', WHERE WHAT IT READS IS OF BULK AT MOST 1048576: true; the input reads as it did. -/
def boardPutsUptoRow : OpenClaim := { program := "ytjldefmcnppdoaa", sum := "4b39ceb9d9e2f5ba5442f5a26378cbb0401de256e406fe7c95f4423669c38226", func := "zugzwang/zugzwanglaw06.BoardPuts", spec := "boardPuts", unfollowed := true, recurses := true, apart := false, narrowed := true }
def BoardPutsUptoSaid : Prop := boardPutsUptoRow.holds Try.pinned (OpenSpec.upto boardPutsSpec)

/-- 'zugzwanglaw08.PlayTells', WHERE WHAT IT READS IS OF BULK AT MOST 1048576: true; the input reads as it did. -/
def playTellsUptoRow : OpenClaim := { program := "ytjldefmcnppdoaa", sum := "4b39ceb9d9e2f5ba5442f5a26378cbb0401de256e406fe7c95f4423669c38226", func := "zugzwang/zugzwanglaw08.PlayTells", spec := "playTells", apart := false, narrowed := true }
def PlayTellsUptoSaid : Prop := playTellsUptoRow.holds Try.pinned (OpenSpec.upto playTellsSpec)

/-- 'zugzwanglaw08.PlayEnds', WHERE WHAT IT READS IS OF BULK AT MOST 1048576: true; the input reads as it did. -/
def playEndsUptoRow : OpenClaim := { program := "ytjldefmcnppdoaa", sum := "4b39ceb9d9e2f5ba5442f5a26378cbb0401de256e406fe7c95f4423669c38226", func := "zugzwang/zugzwanglaw08.PlayEnds", spec := "playEnds", apart := false, narrowed := true }
def PlayEndsUptoSaid : Prop := playEndsUptoRow.holds Try.pinned (OpenSpec.upto playEndsSpec)

/-- 'zugzwanglaw06.BoardTells', WHERE WHAT IT READS IS OF BULK AT MOST 1048576: true; the input reads as it did. -/
def boardTellsUptoRow : OpenClaim := { program := "ytjldefmcnppdoaa", sum := "4b39ceb9d9e2f5ba5442f5a26378cbb0401de256e406fe7c95f4423669c38226", func := "zugzwang/zugzwanglaw06.BoardTells", spec := "boardTells", unfollowed := true, recurses := true, apart := false, narrowed := true }
def BoardTellsUptoSaid : Prop := boardTellsUptoRow.holds Try.pinned (OpenSpec.upto boardTellsSpec)

/-- 'zugzwanglaw06.BoardEnds', WHERE WHAT IT READS IS OF BULK AT MOST 1048576: true; the input reads as it did. -/
def boardEndsUptoRow : OpenClaim := { program := "ytjldefmcnppdoaa", sum := "4b39ceb9d9e2f5ba5442f5a26378cbb0401de256e406fe7c95f4423669c38226", func := "zugzwang/zugzwanglaw06.BoardEnds", spec := "boardEnds", unfollowed := true, recurses := true, apart := false, narrowed := true }
def BoardEndsUptoSaid : Prop := boardEndsUptoRow.holds Try.pinned (OpenSpec.upto boardEndsSpec)

/-- 'zugzwanglaw08.PlayFew', WHERE WHAT IT READS IS OF BULK AT MOST 1048576: true; the input reads as it did. -/
def playFewUptoRow : OpenClaim := { program := "ytjldefmcnppdoaa", sum := "4b39ceb9d9e2f5ba5442f5a26378cbb0401de256e406fe7c95f4423669c38226", func := "zugzwang/zugzwanglaw08.PlayFew", spec := "playFew", unfollowed := true, recurses := true, apart := false, narrowed := true }
def PlayFewUptoSaid : Prop := playFewUptoRow.holds Try.pinned (OpenSpec.upto playFewSpec)

/-- 'zugzwanglaw08.PlayTurns', WHERE WHAT IT READS IS OF BULK AT MOST 1048576: true; the input reads as it did. -/
def playTurnsUptoRow : OpenClaim := { program := "ytjldefmcnppdoaa", sum := "4b39ceb9d9e2f5ba5442f5a26378cbb0401de256e406fe7c95f4423669c38226", func := "zugzwang/zugzwanglaw08.PlayTurns", spec := "playTurns", unfollowed := true, recurses := true, apart := false, narrowed := true }
def PlayTurnsUptoSaid : Prop := playTurnsUptoRow.holds Try.pinned (OpenSpec.upto playTurnsSpec)

end Rows
end Go.Proofs.Ytjldefmcnppdoaa
