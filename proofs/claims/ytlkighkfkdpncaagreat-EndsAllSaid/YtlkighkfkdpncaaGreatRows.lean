/-
  No cell of these rows narrows 'for every input' (looked for: loops, veiled, ifaces, maps, wideKeys, modest, calm, conditions, laid).
  DERIVED. THE GIVEN ROWS OF THIS SEAT. 4 by the template 'for every input the law returns true; each argument reads behind the call as it read before'; 0 by the template 'total and deterministic' (their statements: YtlkighkfkdpncaaGreatTotals.lean).
  GIVEN WITH THE SEED: the statements are not yours to turn. If you find one false, say at which input.
  Laid BY PROGRAM, IN A SANDBOX (cutbox-rows.mjs): the forced cells as the released guide's own fill.sh prints them over the translation 5c97ca969acb8907… (all of the seat's roots in one cut). By AI agents, Wed Nov 11 2026. No macro, syntax, notation, axiom, sorry.
-/
import Derived.Test.YtlkighkfkdpncaaGreatChecked
import GoSem.Claim
import GoSem.ClaimJoined
import GoSem.ClaimMapViews
import Derived.JoinedTies
import Derived.KernelRfl
namespace Go.Proofs.YtlkighkfkdpncaaGreat
/- THE CELL 'sum', in the pinned program and in every row, IS THE sha256 OF THE DUMP (.gsa) THAT YtlkighkfkdpncaaGreatProg.lean LOADS. Nothing in Lean hashes anything: it is a label: what it is worth is what the hold of that sum in a sandbox is worth. -/
noncomputable def Tryz.pinned : Pinned := { name := "ytlkighkfkdpncaagreat", sum := "5c97ca969acb890759431ba54d42dbb262ab4bdbe56c768b1f6fce389536a52e", checked := Tryz.checked }
namespace Rows
def none {H : Type} : Left H := { results := [], args := [] }

/-- 'zugzwanglaw11.EndsTell': WHATEVER THE INPUT: true; the input reads as it did. -/
def endsTellSpec : ChangeSpec := { name := "endsTell", fn := fun _ => fun
  | [d1, d2] => { results := [.lit (.bool true)], args := [d1, d2] }
  | _ => none }
def endsTellRow : OpenClaim := { program := "ytlkighkfkdpncaagreat", sum := "5c97ca969acb890759431ba54d42dbb262ab4bdbe56c768b1f6fce389536a52e", func := "zugzwang/zugzwanglaw11.EndsTell", spec := "endsTell", unfollowed := true, recurses := true, apart := false }
def EndsTellSaid : Prop := endsTellRow.holds Tryz.pinned (OpenSpec.ofChange endsTellSpec)

/-- ITS FALSE NEIGHBOUR: 'it returns false'. Refute it at one input. -/
def endsTellWrong : ChangeSpec := { name := "endsTell", fn := fun _ => fun
  | [d1, d2] => { results := [.lit (.bool false)], args := [d1, d2] }
  | _ => none }
def EndsTellWrongFalsely : Prop := endsTellRow.holds Tryz.pinned (OpenSpec.ofChange endsTellWrong)

/-- 'zugzwanglaw11.EndsAll': WHATEVER THE INPUT: true; the input reads as it did. -/
def endsAllSpec : ChangeSpec := { name := "endsAll", fn := fun _ => fun
  | [] => { results := [.lit (.bool true)], args := [] }
  | _ => none }
def endsAllRow : OpenClaim := { program := "ytlkighkfkdpncaagreat", sum := "5c97ca969acb890759431ba54d42dbb262ab4bdbe56c768b1f6fce389536a52e", func := "zugzwang/zugzwanglaw11.EndsAll", spec := "endsAll", unfollowed := true, recurses := true, apart := false }
def EndsAllSaid : Prop := endsAllRow.holds Tryz.pinned (OpenSpec.ofChange endsAllSpec)

/-- ITS FALSE NEIGHBOUR: 'it returns false'. Refute it at one input. -/
def endsAllWrong : ChangeSpec := { name := "endsAll", fn := fun _ => fun
  | [] => { results := [.lit (.bool false)], args := [] }
  | _ => none }
def EndsAllWrongFalsely : Prop := endsAllRow.holds Tryz.pinned (OpenSpec.ofChange endsAllWrong)

/-- 'zugzwanglaw11.EndsOnly': WHATEVER THE INPUT: true; the input reads as it did. -/
def endsOnlySpec : ChangeSpec := { name := "endsOnly", fn := fun _ => fun
  | [d] => { results := [.lit (.bool true)], args := [d] }
  | _ => none }
def endsOnlyRow : OpenClaim := { program := "ytlkighkfkdpncaagreat", sum := "5c97ca969acb890759431ba54d42dbb262ab4bdbe56c768b1f6fce389536a52e", func := "zugzwang/zugzwanglaw11.EndsOnly", spec := "endsOnly", unfollowed := true, recurses := true, apart := false }
def EndsOnlySaid : Prop := endsOnlyRow.holds Tryz.pinned (OpenSpec.ofChange endsOnlySpec)

/-- ITS FALSE NEIGHBOUR: 'it returns false'. Refute it at one input. -/
def endsOnlyWrong : ChangeSpec := { name := "endsOnly", fn := fun _ => fun
  | [d] => { results := [.lit (.bool false)], args := [d] }
  | _ => none }
def EndsOnlyWrongFalsely : Prop := endsOnlyRow.holds Tryz.pinned (OpenSpec.ofChange endsOnlyWrong)

/-- 'zugzwanglaw11.EndsMoves': WHATEVER THE INPUT: true; the input reads as it did. -/
def endsMovesSpec : ChangeSpec := { name := "endsMoves", fn := fun _ => fun
  | [d] => { results := [.lit (.bool true)], args := [d] }
  | _ => none }
def endsMovesRow : OpenClaim := { program := "ytlkighkfkdpncaagreat", sum := "5c97ca969acb890759431ba54d42dbb262ab4bdbe56c768b1f6fce389536a52e", func := "zugzwang/zugzwanglaw11.EndsMoves", spec := "endsMoves", unfollowed := true, recurses := true, apart := false }
def EndsMovesSaid : Prop := endsMovesRow.holds Tryz.pinned (OpenSpec.ofChange endsMovesSpec)

/-- ITS FALSE NEIGHBOUR: 'it returns false'. Refute it at one input. -/
def endsMovesWrong : ChangeSpec := { name := "endsMoves", fn := fun _ => fun
  | [d] => { results := [.lit (.bool false)], args := [d] }
  | _ => none }
def EndsMovesWrongFalsely : Prop := endsMovesRow.holds Tryz.pinned (OpenSpec.ofChange endsMovesWrong)

/- THE SECOND FORM. 'bulk': how many values and letters a reading holds, each counted each time it is reached (what is shared counts as often as it is met; a slice's spare places count too). A statement '..UptoSaid' is the law's where the arguments, and the package variables that the reading takes, are together of bulk at most 1048576: NARROWER than '..Said'. Prove '..Said' where nothing that the law and all that it calls make is longer than what came in: it says more and counts as full. Else prove '..UptoSaid'. A law counts once. -/
mutual
def uptoBulk {H : Type} : DataW H → Nat
  | .lit (.string bytes) => bytes.length + 1
  | .lit _ => 1
  | .nil => 1
  | .ptr d => uptoBulk d + 1
  | .slice elems spare => uptoBulkAll elems + uptoBulkAll spare + 1
  | .agg parts => uptoBulkAll parts + 1
  | .iface _ d => uptoBulk d + 1
  | .map entries => uptoBulkEntries entries + 1
  | .held _ => 1
def uptoBulkAll {H : Type} : List (DataW H) → Nat
  | [] => 0
  | d :: r => uptoBulk d + uptoBulkAll r
def uptoBulkEntries {H : Type} : List (Lit × DataW H) → Nat
  | [] => 0
  | x :: r => uptoBulkEntry x + uptoBulkEntries r
def uptoBulkEntry {H : Type} : Lit × DataW H → Nat
  | (.string bytes, d) => bytes.length + uptoBulk d + 1
  | (_, d) => uptoBulk d + 1
 end
def uptoSmall : (H : Type) → List (DataW H) → Bool := fun _ ds => decide (uptoBulkAll ds ≤ 1048576)
def OpenSpec.upto (s : _root_.Go.ChangeSpec) : _root_.Go.OpenSpec := { _root_.Go.OpenSpec.ofChange s with cond := some uptoSmall }

/-- 'zugzwanglaw11.EndsTell', WHERE WHAT IT READS IS OF BULK AT MOST 1048576: true; the input reads as it did. -/
def endsTellUptoRow : OpenClaim := { program := "ytlkighkfkdpncaagreat", sum := "5c97ca969acb890759431ba54d42dbb262ab4bdbe56c768b1f6fce389536a52e", func := "zugzwang/zugzwanglaw11.EndsTell", spec := "endsTell", unfollowed := true, recurses := true, apart := false, narrowed := true }
def EndsTellUptoSaid : Prop := endsTellUptoRow.holds Tryz.pinned (OpenSpec.upto endsTellSpec)

/-- 'zugzwanglaw11.EndsAll', WHERE WHAT IT READS IS OF BULK AT MOST 1048576: true; the input reads as it did. -/
def endsAllUptoRow : OpenClaim := { program := "ytlkighkfkdpncaagreat", sum := "5c97ca969acb890759431ba54d42dbb262ab4bdbe56c768b1f6fce389536a52e", func := "zugzwang/zugzwanglaw11.EndsAll", spec := "endsAll", unfollowed := true, recurses := true, apart := false, narrowed := true }
def EndsAllUptoSaid : Prop := endsAllUptoRow.holds Tryz.pinned (OpenSpec.upto endsAllSpec)

/-- 'zugzwanglaw11.EndsOnly', WHERE WHAT IT READS IS OF BULK AT MOST 1048576: true; the input reads as it did. -/
def endsOnlyUptoRow : OpenClaim := { program := "ytlkighkfkdpncaagreat", sum := "5c97ca969acb890759431ba54d42dbb262ab4bdbe56c768b1f6fce389536a52e", func := "zugzwang/zugzwanglaw11.EndsOnly", spec := "endsOnly", unfollowed := true, recurses := true, apart := false, narrowed := true }
def EndsOnlyUptoSaid : Prop := endsOnlyUptoRow.holds Tryz.pinned (OpenSpec.upto endsOnlySpec)

/-- 'zugzwanglaw11.EndsMoves', WHERE WHAT IT READS IS OF BULK AT MOST 1048576: true; the input reads as it did. -/
def endsMovesUptoRow : OpenClaim := { program := "ytlkighkfkdpncaagreat", sum := "5c97ca969acb890759431ba54d42dbb262ab4bdbe56c768b1f6fce389536a52e", func := "zugzwang/zugzwanglaw11.EndsMoves", spec := "endsMoves", unfollowed := true, recurses := true, apart := false, narrowed := true }
def EndsMovesUptoSaid : Prop := endsMovesUptoRow.holds Tryz.pinned (OpenSpec.upto endsMovesSpec)

end Rows
end Go.Proofs.YtlkighkfkdpncaaGreat
