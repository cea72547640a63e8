/- What stands in for the library's functions that have no Go body on their road. -/
import Derived.Test.YtjldefmcnppdoaaAmDefs
import Derived.Lib.Bytealg
namespace Go.Am
open Go
/-- strings.IndexByte. -/
def idxPrim : List V → Heap → Option (V × Heap)
  | [.s (.str s), .s (.int .u8 c)], σ => some (.s (.int .i64 (Lib.indexByte s.data.toList c.toNat.toUInt8)), σ)
  | _, _ => none
/-- The position at the begin. -/
def backK (i : Nat) : Int := bif Nat.beq i 0 || Nat.beq i 7 then 4 else bif Nat.beq i 1 || Nat.beq i 6 then 2 else bif Nat.beq i 2 || Nat.beq i 5 then 3 else bif Nat.beq i 3 then 5 else 6
def startF (i : Nat) : Int :=
  bif Nat.blt i 128 then
    (bif Nat.blt i 16 then (bif Nat.beq (i % 2) 0 then backK (i / 2) else 0)
    else bif Nat.blt i 32 then (bif Nat.beq (i % 2) 0 then 1 else 0)
    else bif Nat.blt i 96 then 0
    else bif Nat.blt i 112 then 1
    else (bif Nat.beq (i % 2) 0 then backK ((i - 112) / 2) else 1))
  else bif Nat.beq i 129 then 15 else bif Nat.beq i 130 then -1 else bif Nat.beq i 132 then 1 else 0
/-- board.Start: it goes over a map, in whatever order. -/
def startPrim : List V → Heap → Option (V × Heap)
  | [], σ => some (.agg 133 (fun i => .int .i64 (startF i)), σ)
  | _, _ => none
/-- The functions that are told, by number. -/
def primF (f : FuncId) : Option (List V → Heap → Option (V × Heap)) := bif Nat.beq f 85 then some idxPrim else bif Nat.beq f 77 then some startPrim else none
end Go.Am
