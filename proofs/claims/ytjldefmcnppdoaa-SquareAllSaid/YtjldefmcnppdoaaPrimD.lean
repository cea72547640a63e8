/- What stands in for the library's functions that have no Go body on their road. -/
import Derived.Test.YtjldefmcnppdoaaAmDefs
import Derived.Lib.Bytealg
namespace Go.Am
open Go
/-- strings.IndexByte. -/
def idxPrim : List V → Heap → Option (V × Heap)
  | [.s (.str s), .s (.int .u8 c)], σ => some (.s (.int .i64 (Lib.indexByte s.data.toList c.toNat.toUInt8)), σ)
  | _, _ => none
/-- The functions that are told, by number. -/
def primF (f : FuncId) : Option (List V → Heap → Option (V × Heap)) := bif Nat.beq f 85 then some idxPrim else none
end Go.Am
