/- The functions of this seat, as the abstract machine has them: each held against the loaded one by the kernel. -/
import Derived.Test.YtjldefmcnppdoaaProg
import Derived.Test.YtjldefmcnppdoaaAmRun
import Derived.KernelRfl
namespace Go.Proofs.Ytjldefmcnppdoaa
open Go Go.Am
set_option maxRecDepth 100000
/-- (zugzwang/board.checker).stands -/
def a112 : AF := ⟨18, [.tmp 8],
 (.seq (.ops [⟨some 4, none, .h (.box (.t 0))⟩,
 ⟨some 8, none, .p (.mv (.k (.s (.bool false))))⟩])
 (.seq (.ops [⟨some 9, none, .p (.mv (.t 3))⟩,
 ⟨some 10, none, .p (.fa 0 133 (.t 4))⟩,
 ⟨some 11, none, .p (.fa 0 128 (.t 10))⟩,
 ⟨some 12, none, .p (.ixa 64 2 (.t 11) (.t 9))⟩,
 ⟨some 13, none, .h (.load true 2 (.t 12))⟩,
 ⟨some 14, none, .p (.mv (.t 1))⟩,
 ⟨some 15, none, .p (.mv (.t 2))⟩,
 ⟨some 16, none, .p (.build (.ints 2) [(0, 1, (.t 14)), (1, 1, (.t 15))])⟩,
 ⟨some 17, none, .p (.eqa false 2 (.t 13) (.t 16))⟩,
 ⟨some 8, none, .p (.mv (.t 17))⟩])
 .ret))⟩
theorem c112 : compF Try.prog Try.f112 = some a112 := by kernel_rfl
/-- (zugzwang/board.checker).over$1 -/
def a113 : AF := ⟨11, [.tmp 3],
 (.seq (.ops [⟨some 3, none, .p (.mv (.k (.s (.bool false))))⟩])
 (.seq (.ops [⟨some 4, none, .p (.mv (.t 0))⟩,
 ⟨some 5, none, .p (.fa 0 133 (.t 1))⟩,
 ⟨some 6, none, .p (.fa 0 128 (.t 5))⟩,
 ⟨some 7, none, .p (.ixa 64 2 (.t 6) (.t 4))⟩,
 ⟨some 8, none, .h (.load true 2 (.t 7))⟩,
 ⟨some 9, none, .p (.build (.ints 2) [])⟩,
 ⟨some 10, none, .p (.eqa false 2 (.t 8) (.t 9))⟩,
 ⟨some 3, none, .p (.mv (.t 10))⟩])
 .ret))⟩
theorem c113 : compF Try.prog Try.f113 = some a113 := by kernel_rfl
end Go.Proofs.Ytjldefmcnppdoaa
