/- The functions of this seat, as the abstract machine has them: each held against the loaded one by the kernel. -/
import Derived.Test.YtjldefmcnppdoaaProg
import Derived.Test.YtjldefmcnppdoaaAmRun
import Derived.KernelRfl
namespace Go.Proofs.Ytjldefmcnppdoaa
open Go Go.Am
set_option maxRecDepth 100000
/-- zugzwang/zugzwangkit.Pick -/
def a30 : AF := ⟨16, [.tmp 4],
 (.seq (.ops [⟨some 4, none, .p (.mv (.k (.s (.int .i64 0))))⟩])
 (.seq (.seq (.ops [⟨some 5, none, .p (.mv (.t 1))⟩,
 ⟨some 6, none, .p (.bin .lss (.t 5) (.k (.s (.int .i64 1))))⟩])
 (.cond (.t 6)
 (.seq (.ops [⟨some 4, none, .p (.mv (.k (.s (.int .i64 0))))⟩])
 .ret)
 .skip))
 (.seq (.ops [⟨some 7, none, .p (.mv (.t 0))⟩,
 ⟨some 8, none, .p (.mv (.t 1))⟩,
 ⟨some 9, none, .p (.bin .rem (.t 7) (.t 8))⟩,
 ⟨some 0, none, .p (.mv (.t 9))⟩])
 (.seq (.seq (.ops [⟨some 10, none, .p (.mv (.t 0))⟩,
 ⟨some 11, none, .p (.bin .lss (.t 10) (.k (.s (.int .i64 0))))⟩])
 (.cond (.t 11)
 (.ops [⟨some 12, none, .p (.mv (.t 0))⟩,
 ⟨some 13, none, .p (.mv (.t 1))⟩,
 ⟨some 14, none, .p (.bin .add (.t 12) (.t 13))⟩,
 ⟨some 0, none, .p (.mv (.t 14))⟩])
 .skip))
 (.seq (.ops [⟨some 15, none, .p (.mv (.t 0))⟩,
 ⟨some 4, none, .p (.mv (.t 15))⟩])
 .ret)))))⟩
theorem c30 : compF Try.prog Try.f30 = some a30 := by kernel_rfl
/-- zugzwang/square.Step -/
def a33 : AF := ⟨13, [.tmp 6],
 (.seq (.ops [⟨some 6, none, .p (.mv (.k (.s (.int .i64 0))))⟩])
 (.seq (.ops [⟨some 7, none, .p (.mv (.t 0))⟩,
 ⟨some 8, none, .h (.call (.k (.fn 82 [])) [(.t 7)])⟩,
 ⟨some 9, none, .p (.mv (.t 1))⟩,
 ⟨some 10, none, .p (.mv (.t 2))⟩,
 ⟨some 11, none, .h (.call (.k (.fn 83 [])) [(.t 8), (.t 9), (.t 10)])⟩,
 ⟨some 12, none, .h (.call (.k (.fn 84 [])) [(.t 11)])⟩,
 ⟨some 6, none, .p (.mv (.t 12))⟩])
 .ret))⟩
theorem c33 : compF Try.prog Try.f33 = some a33 := by kernel_rfl
/-- zugzwang/square.At -/
def a36 : AF := ⟨9, [.tmp 4],
 (.seq (.ops [⟨some 4, none, .p (.mv (.k (.s (.int .i64 0))))⟩])
 (.seq (.ops [⟨some 5, none, .p (.mv (.t 0))⟩,
 ⟨some 6, none, .p (.mv (.t 1))⟩,
 ⟨some 7, none, .p (.build (.ints 2) [(0, 1, (.t 5)), (1, 1, (.t 6))])⟩,
 ⟨some 8, none, .h (.call (.k (.fn 84 [])) [(.t 7)])⟩,
 ⟨some 4, none, .p (.mv (.t 8))⟩])
 .ret))⟩
theorem c36 : compF Try.prog Try.f36 = some a36 := by kernel_rfl
/-- zugzwang/square.File -/
def a37 : AF := ⟨7, [.tmp 2],
 (.seq (.ops [⟨some 2, none, .p (.mv (.k (.s (.int .i64 0))))⟩])
 (.seq (.ops [⟨some 3, none, .p (.mv (.t 0))⟩,
 ⟨some 4, none, .h (.call (.k (.fn 82 [])) [(.t 3)])⟩,
 ⟨some 5, none, .p (.fld true 0 2 (.t 4))⟩,
 ⟨some 6, none, .p (.fld false 0 1 (.t 5))⟩,
 ⟨some 2, none, .p (.mv (.t 6))⟩])
 .ret))⟩
theorem c37 : compF Try.prog Try.f37 = some a37 := by kernel_rfl
/-- zugzwang/square.Rank -/
def a38 : AF := ⟨7, [.tmp 2],
 (.seq (.ops [⟨some 2, none, .p (.mv (.k (.s (.int .i64 0))))⟩])
 (.seq (.ops [⟨some 3, none, .p (.mv (.t 0))⟩,
 ⟨some 4, none, .h (.call (.k (.fn 82 [])) [(.t 3)])⟩,
 ⟨some 5, none, .p (.fld true 0 2 (.t 4))⟩,
 ⟨some 6, none, .p (.fld false 1 1 (.t 5))⟩,
 ⟨some 2, none, .p (.mv (.t 6))⟩])
 .ret))⟩
theorem c38 : compF Try.prog Try.f38 = some a38 := by kernel_rfl
/-- zugzwang/square.Is -/
def a39 : AF := ⟨6, [.tmp 2],
 (.seq (.ops [⟨some 2, none, .p (.mv (.k (.s (.bool false))))⟩])
 (.seq (.ops [⟨some 3, none, .p (.mv (.t 0))⟩,
 ⟨some 4, none, .h (.call (.k (.fn 82 [])) [(.t 3)])⟩,
 ⟨some 5, none, .p (.fld false 2 1 (.t 4))⟩,
 ⟨some 2, none, .p (.mv (.t 5))⟩])
 .ret))⟩
theorem c39 : compF Try.prog Try.f39 = some a39 := by kernel_rfl
/-- zugzwang/zugzwangkit.SameInts -/
def a49 : AF := ⟨26, [.tmp 4],
 (.seq (.ops [⟨some 4, none, .p (.mv (.k (.s (.bool false))))⟩])
 (.seq (.seq (.ops [⟨some 6, none, .p (.mv (.t 0))⟩,
 ⟨some 7, none, .p (.len (.t 6))⟩,
 ⟨some 8, none, .p (.mv (.t 1))⟩,
 ⟨some 9, none, .p (.len (.t 8))⟩,
 ⟨some 10, none, .p (.bin .neq (.t 7) (.t 9))⟩])
 (.cond (.t 10)
 (.seq (.ops [⟨some 4, none, .p (.mv (.k (.s (.bool false))))⟩])
 .ret)
 .skip))
 (.seq (.seq (.ops [⟨some 5, none, .p (.mv (.k (.s (.int .i64 0))))⟩])
 (.block 0 (.loop (.seq (.seq (.ops [⟨some 11, none, .p (.mv (.t 5))⟩,
 ⟨some 12, none, .p (.mv (.t 0))⟩,
 ⟨some 13, none, .p (.len (.t 12))⟩,
 ⟨some 14, none, .p (.bin .lss (.t 11) (.t 13))⟩])
 (.cond (.t 14)
 .skip
 (.exit 0)))
 (.seq (.block 1 (.seq (.ops [⟨some 17, none, .p (.mv (.t 0))⟩,
 ⟨some 18, none, .p (.mv (.t 5))⟩,
 ⟨some 19, none, .p (.ixs 1 (.t 17) (.t 18))⟩,
 ⟨some 20, none, .h (.load false 1 (.t 19))⟩,
 ⟨some 21, none, .p (.mv (.t 1))⟩,
 ⟨some 22, none, .p (.mv (.t 5))⟩,
 ⟨some 23, none, .p (.ixs 1 (.t 21) (.t 22))⟩,
 ⟨some 24, none, .h (.load false 1 (.t 23))⟩,
 ⟨some 25, none, .p (.bin .neq (.t 20) (.t 24))⟩])
 (.cond (.t 25)
 (.seq (.ops [⟨some 4, none, .p (.mv (.k (.s (.bool false))))⟩])
 .ret)
 .skip)))
 (.ops [⟨some 15, none, .p (.mv (.t 5))⟩,
 ⟨some 16, none, .p (.bin .add (.t 15) (.k (.s (.int .i64 1))))⟩,
 ⟨some 5, none, .p (.mv (.t 16))⟩]))))))
 (.seq (.ops [⟨some 4, none, .p (.mv (.k (.s (.bool true))))⟩])
 .ret))))⟩
theorem c49 : compF Try.prog Try.f49 = some a49 := by kernel_rfl
/-- zugzwang/board.Turn -/
def a53 : AF := ⟨57, [.cell 2 true 133],
 (.seq (.ops [⟨some 1, none, .h (.box (.t 0))⟩,
 ⟨some 2, none, .h (.alloc (.ints 133))⟩])
 (.seq (.ops [⟨some 7, none, .h (.load true 133 (.t 1))⟩,
 ⟨some 3, none, .h (.alloc (.ints 133))⟩,
 ⟨none, none, .h (.store 133 (.t 3) (.t 7))⟩])
 (.seq (.ops [⟨some 4, none, .p (.mv (.k (.fn 87 [])))⟩])
 (.seq (.seq (.ops [⟨some 8, none, .p (.fa 0 128 (.t 1))⟩,
 ⟨some 9, none, .h (.load true 128 (.t 8))⟩,
 ⟨some 10, none, .p (.mv (.k (.s (.int .i64 0))))⟩])
 (.block 0 (.loop (.seq (.ops [⟨some 11, none, .p (.bin .lss (.t 10) (.k (.s (.int .i64 64))))⟩])
 (.seq (.cond (.t 11)
 .skip
 (.exit 0))
 (.seq (.block 1 (.seq (.ops [⟨some 12, none, .p (.mv (.t 10))⟩,
 ⟨some 13, none, .p (.ix 64 2 true (.t 9) (.t 10))⟩,
 ⟨some 6, none, .h (.alloc (.ints 2))⟩,
 ⟨some 5, none, .p (.mv (.t 12))⟩,
 ⟨none, none, .h (.store 2 (.t 6) (.t 13))⟩])
 (.seq (.seq (.ops [⟨some 14, none, .h (.load true 2 (.t 6))⟩,
 ⟨some 15, none, .h (.call (.k (.fn 88 [])) [(.t 14)])⟩])
 (.cond (.t 15)
 (.ops [⟨some 16, none, .p (.fa 1 1 (.t 6))⟩,
 ⟨some 17, none, .h (.load false 1 (.t 16))⟩,
 ⟨some 18, none, .h (.call (.k (.fn 57 [])) [(.t 17)])⟩,
 ⟨some 19, none, .p (.fa 1 1 (.t 6))⟩,
 ⟨none, none, .h (.store 1 (.t 19) (.t 18))⟩])
 .skip))
 (.ops [⟨some 20, none, .p (.mv (.t 4))⟩,
 ⟨some 21, none, .p (.mv (.t 5))⟩,
 ⟨some 22, none, .h (.callq (.t 20) [(.t 21)])⟩,
 ⟨some 23, none, .h (.load true 2 (.t 6))⟩,
 ⟨some 24, none, .p (.fa 0 128 (.t 3))⟩,
 ⟨some 25, none, .p (.ixa 64 2 (.t 24) (.t 22))⟩,
 ⟨none, none, .h (.store 2 (.t 25) (.t 23))⟩]))))
 (.ops [⟨some 26, none, .p (.bin .add (.t 10) (.k (.s (.int .i64 1))))⟩,
 ⟨some 10, none, .p (.mv (.t 26))⟩])))))))
 (.seq (.ops [⟨some 27, none, .p (.fa 128 1 (.t 1))⟩,
 ⟨some 28, none, .h (.load false 1 (.t 27))⟩,
 ⟨some 29, none, .h (.call (.k (.fn 57 [])) [(.t 28)])⟩,
 ⟨some 30, none, .p (.fa 128 1 (.t 3))⟩,
 ⟨none, none, .h (.store 1 (.t 30) (.t 29))⟩])
 (.seq (.seq (.ops [⟨some 31, none, .p (.fa 129 1 (.t 1))⟩,
 ⟨some 32, none, .h (.load false 1 (.t 31))⟩,
 ⟨some 33, none, .p (.bin .geq (.t 32) (.k (.s (.int .i64 0))))⟩,
 ⟨some 34, none, .p (.mv (.t 33))⟩,
 ⟨some 35, some (34, true), .p (.fa 129 1 (.t 1))⟩,
 ⟨some 36, some (34, true), .h (.load false 1 (.t 35))⟩,
 ⟨some 37, some (34, true), .p (.bin .leq (.t 36) (.k (.s (.int .i64 15))))⟩,
 ⟨some 38, none, .p (.pick (.t 34) (.t 37) (.k (.s (.bool false))))⟩])
 (.cond (.t 38)
 (.ops [⟨some 39, none, .p (.fa 129 1 (.t 1))⟩,
 ⟨some 40, none, .h (.load false 1 (.t 39))⟩,
 ⟨some 41, none, .p (.bin .shr (.t 40) (.k (.s (.int .u64 2))))⟩,
 ⟨some 42, none, .p (.fa 129 1 (.t 1))⟩,
 ⟨some 43, none, .h (.load false 1 (.t 42))⟩,
 ⟨some 44, none, .p (.bin .and (.t 43) (.k (.s (.int .i64 3))))⟩,
 ⟨some 45, none, .p (.bin .shl (.t 44) (.k (.s (.int .u64 2))))⟩,
 ⟨some 46, none, .p (.bin .or (.t 41) (.t 45))⟩,
 ⟨some 47, none, .p (.fa 129 1 (.t 3))⟩,
 ⟨none, none, .h (.store 1 (.t 47) (.t 46))⟩])
 .skip))
 (.seq (.seq (.ops [⟨some 48, none, .p (.fa 130 1 (.t 1))⟩,
 ⟨some 49, none, .h (.load false 1 (.t 48))⟩,
 ⟨some 50, none, .h (.call (.k (.fn 39 [])) [(.t 49)])⟩])
 (.cond (.t 50)
 (.ops [⟨some 51, none, .p (.mv (.t 4))⟩,
 ⟨some 52, none, .p (.fa 130 1 (.t 1))⟩,
 ⟨some 53, none, .h (.load false 1 (.t 52))⟩,
 ⟨some 54, none, .h (.call (.t 51) [(.t 53)])⟩,
 ⟨some 55, none, .p (.fa 130 1 (.t 3))⟩,
 ⟨none, none, .h (.store 1 (.t 55) (.t 54))⟩])
 .skip))
 (.seq (.ops [⟨some 56, none, .h (.load true 133 (.t 3))⟩,
 ⟨none, none, .h (.store 133 (.t 2) (.t 56))⟩])
 .ret))))))))⟩
theorem c53 : compF Try.prog Try.f53 = some a53 := by kernel_rfl
/-- zugzwang/zugzwanglaw06.awake -/
def a54 : AF := ⟨17, [.tmp 0],
 (.seq (.ops [⟨some 0, none, .p (.mv (.k (.s (.bool false))))⟩])
 (.seq (.ops [⟨some 2, none, .h (.call (.k (.fn 77 [])) [])⟩,
 ⟨some 1, none, .h (.alloc (.ints 133))⟩,
 ⟨none, none, .h (.store 133 (.t 1) (.t 2))⟩])
 (.seq (.ops [⟨some 3, none, .h (.load true 133 (.t 1))⟩,
 ⟨some 4, none, .h (.call (.k (.fn 60 [])) [(.t 3), (.k (.s (.int .i64 1)))])⟩,
 ⟨some 5, none, .p (.bin .eql (.t 4) (.k (.s (.int .i64 60))))⟩,
 ⟨some 6, none, .p (.mv (.t 5))⟩,
 ⟨some 7, some (6, true), .h (.load true 133 (.t 1))⟩,
 ⟨some 8, some (6, true), .p (.build (.ints 2) [(0, 1, (.k (.s (.int .i64 1))))])⟩,
 ⟨some 9, some (6, true), .h (.call (.k (.fn 58 [])) [(.t 7), (.t 8)])⟩,
 ⟨some 10, some (6, true), .h (.mksl 8 1 (.one (.s (.int .i64 0))) [(0, (.k (.s (.int .i64 8)))), (1, (.k (.s (.int .i64 9)))), (2, (.k (.s (.int .i64 10)))), (3, (.k (.s (.int .i64 11)))), (4, (.k (.s (.int .i64 12)))), (5, (.k (.s (.int .i64 13)))), (6, (.k (.s (.int .i64 14)))), (7, (.k (.s (.int .i64 15))))])⟩,
 ⟨some 11, some (6, true), .h (.call (.k (.fn 49 [])) [(.t 9), (.t 10)])⟩,
 ⟨some 12, none, .p (.pick (.t 6) (.t 11) (.k (.s (.bool false))))⟩,
 ⟨some 13, none, .p (.mv (.t 12))⟩,
 ⟨some 14, some (13, true), .h (.load true 133 (.t 1))⟩,
 ⟨some 15, some (13, true), .h (.call (.k (.fn 56 [])) [(.t 14)])⟩,
 ⟨some 16, none, .p (.pick (.t 13) (.t 15) (.k (.s (.bool false))))⟩,
 ⟨some 0, none, .p (.mv (.t 16))⟩])
 .ret)))⟩
theorem c54 : compF Try.prog Try.f54 = some a54 := by kernel_rfl
/-- zugzwang/zugzwangref06.May -/
def a55 : AF := ⟨21, [.tmp 2],
 (.seq (.ops [⟨some 1, none, .h (.box (.t 0))⟩,
 ⟨some 2, none, .p (.mv (.k (.s (.bool false))))⟩])
 (.seq (.ops [⟨some 3, none, .p (.fa 0 1 (.t 1))⟩,
 ⟨some 4, none, .h (.load false 1 (.t 3))⟩,
 ⟨some 5, none, .p (.bin .geq (.t 4) (.k (.s (.int .i64 1))))⟩,
 ⟨some 6, none, .p (.mv (.t 5))⟩,
 ⟨some 7, some (6, true), .p (.fa 0 1 (.t 1))⟩,
 ⟨some 8, some (6, true), .h (.load false 1 (.t 7))⟩,
 ⟨some 9, some (6, true), .p (.bin .leq (.t 8) (.k (.s (.int .i64 6))))⟩,
 ⟨some 10, none, .p (.pick (.t 6) (.t 9) (.k (.s (.bool false))))⟩,
 ⟨some 11, none, .p (.mv (.t 10))⟩,
 ⟨some 12, some (11, true), .p (.fa 1 1 (.t 1))⟩,
 ⟨some 13, some (11, true), .h (.load false 1 (.t 12))⟩,
 ⟨some 14, some (11, true), .p (.bin .eql (.t 13) (.k (.s (.int .i64 0))))⟩,
 ⟨some 15, some (11, true), .p (.mv (.t 14))⟩,
 ⟨some 16, some (15, false), .p (.fa 1 1 (.t 1))⟩,
 ⟨some 17, some (15, false), .h (.load false 1 (.t 16))⟩,
 ⟨some 18, some (15, false), .p (.bin .eql (.t 17) (.k (.s (.int .i64 1))))⟩,
 ⟨some 19, some (11, true), .p (.pick (.t 15) (.k (.s (.bool true))) (.t 18))⟩,
 ⟨some 20, none, .p (.pick (.t 11) (.t 19) (.k (.s (.bool false))))⟩,
 ⟨some 2, none, .p (.mv (.t 20))⟩])
 .ret))⟩
theorem c55 : compF Try.prog Try.f55 = some a55 := by kernel_rfl
/-- zugzwang/board.Right -/
def a56 : AF := ⟨36, [.tmp 2],
 (.seq (.ops [⟨some 1, none, .h (.box (.t 0))⟩,
 ⟨some 2, none, .p (.mv (.k (.s (.bool false))))⟩])
 (.seq (.ops [⟨some 4, none, .h (.load true 133 (.t 1))⟩,
 ⟨some 5, none, .p (.build (.ints 133) [(0, 133, (.t 4))])⟩,
 ⟨some 3, none, .h (.alloc (.ints 133))⟩,
 ⟨none, none, .h (.store 133 (.t 3) (.t 5))⟩])
 (.seq (.ops [⟨some 6, none, .h (.load true 133 (.t 3))⟩,
 ⟨some 7, none, .h (.call (.k (.fn 89 [])) [(.t 6)])⟩,
 ⟨some 8, none, .p (.mv (.t 7))⟩,
 ⟨some 9, some (8, true), .h (.load true 133 (.t 3))⟩,
 ⟨some 10, some (8, true), .h (.call (.k (.fn 90 [])) [(.t 9)])⟩,
 ⟨some 11, none, .p (.pick (.t 8) (.t 10) (.k (.s (.bool false))))⟩,
 ⟨some 12, none, .p (.mv (.t 11))⟩,
 ⟨some 13, some (12, true), .h (.load true 133 (.t 3))⟩,
 ⟨some 14, some (12, true), .h (.call (.k (.fn 91 [])) [(.t 13)])⟩,
 ⟨some 15, none, .p (.pick (.t 12) (.t 14) (.k (.s (.bool false))))⟩,
 ⟨some 16, none, .p (.mv (.t 15))⟩,
 ⟨some 17, some (16, true), .p (.fa 131 1 (.t 1))⟩,
 ⟨some 18, some (16, true), .h (.load false 1 (.t 17))⟩,
 ⟨some 19, some (16, true), .p (.bin .geq (.t 18) (.k (.s (.int .i64 0))))⟩,
 ⟨some 20, none, .p (.pick (.t 16) (.t 19) (.k (.s (.bool false))))⟩,
 ⟨some 21, none, .p (.mv (.t 20))⟩,
 ⟨some 22, some (21, true), .p (.fa 131 1 (.t 1))⟩,
 ⟨some 23, some (21, true), .h (.load false 1 (.t 22))⟩,
 ⟨some 24, some (21, true), .p (.bin .leq (.t 23) (.k (.s (.int .i64 1024))))⟩,
 ⟨some 25, none, .p (.pick (.t 21) (.t 24) (.k (.s (.bool false))))⟩,
 ⟨some 26, none, .p (.mv (.t 25))⟩,
 ⟨some 27, some (26, true), .p (.fa 132 1 (.t 1))⟩,
 ⟨some 28, some (26, true), .h (.load false 1 (.t 27))⟩,
 ⟨some 29, some (26, true), .p (.bin .geq (.t 28) (.k (.s (.int .i64 1))))⟩,
 ⟨some 30, none, .p (.pick (.t 26) (.t 29) (.k (.s (.bool false))))⟩,
 ⟨some 31, none, .p (.mv (.t 30))⟩,
 ⟨some 32, some (31, true), .p (.fa 132 1 (.t 1))⟩,
 ⟨some 33, some (31, true), .h (.load false 1 (.t 32))⟩,
 ⟨some 34, some (31, true), .p (.bin .leq (.t 33) (.k (.s (.int .i64 16384))))⟩,
 ⟨some 35, none, .p (.pick (.t 31) (.t 34) (.k (.s (.bool false))))⟩,
 ⟨some 2, none, .p (.mv (.t 35))⟩])
 .ret)))⟩
theorem c56 : compF Try.prog Try.f56 = some a56 := by kernel_rfl
/-- zugzwang/board.Other -/
def a57 : AF := ⟨5, [.tmp 2],
 (.seq (.ops [⟨some 2, none, .p (.mv (.k (.s (.int .i64 0))))⟩])
 (.seq (.seq (.ops [⟨some 3, none, .p (.mv (.t 0))⟩,
 ⟨some 4, none, .p (.bin .eql (.t 3) (.k (.s (.int .i64 0))))⟩])
 (.cond (.t 4)
 (.seq (.ops [⟨some 2, none, .p (.mv (.k (.s (.int .i64 1))))⟩])
 .ret)
 .skip))
 (.seq (.ops [⟨some 2, none, .p (.mv (.k (.s (.int .i64 0))))⟩])
 .ret)))⟩
theorem c57 : compF Try.prog Try.f57 = some a57 := by kernel_rfl
/-- zugzwang/board.Find -/
def a58 : AF := ⟨22, [.tmp 4],
 (.seq (.ops [⟨some 2, none, .h (.box (.t 0))⟩,
 ⟨some 3, none, .h (.box (.t 1))⟩,
 ⟨some 4, none, .p (.mv (.k .snil))⟩])
 (.seq (.seq (.ops [⟨some 7, none, .p (.fa 0 128 (.t 2))⟩,
 ⟨some 8, none, .h (.load true 128 (.t 7))⟩,
 ⟨some 9, none, .p (.mv (.k (.s (.int .i64 0))))⟩])
 (.block 0 (.loop (.seq (.ops [⟨some 10, none, .p (.bin .lss (.t 9) (.k (.s (.int .i64 64))))⟩])
 (.seq (.cond (.t 10)
 .skip
 (.exit 0))
 (.seq (.block 1 (.seq (.ops [⟨some 11, none, .p (.mv (.t 9))⟩,
 ⟨some 12, none, .p (.ix 64 2 true (.t 8) (.t 9))⟩,
 ⟨some 6, none, .h (.alloc (.ints 2))⟩,
 ⟨some 5, none, .p (.mv (.t 11))⟩,
 ⟨none, none, .h (.store 2 (.t 6) (.t 12))⟩])
 (.seq (.ops [⟨some 13, none, .h (.load true 2 (.t 3))⟩,
 ⟨some 14, none, .h (.load true 2 (.t 6))⟩,
 ⟨some 15, none, .p (.eqa false 2 (.t 13) (.t 14))⟩])
 (.cond (.t 15)
 (.ops [⟨some 16, none, .p (.mv (.t 4))⟩,
 ⟨some 17, none, .p (.mv (.t 5))⟩,
 ⟨some 18, none, .h (.mksl 1 1 (.one (.s (.int .i64 0))) [(0, (.t 17))])⟩,
 ⟨some 19, none, .h (.append 1 8 (.t 16) (.t 18))⟩,
 ⟨some 4, none, .p (.mv (.t 19))⟩])
 .skip))))
 (.ops [⟨some 20, none, .p (.bin .add (.t 9) (.k (.s (.int .i64 1))))⟩,
 ⟨some 9, none, .p (.mv (.t 20))⟩])))))))
 (.seq (.ops [⟨some 21, none, .p (.mv (.t 4))⟩,
 ⟨some 4, none, .p (.mv (.t 21))⟩])
 .ret)))⟩
theorem c58 : compF Try.prog Try.f58 = some a58 := by kernel_rfl
/-- zugzwang/board.King -/
def a60 : AF := ⟨10, [.tmp 4],
 (.seq (.ops [⟨some 2, none, .h (.box (.t 0))⟩,
 ⟨some 4, none, .p (.mv (.k (.s (.int .i64 0))))⟩])
 (.seq (.ops [⟨some 5, none, .p (.fa 0 128 (.t 2))⟩,
 ⟨some 6, none, .p (.slA 64 2 (.t 5) none none)⟩,
 ⟨some 7, none, .p (.mv (.t 1))⟩,
 ⟨some 8, none, .p (.build (.ints 2) [(0, 1, (.k (.s (.int .i64 6)))), (1, 1, (.t 7))])⟩,
 ⟨some 9, none, .h (.call (.k (.fn 94 [])) [(.t 6), (.t 8)])⟩,
 ⟨some 4, none, .p (.mv (.t 9))⟩])
 .ret))⟩
theorem c60 : compF Try.prog Try.f60 = some a60 := by kernel_rfl
/-- zugzwang/board.Empty -/
def a78 : AF := ⟨2, [.cell 0 true 133],
 (.seq (.ops [⟨some 0, none, .h (.alloc (.ints 133))⟩])
 (.seq (.ops [⟨some 1, none, .p (.build (.ints 133) [(130, 1, (.k (.s (.int .i64 (-1))))), (132, 1, (.k (.s (.int .i64 1))))])⟩,
 ⟨none, none, .h (.store 133 (.t 0) (.t 1))⟩])
 .ret))⟩
theorem c78 : compF Try.prog Try.f78 = some a78 := by kernel_rfl
/-- zugzwang/square.of -/
def a82 : AF := ⟨17, [.cell 2 true 3],
 (.seq (.ops [⟨some 2, none, .h (.alloc (.scl [(.int .i64 0), (.int .i64 0), (.bool false)]))⟩])
 (.seq (.seq (.ops [⟨some 3, none, .p (.mv (.t 0))⟩,
 ⟨some 4, none, .p (.bin .lss (.t 3) (.k (.s (.int .i64 0))))⟩,
 ⟨some 5, none, .p (.mv (.t 4))⟩,
 ⟨some 6, some (5, false), .p (.mv (.t 0))⟩,
 ⟨some 7, some (5, false), .p (.bin .geq (.t 6) (.k (.s (.int .i64 64))))⟩,
 ⟨some 8, none, .p (.pick (.t 5) (.k (.s (.bool true))) (.t 7))⟩])
 (.cond (.t 8)
 (.seq (.ops [⟨some 9, none, .p (.build (.ints 2) [(0, 1, (.k (.s (.int .i64 (-1))))), (1, 1, (.k (.s (.int .i64 (-1)))))])⟩,
 ⟨some 10, none, .p (.build (.scl [(.int .i64 0), (.int .i64 0), (.bool false)]) [(0, 2, (.t 9))])⟩,
 ⟨none, none, .h (.store 3 (.t 2) (.t 10))⟩])
 .ret)
 .skip))
 (.seq (.ops [⟨some 11, none, .p (.mv (.t 0))⟩,
 ⟨some 12, none, .p (.bin .rem (.t 11) (.k (.s (.int .i64 8))))⟩,
 ⟨some 13, none, .p (.mv (.t 0))⟩,
 ⟨some 14, none, .p (.bin .quo (.t 13) (.k (.s (.int .i64 8))))⟩,
 ⟨some 15, none, .p (.build (.ints 2) [(0, 1, (.t 12)), (1, 1, (.t 14))])⟩,
 ⟨some 16, none, .p (.build (.scl [(.int .i64 0), (.int .i64 0), (.bool false)]) [(0, 2, (.t 15)), (2, 1, (.k (.s (.bool true))))])⟩,
 ⟨none, none, .h (.store 3 (.t 2) (.t 16))⟩])
 .ret)))⟩
theorem c82 : compF Try.prog Try.f82 = some a82 := by kernel_rfl
/-- (zugzwang/square.place).on -/
def a83 : AF := ⟨34, [.cell 6 true 2],
 (.seq (.ops [⟨some 3, none, .h (.box (.t 0))⟩,
 ⟨some 6, none, .h (.alloc (.ints 2))⟩])
 (.seq (.seq (.ops [⟨some 7, none, .p (.fa 2 1 (.t 3))⟩,
 ⟨some 8, none, .h (.load false 1 (.t 7))⟩,
 ⟨some 9, none, .p (.un .not (.t 8))⟩,
 ⟨some 10, none, .p (.mv (.t 9))⟩,
 ⟨some 11, some (10, false), .p (.mv (.t 1))⟩,
 ⟨some 12, some (10, false), .p (.mv (.t 2))⟩,
 ⟨some 13, some (10, false), .p (.mx [(.t 11), (.t 12)])⟩,
 ⟨some 14, some (10, false), .p (.bin .geq (.t 13) (.k (.s (.int .i64 8))))⟩,
 ⟨some 15, none, .p (.pick (.t 10) (.k (.s (.bool true))) (.t 14))⟩,
 ⟨some 16, none, .p (.mv (.t 15))⟩,
 ⟨some 17, some (16, false), .p (.mv (.t 1))⟩,
 ⟨some 18, some (16, false), .p (.mv (.t 2))⟩,
 ⟨some 19, some (16, false), .p (.mn [(.t 17), (.t 18)])⟩,
 ⟨some 20, some (16, false), .p (.bin .leq (.t 19) (.k (.s (.int .i64 (-8)))))⟩,
 ⟨some 21, none, .p (.pick (.t 16) (.k (.s (.bool true))) (.t 20))⟩])
 (.cond (.t 21)
 (.seq (.ops [⟨some 22, none, .p (.build (.ints 2) [(0, 1, (.k (.s (.int .i64 (-1))))), (1, 1, (.k (.s (.int .i64 (-1)))))])⟩,
 ⟨none, none, .h (.store 2 (.t 6) (.t 22))⟩])
 .ret)
 .skip))
 (.seq (.ops [⟨some 23, none, .p (.fa 0 2 (.t 3))⟩,
 ⟨some 24, none, .p (.fa 0 1 (.t 23))⟩,
 ⟨some 25, none, .h (.load false 1 (.t 24))⟩,
 ⟨some 26, none, .p (.mv (.t 1))⟩,
 ⟨some 27, none, .p (.bin .add (.t 25) (.t 26))⟩,
 ⟨some 28, none, .p (.fa 0 2 (.t 3))⟩,
 ⟨some 29, none, .p (.fa 1 1 (.t 28))⟩,
 ⟨some 30, none, .h (.load false 1 (.t 29))⟩,
 ⟨some 31, none, .p (.mv (.t 2))⟩,
 ⟨some 32, none, .p (.bin .add (.t 30) (.t 31))⟩,
 ⟨some 33, none, .p (.build (.ints 2) [(0, 1, (.t 27)), (1, 1, (.t 32))])⟩,
 ⟨none, none, .h (.store 2 (.t 6) (.t 33))⟩])
 .ret)))⟩
theorem c83 : compF Try.prog Try.f83 = some a83 := by kernel_rfl
/-- (zugzwang/square.pair).number -/
def a84 : AF := ⟨12, [.tmp 2],
 (.seq (.ops [⟨some 1, none, .h (.box (.t 0))⟩,
 ⟨some 2, none, .p (.mv (.k (.s (.int .i64 0))))⟩])
 (.seq (.seq (.ops [⟨some 3, none, .h (.load true 2 (.t 1))⟩,
 ⟨some 4, none, .h (.call (.k (.fn 86 [])) [(.t 3)])⟩,
 ⟨some 5, none, .p (.un .not (.t 4))⟩])
 (.cond (.t 5)
 (.seq (.ops [⟨some 2, none, .p (.mv (.k (.s (.int .i64 (-1)))))⟩])
 .ret)
 .skip))
 (.seq (.ops [⟨some 6, none, .p (.fa 1 1 (.t 1))⟩,
 ⟨some 7, none, .h (.load false 1 (.t 6))⟩,
 ⟨some 8, none, .p (.bin .mul (.t 7) (.k (.s (.int .i64 8))))⟩,
 ⟨some 9, none, .p (.fa 0 1 (.t 1))⟩,
 ⟨some 10, none, .h (.load false 1 (.t 9))⟩,
 ⟨some 11, none, .p (.bin .add (.t 8) (.t 10))⟩,
 ⟨some 2, none, .p (.mv (.t 11))⟩])
 .ret)))⟩
theorem c84 : compF Try.prog Try.f84 = some a84 := by kernel_rfl
/-- (zugzwang/square.pair).within -/
def a86 : AF := ⟨13, [.tmp 2],
 (.seq (.ops [⟨some 1, none, .h (.box (.t 0))⟩,
 ⟨some 2, none, .p (.mv (.k (.s (.bool false))))⟩])
 (.seq (.ops [⟨some 3, none, .p (.fa 0 1 (.t 1))⟩,
 ⟨some 4, none, .h (.load false 1 (.t 3))⟩,
 ⟨some 5, none, .p (.conv .u64 (.t 4))⟩,
 ⟨some 6, none, .p (.bin .lss (.t 5) (.k (.s (.int .u64 8))))⟩,
 ⟨some 7, none, .p (.mv (.t 6))⟩,
 ⟨some 8, some (7, true), .p (.fa 1 1 (.t 1))⟩,
 ⟨some 9, some (7, true), .h (.load false 1 (.t 8))⟩,
 ⟨some 10, some (7, true), .p (.conv .u64 (.t 9))⟩,
 ⟨some 11, some (7, true), .p (.bin .lss (.t 10) (.k (.s (.int .u64 8))))⟩,
 ⟨some 12, none, .p (.pick (.t 7) (.t 11) (.k (.s (.bool false))))⟩,
 ⟨some 2, none, .p (.mv (.t 12))⟩])
 .ret))⟩
theorem c86 : compF Try.prog Try.f86 = some a86 := by kernel_rfl
/-- zugzwang/board.Turn$1 -/
def a87 : AF := ⟨9, [.tmp 2],
 (.seq (.ops [⟨some 2, none, .p (.mv (.k (.s (.int .i64 0))))⟩])
 (.seq (.ops [⟨some 3, none, .p (.mv (.t 0))⟩,
 ⟨some 4, none, .h (.call (.k (.fn 37 [])) [(.t 3)])⟩,
 ⟨some 5, none, .p (.mv (.t 0))⟩,
 ⟨some 6, none, .h (.call (.k (.fn 38 [])) [(.t 5)])⟩,
 ⟨some 7, none, .p (.bin .sub (.k (.s (.int .i64 7))) (.t 6))⟩,
 ⟨some 8, none, .h (.call (.k (.fn 36 [])) [(.t 4), (.t 7)])⟩,
 ⟨some 2, none, .p (.mv (.t 8))⟩])
 .ret))⟩
theorem c87 : compF Try.prog Try.f87 = some a87 := by kernel_rfl
/-- zugzwang/board.may -/
def a88 : AF := ⟨21, [.tmp 2],
 (.seq (.ops [⟨some 1, none, .h (.box (.t 0))⟩,
 ⟨some 2, none, .p (.mv (.k (.s (.bool false))))⟩])
 (.seq (.ops [⟨some 3, none, .p (.fa 0 1 (.t 1))⟩,
 ⟨some 4, none, .h (.load false 1 (.t 3))⟩,
 ⟨some 5, none, .p (.bin .geq (.t 4) (.k (.s (.int .i64 1))))⟩,
 ⟨some 6, none, .p (.mv (.t 5))⟩,
 ⟨some 7, some (6, true), .p (.fa 0 1 (.t 1))⟩,
 ⟨some 8, some (6, true), .h (.load false 1 (.t 7))⟩,
 ⟨some 9, some (6, true), .p (.bin .leq (.t 8) (.k (.s (.int .i64 6))))⟩,
 ⟨some 10, none, .p (.pick (.t 6) (.t 9) (.k (.s (.bool false))))⟩,
 ⟨some 11, none, .p (.mv (.t 10))⟩,
 ⟨some 12, some (11, true), .p (.fa 1 1 (.t 1))⟩,
 ⟨some 13, some (11, true), .h (.load false 1 (.t 12))⟩,
 ⟨some 14, some (11, true), .p (.bin .eql (.t 13) (.k (.s (.int .i64 0))))⟩,
 ⟨some 15, some (11, true), .p (.mv (.t 14))⟩,
 ⟨some 16, some (15, false), .p (.fa 1 1 (.t 1))⟩,
 ⟨some 17, some (15, false), .h (.load false 1 (.t 16))⟩,
 ⟨some 18, some (15, false), .p (.bin .eql (.t 17) (.k (.s (.int .i64 1))))⟩,
 ⟨some 19, some (11, true), .p (.pick (.t 15) (.k (.s (.bool true))) (.t 18))⟩,
 ⟨some 20, none, .p (.pick (.t 11) (.t 19) (.k (.s (.bool false))))⟩,
 ⟨some 2, none, .p (.mv (.t 20))⟩])
 .ret))⟩
theorem c88 : compF Try.prog Try.f88 = some a88 := by kernel_rfl
/-- (zugzwang/board.checker).pieces -/
def a89 : AF := ⟨61, [.tmp 2],
 (.seq (.ops [⟨some 1, none, .h (.box (.t 0))⟩,
 ⟨some 2, none, .p (.mv (.k (.s (.bool false))))⟩])
 (.seq (.ops [⟨some 3, none, .h (.alloc (.ints 2))⟩])
 (.seq (.seq (.ops [⟨some 7, none, .p (.fa 0 133 (.t 1))⟩,
 ⟨some 8, none, .p (.fa 0 128 (.t 7))⟩,
 ⟨some 9, none, .h (.load true 128 (.t 8))⟩,
 ⟨some 10, none, .p (.mv (.k (.s (.int .i64 0))))⟩])
 (.block 0 (.loop (.seq (.ops [⟨some 11, none, .p (.bin .lss (.t 10) (.k (.s (.int .i64 64))))⟩])
 (.seq (.cond (.t 11)
 .skip
 (.exit 0))
 (.seq (.block 1 (.seq (.ops [⟨some 12, none, .p (.mv (.t 10))⟩,
 ⟨some 13, none, .p (.ix 64 2 true (.t 9) (.t 10))⟩,
 ⟨some 5, none, .h (.alloc (.ints 2))⟩,
 ⟨some 4, none, .p (.mv (.t 12))⟩,
 ⟨none, none, .h (.store 2 (.t 5) (.t 13))⟩])
 (.seq (.seq (.ops [⟨some 14, none, .h (.load true 2 (.t 5))⟩,
 ⟨some 15, none, .p (.build (.ints 2) [])⟩,
 ⟨some 16, none, .p (.eqa false 2 (.t 14) (.t 15))⟩])
 (.cond (.t 16)
 (.exit 1)
 .skip))
 (.seq (.ops [⟨some 17, none, .p (.mv (.t 4))⟩,
 ⟨some 18, none, .h (.call (.k (.fn 38 [])) [(.t 17)])⟩,
 ⟨some 19, none, .p (.bin .eql (.t 18) (.k (.s (.int .i64 0))))⟩,
 ⟨some 20, none, .p (.mv (.t 19))⟩,
 ⟨some 21, some (20, false), .p (.mv (.t 4))⟩,
 ⟨some 22, some (20, false), .h (.call (.k (.fn 38 [])) [(.t 21)])⟩,
 ⟨some 23, some (20, false), .p (.bin .eql (.t 22) (.k (.s (.int .i64 7))))⟩,
 ⟨some 24, none, .p (.pick (.t 20) (.k (.s (.bool true))) (.t 23))⟩,
 ⟨some 6, none, .p (.mv (.t 24))⟩])
 (.seq (.seq (.ops [⟨some 25, none, .h (.load true 2 (.t 5))⟩,
 ⟨some 26, none, .h (.call (.k (.fn 88 [])) [(.t 25)])⟩,
 ⟨some 27, none, .p (.un .not (.t 26))⟩,
 ⟨some 28, none, .p (.mv (.t 27))⟩,
 ⟨some 29, some (28, false), .p (.mv (.t 6))⟩,
 ⟨some 30, some (28, false), .p (.mv (.t 29))⟩,
 ⟨some 31, some (30, true), .p (.fa 0 1 (.t 5))⟩,
 ⟨some 32, some (30, true), .h (.load false 1 (.t 31))⟩,
 ⟨some 33, some (30, true), .p (.bin .eql (.t 32) (.k (.s (.int .i64 1))))⟩,
 ⟨some 34, some (28, false), .p (.pick (.t 30) (.t 33) (.k (.s (.bool false))))⟩,
 ⟨some 35, none, .p (.pick (.t 28) (.k (.s (.bool true))) (.t 34))⟩])
 (.cond (.t 35)
 (.seq (.ops [⟨some 2, none, .p (.mv (.k (.s (.bool false))))⟩])
 .ret)
 .skip))
 (.seq (.ops [⟨some 36, none, .p (.fa 0 1 (.t 5))⟩,
 ⟨some 37, none, .h (.load false 1 (.t 36))⟩,
 ⟨some 38, none, .p (.bin .eql (.t 37) (.k (.s (.int .i64 6))))⟩])
 (.cond (.t 38)
 (.ops [⟨some 39, none, .p (.fa 1 1 (.t 5))⟩,
 ⟨some 40, none, .h (.load false 1 (.t 39))⟩,
 ⟨some 41, none, .p (.ixa 2 1 (.t 3) (.t 40))⟩,
 ⟨some 42, none, .h (.load false 1 (.t 41))⟩,
 ⟨some 43, none, .p (.bin .add (.t 42) (.k (.s (.int .i64 1))))⟩,
 ⟨some 44, none, .p (.ixa 2 1 (.t 3) (.t 40))⟩,
 ⟨none, none, .h (.store 1 (.t 44) (.t 43))⟩])
 .skip)))))))
 (.ops [⟨some 45, none, .p (.bin .add (.t 10) (.k (.s (.int .i64 1))))⟩,
 ⟨some 10, none, .p (.mv (.t 45))⟩])))))))
 (.seq (.ops [⟨some 46, none, .h (.load true 2 (.t 3))⟩,
 ⟨some 47, none, .p (.build (.ints 2) [(0, 1, (.k (.s (.int .i64 1)))), (1, 1, (.k (.s (.int .i64 1))))])⟩,
 ⟨some 48, none, .p (.eqa false 2 (.t 46) (.t 47))⟩,
 ⟨some 49, none, .p (.mv (.t 48))⟩,
 ⟨some 50, some (49, true), .p (.fa 0 133 (.t 1))⟩,
 ⟨some 51, some (49, true), .p (.fa 128 1 (.t 50))⟩,
 ⟨some 52, some (49, true), .h (.load false 1 (.t 51))⟩,
 ⟨some 53, some (49, true), .p (.bin .eql (.t 52) (.k (.s (.int .i64 0))))⟩,
 ⟨some 54, some (49, true), .p (.mv (.t 53))⟩,
 ⟨some 55, some (54, false), .p (.fa 0 133 (.t 1))⟩,
 ⟨some 56, some (54, false), .p (.fa 128 1 (.t 55))⟩,
 ⟨some 57, some (54, false), .h (.load false 1 (.t 56))⟩,
 ⟨some 58, some (54, false), .p (.bin .eql (.t 57) (.k (.s (.int .i64 1))))⟩,
 ⟨some 59, some (49, true), .p (.pick (.t 54) (.k (.s (.bool true))) (.t 58))⟩,
 ⟨some 60, none, .p (.pick (.t 49) (.t 59) (.k (.s (.bool false))))⟩,
 ⟨some 2, none, .p (.mv (.t 60))⟩])
 .ret))))⟩
theorem c89 : compF Try.prog Try.f89 = some a89 := by kernel_rfl
/-- (zugzwang/board.checker).castles -/
def a90 : AF := ⟨46, [.tmp 2],
 (.seq (.ops [⟨some 1, none, .h (.box (.t 0))⟩,
 ⟨some 2, none, .p (.mv (.k (.s (.bool false))))⟩])
 (.seq (.seq (.ops [⟨some 6, none, .p (.fa 0 133 (.t 1))⟩,
 ⟨some 7, none, .p (.fa 129 1 (.t 6))⟩,
 ⟨some 8, none, .h (.load false 1 (.t 7))⟩,
 ⟨some 9, none, .p (.bin .lss (.t 8) (.k (.s (.int .i64 0))))⟩,
 ⟨some 10, none, .p (.mv (.t 9))⟩,
 ⟨some 11, some (10, false), .p (.fa 0 133 (.t 1))⟩,
 ⟨some 12, some (10, false), .p (.fa 129 1 (.t 11))⟩,
 ⟨some 13, some (10, false), .h (.load false 1 (.t 12))⟩,
 ⟨some 14, some (10, false), .p (.bin .gtr (.t 13) (.k (.s (.int .i64 15))))⟩,
 ⟨some 15, none, .p (.pick (.t 10) (.k (.s (.bool true))) (.t 14))⟩])
 (.cond (.t 15)
 (.seq (.ops [⟨some 2, none, .p (.mv (.k (.s (.bool false))))⟩])
 .ret)
 .skip))
 (.seq (.seq (.ops [⟨some 16, none, .p (.build (.ints 4) [(0, 1, (.k (.s (.int .i64 7)))), (1, 1, (.k (.s (.int .i64 0)))), (2, 1, (.k (.s (.int .i64 63)))), (3, 1, (.k (.s (.int .i64 56))))])⟩,
 ⟨some 17, none, .p (.mv (.k (.s (.int .i64 0))))⟩])
 (.block 0 (.loop (.seq (.ops [⟨some 18, none, .p (.bin .lss (.t 17) (.k (.s (.int .i64 4))))⟩])
 (.seq (.cond (.t 18)
 .skip
 (.exit 0))
 (.seq (.block 1 (.seq (.ops [⟨some 19, none, .p (.mv (.t 17))⟩,
 ⟨some 20, none, .p (.ix 4 1 false (.t 16) (.t 17))⟩,
 ⟨some 3, none, .p (.mv (.t 19))⟩,
 ⟨some 4, none, .p (.mv (.t 20))⟩])
 (.seq (.seq (.ops [⟨some 21, none, .p (.fa 0 133 (.t 1))⟩,
 ⟨some 22, none, .p (.fa 129 1 (.t 21))⟩,
 ⟨some 23, none, .h (.load false 1 (.t 22))⟩,
 ⟨some 24, none, .p (.mv (.t 3))⟩,
 ⟨some 25, none, .p (.bin .shr (.t 23) (.t 24))⟩,
 ⟨some 26, none, .p (.bin .and (.t 25) (.k (.s (.int .i64 1))))⟩,
 ⟨some 27, none, .p (.bin .eql (.t 26) (.k (.s (.int .i64 0))))⟩])
 (.cond (.t 27)
 (.exit 1)
 .skip))
 (.seq (.ops [⟨some 28, none, .p (.mv (.t 3))⟩,
 ⟨some 29, none, .p (.bin .quo (.t 28) (.k (.s (.int .i64 2))))⟩,
 ⟨some 5, none, .p (.mv (.t 29))⟩])
 (.seq (.ops [⟨some 30, none, .h (.load true 133 (.t 1))⟩,
 ⟨some 31, none, .p (.mv (.t 5))⟩,
 ⟨some 32, none, .p (.mv (.t 4))⟩,
 ⟨some 33, none, .h (.call (.k (.fn 112 [])) [(.t 30), (.k (.s (.int .i64 4))), (.t 31), (.t 32)])⟩,
 ⟨some 34, none, .p (.un .not (.t 33))⟩,
 ⟨some 35, none, .p (.mv (.t 34))⟩,
 ⟨some 36, some (35, false), .h (.load true 133 (.t 1))⟩,
 ⟨some 37, some (35, false), .p (.mv (.t 5))⟩,
 ⟨some 38, some (35, false), .p (.mv (.t 4))⟩,
 ⟨some 39, some (35, false), .p (.bin .quo (.t 38) (.k (.s (.int .i64 8))))⟩,
 ⟨some 40, some (35, false), .p (.bin .mul (.t 39) (.k (.s (.int .i64 8))))⟩,
 ⟨some 41, some (35, false), .p (.bin .add (.t 40) (.k (.s (.int .i64 4))))⟩,
 ⟨some 42, some (35, false), .h (.call (.k (.fn 112 [])) [(.t 36), (.k (.s (.int .i64 6))), (.t 37), (.t 41)])⟩,
 ⟨some 43, some (35, false), .p (.un .not (.t 42))⟩,
 ⟨some 44, none, .p (.pick (.t 35) (.k (.s (.bool true))) (.t 43))⟩])
 (.cond (.t 44)
 (.seq (.ops [⟨some 2, none, .p (.mv (.k (.s (.bool false))))⟩])
 .ret)
 .skip))))))
 (.ops [⟨some 45, none, .p (.bin .add (.t 17) (.k (.s (.int .i64 1))))⟩,
 ⟨some 17, none, .p (.mv (.t 45))⟩])))))))
 (.seq (.ops [⟨some 2, none, .p (.mv (.k (.s (.bool true))))⟩])
 .ret))))⟩
theorem c90 : compF Try.prog Try.f90 = some a90 := by kernel_rfl
/-- (zugzwang/board.checker).over -/
def a91 : AF := ⟨55, [.tmp 2],
 (.seq (.ops [⟨some 1, none, .h (.box (.t 0))⟩,
 ⟨some 2, none, .p (.mv (.k (.s (.bool false))))⟩])
 (.seq (.seq (.ops [⟨some 6, none, .p (.fa 0 133 (.t 1))⟩,
 ⟨some 7, none, .p (.fa 130 1 (.t 6))⟩,
 ⟨some 8, none, .h (.load false 1 (.t 7))⟩,
 ⟨some 9, none, .p (.bin .eql (.t 8) (.k (.s (.int .i64 (-1)))))⟩])
 (.cond (.t 9)
 (.seq (.ops [⟨some 2, none, .p (.mv (.k (.s (.bool true))))⟩])
 .ret)
 .skip))
 (.seq (.ops [⟨some 3, none, .p (.mv (.k (.s (.int .i64 5))))⟩,
 ⟨some 4, none, .p (.mv (.k (.s (.int .i64 1))))⟩])
 (.seq (.seq (.ops [⟨some 10, none, .p (.fa 0 133 (.t 1))⟩,
 ⟨some 11, none, .p (.fa 128 1 (.t 10))⟩,
 ⟨some 12, none, .h (.load false 1 (.t 11))⟩,
 ⟨some 13, none, .p (.bin .eql (.t 12) (.k (.s (.int .i64 1))))⟩])
 (.cond (.t 13)
 (.ops [⟨some 3, none, .p (.mv (.k (.s (.int .i64 2))))⟩,
 ⟨some 4, none, .p (.mv (.k (.s (.int .i64 (-1)))))⟩])
 .skip))
 (.seq (.seq (.ops [⟨some 14, none, .p (.fa 0 133 (.t 1))⟩,
 ⟨some 15, none, .p (.fa 130 1 (.t 14))⟩,
 ⟨some 16, none, .h (.load false 1 (.t 15))⟩,
 ⟨some 17, none, .h (.call (.k (.fn 38 [])) [(.t 16)])⟩,
 ⟨some 18, none, .p (.mv (.t 3))⟩,
 ⟨some 19, none, .p (.bin .neq (.t 17) (.t 18))⟩,
 ⟨some 20, none, .p (.mv (.t 19))⟩,
 ⟨some 21, some (20, false), .p (.fa 0 133 (.t 1))⟩,
 ⟨some 22, some (20, false), .p (.fa 131 1 (.t 21))⟩,
 ⟨some 23, some (20, false), .h (.load false 1 (.t 22))⟩,
 ⟨some 24, some (20, false), .p (.bin .neq (.t 23) (.k (.s (.int .i64 0))))⟩,
 ⟨some 25, none, .p (.pick (.t 20) (.k (.s (.bool true))) (.t 24))⟩])
 (.cond (.t 25)
 (.seq (.ops [⟨some 2, none, .p (.mv (.k (.s (.bool false))))⟩])
 .ret)
 .skip))
 (.seq (.ops [⟨some 26, none, .p (.mkfn 113 [(.t 1)])⟩,
 ⟨some 5, none, .p (.mv (.t 26))⟩])
 (.seq (.ops [⟨some 27, none, .p (.mv (.t 5))⟩,
 ⟨some 28, none, .p (.fa 0 133 (.t 1))⟩,
 ⟨some 29, none, .p (.fa 130 1 (.t 28))⟩,
 ⟨some 30, none, .h (.load false 1 (.t 29))⟩,
 ⟨some 31, none, .h (.call (.t 27) [(.t 30)])⟩,
 ⟨some 32, none, .p (.mv (.t 31))⟩,
 ⟨some 33, some (32, true), .p (.mv (.t 5))⟩,
 ⟨some 34, some (32, true), .p (.fa 0 133 (.t 1))⟩,
 ⟨some 35, some (32, true), .p (.fa 130 1 (.t 34))⟩,
 ⟨some 36, some (32, true), .h (.load false 1 (.t 35))⟩,
 ⟨some 37, some (32, true), .p (.mv (.t 4))⟩,
 ⟨some 38, some (32, true), .h (.call (.k (.fn 33 [])) [(.t 36), (.k (.s (.int .i64 0))), (.t 37)])⟩,
 ⟨some 39, some (32, true), .h (.call (.t 33) [(.t 38)])⟩,
 ⟨some 40, none, .p (.pick (.t 32) (.t 39) (.k (.s (.bool false))))⟩,
 ⟨some 41, none, .p (.mv (.t 40))⟩,
 ⟨some 42, some (41, true), .h (.load true 133 (.t 1))⟩,
 ⟨some 43, some (41, true), .p (.fa 0 133 (.t 1))⟩,
 ⟨some 44, some (41, true), .p (.fa 128 1 (.t 43))⟩,
 ⟨some 45, some (41, true), .h (.load false 1 (.t 44))⟩,
 ⟨some 46, some (41, true), .h (.callq (.k (.fn 57 [])) [(.t 45)])⟩,
 ⟨some 47, some (41, true), .p (.fa 0 133 (.t 1))⟩,
 ⟨some 48, some (41, true), .p (.fa 130 1 (.t 47))⟩,
 ⟨some 49, some (41, true), .h (.load false 1 (.t 48))⟩,
 ⟨some 50, some (41, true), .p (.mv (.t 4))⟩,
 ⟨some 51, some (41, true), .p (.un .neg (.t 50))⟩,
 ⟨some 52, some (41, true), .h (.callq (.k (.fn 33 [])) [(.t 49), (.k (.s (.int .i64 0))), (.t 51)])⟩,
 ⟨some 53, some (41, true), .h (.call (.k (.fn 112 [])) [(.t 42), (.k (.s (.int .i64 1))), (.t 46), (.t 52)])⟩,
 ⟨some 54, none, .p (.pick (.t 41) (.t 53) (.k (.s (.bool false))))⟩,
 ⟨some 2, none, .p (.mv (.t 54))⟩])
 .ret)))))))⟩
theorem c91 : compF Try.prog Try.f91 = some a91 := by kernel_rfl
/-- slices.Index[[]zugzwang/api.Piece,zugzwang/api.Piece] -/
def a94 : AF := ⟨19, [.tmp 4],
 (.seq (.ops [⟨some 3, none, .h (.box (.t 1))⟩,
 ⟨some 4, none, .p (.mv (.k (.s (.int .i64 0))))⟩])
 (.seq (.seq (.ops [⟨some 6, none, .p (.mv (.t 0))⟩,
 ⟨some 7, none, .p (.len (.t 6))⟩,
 ⟨some 8, none, .p (.mv (.k (.s (.int .i64 0))))⟩])
 (.block 0 (.loop (.seq (.ops [⟨some 9, none, .p (.bin .lss (.t 8) (.t 7))⟩])
 (.seq (.cond (.t 9)
 .skip
 (.exit 0))
 (.seq (.block 1 (.seq (.ops [⟨some 10, none, .p (.mv (.t 8))⟩,
 ⟨some 5, none, .p (.mv (.t 10))⟩])
 (.seq (.ops [⟨some 11, none, .h (.load true 2 (.t 3))⟩,
 ⟨some 12, none, .p (.mv (.t 0))⟩,
 ⟨some 13, none, .p (.mv (.t 5))⟩,
 ⟨some 14, none, .p (.ixs 2 (.t 12) (.t 13))⟩,
 ⟨some 15, none, .h (.load true 2 (.t 14))⟩,
 ⟨some 16, none, .p (.eqa false 2 (.t 11) (.t 15))⟩])
 (.cond (.t 16)
 (.seq (.ops [⟨some 17, none, .p (.mv (.t 5))⟩,
 ⟨some 4, none, .p (.mv (.t 17))⟩])
 .ret)
 .skip))))
 (.ops [⟨some 18, none, .p (.bin .add (.t 8) (.k (.s (.int .i64 1))))⟩,
 ⟨some 8, none, .p (.mv (.t 18))⟩])))))))
 (.seq (.ops [⟨some 4, none, .p (.mv (.k (.s (.int .i64 (-1)))))⟩])
 .ret)))⟩
theorem c94 : compF Try.prog Try.f94 = some a94 := by kernel_rfl
end Go.Proofs.Ytjldefmcnppdoaa
