/- The functions of this seat, as the abstract machine has them: each held against the loaded one by the kernel. -/
import Derived.Test.YtjldefmcnppdoaaProg
import Derived.Test.YtjldefmcnppdoaaAmRun
import Derived.KernelRfl
namespace Go.Proofs.Ytjldefmcnppdoaa
open Go Go.Am
set_option maxRecDepth 100000
/-- zugzwang/zugzwangref06.Start -/
def a29 : AF := ⟨39, [.cell 0 true 133],
 (.seq (.ops [⟨some 0, none, .h (.alloc (.ints 133))⟩])
 (.seq (.ops [⟨some 4, none, .h (.call (.k (.fn 68 [])) [])⟩,
 ⟨some 1, none, .h (.alloc (.ints 133))⟩,
 ⟨none, none, .h (.store 133 (.t 1) (.t 4))⟩])
 (.seq (.ops [⟨some 5, none, .h (.mksl 8 1 (.one (.s (.int .i64 0))) [(0, (.k (.s (.int .i64 4)))), (1, (.k (.s (.int .i64 2)))), (2, (.k (.s (.int .i64 3)))), (3, (.k (.s (.int .i64 5)))), (4, (.k (.s (.int .i64 6)))), (5, (.k (.s (.int .i64 3)))), (6, (.k (.s (.int .i64 2)))), (7, (.k (.s (.int .i64 4))))])⟩,
 ⟨some 2, none, .p (.mv (.t 5))⟩])
 (.seq (.seq (.ops [⟨some 3, none, .p (.mv (.k (.s (.int .i64 0))))⟩])
 (.block 0 (.loop (.seq (.seq (.ops [⟨some 6, none, .p (.mv (.t 3))⟩,
 ⟨some 7, none, .p (.bin .lss (.t 6) (.k (.s (.int .i64 8))))⟩])
 (.cond (.t 7)
 .skip
 (.exit 0)))
 (.seq (.block 1 (.seq (.ops [⟨some 10, none, .p (.mv (.t 3))⟩,
 ⟨some 11, none, .p (.mv (.t 2))⟩,
 ⟨some 12, none, .p (.mv (.t 3))⟩,
 ⟨some 13, none, .p (.ixs 1 (.t 11) (.t 12))⟩,
 ⟨some 14, none, .h (.load false 1 (.t 13))⟩,
 ⟨some 15, none, .p (.build (.ints 2) [(0, 1, (.t 14)), (1, 1, (.k (.s (.int .i64 0))))])⟩,
 ⟨some 16, none, .p (.fa 0 128 (.t 1))⟩,
 ⟨some 17, none, .p (.ixa 64 2 (.t 16) (.t 10))⟩,
 ⟨none, none, .h (.store 2 (.t 17) (.t 15))⟩])
 (.seq (.ops [⟨some 18, none, .p (.mv (.t 3))⟩,
 ⟨some 19, none, .p (.bin .add (.k (.s (.int .i64 8))) (.t 18))⟩,
 ⟨some 20, none, .p (.build (.ints 2) [(0, 1, (.k (.s (.int .i64 1)))), (1, 1, (.k (.s (.int .i64 0))))])⟩,
 ⟨some 21, none, .p (.fa 0 128 (.t 1))⟩,
 ⟨some 22, none, .p (.ixa 64 2 (.t 21) (.t 19))⟩,
 ⟨none, none, .h (.store 2 (.t 22) (.t 20))⟩])
 (.seq (.ops [⟨some 23, none, .p (.mv (.t 3))⟩,
 ⟨some 24, none, .p (.bin .add (.k (.s (.int .i64 48))) (.t 23))⟩,
 ⟨some 25, none, .p (.build (.ints 2) [(0, 1, (.k (.s (.int .i64 1)))), (1, 1, (.k (.s (.int .i64 1))))])⟩,
 ⟨some 26, none, .p (.fa 0 128 (.t 1))⟩,
 ⟨some 27, none, .p (.ixa 64 2 (.t 26) (.t 24))⟩,
 ⟨none, none, .h (.store 2 (.t 27) (.t 25))⟩])
 (.ops [⟨some 28, none, .p (.mv (.t 3))⟩,
 ⟨some 29, none, .p (.bin .add (.k (.s (.int .i64 56))) (.t 28))⟩,
 ⟨some 30, none, .p (.mv (.t 2))⟩,
 ⟨some 31, none, .p (.mv (.t 3))⟩,
 ⟨some 32, none, .p (.ixs 1 (.t 30) (.t 31))⟩,
 ⟨some 33, none, .h (.load false 1 (.t 32))⟩,
 ⟨some 34, none, .p (.build (.ints 2) [(0, 1, (.t 33)), (1, 1, (.k (.s (.int .i64 1))))])⟩,
 ⟨some 35, none, .p (.fa 0 128 (.t 1))⟩,
 ⟨some 36, none, .p (.ixa 64 2 (.t 35) (.t 29))⟩,
 ⟨none, none, .h (.store 2 (.t 36) (.t 34))⟩])))))
 (.ops [⟨some 8, none, .p (.mv (.t 3))⟩,
 ⟨some 9, none, .p (.bin .add (.t 8) (.k (.s (.int .i64 1))))⟩,
 ⟨some 3, none, .p (.mv (.t 9))⟩]))))))
 (.seq (.ops [⟨some 37, none, .p (.fa 129 1 (.t 1))⟩,
 ⟨none, none, .h (.store 1 (.t 37) (.k (.s (.int .i64 15))))⟩])
 (.seq (.ops [⟨some 38, none, .h (.load true 133 (.t 1))⟩,
 ⟨none, none, .h (.store 133 (.t 0) (.t 38))⟩])
 .ret))))))⟩
theorem c29 : compF Try.prog Try.f29 = some a29 := by kernel_rfl
/-- zugzwang/zugzwangkit.Pick -/
def a30 : AF := ⟨16, [.tmp 4],
 (.seq (.ops [⟨some 4, none, .p (.mv (.k (.s (.int .i64 0))))⟩])
 (.seq (.seq (.ops [⟨some 5, none, .p (.mv (.t 1))⟩,
 ⟨some 6, none, .p (.bin .lss (.t 5) (.k (.s (.int .i64 1))))⟩])
 (.cond (.t 6)
 (.seq (.ops [⟨some 4, none, .p (.mv (.k (.s (.int .i64 0))))⟩])
 .ret)
 .skip))
 (.seq (.ops [⟨some 7, none, .p (.mv (.t 0))⟩,
 ⟨some 8, none, .p (.mv (.t 1))⟩,
 ⟨some 9, none, .p (.bin .rem (.t 7) (.t 8))⟩,
 ⟨some 0, none, .p (.mv (.t 9))⟩])
 (.seq (.seq (.ops [⟨some 10, none, .p (.mv (.t 0))⟩,
 ⟨some 11, none, .p (.bin .lss (.t 10) (.k (.s (.int .i64 0))))⟩])
 (.cond (.t 11)
 (.ops [⟨some 12, none, .p (.mv (.t 0))⟩,
 ⟨some 13, none, .p (.mv (.t 1))⟩,
 ⟨some 14, none, .p (.bin .add (.t 12) (.t 13))⟩,
 ⟨some 0, none, .p (.mv (.t 14))⟩])
 .skip))
 (.seq (.ops [⟨some 15, none, .p (.mv (.t 0))⟩,
 ⟨some 4, none, .p (.mv (.t 15))⟩])
 .ret)))))⟩
theorem c30 : compF Try.prog Try.f30 = some a30 := by kernel_rfl
/-- zugzwang/square.Step -/
def a33 : AF := ⟨13, [.tmp 6],
 (.seq (.ops [⟨some 6, none, .p (.mv (.k (.s (.int .i64 0))))⟩])
 (.seq (.ops [⟨some 7, none, .p (.mv (.t 0))⟩,
 ⟨some 8, none, .h (.call (.k (.fn 82 [])) [(.t 7)])⟩,
 ⟨some 9, none, .p (.mv (.t 1))⟩,
 ⟨some 10, none, .p (.mv (.t 2))⟩,
 ⟨some 11, none, .h (.call (.k (.fn 83 [])) [(.t 8), (.t 9), (.t 10)])⟩,
 ⟨some 12, none, .h (.call (.k (.fn 84 [])) [(.t 11)])⟩,
 ⟨some 6, none, .p (.mv (.t 12))⟩])
 .ret))⟩
theorem c33 : compF Try.prog Try.f33 = some a33 := by kernel_rfl
/-- zugzwang/square.At -/
def a36 : AF := ⟨9, [.tmp 4],
 (.seq (.ops [⟨some 4, none, .p (.mv (.k (.s (.int .i64 0))))⟩])
 (.seq (.ops [⟨some 5, none, .p (.mv (.t 0))⟩,
 ⟨some 6, none, .p (.mv (.t 1))⟩,
 ⟨some 7, none, .p (.build (.ints 2) [(0, 1, (.t 5)), (1, 1, (.t 6))])⟩,
 ⟨some 8, none, .h (.call (.k (.fn 84 [])) [(.t 7)])⟩,
 ⟨some 4, none, .p (.mv (.t 8))⟩])
 .ret))⟩
theorem c36 : compF Try.prog Try.f36 = some a36 := by kernel_rfl
/-- zugzwang/square.File -/
def a37 : AF := ⟨7, [.tmp 2],
 (.seq (.ops [⟨some 2, none, .p (.mv (.k (.s (.int .i64 0))))⟩])
 (.seq (.ops [⟨some 3, none, .p (.mv (.t 0))⟩,
 ⟨some 4, none, .h (.call (.k (.fn 82 [])) [(.t 3)])⟩,
 ⟨some 5, none, .p (.fld true 0 2 (.t 4))⟩,
 ⟨some 6, none, .p (.fld false 0 1 (.t 5))⟩,
 ⟨some 2, none, .p (.mv (.t 6))⟩])
 .ret))⟩
theorem c37 : compF Try.prog Try.f37 = some a37 := by kernel_rfl
/-- zugzwang/square.Rank -/
def a38 : AF := ⟨7, [.tmp 2],
 (.seq (.ops [⟨some 2, none, .p (.mv (.k (.s (.int .i64 0))))⟩])
 (.seq (.ops [⟨some 3, none, .p (.mv (.t 0))⟩,
 ⟨some 4, none, .h (.call (.k (.fn 82 [])) [(.t 3)])⟩,
 ⟨some 5, none, .p (.fld true 0 2 (.t 4))⟩,
 ⟨some 6, none, .p (.fld false 1 1 (.t 5))⟩,
 ⟨some 2, none, .p (.mv (.t 6))⟩])
 .ret))⟩
theorem c38 : compF Try.prog Try.f38 = some a38 := by kernel_rfl
/-- zugzwang/square.Is -/
def a39 : AF := ⟨6, [.tmp 2],
 (.seq (.ops [⟨some 2, none, .p (.mv (.k (.s (.bool false))))⟩])
 (.seq (.ops [⟨some 3, none, .p (.mv (.t 0))⟩,
 ⟨some 4, none, .h (.call (.k (.fn 82 [])) [(.t 3)])⟩,
 ⟨some 5, none, .p (.fld false 2 1 (.t 4))⟩,
 ⟨some 2, none, .p (.mv (.t 5))⟩])
 .ret))⟩
theorem c39 : compF Try.prog Try.f39 = some a39 := by kernel_rfl
/-- zugzwang/board.Right -/
def a56 : AF := ⟨36, [.tmp 2],
 (.seq (.ops [⟨some 1, none, .h (.box (.t 0))⟩,
 ⟨some 2, none, .p (.mv (.k (.s (.bool false))))⟩])
 (.seq (.ops [⟨some 4, none, .h (.load true 133 (.t 1))⟩,
 ⟨some 5, none, .p (.build (.ints 133) [(0, 133, (.t 4))])⟩,
 ⟨some 3, none, .h (.alloc (.ints 133))⟩,
 ⟨none, none, .h (.store 133 (.t 3) (.t 5))⟩])
 (.seq (.ops [⟨some 6, none, .h (.load true 133 (.t 3))⟩,
 ⟨some 7, none, .h (.call (.k (.fn 89 [])) [(.t 6)])⟩,
 ⟨some 8, none, .p (.mv (.t 7))⟩,
 ⟨some 9, some (8, true), .h (.load true 133 (.t 3))⟩,
 ⟨some 10, some (8, true), .h (.call (.k (.fn 90 [])) [(.t 9)])⟩,
 ⟨some 11, none, .p (.pick (.t 8) (.t 10) (.k (.s (.bool false))))⟩,
 ⟨some 12, none, .p (.mv (.t 11))⟩,
 ⟨some 13, some (12, true), .h (.load true 133 (.t 3))⟩,
 ⟨some 14, some (12, true), .h (.call (.k (.fn 91 [])) [(.t 13)])⟩,
 ⟨some 15, none, .p (.pick (.t 12) (.t 14) (.k (.s (.bool false))))⟩,
 ⟨some 16, none, .p (.mv (.t 15))⟩,
 ⟨some 17, some (16, true), .p (.fa 131 1 (.t 1))⟩,
 ⟨some 18, some (16, true), .h (.load false 1 (.t 17))⟩,
 ⟨some 19, some (16, true), .p (.bin .geq (.t 18) (.k (.s (.int .i64 0))))⟩,
 ⟨some 20, none, .p (.pick (.t 16) (.t 19) (.k (.s (.bool false))))⟩,
 ⟨some 21, none, .p (.mv (.t 20))⟩,
 ⟨some 22, some (21, true), .p (.fa 131 1 (.t 1))⟩,
 ⟨some 23, some (21, true), .h (.load false 1 (.t 22))⟩,
 ⟨some 24, some (21, true), .p (.bin .leq (.t 23) (.k (.s (.int .i64 1024))))⟩,
 ⟨some 25, none, .p (.pick (.t 21) (.t 24) (.k (.s (.bool false))))⟩,
 ⟨some 26, none, .p (.mv (.t 25))⟩,
 ⟨some 27, some (26, true), .p (.fa 132 1 (.t 1))⟩,
 ⟨some 28, some (26, true), .h (.load false 1 (.t 27))⟩,
 ⟨some 29, some (26, true), .p (.bin .geq (.t 28) (.k (.s (.int .i64 1))))⟩,
 ⟨some 30, none, .p (.pick (.t 26) (.t 29) (.k (.s (.bool false))))⟩,
 ⟨some 31, none, .p (.mv (.t 30))⟩,
 ⟨some 32, some (31, true), .p (.fa 132 1 (.t 1))⟩,
 ⟨some 33, some (31, true), .h (.load false 1 (.t 32))⟩,
 ⟨some 34, some (31, true), .p (.bin .leq (.t 33) (.k (.s (.int .i64 16384))))⟩,
 ⟨some 35, none, .p (.pick (.t 31) (.t 34) (.k (.s (.bool false))))⟩,
 ⟨some 2, none, .p (.mv (.t 35))⟩])
 .ret)))⟩
theorem c56 : compF Try.prog Try.f56 = some a56 := by kernel_rfl
/-- zugzwang/board.Other -/
def a57 : AF := ⟨5, [.tmp 2],
 (.seq (.ops [⟨some 2, none, .p (.mv (.k (.s (.int .i64 0))))⟩])
 (.seq (.seq (.ops [⟨some 3, none, .p (.mv (.t 0))⟩,
 ⟨some 4, none, .p (.bin .eql (.t 3) (.k (.s (.int .i64 0))))⟩])
 (.cond (.t 4)
 (.seq (.ops [⟨some 2, none, .p (.mv (.k (.s (.int .i64 1))))⟩])
 .ret)
 .skip))
 (.seq (.ops [⟨some 2, none, .p (.mv (.k (.s (.int .i64 0))))⟩])
 .ret)))⟩
theorem c57 : compF Try.prog Try.f57 = some a57 := by kernel_rfl
/-- zugzwang/zugzwanglaw08.awake -/
def a61 : AF := ⟨61, [.tmp 0],
 (.seq (.ops [⟨some 0, none, .p (.mv (.k (.s (.bool false))))⟩])
 (.seq (.ops [⟨some 6, none, .h (.call (.k (.fn 29 [])) [])⟩,
 ⟨some 7, none, .p (.build (.ints 3) [(0, 1, (.k (.s (.int .i64 12)))), (1, 1, (.k (.s (.int .i64 28))))])⟩,
 ⟨some 8, none, .h (.mksl 1 3 (.ints 3) [(0, (.t 7))])⟩,
 ⟨some 9, none, .h (.call (.k (.fn 62 [])) [(.t 6), (.t 8)])⟩,
 ⟨some 5, none, .p (.mv (.t 9))⟩,
 ⟨some 10, none, .p (.ext (.t 5) 0)⟩,
 ⟨some 11, none, .p (.ext (.t 5) 1)⟩,
 ⟨some 1, none, .h (.alloc (.ints 133))⟩,
 ⟨none, none, .h (.store 133 (.t 1) (.t 10))⟩,
 ⟨some 2, none, .p (.mv (.t 11))⟩])
 (.seq (.ops [⟨some 13, none, .h (.load true 133 (.t 1))⟩,
 ⟨some 14, none, .p (.build (.ints 3) [(0, 1, (.k (.s (.int .i64 62)))), (1, 1, (.k (.s (.int .i64 45))))])⟩,
 ⟨some 15, none, .h (.call (.k (.fn 64 [])) [(.t 13), (.t 14)])⟩,
 ⟨some 12, none, .p (.mv (.t 15))⟩,
 ⟨some 16, none, .p (.ext (.t 12) 0)⟩,
 ⟨some 17, none, .p (.ext (.t 12) 1)⟩,
 ⟨some 3, none, .h (.alloc (.ints 133))⟩,
 ⟨none, none, .h (.store 133 (.t 3) (.t 16))⟩,
 ⟨some 4, none, .p (.mv (.t 17))⟩])
 (.seq (.ops [⟨some 18, none, .p (.mv (.t 2))⟩,
 ⟨some 19, none, .p (.bin .eql (.t 18) (.k (.s (.int .i64 0))))⟩,
 ⟨some 20, none, .p (.mv (.t 19))⟩,
 ⟨some 21, some (20, true), .p (.fa 130 1 (.t 1))⟩,
 ⟨some 22, some (20, true), .h (.load false 1 (.t 21))⟩,
 ⟨some 23, some (20, true), .p (.bin .eql (.t 22) (.k (.s (.int .i64 20))))⟩,
 ⟨some 24, none, .p (.pick (.t 20) (.t 23) (.k (.s (.bool false))))⟩,
 ⟨some 25, none, .p (.mv (.t 24))⟩,
 ⟨some 26, some (25, true), .p (.fa 131 1 (.t 1))⟩,
 ⟨some 27, some (25, true), .h (.load false 1 (.t 26))⟩,
 ⟨some 28, some (25, true), .p (.bin .eql (.t 27) (.k (.s (.int .i64 0))))⟩,
 ⟨some 29, none, .p (.pick (.t 25) (.t 28) (.k (.s (.bool false))))⟩,
 ⟨some 30, none, .p (.mv (.t 29))⟩,
 ⟨some 31, some (30, true), .p (.fa 132 1 (.t 1))⟩,
 ⟨some 32, some (30, true), .h (.load false 1 (.t 31))⟩,
 ⟨some 33, some (30, true), .p (.bin .eql (.t 32) (.k (.s (.int .i64 1))))⟩,
 ⟨some 34, none, .p (.pick (.t 30) (.t 33) (.k (.s (.bool false))))⟩,
 ⟨some 35, none, .p (.mv (.t 34))⟩,
 ⟨some 36, some (35, true), .p (.mv (.t 4))⟩,
 ⟨some 37, some (35, true), .p (.bin .eql (.t 36) (.k (.s (.int .i64 0))))⟩,
 ⟨some 38, none, .p (.pick (.t 35) (.t 37) (.k (.s (.bool false))))⟩,
 ⟨some 39, none, .p (.mv (.t 38))⟩,
 ⟨some 40, some (39, true), .p (.fa 131 1 (.t 3))⟩,
 ⟨some 41, some (39, true), .h (.load false 1 (.t 40))⟩,
 ⟨some 42, some (39, true), .p (.bin .eql (.t 41) (.k (.s (.int .i64 1))))⟩,
 ⟨some 43, none, .p (.pick (.t 39) (.t 42) (.k (.s (.bool false))))⟩,
 ⟨some 44, none, .p (.mv (.t 43))⟩,
 ⟨some 45, some (44, true), .p (.fa 132 1 (.t 3))⟩,
 ⟨some 46, some (44, true), .h (.load false 1 (.t 45))⟩,
 ⟨some 47, some (44, true), .p (.bin .eql (.t 46) (.k (.s (.int .i64 2))))⟩,
 ⟨some 48, none, .p (.pick (.t 44) (.t 47) (.k (.s (.bool false))))⟩,
 ⟨some 49, none, .p (.mv (.t 48))⟩,
 ⟨some 50, some (49, true), .p (.fa 130 1 (.t 3))⟩,
 ⟨some 51, some (49, true), .h (.load false 1 (.t 50))⟩,
 ⟨some 52, some (49, true), .p (.bin .eql (.t 51) (.k (.s (.int .i64 (-1)))))⟩,
 ⟨some 53, none, .p (.pick (.t 49) (.t 52) (.k (.s (.bool false))))⟩,
 ⟨some 54, none, .p (.mv (.t 53))⟩,
 ⟨some 55, some (54, true), .p (.fa 0 128 (.t 3))⟩,
 ⟨some 56, some (54, true), .p (.ixa 64 2 (.t 55) (.k (.s (.int .i64 45))))⟩,
 ⟨some 57, some (54, true), .p (.fa 0 1 (.t 56))⟩,
 ⟨some 58, some (54, true), .h (.load false 1 (.t 57))⟩,
 ⟨some 59, some (54, true), .p (.bin .eql (.t 58) (.k (.s (.int .i64 2))))⟩,
 ⟨some 60, none, .p (.pick (.t 54) (.t 59) (.k (.s (.bool false))))⟩,
 ⟨some 0, none, .p (.mv (.t 60))⟩])
 .ret))))⟩
theorem c61 : compF Try.prog Try.f61 = some a61 := by kernel_rfl
/-- zugzwang/play.Moves -/
def a62 : AF := ⟨29, [.cell 4 true 133, .tmp 5],
 (.seq (.ops [⟨some 2, none, .h (.box (.t 0))⟩,
 ⟨some 4, none, .h (.alloc (.ints 133))⟩,
 ⟨some 5, none, .p (.mv (.k (.s (.int .i64 0))))⟩])
 (.seq (.seq (.ops [⟨some 10, none, .p (.mv (.t 1))⟩,
 ⟨some 11, none, .p (.len (.t 10))⟩,
 ⟨some 12, none, .p (.mv (.k (.s (.int .i64 0))))⟩])
 (.block 0 (.loop (.seq (.ops [⟨some 13, none, .p (.bin .lss (.t 12) (.t 11))⟩])
 (.seq (.cond (.t 13)
 .skip
 (.exit 0))
 (.seq (.block 1 (.seq (.ops [⟨some 14, none, .p (.ixs 3 (.t 10) (.t 12))⟩,
 ⟨some 15, none, .h (.load true 3 (.t 14))⟩,
 ⟨some 7, none, .h (.alloc (.ints 3))⟩,
 ⟨none, none, .h (.store 3 (.t 7) (.t 15))⟩])
 (.seq (.ops [⟨some 17, none, .h (.load true 133 (.t 2))⟩,
 ⟨some 18, none, .h (.load true 3 (.t 7))⟩,
 ⟨some 19, none, .h (.call (.k (.fn 64 [])) [(.t 17), (.t 18)])⟩,
 ⟨some 16, none, .p (.mv (.t 19))⟩,
 ⟨some 20, none, .p (.ext (.t 16) 0)⟩,
 ⟨some 21, none, .p (.ext (.t 16) 1)⟩,
 ⟨some 8, none, .h (.alloc (.ints 133))⟩,
 ⟨none, none, .h (.store 133 (.t 8) (.t 20))⟩,
 ⟨some 9, none, .p (.mv (.t 21))⟩])
 (.seq (.seq (.ops [⟨some 22, none, .p (.mv (.t 9))⟩,
 ⟨some 23, none, .p (.bin .neq (.t 22) (.k (.s (.int .i64 0))))⟩])
 (.cond (.t 23)
 (.seq (.ops [⟨some 24, none, .p (.build (.ints 133) [])⟩,
 ⟨some 25, none, .p (.mv (.t 9))⟩,
 ⟨none, none, .h (.store 133 (.t 4) (.t 24))⟩,
 ⟨some 5, none, .p (.mv (.t 25))⟩])
 .ret)
 .skip))
 (.ops [⟨some 26, none, .h (.load true 133 (.t 8))⟩,
 ⟨none, none, .h (.store 133 (.t 2) (.t 26))⟩])))))
 (.ops [⟨some 27, none, .p (.bin .add (.t 12) (.k (.s (.int .i64 1))))⟩,
 ⟨some 12, none, .p (.mv (.t 27))⟩])))))))
 (.seq (.ops [⟨some 28, none, .h (.load true 133 (.t 2))⟩,
 ⟨none, none, .h (.store 133 (.t 4) (.t 28))⟩,
 ⟨some 5, none, .p (.mv (.k (.s (.int .i64 0))))⟩])
 .ret)))⟩
theorem c62 : compF Try.prog Try.f62 = some a62 := by kernel_rfl
/-- zugzwang/play.Move -/
def a64 : AF := ⟨20, [.cell 4 true 133, .tmp 5],
 (.seq (.ops [⟨some 2, none, .h (.box (.t 0))⟩,
 ⟨some 3, none, .h (.box (.t 1))⟩,
 ⟨some 4, none, .h (.alloc (.ints 133))⟩,
 ⟨some 5, none, .p (.mv (.k (.s (.int .i64 0))))⟩])
 (.seq (.ops [⟨some 9, none, .h (.load true 133 (.t 2))⟩,
 ⟨some 10, none, .h (.load true 3 (.t 3))⟩,
 ⟨some 11, none, .h (.call (.k (.fn 95 [])) [(.t 9), (.t 10)])⟩,
 ⟨some 8, none, .p (.mv (.t 11))⟩,
 ⟨some 12, none, .p (.ext (.t 8) 0)⟩,
 ⟨some 13, none, .p (.ext (.t 8) 1)⟩,
 ⟨some 6, none, .p (.mv (.t 12))⟩,
 ⟨some 7, none, .p (.mv (.t 13))⟩])
 (.seq (.seq (.ops [⟨some 14, none, .p (.mv (.t 7))⟩,
 ⟨some 15, none, .p (.bin .neq (.t 14) (.k (.s (.int .i64 0))))⟩])
 (.cond (.t 15)
 (.seq (.ops [⟨some 16, none, .p (.build (.ints 133) [])⟩,
 ⟨some 17, none, .p (.mv (.t 7))⟩,
 ⟨none, none, .h (.store 133 (.t 4) (.t 16))⟩,
 ⟨some 5, none, .p (.mv (.t 17))⟩])
 .ret)
 .skip))
 (.seq (.ops [⟨some 18, none, .p (.mv (.t 6))⟩,
 ⟨some 19, none, .h (.call (.k (.fn 96 [])) [(.t 18)])⟩,
 ⟨none, none, .h (.store 133 (.t 4) (.t 19))⟩,
 ⟨some 5, none, .p (.mv (.k (.s (.int .i64 0))))⟩])
 .ret))))⟩
theorem c64 : compF Try.prog Try.f64 = some a64 := by kernel_rfl
/-- zugzwang/play.Takes -/
def a66 : AF := ⟨17, [.tmp 4],
 (.seq (.ops [⟨some 2, none, .h (.box (.t 0))⟩,
 ⟨some 3, none, .h (.box (.t 1))⟩,
 ⟨some 4, none, .p (.mv (.k (.s (.int .i64 0))))⟩])
 (.seq (.ops [⟨some 8, none, .h (.load true 133 (.t 2))⟩,
 ⟨some 9, none, .h (.load true 3 (.t 3))⟩,
 ⟨some 10, none, .h (.call (.k (.fn 95 [])) [(.t 8), (.t 9)])⟩,
 ⟨some 7, none, .p (.mv (.t 10))⟩,
 ⟨some 11, none, .p (.ext (.t 7) 0)⟩,
 ⟨some 12, none, .p (.ext (.t 7) 1)⟩,
 ⟨some 5, none, .p (.mv (.t 11))⟩,
 ⟨some 6, none, .p (.mv (.t 12))⟩])
 (.seq (.seq (.ops [⟨some 13, none, .p (.mv (.t 6))⟩,
 ⟨some 14, none, .p (.bin .neq (.t 13) (.k (.s (.int .i64 0))))⟩])
 (.cond (.t 14)
 (.seq (.ops [⟨some 4, none, .p (.mv (.k (.s (.int .i64 (-1)))))⟩])
 .ret)
 .skip))
 (.seq (.ops [⟨some 15, none, .p (.mv (.t 5))⟩,
 ⟨some 16, none, .h (.call (.k (.fn 104 [])) [(.t 15)])⟩,
 ⟨some 4, none, .p (.mv (.t 16))⟩])
 .ret))))⟩
theorem c66 : compF Try.prog Try.f66 = some a66 := by kernel_rfl
/-- zugzwang/zugzwangref06.Empty -/
def a68 : AF := ⟨2, [.cell 0 true 133],
 (.seq (.ops [⟨some 0, none, .h (.alloc (.ints 133))⟩])
 (.seq (.ops [⟨some 1, none, .p (.build (.ints 133) [(130, 1, (.k (.s (.int .i64 (-1))))), (132, 1, (.k (.s (.int .i64 1))))])⟩,
 ⟨none, none, .h (.store 133 (.t 0) (.t 1))⟩])
 .ret))⟩
theorem c68 : compF Try.prog Try.f68 = some a68 := by kernel_rfl
/-- zugzwang/board.Empty -/
def a78 : AF := ⟨2, [.cell 0 true 133],
 (.seq (.ops [⟨some 0, none, .h (.alloc (.ints 133))⟩])
 (.seq (.ops [⟨some 1, none, .p (.build (.ints 133) [(130, 1, (.k (.s (.int .i64 (-1))))), (132, 1, (.k (.s (.int .i64 1))))])⟩,
 ⟨none, none, .h (.store 133 (.t 0) (.t 1))⟩])
 .ret))⟩
theorem c78 : compF Try.prog Try.f78 = some a78 := by kernel_rfl
/-- zugzwang/zugzwanglaw08.made -/
def a79 : AF := ⟨72, [.cell 8 true 3],
 (.seq (.ops [⟨some 4, none, .h (.box (.t 0))⟩,
 ⟨some 8, none, .h (.alloc (.ints 3))⟩])
 (.seq (.ops [⟨some 9, none, .p (.mv (.k .snil))⟩])
 (.seq (.seq (.ops [⟨some 10, none, .p (.mv (.k (.s (.int .i64 0))))⟩])
 (.block 0 (.loop (.seq (.seq (.ops [⟨some 12, none, .p (.mv (.t 10))⟩,
 ⟨some 13, none, .p (.bin .lss (.t 12) (.k (.s (.int .i64 64))))⟩])
 (.cond (.t 13)
 .skip
 (.exit 0)))
 (.seq (.block 1 (.seq (.ops [⟨some 16, none, .p (.mv (.t 10))⟩,
 ⟨some 17, none, .p (.fa 0 128 (.t 4))⟩,
 ⟨some 18, none, .p (.ixa 64 2 (.t 17) (.t 16))⟩,
 ⟨some 19, none, .p (.fa 0 1 (.t 18))⟩,
 ⟨some 20, none, .h (.load false 1 (.t 19))⟩,
 ⟨some 21, none, .p (.bin .neq (.t 20) (.k (.s (.int .i64 0))))⟩,
 ⟨some 22, none, .p (.mv (.t 21))⟩,
 ⟨some 23, some (22, true), .p (.mv (.t 10))⟩,
 ⟨some 24, some (22, true), .p (.fa 0 128 (.t 4))⟩,
 ⟨some 25, some (22, true), .p (.ixa 64 2 (.t 24) (.t 23))⟩,
 ⟨some 26, some (22, true), .p (.fa 1 1 (.t 25))⟩,
 ⟨some 27, some (22, true), .h (.load false 1 (.t 26))⟩,
 ⟨some 28, some (22, true), .p (.fa 128 1 (.t 4))⟩,
 ⟨some 29, some (22, true), .h (.load false 1 (.t 28))⟩,
 ⟨some 30, some (22, true), .p (.bin .eql (.t 27) (.t 29))⟩,
 ⟨some 31, none, .p (.pick (.t 22) (.t 30) (.k (.s (.bool false))))⟩])
 (.cond (.t 31)
 (.ops [⟨some 32, none, .p (.mv (.t 9))⟩,
 ⟨some 33, none, .p (.mv (.t 10))⟩,
 ⟨some 34, none, .h (.mksl 1 1 (.one (.s (.int .i64 0))) [(0, (.t 33))])⟩,
 ⟨some 35, none, .h (.append 1 8 (.t 32) (.t 34))⟩,
 ⟨some 9, none, .p (.mv (.t 35))⟩])
 .skip)))
 (.ops [⟨some 14, none, .p (.mv (.t 10))⟩,
 ⟨some 15, none, .p (.bin .add (.t 14) (.k (.s (.int .i64 1))))⟩,
 ⟨some 10, none, .p (.mv (.t 15))⟩]))))))
 (.seq (.seq (.ops [⟨some 36, none, .p (.mv (.t 9))⟩,
 ⟨some 37, none, .p (.len (.t 36))⟩,
 ⟨some 38, none, .p (.bin .eql (.t 37) (.k (.s (.int .i64 0))))⟩])
 (.cond (.t 38)
 (.seq (.ops [⟨some 39, none, .p (.build (.ints 3) [])⟩,
 ⟨none, none, .h (.store 3 (.t 8) (.t 39))⟩])
 .ret)
 .skip))
 (.seq (.ops [⟨some 40, none, .p (.mv (.t 9))⟩,
 ⟨some 41, none, .p (.mv (.t 1))⟩,
 ⟨some 42, none, .p (.mv (.t 9))⟩,
 ⟨some 43, none, .p (.len (.t 42))⟩,
 ⟨some 44, none, .h (.callq (.k (.fn 30 [])) [(.t 41), (.t 43)])⟩,
 ⟨some 45, none, .p (.ixs 1 (.t 40) (.t 44))⟩,
 ⟨some 46, none, .h (.load false 1 (.t 45))⟩,
 ⟨some 47, none, .p (.mv (.t 2))⟩,
 ⟨some 48, none, .h (.callq (.k (.fn 30 [])) [(.t 47), (.k (.s (.int .i64 64)))])⟩,
 ⟨some 49, none, .p (.build (.ints 3) [(0, 1, (.t 46)), (1, 1, (.t 48))])⟩,
 ⟨some 11, none, .h (.alloc (.ints 3))⟩,
 ⟨none, none, .h (.store 3 (.t 11) (.t 49))⟩])
 (.seq (.seq (.ops [⟨some 50, none, .p (.fa 0 1 (.t 11))⟩,
 ⟨some 51, none, .h (.load false 1 (.t 50))⟩,
 ⟨some 52, none, .p (.fa 0 128 (.t 4))⟩,
 ⟨some 53, none, .p (.ixa 64 2 (.t 52) (.t 51))⟩,
 ⟨some 54, none, .p (.fa 0 1 (.t 53))⟩,
 ⟨some 55, none, .h (.load false 1 (.t 54))⟩,
 ⟨some 56, none, .p (.bin .eql (.t 55) (.k (.s (.int .i64 1))))⟩,
 ⟨some 57, none, .p (.mv (.t 56))⟩,
 ⟨some 58, some (57, true), .p (.fa 1 1 (.t 11))⟩,
 ⟨some 59, some (57, true), .h (.load false 1 (.t 58))⟩,
 ⟨some 60, some (57, true), .p (.bin .geq (.t 59) (.k (.s (.int .i64 56))))⟩,
 ⟨some 61, some (57, true), .p (.mv (.t 60))⟩,
 ⟨some 62, some (61, false), .p (.fa 1 1 (.t 11))⟩,
 ⟨some 63, some (61, false), .h (.load false 1 (.t 62))⟩,
 ⟨some 64, some (61, false), .p (.bin .lss (.t 63) (.k (.s (.int .i64 8))))⟩,
 ⟨some 65, some (57, true), .p (.pick (.t 61) (.k (.s (.bool true))) (.t 64))⟩,
 ⟨some 66, none, .p (.pick (.t 57) (.t 65) (.k (.s (.bool false))))⟩])
 (.cond (.t 66)
 (.ops [⟨some 67, none, .p (.mv (.t 3))⟩,
 ⟨some 68, none, .h (.call (.k (.fn 30 [])) [(.t 67), (.k (.s (.int .i64 4)))])⟩,
 ⟨some 69, none, .p (.bin .add (.k (.s (.int .i64 2))) (.t 68))⟩,
 ⟨some 70, none, .p (.fa 2 1 (.t 11))⟩,
 ⟨none, none, .h (.store 1 (.t 70) (.t 69))⟩])
 .skip))
 (.seq (.ops [⟨some 71, none, .h (.load true 3 (.t 11))⟩,
 ⟨none, none, .h (.store 3 (.t 8) (.t 71))⟩])
 .ret)))))))⟩
theorem c79 : compF Try.prog Try.f79 = some a79 := by kernel_rfl
/-- zugzwang/square.of -/
def a82 : AF := ⟨17, [.cell 2 true 3],
 (.seq (.ops [⟨some 2, none, .h (.alloc (.scl [(.int .i64 0), (.int .i64 0), (.bool false)]))⟩])
 (.seq (.seq (.ops [⟨some 3, none, .p (.mv (.t 0))⟩,
 ⟨some 4, none, .p (.bin .lss (.t 3) (.k (.s (.int .i64 0))))⟩,
 ⟨some 5, none, .p (.mv (.t 4))⟩,
 ⟨some 6, some (5, false), .p (.mv (.t 0))⟩,
 ⟨some 7, some (5, false), .p (.bin .geq (.t 6) (.k (.s (.int .i64 64))))⟩,
 ⟨some 8, none, .p (.pick (.t 5) (.k (.s (.bool true))) (.t 7))⟩])
 (.cond (.t 8)
 (.seq (.ops [⟨some 9, none, .p (.build (.ints 2) [(0, 1, (.k (.s (.int .i64 (-1))))), (1, 1, (.k (.s (.int .i64 (-1)))))])⟩,
 ⟨some 10, none, .p (.build (.scl [(.int .i64 0), (.int .i64 0), (.bool false)]) [(0, 2, (.t 9))])⟩,
 ⟨none, none, .h (.store 3 (.t 2) (.t 10))⟩])
 .ret)
 .skip))
 (.seq (.ops [⟨some 11, none, .p (.mv (.t 0))⟩,
 ⟨some 12, none, .p (.bin .rem (.t 11) (.k (.s (.int .i64 8))))⟩,
 ⟨some 13, none, .p (.mv (.t 0))⟩,
 ⟨some 14, none, .p (.bin .quo (.t 13) (.k (.s (.int .i64 8))))⟩,
 ⟨some 15, none, .p (.build (.ints 2) [(0, 1, (.t 12)), (1, 1, (.t 14))])⟩,
 ⟨some 16, none, .p (.build (.scl [(.int .i64 0), (.int .i64 0), (.bool false)]) [(0, 2, (.t 15)), (2, 1, (.k (.s (.bool true))))])⟩,
 ⟨none, none, .h (.store 3 (.t 2) (.t 16))⟩])
 .ret)))⟩
theorem c82 : compF Try.prog Try.f82 = some a82 := by kernel_rfl
/-- (zugzwang/square.place).on -/
def a83 : AF := ⟨34, [.cell 6 true 2],
 (.seq (.ops [⟨some 3, none, .h (.box (.t 0))⟩,
 ⟨some 6, none, .h (.alloc (.ints 2))⟩])
 (.seq (.seq (.ops [⟨some 7, none, .p (.fa 2 1 (.t 3))⟩,
 ⟨some 8, none, .h (.load false 1 (.t 7))⟩,
 ⟨some 9, none, .p (.un .not (.t 8))⟩,
 ⟨some 10, none, .p (.mv (.t 9))⟩,
 ⟨some 11, some (10, false), .p (.mv (.t 1))⟩,
 ⟨some 12, some (10, false), .p (.mv (.t 2))⟩,
 ⟨some 13, some (10, false), .p (.mx [(.t 11), (.t 12)])⟩,
 ⟨some 14, some (10, false), .p (.bin .geq (.t 13) (.k (.s (.int .i64 8))))⟩,
 ⟨some 15, none, .p (.pick (.t 10) (.k (.s (.bool true))) (.t 14))⟩,
 ⟨some 16, none, .p (.mv (.t 15))⟩,
 ⟨some 17, some (16, false), .p (.mv (.t 1))⟩,
 ⟨some 18, some (16, false), .p (.mv (.t 2))⟩,
 ⟨some 19, some (16, false), .p (.mn [(.t 17), (.t 18)])⟩,
 ⟨some 20, some (16, false), .p (.bin .leq (.t 19) (.k (.s (.int .i64 (-8)))))⟩,
 ⟨some 21, none, .p (.pick (.t 16) (.k (.s (.bool true))) (.t 20))⟩])
 (.cond (.t 21)
 (.seq (.ops [⟨some 22, none, .p (.build (.ints 2) [(0, 1, (.k (.s (.int .i64 (-1))))), (1, 1, (.k (.s (.int .i64 (-1)))))])⟩,
 ⟨none, none, .h (.store 2 (.t 6) (.t 22))⟩])
 .ret)
 .skip))
 (.seq (.ops [⟨some 23, none, .p (.fa 0 2 (.t 3))⟩,
 ⟨some 24, none, .p (.fa 0 1 (.t 23))⟩,
 ⟨some 25, none, .h (.load false 1 (.t 24))⟩,
 ⟨some 26, none, .p (.mv (.t 1))⟩,
 ⟨some 27, none, .p (.bin .add (.t 25) (.t 26))⟩,
 ⟨some 28, none, .p (.fa 0 2 (.t 3))⟩,
 ⟨some 29, none, .p (.fa 1 1 (.t 28))⟩,
 ⟨some 30, none, .h (.load false 1 (.t 29))⟩,
 ⟨some 31, none, .p (.mv (.t 2))⟩,
 ⟨some 32, none, .p (.bin .add (.t 30) (.t 31))⟩,
 ⟨some 33, none, .p (.build (.ints 2) [(0, 1, (.t 27)), (1, 1, (.t 32))])⟩,
 ⟨none, none, .h (.store 2 (.t 6) (.t 33))⟩])
 .ret)))⟩
theorem c83 : compF Try.prog Try.f83 = some a83 := by kernel_rfl
/-- (zugzwang/square.pair).number -/
def a84 : AF := ⟨12, [.tmp 2],
 (.seq (.ops [⟨some 1, none, .h (.box (.t 0))⟩,
 ⟨some 2, none, .p (.mv (.k (.s (.int .i64 0))))⟩])
 (.seq (.seq (.ops [⟨some 3, none, .h (.load true 2 (.t 1))⟩,
 ⟨some 4, none, .h (.call (.k (.fn 86 [])) [(.t 3)])⟩,
 ⟨some 5, none, .p (.un .not (.t 4))⟩])
 (.cond (.t 5)
 (.seq (.ops [⟨some 2, none, .p (.mv (.k (.s (.int .i64 (-1)))))⟩])
 .ret)
 .skip))
 (.seq (.ops [⟨some 6, none, .p (.fa 1 1 (.t 1))⟩,
 ⟨some 7, none, .h (.load false 1 (.t 6))⟩,
 ⟨some 8, none, .p (.bin .mul (.t 7) (.k (.s (.int .i64 8))))⟩,
 ⟨some 9, none, .p (.fa 0 1 (.t 1))⟩,
 ⟨some 10, none, .h (.load false 1 (.t 9))⟩,
 ⟨some 11, none, .p (.bin .add (.t 8) (.t 10))⟩,
 ⟨some 2, none, .p (.mv (.t 11))⟩])
 .ret)))⟩
theorem c84 : compF Try.prog Try.f84 = some a84 := by kernel_rfl
/-- (zugzwang/square.pair).within -/
def a86 : AF := ⟨13, [.tmp 2],
 (.seq (.ops [⟨some 1, none, .h (.box (.t 0))⟩,
 ⟨some 2, none, .p (.mv (.k (.s (.bool false))))⟩])
 (.seq (.ops [⟨some 3, none, .p (.fa 0 1 (.t 1))⟩,
 ⟨some 4, none, .h (.load false 1 (.t 3))⟩,
 ⟨some 5, none, .p (.conv .u64 (.t 4))⟩,
 ⟨some 6, none, .p (.bin .lss (.t 5) (.k (.s (.int .u64 8))))⟩,
 ⟨some 7, none, .p (.mv (.t 6))⟩,
 ⟨some 8, some (7, true), .p (.fa 1 1 (.t 1))⟩,
 ⟨some 9, some (7, true), .h (.load false 1 (.t 8))⟩,
 ⟨some 10, some (7, true), .p (.conv .u64 (.t 9))⟩,
 ⟨some 11, some (7, true), .p (.bin .lss (.t 10) (.k (.s (.int .u64 8))))⟩,
 ⟨some 12, none, .p (.pick (.t 7) (.t 11) (.k (.s (.bool false))))⟩,
 ⟨some 2, none, .p (.mv (.t 12))⟩])
 .ret))⟩
theorem c86 : compF Try.prog Try.f86 = some a86 := by kernel_rfl
/-- zugzwang/board.may -/
def a88 : AF := ⟨21, [.tmp 2],
 (.seq (.ops [⟨some 1, none, .h (.box (.t 0))⟩,
 ⟨some 2, none, .p (.mv (.k (.s (.bool false))))⟩])
 (.seq (.ops [⟨some 3, none, .p (.fa 0 1 (.t 1))⟩,
 ⟨some 4, none, .h (.load false 1 (.t 3))⟩,
 ⟨some 5, none, .p (.bin .geq (.t 4) (.k (.s (.int .i64 1))))⟩,
 ⟨some 6, none, .p (.mv (.t 5))⟩,
 ⟨some 7, some (6, true), .p (.fa 0 1 (.t 1))⟩,
 ⟨some 8, some (6, true), .h (.load false 1 (.t 7))⟩,
 ⟨some 9, some (6, true), .p (.bin .leq (.t 8) (.k (.s (.int .i64 6))))⟩,
 ⟨some 10, none, .p (.pick (.t 6) (.t 9) (.k (.s (.bool false))))⟩,
 ⟨some 11, none, .p (.mv (.t 10))⟩,
 ⟨some 12, some (11, true), .p (.fa 1 1 (.t 1))⟩,
 ⟨some 13, some (11, true), .h (.load false 1 (.t 12))⟩,
 ⟨some 14, some (11, true), .p (.bin .eql (.t 13) (.k (.s (.int .i64 0))))⟩,
 ⟨some 15, some (11, true), .p (.mv (.t 14))⟩,
 ⟨some 16, some (15, false), .p (.fa 1 1 (.t 1))⟩,
 ⟨some 17, some (15, false), .h (.load false 1 (.t 16))⟩,
 ⟨some 18, some (15, false), .p (.bin .eql (.t 17) (.k (.s (.int .i64 1))))⟩,
 ⟨some 19, some (11, true), .p (.pick (.t 15) (.k (.s (.bool true))) (.t 18))⟩,
 ⟨some 20, none, .p (.pick (.t 11) (.t 19) (.k (.s (.bool false))))⟩,
 ⟨some 2, none, .p (.mv (.t 20))⟩])
 .ret))⟩
theorem c88 : compF Try.prog Try.f88 = some a88 := by kernel_rfl
/-- (zugzwang/board.checker).pieces -/
def a89 : AF := ⟨61, [.tmp 2],
 (.seq (.ops [⟨some 1, none, .h (.box (.t 0))⟩,
 ⟨some 2, none, .p (.mv (.k (.s (.bool false))))⟩])
 (.seq (.ops [⟨some 3, none, .h (.alloc (.ints 2))⟩])
 (.seq (.seq (.ops [⟨some 7, none, .p (.fa 0 133 (.t 1))⟩,
 ⟨some 8, none, .p (.fa 0 128 (.t 7))⟩,
 ⟨some 9, none, .h (.load true 128 (.t 8))⟩,
 ⟨some 10, none, .p (.mv (.k (.s (.int .i64 0))))⟩])
 (.block 0 (.loop (.seq (.ops [⟨some 11, none, .p (.bin .lss (.t 10) (.k (.s (.int .i64 64))))⟩])
 (.seq (.cond (.t 11)
 .skip
 (.exit 0))
 (.seq (.block 1 (.seq (.ops [⟨some 12, none, .p (.mv (.t 10))⟩,
 ⟨some 13, none, .p (.ix 64 2 true (.t 9) (.t 10))⟩,
 ⟨some 5, none, .h (.alloc (.ints 2))⟩,
 ⟨some 4, none, .p (.mv (.t 12))⟩,
 ⟨none, none, .h (.store 2 (.t 5) (.t 13))⟩])
 (.seq (.seq (.ops [⟨some 14, none, .h (.load true 2 (.t 5))⟩,
 ⟨some 15, none, .p (.build (.ints 2) [])⟩,
 ⟨some 16, none, .p (.eqa false 2 (.t 14) (.t 15))⟩])
 (.cond (.t 16)
 (.exit 1)
 .skip))
 (.seq (.ops [⟨some 17, none, .p (.mv (.t 4))⟩,
 ⟨some 18, none, .h (.call (.k (.fn 38 [])) [(.t 17)])⟩,
 ⟨some 19, none, .p (.bin .eql (.t 18) (.k (.s (.int .i64 0))))⟩,
 ⟨some 20, none, .p (.mv (.t 19))⟩,
 ⟨some 21, some (20, false), .p (.mv (.t 4))⟩,
 ⟨some 22, some (20, false), .h (.call (.k (.fn 38 [])) [(.t 21)])⟩,
 ⟨some 23, some (20, false), .p (.bin .eql (.t 22) (.k (.s (.int .i64 7))))⟩,
 ⟨some 24, none, .p (.pick (.t 20) (.k (.s (.bool true))) (.t 23))⟩,
 ⟨some 6, none, .p (.mv (.t 24))⟩])
 (.seq (.seq (.ops [⟨some 25, none, .h (.load true 2 (.t 5))⟩,
 ⟨some 26, none, .h (.call (.k (.fn 88 [])) [(.t 25)])⟩,
 ⟨some 27, none, .p (.un .not (.t 26))⟩,
 ⟨some 28, none, .p (.mv (.t 27))⟩,
 ⟨some 29, some (28, false), .p (.mv (.t 6))⟩,
 ⟨some 30, some (28, false), .p (.mv (.t 29))⟩,
 ⟨some 31, some (30, true), .p (.fa 0 1 (.t 5))⟩,
 ⟨some 32, some (30, true), .h (.load false 1 (.t 31))⟩,
 ⟨some 33, some (30, true), .p (.bin .eql (.t 32) (.k (.s (.int .i64 1))))⟩,
 ⟨some 34, some (28, false), .p (.pick (.t 30) (.t 33) (.k (.s (.bool false))))⟩,
 ⟨some 35, none, .p (.pick (.t 28) (.k (.s (.bool true))) (.t 34))⟩])
 (.cond (.t 35)
 (.seq (.ops [⟨some 2, none, .p (.mv (.k (.s (.bool false))))⟩])
 .ret)
 .skip))
 (.seq (.ops [⟨some 36, none, .p (.fa 0 1 (.t 5))⟩,
 ⟨some 37, none, .h (.load false 1 (.t 36))⟩,
 ⟨some 38, none, .p (.bin .eql (.t 37) (.k (.s (.int .i64 6))))⟩])
 (.cond (.t 38)
 (.ops [⟨some 39, none, .p (.fa 1 1 (.t 5))⟩,
 ⟨some 40, none, .h (.load false 1 (.t 39))⟩,
 ⟨some 41, none, .p (.ixa 2 1 (.t 3) (.t 40))⟩,
 ⟨some 42, none, .h (.load false 1 (.t 41))⟩,
 ⟨some 43, none, .p (.bin .add (.t 42) (.k (.s (.int .i64 1))))⟩,
 ⟨some 44, none, .p (.ixa 2 1 (.t 3) (.t 40))⟩,
 ⟨none, none, .h (.store 1 (.t 44) (.t 43))⟩])
 .skip)))))))
 (.ops [⟨some 45, none, .p (.bin .add (.t 10) (.k (.s (.int .i64 1))))⟩,
 ⟨some 10, none, .p (.mv (.t 45))⟩])))))))
 (.seq (.ops [⟨some 46, none, .h (.load true 2 (.t 3))⟩,
 ⟨some 47, none, .p (.build (.ints 2) [(0, 1, (.k (.s (.int .i64 1)))), (1, 1, (.k (.s (.int .i64 1))))])⟩,
 ⟨some 48, none, .p (.eqa false 2 (.t 46) (.t 47))⟩,
 ⟨some 49, none, .p (.mv (.t 48))⟩,
 ⟨some 50, some (49, true), .p (.fa 0 133 (.t 1))⟩,
 ⟨some 51, some (49, true), .p (.fa 128 1 (.t 50))⟩,
 ⟨some 52, some (49, true), .h (.load false 1 (.t 51))⟩,
 ⟨some 53, some (49, true), .p (.bin .eql (.t 52) (.k (.s (.int .i64 0))))⟩,
 ⟨some 54, some (49, true), .p (.mv (.t 53))⟩,
 ⟨some 55, some (54, false), .p (.fa 0 133 (.t 1))⟩,
 ⟨some 56, some (54, false), .p (.fa 128 1 (.t 55))⟩,
 ⟨some 57, some (54, false), .h (.load false 1 (.t 56))⟩,
 ⟨some 58, some (54, false), .p (.bin .eql (.t 57) (.k (.s (.int .i64 1))))⟩,
 ⟨some 59, some (49, true), .p (.pick (.t 54) (.k (.s (.bool true))) (.t 58))⟩,
 ⟨some 60, none, .p (.pick (.t 49) (.t 59) (.k (.s (.bool false))))⟩,
 ⟨some 2, none, .p (.mv (.t 60))⟩])
 .ret))))⟩
theorem c89 : compF Try.prog Try.f89 = some a89 := by kernel_rfl
/-- (zugzwang/board.checker).castles -/
def a90 : AF := ⟨46, [.tmp 2],
 (.seq (.ops [⟨some 1, none, .h (.box (.t 0))⟩,
 ⟨some 2, none, .p (.mv (.k (.s (.bool false))))⟩])
 (.seq (.seq (.ops [⟨some 6, none, .p (.fa 0 133 (.t 1))⟩,
 ⟨some 7, none, .p (.fa 129 1 (.t 6))⟩,
 ⟨some 8, none, .h (.load false 1 (.t 7))⟩,
 ⟨some 9, none, .p (.bin .lss (.t 8) (.k (.s (.int .i64 0))))⟩,
 ⟨some 10, none, .p (.mv (.t 9))⟩,
 ⟨some 11, some (10, false), .p (.fa 0 133 (.t 1))⟩,
 ⟨some 12, some (10, false), .p (.fa 129 1 (.t 11))⟩,
 ⟨some 13, some (10, false), .h (.load false 1 (.t 12))⟩,
 ⟨some 14, some (10, false), .p (.bin .gtr (.t 13) (.k (.s (.int .i64 15))))⟩,
 ⟨some 15, none, .p (.pick (.t 10) (.k (.s (.bool true))) (.t 14))⟩])
 (.cond (.t 15)
 (.seq (.ops [⟨some 2, none, .p (.mv (.k (.s (.bool false))))⟩])
 .ret)
 .skip))
 (.seq (.seq (.ops [⟨some 16, none, .p (.build (.ints 4) [(0, 1, (.k (.s (.int .i64 7)))), (1, 1, (.k (.s (.int .i64 0)))), (2, 1, (.k (.s (.int .i64 63)))), (3, 1, (.k (.s (.int .i64 56))))])⟩,
 ⟨some 17, none, .p (.mv (.k (.s (.int .i64 0))))⟩])
 (.block 0 (.loop (.seq (.ops [⟨some 18, none, .p (.bin .lss (.t 17) (.k (.s (.int .i64 4))))⟩])
 (.seq (.cond (.t 18)
 .skip
 (.exit 0))
 (.seq (.block 1 (.seq (.ops [⟨some 19, none, .p (.mv (.t 17))⟩,
 ⟨some 20, none, .p (.ix 4 1 false (.t 16) (.t 17))⟩,
 ⟨some 3, none, .p (.mv (.t 19))⟩,
 ⟨some 4, none, .p (.mv (.t 20))⟩])
 (.seq (.seq (.ops [⟨some 21, none, .p (.fa 0 133 (.t 1))⟩,
 ⟨some 22, none, .p (.fa 129 1 (.t 21))⟩,
 ⟨some 23, none, .h (.load false 1 (.t 22))⟩,
 ⟨some 24, none, .p (.mv (.t 3))⟩,
 ⟨some 25, none, .p (.bin .shr (.t 23) (.t 24))⟩,
 ⟨some 26, none, .p (.bin .and (.t 25) (.k (.s (.int .i64 1))))⟩,
 ⟨some 27, none, .p (.bin .eql (.t 26) (.k (.s (.int .i64 0))))⟩])
 (.cond (.t 27)
 (.exit 1)
 .skip))
 (.seq (.ops [⟨some 28, none, .p (.mv (.t 3))⟩,
 ⟨some 29, none, .p (.bin .quo (.t 28) (.k (.s (.int .i64 2))))⟩,
 ⟨some 5, none, .p (.mv (.t 29))⟩])
 (.seq (.ops [⟨some 30, none, .h (.load true 133 (.t 1))⟩,
 ⟨some 31, none, .p (.mv (.t 5))⟩,
 ⟨some 32, none, .p (.mv (.t 4))⟩,
 ⟨some 33, none, .h (.call (.k (.fn 112 [])) [(.t 30), (.k (.s (.int .i64 4))), (.t 31), (.t 32)])⟩,
 ⟨some 34, none, .p (.un .not (.t 33))⟩,
 ⟨some 35, none, .p (.mv (.t 34))⟩,
 ⟨some 36, some (35, false), .h (.load true 133 (.t 1))⟩,
 ⟨some 37, some (35, false), .p (.mv (.t 5))⟩,
 ⟨some 38, some (35, false), .p (.mv (.t 4))⟩,
 ⟨some 39, some (35, false), .p (.bin .quo (.t 38) (.k (.s (.int .i64 8))))⟩,
 ⟨some 40, some (35, false), .p (.bin .mul (.t 39) (.k (.s (.int .i64 8))))⟩,
 ⟨some 41, some (35, false), .p (.bin .add (.t 40) (.k (.s (.int .i64 4))))⟩,
 ⟨some 42, some (35, false), .h (.call (.k (.fn 112 [])) [(.t 36), (.k (.s (.int .i64 6))), (.t 37), (.t 41)])⟩,
 ⟨some 43, some (35, false), .p (.un .not (.t 42))⟩,
 ⟨some 44, none, .p (.pick (.t 35) (.k (.s (.bool true))) (.t 43))⟩])
 (.cond (.t 44)
 (.seq (.ops [⟨some 2, none, .p (.mv (.k (.s (.bool false))))⟩])
 .ret)
 .skip))))))
 (.ops [⟨some 45, none, .p (.bin .add (.t 17) (.k (.s (.int .i64 1))))⟩,
 ⟨some 17, none, .p (.mv (.t 45))⟩])))))))
 (.seq (.ops [⟨some 2, none, .p (.mv (.k (.s (.bool true))))⟩])
 .ret))))⟩
theorem c90 : compF Try.prog Try.f90 = some a90 := by kernel_rfl
/-- (zugzwang/board.checker).over -/
def a91 : AF := ⟨55, [.tmp 2],
 (.seq (.ops [⟨some 1, none, .h (.box (.t 0))⟩,
 ⟨some 2, none, .p (.mv (.k (.s (.bool false))))⟩])
 (.seq (.seq (.ops [⟨some 6, none, .p (.fa 0 133 (.t 1))⟩,
 ⟨some 7, none, .p (.fa 130 1 (.t 6))⟩,
 ⟨some 8, none, .h (.load false 1 (.t 7))⟩,
 ⟨some 9, none, .p (.bin .eql (.t 8) (.k (.s (.int .i64 (-1)))))⟩])
 (.cond (.t 9)
 (.seq (.ops [⟨some 2, none, .p (.mv (.k (.s (.bool true))))⟩])
 .ret)
 .skip))
 (.seq (.ops [⟨some 3, none, .p (.mv (.k (.s (.int .i64 5))))⟩,
 ⟨some 4, none, .p (.mv (.k (.s (.int .i64 1))))⟩])
 (.seq (.seq (.ops [⟨some 10, none, .p (.fa 0 133 (.t 1))⟩,
 ⟨some 11, none, .p (.fa 128 1 (.t 10))⟩,
 ⟨some 12, none, .h (.load false 1 (.t 11))⟩,
 ⟨some 13, none, .p (.bin .eql (.t 12) (.k (.s (.int .i64 1))))⟩])
 (.cond (.t 13)
 (.ops [⟨some 3, none, .p (.mv (.k (.s (.int .i64 2))))⟩,
 ⟨some 4, none, .p (.mv (.k (.s (.int .i64 (-1)))))⟩])
 .skip))
 (.seq (.seq (.ops [⟨some 14, none, .p (.fa 0 133 (.t 1))⟩,
 ⟨some 15, none, .p (.fa 130 1 (.t 14))⟩,
 ⟨some 16, none, .h (.load false 1 (.t 15))⟩,
 ⟨some 17, none, .h (.call (.k (.fn 38 [])) [(.t 16)])⟩,
 ⟨some 18, none, .p (.mv (.t 3))⟩,
 ⟨some 19, none, .p (.bin .neq (.t 17) (.t 18))⟩,
 ⟨some 20, none, .p (.mv (.t 19))⟩,
 ⟨some 21, some (20, false), .p (.fa 0 133 (.t 1))⟩,
 ⟨some 22, some (20, false), .p (.fa 131 1 (.t 21))⟩,
 ⟨some 23, some (20, false), .h (.load false 1 (.t 22))⟩,
 ⟨some 24, some (20, false), .p (.bin .neq (.t 23) (.k (.s (.int .i64 0))))⟩,
 ⟨some 25, none, .p (.pick (.t 20) (.k (.s (.bool true))) (.t 24))⟩])
 (.cond (.t 25)
 (.seq (.ops [⟨some 2, none, .p (.mv (.k (.s (.bool false))))⟩])
 .ret)
 .skip))
 (.seq (.ops [⟨some 26, none, .p (.mkfn 113 [(.t 1)])⟩,
 ⟨some 5, none, .p (.mv (.t 26))⟩])
 (.seq (.ops [⟨some 27, none, .p (.mv (.t 5))⟩,
 ⟨some 28, none, .p (.fa 0 133 (.t 1))⟩,
 ⟨some 29, none, .p (.fa 130 1 (.t 28))⟩,
 ⟨some 30, none, .h (.load false 1 (.t 29))⟩,
 ⟨some 31, none, .h (.call (.t 27) [(.t 30)])⟩,
 ⟨some 32, none, .p (.mv (.t 31))⟩,
 ⟨some 33, some (32, true), .p (.mv (.t 5))⟩,
 ⟨some 34, some (32, true), .p (.fa 0 133 (.t 1))⟩,
 ⟨some 35, some (32, true), .p (.fa 130 1 (.t 34))⟩,
 ⟨some 36, some (32, true), .h (.load false 1 (.t 35))⟩,
 ⟨some 37, some (32, true), .p (.mv (.t 4))⟩,
 ⟨some 38, some (32, true), .h (.call (.k (.fn 33 [])) [(.t 36), (.k (.s (.int .i64 0))), (.t 37)])⟩,
 ⟨some 39, some (32, true), .h (.call (.t 33) [(.t 38)])⟩,
 ⟨some 40, none, .p (.pick (.t 32) (.t 39) (.k (.s (.bool false))))⟩,
 ⟨some 41, none, .p (.mv (.t 40))⟩,
 ⟨some 42, some (41, true), .h (.load true 133 (.t 1))⟩,
 ⟨some 43, some (41, true), .p (.fa 0 133 (.t 1))⟩,
 ⟨some 44, some (41, true), .p (.fa 128 1 (.t 43))⟩,
 ⟨some 45, some (41, true), .h (.load false 1 (.t 44))⟩,
 ⟨some 46, some (41, true), .h (.callq (.k (.fn 57 [])) [(.t 45)])⟩,
 ⟨some 47, some (41, true), .p (.fa 0 133 (.t 1))⟩,
 ⟨some 48, some (41, true), .p (.fa 130 1 (.t 47))⟩,
 ⟨some 49, some (41, true), .h (.load false 1 (.t 48))⟩,
 ⟨some 50, some (41, true), .p (.mv (.t 4))⟩,
 ⟨some 51, some (41, true), .p (.un .neg (.t 50))⟩,
 ⟨some 52, some (41, true), .h (.callq (.k (.fn 33 [])) [(.t 49), (.k (.s (.int .i64 0))), (.t 51)])⟩,
 ⟨some 53, some (41, true), .h (.call (.k (.fn 112 [])) [(.t 42), (.k (.s (.int .i64 1))), (.t 46), (.t 52)])⟩,
 ⟨some 54, none, .p (.pick (.t 41) (.t 53) (.k (.s (.bool false))))⟩,
 ⟨some 2, none, .p (.mv (.t 54))⟩])
 .ret)))))))⟩
theorem c91 : compF Try.prog Try.f91 = some a91 := by kernel_rfl
end Go.Proofs.Ytjldefmcnppdoaa
