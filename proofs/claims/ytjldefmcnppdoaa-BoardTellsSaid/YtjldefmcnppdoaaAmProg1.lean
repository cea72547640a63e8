/- The functions of this seat, as the abstract machine has them: each held against the loaded one by the kernel. -/
import Derived.Test.YtjldefmcnppdoaaProg
import Derived.Test.YtjldefmcnppdoaaAmRun
import Derived.KernelRfl
namespace Go.Proofs.Ytjldefmcnppdoaa
open Go Go.Am
set_option maxRecDepth 100000
/-- (zugzwang/dead.Left).Add -/
def a26 : AF := ⟨28, [.cell 4 true 4],
 (.seq (.ops [⟨some 2, none, .h (.box (.t 0))⟩,
 ⟨some 4, none, .h (.alloc (.ints 4))⟩])
 (.seq (.ops [⟨some 8, none, .h (.load true 4 (.t 2))⟩,
 ⟨some 9, none, .p (.build (.ints 4) [(0, 4, (.t 8))])⟩,
 ⟨some 5, none, .h (.alloc (.ints 4))⟩,
 ⟨none, none, .h (.store 4 (.t 5) (.t 9))⟩])
 (.seq (.seq (.ops [⟨some 10, none, .p (.mv (.t 1))⟩,
 ⟨some 11, none, .p (.len (.t 10))⟩,
 ⟨some 12, none, .p (.mv (.k (.s (.int .i64 0))))⟩])
 (.block 0 (.loop (.seq (.ops [⟨some 13, none, .p (.bin .lss (.t 12) (.t 11))⟩])
 (.seq (.cond (.t 13)
 .skip
 (.exit 0))
 (.seq (.block 1 (.seq (.ops [⟨some 14, none, .p (.ixs 1 (.t 10) (.t 12))⟩,
 ⟨some 15, none, .h (.load false 1 (.t 14))⟩,
 ⟨some 7, none, .p (.mv (.t 15))⟩])
 (.ops [⟨some 16, none, .p (.mv (.t 7))⟩,
 ⟨some 17, none, .p (.fa 0 4 (.t 5))⟩,
 ⟨some 18, none, .p (.fa 2 1 (.t 17))⟩,
 ⟨some 19, none, .h (.load false 1 (.t 18))⟩,
 ⟨some 20, none, .p (.fa 0 4 (.t 5))⟩,
 ⟨some 21, none, .p (.fa 3 1 (.t 20))⟩,
 ⟨some 22, none, .h (.load false 1 (.t 21))⟩,
 ⟨some 23, none, .p (.bin .leq (.t 19) (.t 22))⟩,
 ⟨some 24, none, .h (.call (.k (.fn 81 [])) [(.t 5), (.t 16), (.t 23)])⟩])))
 (.ops [⟨some 25, none, .p (.bin .add (.t 12) (.k (.s (.int .i64 1))))⟩,
 ⟨some 12, none, .p (.mv (.t 25))⟩])))))))
 (.seq (.ops [⟨some 26, none, .p (.fa 0 4 (.t 5))⟩,
 ⟨some 27, none, .h (.load true 4 (.t 26))⟩,
 ⟨none, none, .h (.store 4 (.t 4) (.t 27))⟩])
 .ret))))⟩
theorem c26 : compF Try.prog Try.f26 = some a26 := by kernel_rfl
/-- zugzwang/zugzwangref13.Add -/
def a27 : AF := ⟨45, [.cell 4 true 4],
 (.seq (.ops [⟨some 2, none, .h (.box (.t 0))⟩,
 ⟨some 4, none, .h (.alloc (.ints 4))⟩])
 (.seq (.seq (.ops [⟨some 5, none, .p (.mv (.k (.s (.int .i64 0))))⟩])
 (.block 0 (.loop (.seq (.seq (.ops [⟨some 6, none, .p (.mv (.t 5))⟩,
 ⟨some 7, none, .p (.mv (.t 1))⟩,
 ⟨some 8, none, .p (.len (.t 7))⟩,
 ⟨some 9, none, .p (.bin .lss (.t 6) (.t 8))⟩])
 (.cond (.t 9)
 .skip
 (.exit 0)))
 (.seq (.block 1 (.seq (.ops [⟨some 12, none, .p (.mv (.t 1))⟩,
 ⟨some 13, none, .p (.mv (.t 5))⟩,
 ⟨some 14, none, .p (.ixs 1 (.t 12) (.t 13))⟩,
 ⟨some 15, none, .h (.load false 1 (.t 14))⟩])
 (.block 2 (.seq (.seq (.ops [⟨some 21, none, .p (.bin .eql (.t 15) (.k (.s (.int .i64 0))))⟩,
 ⟨some 20, none, .p (.mv (.t 21))⟩])
 (.cond (.t 20)
 .skip
 (.ops [⟨some 22, none, .p (.bin .eql (.t 15) (.k (.s (.int .i64 6))))⟩,
 ⟨some 20, none, .p (.mv (.t 22))⟩])))
 (.cond (.t 20)
 .skip
 (.seq (.ops [⟨some 24, none, .p (.bin .eql (.t 15) (.k (.s (.int .i64 2))))⟩,
 ⟨some 23, none, .p (.mv (.t 24))⟩])
 (.cond (.t 23)
 (.ops [⟨some 25, none, .p (.fa 1 1 (.t 2))⟩,
 ⟨some 26, none, .h (.load false 1 (.t 25))⟩,
 ⟨some 27, none, .p (.bin .add (.t 26) (.k (.s (.int .i64 1))))⟩,
 ⟨some 28, none, .p (.fa 1 1 (.t 2))⟩,
 ⟨none, none, .h (.store 1 (.t 28) (.t 27))⟩])
 (.seq (.ops [⟨some 30, none, .p (.bin .eql (.t 15) (.k (.s (.int .i64 3))))⟩,
 ⟨some 29, none, .p (.mv (.t 30))⟩])
 (.cond (.t 29)
 (.seq (.ops [⟨some 31, none, .p (.fa 2 1 (.t 2))⟩,
 ⟨some 32, none, .h (.load false 1 (.t 31))⟩,
 ⟨some 33, none, .p (.fa 3 1 (.t 2))⟩,
 ⟨some 34, none, .h (.load false 1 (.t 33))⟩,
 ⟨some 35, none, .p (.bin .leq (.t 32) (.t 34))⟩])
 (.cond (.t 35)
 (.ops [⟨some 36, none, .p (.fa 2 1 (.t 2))⟩,
 ⟨some 37, none, .h (.load false 1 (.t 36))⟩,
 ⟨some 38, none, .p (.bin .add (.t 37) (.k (.s (.int .i64 1))))⟩,
 ⟨some 39, none, .p (.fa 2 1 (.t 2))⟩,
 ⟨none, none, .h (.store 1 (.t 39) (.t 38))⟩])
 (.ops [⟨some 40, none, .p (.fa 3 1 (.t 2))⟩,
 ⟨some 41, none, .h (.load false 1 (.t 40))⟩,
 ⟨some 42, none, .p (.bin .add (.t 41) (.k (.s (.int .i64 1))))⟩,
 ⟨some 43, none, .p (.fa 3 1 (.t 2))⟩,
 ⟨none, none, .h (.store 1 (.t 43) (.t 42))⟩])))
 (.ops [⟨some 16, none, .p (.fa 0 1 (.t 2))⟩,
 ⟨some 17, none, .h (.load false 1 (.t 16))⟩,
 ⟨some 18, none, .p (.bin .add (.t 17) (.k (.s (.int .i64 1))))⟩,
 ⟨some 19, none, .p (.fa 0 1 (.t 2))⟩,
 ⟨none, none, .h (.store 1 (.t 19) (.t 18))⟩]))))))))))
 (.ops [⟨some 10, none, .p (.mv (.t 5))⟩,
 ⟨some 11, none, .p (.bin .add (.t 10) (.k (.s (.int .i64 1))))⟩,
 ⟨some 5, none, .p (.mv (.t 11))⟩]))))))
 (.seq (.ops [⟨some 44, none, .h (.load true 4 (.t 2))⟩,
 ⟨none, none, .h (.store 4 (.t 4) (.t 44))⟩])
 .ret)))⟩
theorem c27 : compF Try.prog Try.f27 = some a27 := by kernel_rfl
/-- zugzwang/zugzwanglaw13.kings -/
def a28 : AF := ⟨34, [.cell 4 true 133],
 (.seq (.ops [⟨some 4, none, .h (.alloc (.ints 133))⟩])
 (.seq (.ops [⟨some 7, none, .h (.call (.k (.fn 68 [])) [])⟩,
 ⟨some 5, none, .h (.alloc (.ints 133))⟩,
 ⟨none, none, .h (.store 133 (.t 5) (.t 7))⟩])
 (.seq (.ops [⟨some 8, none, .p (.build (.ints 2) [(0, 1, (.k (.s (.int .i64 6))))])⟩,
 ⟨some 9, none, .p (.fa 0 128 (.t 5))⟩,
 ⟨some 10, none, .p (.ixa 64 2 (.t 9) (.k (.s (.int .i64 4))))⟩,
 ⟨none, none, .h (.store 2 (.t 10) (.t 8))⟩])
 (.seq (.ops [⟨some 11, none, .p (.build (.ints 2) [(0, 1, (.k (.s (.int .i64 6)))), (1, 1, (.k (.s (.int .i64 1))))])⟩,
 ⟨some 12, none, .p (.fa 0 128 (.t 5))⟩,
 ⟨some 13, none, .p (.ixa 64 2 (.t 12) (.k (.s (.int .i64 60))))⟩,
 ⟨none, none, .h (.store 2 (.t 13) (.t 11))⟩])
 (.seq (.seq (.ops [⟨some 6, none, .p (.mv (.k (.s (.int .i64 0))))⟩])
 (.block 0 (.loop (.seq (.seq (.ops [⟨some 14, none, .p (.mv (.t 6))⟩,
 ⟨some 15, none, .p (.mv (.t 0))⟩,
 ⟨some 16, none, .p (.len (.t 15))⟩,
 ⟨some 17, none, .p (.bin .lss (.t 14) (.t 16))⟩])
 (.cond (.t 17)
 .skip
 (.exit 0)))
 (.seq (.block 1 (.ops [⟨some 20, none, .p (.mv (.t 1))⟩,
 ⟨some 21, none, .p (.mv (.t 6))⟩,
 ⟨some 22, none, .p (.ixs 1 (.t 20) (.t 21))⟩,
 ⟨some 23, none, .h (.load false 1 (.t 22))⟩,
 ⟨some 24, none, .p (.mv (.t 0))⟩,
 ⟨some 25, none, .p (.mv (.t 6))⟩,
 ⟨some 26, none, .p (.ixs 1 (.t 24) (.t 25))⟩,
 ⟨some 27, none, .h (.load false 1 (.t 26))⟩,
 ⟨some 28, none, .p (.mv (.t 6))⟩,
 ⟨some 29, none, .p (.bin .rem (.t 28) (.k (.s (.int .i64 2))))⟩,
 ⟨some 30, none, .p (.build (.ints 2) [(0, 1, (.t 27)), (1, 1, (.t 29))])⟩,
 ⟨some 31, none, .p (.fa 0 128 (.t 5))⟩,
 ⟨some 32, none, .p (.ixa 64 2 (.t 31) (.t 23))⟩,
 ⟨none, none, .h (.store 2 (.t 32) (.t 30))⟩]))
 (.ops [⟨some 18, none, .p (.mv (.t 6))⟩,
 ⟨some 19, none, .p (.bin .add (.t 18) (.k (.s (.int .i64 1))))⟩,
 ⟨some 6, none, .p (.mv (.t 19))⟩]))))))
 (.seq (.ops [⟨some 33, none, .h (.load true 133 (.t 5))⟩,
 ⟨none, none, .h (.store 133 (.t 4) (.t 33))⟩])
 .ret))))))⟩
theorem c28 : compF Try.prog Try.f28 = some a28 := by kernel_rfl
/-- zugzwang/zugzwangref06.Start -/
def a29 : AF := ⟨39, [.cell 0 true 133],
 (.seq (.ops [⟨some 0, none, .h (.alloc (.ints 133))⟩])
 (.seq (.ops [⟨some 4, none, .h (.call (.k (.fn 68 [])) [])⟩,
 ⟨some 1, none, .h (.alloc (.ints 133))⟩,
 ⟨none, none, .h (.store 133 (.t 1) (.t 4))⟩])
 (.seq (.ops [⟨some 5, none, .h (.mksl 8 1 (.one (.s (.int .i64 0))) [(0, (.k (.s (.int .i64 4)))), (1, (.k (.s (.int .i64 2)))), (2, (.k (.s (.int .i64 3)))), (3, (.k (.s (.int .i64 5)))), (4, (.k (.s (.int .i64 6)))), (5, (.k (.s (.int .i64 3)))), (6, (.k (.s (.int .i64 2)))), (7, (.k (.s (.int .i64 4))))])⟩,
 ⟨some 2, none, .p (.mv (.t 5))⟩])
 (.seq (.seq (.ops [⟨some 3, none, .p (.mv (.k (.s (.int .i64 0))))⟩])
 (.block 0 (.loop (.seq (.seq (.ops [⟨some 6, none, .p (.mv (.t 3))⟩,
 ⟨some 7, none, .p (.bin .lss (.t 6) (.k (.s (.int .i64 8))))⟩])
 (.cond (.t 7)
 .skip
 (.exit 0)))
 (.seq (.block 1 (.seq (.ops [⟨some 10, none, .p (.mv (.t 3))⟩,
 ⟨some 11, none, .p (.mv (.t 2))⟩,
 ⟨some 12, none, .p (.mv (.t 3))⟩,
 ⟨some 13, none, .p (.ixs 1 (.t 11) (.t 12))⟩,
 ⟨some 14, none, .h (.load false 1 (.t 13))⟩,
 ⟨some 15, none, .p (.build (.ints 2) [(0, 1, (.t 14)), (1, 1, (.k (.s (.int .i64 0))))])⟩,
 ⟨some 16, none, .p (.fa 0 128 (.t 1))⟩,
 ⟨some 17, none, .p (.ixa 64 2 (.t 16) (.t 10))⟩,
 ⟨none, none, .h (.store 2 (.t 17) (.t 15))⟩])
 (.seq (.ops [⟨some 18, none, .p (.mv (.t 3))⟩,
 ⟨some 19, none, .p (.bin .add (.k (.s (.int .i64 8))) (.t 18))⟩,
 ⟨some 20, none, .p (.build (.ints 2) [(0, 1, (.k (.s (.int .i64 1)))), (1, 1, (.k (.s (.int .i64 0))))])⟩,
 ⟨some 21, none, .p (.fa 0 128 (.t 1))⟩,
 ⟨some 22, none, .p (.ixa 64 2 (.t 21) (.t 19))⟩,
 ⟨none, none, .h (.store 2 (.t 22) (.t 20))⟩])
 (.seq (.ops [⟨some 23, none, .p (.mv (.t 3))⟩,
 ⟨some 24, none, .p (.bin .add (.k (.s (.int .i64 48))) (.t 23))⟩,
 ⟨some 25, none, .p (.build (.ints 2) [(0, 1, (.k (.s (.int .i64 1)))), (1, 1, (.k (.s (.int .i64 1))))])⟩,
 ⟨some 26, none, .p (.fa 0 128 (.t 1))⟩,
 ⟨some 27, none, .p (.ixa 64 2 (.t 26) (.t 24))⟩,
 ⟨none, none, .h (.store 2 (.t 27) (.t 25))⟩])
 (.ops [⟨some 28, none, .p (.mv (.t 3))⟩,
 ⟨some 29, none, .p (.bin .add (.k (.s (.int .i64 56))) (.t 28))⟩,
 ⟨some 30, none, .p (.mv (.t 2))⟩,
 ⟨some 31, none, .p (.mv (.t 3))⟩,
 ⟨some 32, none, .p (.ixs 1 (.t 30) (.t 31))⟩,
 ⟨some 33, none, .h (.load false 1 (.t 32))⟩,
 ⟨some 34, none, .p (.build (.ints 2) [(0, 1, (.t 33)), (1, 1, (.k (.s (.int .i64 1))))])⟩,
 ⟨some 35, none, .p (.fa 0 128 (.t 1))⟩,
 ⟨some 36, none, .p (.ixa 64 2 (.t 35) (.t 29))⟩,
 ⟨none, none, .h (.store 2 (.t 36) (.t 34))⟩])))))
 (.ops [⟨some 8, none, .p (.mv (.t 3))⟩,
 ⟨some 9, none, .p (.bin .add (.t 8) (.k (.s (.int .i64 1))))⟩,
 ⟨some 3, none, .p (.mv (.t 9))⟩]))))))
 (.seq (.ops [⟨some 37, none, .p (.fa 129 1 (.t 1))⟩,
 ⟨none, none, .h (.store 1 (.t 37) (.k (.s (.int .i64 15))))⟩])
 (.seq (.ops [⟨some 38, none, .h (.load true 133 (.t 1))⟩,
 ⟨none, none, .h (.store 133 (.t 0) (.t 38))⟩])
 .ret))))))⟩
theorem c29 : compF Try.prog Try.f29 = some a29 := by kernel_rfl
/-- zugzwang/zugzwangkit.Pick -/
def a30 : AF := ⟨16, [.tmp 4],
 (.seq (.ops [⟨some 4, none, .p (.mv (.k (.s (.int .i64 0))))⟩])
 (.seq (.seq (.ops [⟨some 5, none, .p (.mv (.t 1))⟩,
 ⟨some 6, none, .p (.bin .lss (.t 5) (.k (.s (.int .i64 1))))⟩])
 (.cond (.t 6)
 (.seq (.ops [⟨some 4, none, .p (.mv (.k (.s (.int .i64 0))))⟩])
 .ret)
 .skip))
 (.seq (.ops [⟨some 7, none, .p (.mv (.t 0))⟩,
 ⟨some 8, none, .p (.mv (.t 1))⟩,
 ⟨some 9, none, .p (.bin .rem (.t 7) (.t 8))⟩,
 ⟨some 0, none, .p (.mv (.t 9))⟩])
 (.seq (.seq (.ops [⟨some 10, none, .p (.mv (.t 0))⟩,
 ⟨some 11, none, .p (.bin .lss (.t 10) (.k (.s (.int .i64 0))))⟩])
 (.cond (.t 11)
 (.ops [⟨some 12, none, .p (.mv (.t 0))⟩,
 ⟨some 13, none, .p (.mv (.t 1))⟩,
 ⟨some 14, none, .p (.bin .add (.t 12) (.t 13))⟩,
 ⟨some 0, none, .p (.mv (.t 14))⟩])
 .skip))
 (.seq (.ops [⟨some 15, none, .p (.mv (.t 0))⟩,
 ⟨some 4, none, .p (.mv (.t 15))⟩])
 .ret)))))⟩
theorem c30 : compF Try.prog Try.f30 = some a30 := by kernel_rfl
/-- zugzwang/zugzwanglaw05.awake -/
def a31 : AF := ⟨29, [.tmp 0],
 (.seq (.ops [⟨some 0, none, .p (.mv (.k (.s (.bool false))))⟩])
 (.seq (.ops [⟨some 4, none, .h (.call (.k (.fn 34 [])) [(.k (.s (.str ⟨#[101, 52]⟩)))])⟩,
 ⟨some 3, none, .p (.mv (.t 4))⟩,
 ⟨some 5, none, .p (.ext (.t 3) 0)⟩,
 ⟨some 6, none, .p (.ext (.t 3) 1)⟩,
 ⟨some 1, none, .p (.mv (.t 5))⟩,
 ⟨some 2, none, .p (.mv (.t 6))⟩])
 (.seq (.ops [⟨some 7, none, .p (.mv (.t 2))⟩,
 ⟨some 8, none, .p (.mv (.t 7))⟩,
 ⟨some 9, some (8, true), .p (.mv (.t 1))⟩,
 ⟨some 10, some (8, true), .p (.bin .eql (.t 9) (.k (.s (.int .i64 28))))⟩,
 ⟨some 11, none, .p (.pick (.t 8) (.t 10) (.k (.s (.bool false))))⟩,
 ⟨some 12, none, .p (.mv (.t 11))⟩,
 ⟨some 13, some (12, true), .p (.mv (.t 1))⟩,
 ⟨some 14, some (12, true), .h (.call (.k (.fn 33 [])) [(.t 13), (.k (.s (.int .i64 3))), (.k (.s (.int .i64 1)))])⟩,
 ⟨some 15, some (12, true), .p (.bin .eql (.t 14) (.k (.s (.int .i64 39))))⟩,
 ⟨some 16, none, .p (.pick (.t 12) (.t 15) (.k (.s (.bool false))))⟩,
 ⟨some 17, none, .p (.mv (.t 16))⟩,
 ⟨some 18, some (17, true), .h (.call (.k (.fn 35 [])) [(.k (.s (.int .i64 39)))])⟩,
 ⟨some 19, some (17, true), .p (.bin .eql (.t 18) (.k (.s (.str ⟨#[104, 53]⟩))))⟩,
 ⟨some 20, none, .p (.pick (.t 17) (.t 19) (.k (.s (.bool false))))⟩,
 ⟨some 21, none, .p (.mv (.t 20))⟩,
 ⟨some 22, some (21, true), .h (.call (.k (.fn 32 [])) [(.k (.s (.int .i64 2))), (.k (.s (.int .i64 1))), (.k (.s (.int .i64 1)))])⟩,
 ⟨some 23, some (21, true), .h (.mksl 5 1 (.one (.s (.int .i64 0))) [(0, (.k (.s (.int .i64 11)))), (1, (.k (.s (.int .i64 20)))), (2, (.k (.s (.int .i64 29)))), (3, (.k (.s (.int .i64 38)))), (4, (.k (.s (.int .i64 47))))])⟩,
 ⟨some 24, some (21, true), .h (.call (.k (.fn 49 [])) [(.t 22), (.t 23)])⟩,
 ⟨some 25, none, .p (.pick (.t 21) (.t 24) (.k (.s (.bool false))))⟩,
 ⟨some 26, none, .p (.mv (.t 25))⟩,
 ⟨some 27, some (26, true), .h (.call (.k (.fn 40 [])) [(.k (.s (.int .i64 0)))])⟩,
 ⟨some 28, none, .p (.pick (.t 26) (.t 27) (.k (.s (.bool false))))⟩,
 ⟨some 0, none, .p (.mv (.t 28))⟩])
 .ret)))⟩
theorem c31 : compF Try.prog Try.f31 = some a31 := by kernel_rfl
/-- zugzwang/square.Ray -/
def a32 : AF := ⟨28, [.tmp 6],
 (.seq (.ops [⟨some 6, none, .p (.mv (.k .snil))⟩])
 (.seq (.seq (.ops [⟨some 7, none, .p (.mv (.t 1))⟩,
 ⟨some 8, none, .p (.bin .eql (.t 7) (.k (.s (.int .i64 0))))⟩,
 ⟨some 9, none, .p (.mv (.t 8))⟩,
 ⟨some 10, some (9, true), .p (.mv (.t 2))⟩,
 ⟨some 11, some (9, true), .p (.bin .eql (.t 10) (.k (.s (.int .i64 0))))⟩,
 ⟨some 12, none, .p (.pick (.t 9) (.t 11) (.k (.s (.bool false))))⟩])
 (.cond (.t 12)
 (.seq (.ops [⟨some 6, none, .p (.mv (.k .snil))⟩])
 .ret)
 .skip))
 (.seq (.seq (.ops [⟨some 13, none, .p (.mv (.t 0))⟩,
 ⟨some 14, none, .p (.mv (.t 1))⟩,
 ⟨some 15, none, .p (.mv (.t 2))⟩,
 ⟨some 16, none, .h (.call (.k (.fn 33 [])) [(.t 13), (.t 14), (.t 15)])⟩,
 ⟨some 0, none, .p (.mv (.t 16))⟩])
 (.block 0 (.loop (.seq (.seq (.ops [⟨some 17, none, .p (.mv (.t 0))⟩,
 ⟨some 18, none, .p (.bin .neq (.t 17) (.k (.s (.int .i64 (-1)))))⟩])
 (.cond (.t 18)
 .skip
 (.exit 0)))
 (.seq (.block 1 (.ops [⟨some 23, none, .p (.mv (.t 6))⟩,
 ⟨some 24, none, .p (.mv (.t 0))⟩,
 ⟨some 25, none, .h (.mksl 1 1 (.one (.s (.int .i64 0))) [(0, (.t 24))])⟩,
 ⟨some 26, none, .h (.append 1 8 (.t 23) (.t 25))⟩,
 ⟨some 6, none, .p (.mv (.t 26))⟩]))
 (.ops [⟨some 19, none, .p (.mv (.t 0))⟩,
 ⟨some 20, none, .p (.mv (.t 1))⟩,
 ⟨some 21, none, .p (.mv (.t 2))⟩,
 ⟨some 22, none, .h (.call (.k (.fn 33 [])) [(.t 19), (.t 20), (.t 21)])⟩,
 ⟨some 0, none, .p (.mv (.t 22))⟩]))))))
 (.seq (.ops [⟨some 27, none, .p (.mv (.t 6))⟩,
 ⟨some 6, none, .p (.mv (.t 27))⟩])
 .ret))))⟩
theorem c32 : compF Try.prog Try.f32 = some a32 := by kernel_rfl
/-- zugzwang/square.Step -/
def a33 : AF := ⟨13, [.tmp 6],
 (.seq (.ops [⟨some 6, none, .p (.mv (.k (.s (.int .i64 0))))⟩])
 (.seq (.ops [⟨some 7, none, .p (.mv (.t 0))⟩,
 ⟨some 8, none, .h (.call (.k (.fn 82 [])) [(.t 7)])⟩,
 ⟨some 9, none, .p (.mv (.t 1))⟩,
 ⟨some 10, none, .p (.mv (.t 2))⟩,
 ⟨some 11, none, .h (.call (.k (.fn 83 [])) [(.t 8), (.t 9), (.t 10)])⟩,
 ⟨some 12, none, .h (.call (.k (.fn 84 [])) [(.t 11)])⟩,
 ⟨some 6, none, .p (.mv (.t 12))⟩])
 .ret))⟩
theorem c33 : compF Try.prog Try.f33 = some a33 := by kernel_rfl
/-- zugzwang/square.Named -/
def a34 : AF := ⟨20, [.tmp 2, .tmp 3],
 (.seq (.ops [⟨some 2, none, .p (.mv (.k (.s (.int .i64 0))))⟩,
 ⟨some 3, none, .p (.mv (.k (.s (.bool false))))⟩])
 (.seq (.seq (.ops [⟨some 5, none, .p (.mv (.t 0))⟩,
 ⟨some 6, none, .p (.lenS (.t 5))⟩,
 ⟨some 7, none, .p (.bin .neq (.t 6) (.k (.s (.int .i64 2))))⟩])
 (.cond (.t 7)
 (.seq (.ops [⟨some 2, none, .p (.mv (.k (.s (.int .i64 0))))⟩,
 ⟨some 3, none, .p (.mv (.k (.s (.bool false))))⟩])
 .ret)
 .skip))
 (.seq (.ops [⟨some 8, none, .p (.mv (.t 0))⟩,
 ⟨some 9, none, .p (.ixstr (.t 8) (.k (.s (.int .i64 0))))⟩,
 ⟨some 10, none, .h (.callq (.k (.fn 85 [])) [(.k (.s (.str ⟨#[97, 98, 99, 100, 101, 102, 103, 104]⟩))), (.t 9)])⟩,
 ⟨some 11, none, .p (.mv (.t 0))⟩,
 ⟨some 12, none, .p (.ixstr (.t 11) (.k (.s (.int .i64 1))))⟩,
 ⟨some 13, none, .h (.callq (.k (.fn 85 [])) [(.k (.s (.str ⟨#[49, 50, 51, 52, 53, 54, 55, 56]⟩))), (.t 12)])⟩,
 ⟨some 14, none, .p (.build (.ints 2) [(0, 1, (.t 10)), (1, 1, (.t 13))])⟩,
 ⟨some 4, none, .h (.alloc (.ints 2))⟩,
 ⟨none, none, .h (.store 2 (.t 4) (.t 14))⟩])
 (.seq (.seq (.ops [⟨some 15, none, .h (.load true 2 (.t 4))⟩,
 ⟨some 16, none, .h (.call (.k (.fn 86 [])) [(.t 15)])⟩,
 ⟨some 17, none, .p (.un .not (.t 16))⟩])
 (.cond (.t 17)
 (.seq (.ops [⟨some 2, none, .p (.mv (.k (.s (.int .i64 0))))⟩,
 ⟨some 3, none, .p (.mv (.k (.s (.bool false))))⟩])
 .ret)
 .skip))
 (.seq (.ops [⟨some 18, none, .h (.load true 2 (.t 4))⟩,
 ⟨some 19, none, .h (.call (.k (.fn 84 [])) [(.t 18)])⟩,
 ⟨some 2, none, .p (.mv (.t 19))⟩,
 ⟨some 3, none, .p (.mv (.k (.s (.bool true))))⟩])
 .ret)))))⟩
theorem c34 : compF Try.prog Try.f34 = some a34 := by kernel_rfl
/-- zugzwang/square.Name -/
def a35 : AF := ⟨26, [.tmp 2],
 (.seq (.ops [⟨some 2, none, .p (.mv (.k (.s (.str ⟨#[]⟩))))⟩])
 (.seq (.ops [⟨some 4, none, .p (.mv (.t 0))⟩,
 ⟨some 5, none, .h (.call (.k (.fn 82 [])) [(.t 4)])⟩,
 ⟨some 3, none, .h (.alloc (.scl [(.int .i64 0), (.int .i64 0), (.bool false)]))⟩,
 ⟨none, none, .h (.store 3 (.t 3) (.t 5))⟩])
 (.seq (.seq (.ops [⟨some 6, none, .p (.fa 2 1 (.t 3))⟩,
 ⟨some 7, none, .h (.load false 1 (.t 6))⟩,
 ⟨some 8, none, .p (.un .not (.t 7))⟩])
 (.cond (.t 8)
 (.seq (.ops [⟨some 2, none, .p (.mv (.k (.s (.str ⟨#[]⟩))))⟩])
 .ret)
 .skip))
 (.seq (.ops [⟨some 9, none, .p (.fa 0 2 (.t 3))⟩,
 ⟨some 10, none, .p (.fa 0 1 (.t 9))⟩,
 ⟨some 11, none, .h (.load false 1 (.t 10))⟩,
 ⟨some 12, none, .p (.fa 0 2 (.t 3))⟩,
 ⟨some 13, none, .p (.fa 0 1 (.t 12))⟩,
 ⟨some 14, none, .h (.load false 1 (.t 13))⟩,
 ⟨some 15, none, .p (.bin .add (.t 14) (.k (.s (.int .i64 1))))⟩,
 ⟨some 16, none, .p (.slS (.k (.s (.str ⟨#[97, 98, 99, 100, 101, 102, 103, 104]⟩))) (some (.t 11)) (some (.t 15)))⟩,
 ⟨some 17, none, .p (.fa 0 2 (.t 3))⟩,
 ⟨some 18, none, .p (.fa 1 1 (.t 17))⟩,
 ⟨some 19, none, .h (.load false 1 (.t 18))⟩,
 ⟨some 20, none, .p (.fa 0 2 (.t 3))⟩,
 ⟨some 21, none, .p (.fa 1 1 (.t 20))⟩,
 ⟨some 22, none, .h (.load false 1 (.t 21))⟩,
 ⟨some 23, none, .p (.bin .add (.t 22) (.k (.s (.int .i64 1))))⟩,
 ⟨some 24, none, .p (.slS (.k (.s (.str ⟨#[49, 50, 51, 52, 53, 54, 55, 56]⟩))) (some (.t 19)) (some (.t 23)))⟩,
 ⟨some 25, none, .p (.bin .add (.t 16) (.t 24))⟩,
 ⟨some 2, none, .p (.mv (.t 25))⟩])
 .ret))))⟩
theorem c35 : compF Try.prog Try.f35 = some a35 := by kernel_rfl
/-- zugzwang/square.At -/
def a36 : AF := ⟨9, [.tmp 4],
 (.seq (.ops [⟨some 4, none, .p (.mv (.k (.s (.int .i64 0))))⟩])
 (.seq (.ops [⟨some 5, none, .p (.mv (.t 0))⟩,
 ⟨some 6, none, .p (.mv (.t 1))⟩,
 ⟨some 7, none, .p (.build (.ints 2) [(0, 1, (.t 5)), (1, 1, (.t 6))])⟩,
 ⟨some 8, none, .h (.call (.k (.fn 84 [])) [(.t 7)])⟩,
 ⟨some 4, none, .p (.mv (.t 8))⟩])
 .ret))⟩
theorem c36 : compF Try.prog Try.f36 = some a36 := by kernel_rfl
/-- zugzwang/square.File -/
def a37 : AF := ⟨7, [.tmp 2],
 (.seq (.ops [⟨some 2, none, .p (.mv (.k (.s (.int .i64 0))))⟩])
 (.seq (.ops [⟨some 3, none, .p (.mv (.t 0))⟩,
 ⟨some 4, none, .h (.call (.k (.fn 82 [])) [(.t 3)])⟩,
 ⟨some 5, none, .p (.fld true 0 2 (.t 4))⟩,
 ⟨some 6, none, .p (.fld false 0 1 (.t 5))⟩,
 ⟨some 2, none, .p (.mv (.t 6))⟩])
 .ret))⟩
theorem c37 : compF Try.prog Try.f37 = some a37 := by kernel_rfl
/-- zugzwang/square.Rank -/
def a38 : AF := ⟨7, [.tmp 2],
 (.seq (.ops [⟨some 2, none, .p (.mv (.k (.s (.int .i64 0))))⟩])
 (.seq (.ops [⟨some 3, none, .p (.mv (.t 0))⟩,
 ⟨some 4, none, .h (.call (.k (.fn 82 [])) [(.t 3)])⟩,
 ⟨some 5, none, .p (.fld true 0 2 (.t 4))⟩,
 ⟨some 6, none, .p (.fld false 1 1 (.t 5))⟩,
 ⟨some 2, none, .p (.mv (.t 6))⟩])
 .ret))⟩
theorem c38 : compF Try.prog Try.f38 = some a38 := by kernel_rfl
/-- zugzwang/square.Is -/
def a39 : AF := ⟨6, [.tmp 2],
 (.seq (.ops [⟨some 2, none, .p (.mv (.k (.s (.bool false))))⟩])
 (.seq (.ops [⟨some 3, none, .p (.mv (.t 0))⟩,
 ⟨some 4, none, .h (.call (.k (.fn 82 [])) [(.t 3)])⟩,
 ⟨some 5, none, .p (.fld false 2 1 (.t 4))⟩,
 ⟨some 2, none, .p (.mv (.t 5))⟩])
 .ret))⟩
theorem c39 : compF Try.prog Try.f39 = some a39 := by kernel_rfl
/-- zugzwang/square.Dark -/
def a40 : AF := ⟨19, [.tmp 2],
 (.seq (.ops [⟨some 2, none, .p (.mv (.k (.s (.bool false))))⟩])
 (.seq (.ops [⟨some 4, none, .p (.mv (.t 0))⟩,
 ⟨some 5, none, .h (.call (.k (.fn 82 [])) [(.t 4)])⟩,
 ⟨some 3, none, .h (.alloc (.scl [(.int .i64 0), (.int .i64 0), (.bool false)]))⟩,
 ⟨none, none, .h (.store 3 (.t 3) (.t 5))⟩])
 (.seq (.ops [⟨some 6, none, .p (.fa 2 1 (.t 3))⟩,
 ⟨some 7, none, .h (.load false 1 (.t 6))⟩,
 ⟨some 8, none, .p (.mv (.t 7))⟩,
 ⟨some 9, some (8, true), .p (.fa 0 2 (.t 3))⟩,
 ⟨some 10, some (8, true), .p (.fa 0 1 (.t 9))⟩,
 ⟨some 11, some (8, true), .h (.load false 1 (.t 10))⟩,
 ⟨some 12, some (8, true), .p (.fa 0 2 (.t 3))⟩,
 ⟨some 13, some (8, true), .p (.fa 1 1 (.t 12))⟩,
 ⟨some 14, some (8, true), .h (.load false 1 (.t 13))⟩,
 ⟨some 15, some (8, true), .p (.bin .add (.t 11) (.t 14))⟩,
 ⟨some 16, some (8, true), .p (.bin .rem (.t 15) (.k (.s (.int .i64 2))))⟩,
 ⟨some 17, some (8, true), .p (.bin .eql (.t 16) (.k (.s (.int .i64 0))))⟩,
 ⟨some 18, none, .p (.pick (.t 8) (.t 17) (.k (.s (.bool false))))⟩,
 ⟨some 2, none, .p (.mv (.t 18))⟩])
 .ret)))⟩
theorem c40 : compF Try.prog Try.f40 = some a40 := by kernel_rfl
/-- zugzwang/zugzwangref05.Named -/
def a41 : AF := ⟨14, [.tmp 2, .tmp 3],
 (.seq (.ops [⟨some 2, none, .p (.mv (.k (.s (.int .i64 0))))⟩,
 ⟨some 3, none, .p (.mv (.k (.s (.bool false))))⟩])
 (.seq (.seq (.ops [⟨some 4, none, .p (.mv (.k (.s (.int .i64 0))))⟩])
 (.block 0 (.loop (.seq (.seq (.ops [⟨some 5, none, .p (.mv (.t 4))⟩,
 ⟨some 6, none, .p (.bin .lss (.t 5) (.k (.s (.int .i64 64))))⟩])
 (.cond (.t 6)
 .skip
 (.exit 0)))
 (.seq (.block 1 (.seq (.ops [⟨some 9, none, .p (.mv (.t 4))⟩,
 ⟨some 10, none, .h (.call (.k (.fn 47 [])) [(.t 9)])⟩,
 ⟨some 11, none, .p (.mv (.t 0))⟩,
 ⟨some 12, none, .p (.bin .eql (.t 10) (.t 11))⟩])
 (.cond (.t 12)
 (.seq (.ops [⟨some 13, none, .p (.mv (.t 4))⟩,
 ⟨some 2, none, .p (.mv (.t 13))⟩,
 ⟨some 3, none, .p (.mv (.k (.s (.bool true))))⟩])
 .ret)
 .skip)))
 (.ops [⟨some 7, none, .p (.mv (.t 4))⟩,
 ⟨some 8, none, .p (.bin .add (.t 7) (.k (.s (.int .i64 1))))⟩,
 ⟨some 4, none, .p (.mv (.t 8))⟩]))))))
 (.seq (.ops [⟨some 2, none, .p (.mv (.k (.s (.int .i64 0))))⟩,
 ⟨some 3, none, .p (.mv (.k (.s (.bool false))))⟩])
 .ret)))⟩
theorem c41 : compF Try.prog Try.f41 = some a41 := by kernel_rfl
/-- zugzwang/zugzwangref05.Is -/
def a42 : AF := ⟨9, [.tmp 2],
 (.seq (.ops [⟨some 2, none, .p (.mv (.k (.s (.bool false))))⟩])
 (.seq (.ops [⟨some 3, none, .p (.mv (.t 0))⟩,
 ⟨some 4, none, .p (.bin .geq (.t 3) (.k (.s (.int .i64 0))))⟩,
 ⟨some 5, none, .p (.mv (.t 4))⟩,
 ⟨some 6, some (5, true), .p (.mv (.t 0))⟩,
 ⟨some 7, some (5, true), .p (.bin .leq (.t 6) (.k (.s (.int .i64 63))))⟩,
 ⟨some 8, none, .p (.pick (.t 5) (.t 7) (.k (.s (.bool false))))⟩,
 ⟨some 2, none, .p (.mv (.t 8))⟩])
 .ret))⟩
theorem c42 : compF Try.prog Try.f42 = some a42 := by kernel_rfl
/-- zugzwang/zugzwangref05.At -/
def a43 : AF := ⟨23, [.tmp 4],
 (.seq (.ops [⟨some 4, none, .p (.mv (.k (.s (.int .i64 0))))⟩])
 (.seq (.seq (.ops [⟨some 5, none, .p (.mv (.t 0))⟩,
 ⟨some 6, none, .p (.bin .lss (.t 5) (.k (.s (.int .i64 0))))⟩,
 ⟨some 7, none, .p (.mv (.t 6))⟩,
 ⟨some 8, some (7, false), .p (.mv (.t 0))⟩,
 ⟨some 9, some (7, false), .p (.bin .gtr (.t 8) (.k (.s (.int .i64 7))))⟩,
 ⟨some 10, none, .p (.pick (.t 7) (.k (.s (.bool true))) (.t 9))⟩,
 ⟨some 11, none, .p (.mv (.t 10))⟩,
 ⟨some 12, some (11, false), .p (.mv (.t 1))⟩,
 ⟨some 13, some (11, false), .p (.bin .lss (.t 12) (.k (.s (.int .i64 0))))⟩,
 ⟨some 14, none, .p (.pick (.t 11) (.k (.s (.bool true))) (.t 13))⟩,
 ⟨some 15, none, .p (.mv (.t 14))⟩,
 ⟨some 16, some (15, false), .p (.mv (.t 1))⟩,
 ⟨some 17, some (15, false), .p (.bin .gtr (.t 16) (.k (.s (.int .i64 7))))⟩,
 ⟨some 18, none, .p (.pick (.t 15) (.k (.s (.bool true))) (.t 17))⟩])
 (.cond (.t 18)
 (.seq (.ops [⟨some 4, none, .p (.mv (.k (.s (.int .i64 (-1)))))⟩])
 .ret)
 .skip))
 (.seq (.ops [⟨some 19, none, .p (.mv (.t 1))⟩,
 ⟨some 20, none, .p (.bin .mul (.k (.s (.int .i64 8))) (.t 19))⟩,
 ⟨some 21, none, .p (.mv (.t 0))⟩,
 ⟨some 22, none, .p (.bin .add (.t 20) (.t 21))⟩,
 ⟨some 4, none, .p (.mv (.t 22))⟩])
 .ret)))⟩
theorem c43 : compF Try.prog Try.f43 = some a43 := by kernel_rfl
/-- zugzwang/zugzwangref05.File -/
def a44 : AF := ⟨8, [.tmp 2],
 (.seq (.ops [⟨some 2, none, .p (.mv (.k (.s (.int .i64 0))))⟩])
 (.seq (.seq (.ops [⟨some 3, none, .p (.mv (.t 0))⟩,
 ⟨some 4, none, .h (.call (.k (.fn 42 [])) [(.t 3)])⟩,
 ⟨some 5, none, .p (.un .not (.t 4))⟩])
 (.cond (.t 5)
 (.seq (.ops [⟨some 2, none, .p (.mv (.k (.s (.int .i64 (-1)))))⟩])
 .ret)
 .skip))
 (.seq (.ops [⟨some 6, none, .p (.mv (.t 0))⟩,
 ⟨some 7, none, .p (.bin .rem (.t 6) (.k (.s (.int .i64 8))))⟩,
 ⟨some 2, none, .p (.mv (.t 7))⟩])
 .ret)))⟩
theorem c44 : compF Try.prog Try.f44 = some a44 := by kernel_rfl
/-- zugzwang/zugzwangref05.Rank -/
def a45 : AF := ⟨8, [.tmp 2],
 (.seq (.ops [⟨some 2, none, .p (.mv (.k (.s (.int .i64 0))))⟩])
 (.seq (.seq (.ops [⟨some 3, none, .p (.mv (.t 0))⟩,
 ⟨some 4, none, .h (.call (.k (.fn 42 [])) [(.t 3)])⟩,
 ⟨some 5, none, .p (.un .not (.t 4))⟩])
 (.cond (.t 5)
 (.seq (.ops [⟨some 2, none, .p (.mv (.k (.s (.int .i64 (-1)))))⟩])
 .ret)
 .skip))
 (.seq (.ops [⟨some 6, none, .p (.mv (.t 0))⟩,
 ⟨some 7, none, .p (.bin .quo (.t 6) (.k (.s (.int .i64 8))))⟩,
 ⟨some 2, none, .p (.mv (.t 7))⟩])
 .ret)))⟩
theorem c45 : compF Try.prog Try.f45 = some a45 := by kernel_rfl
/-- zugzwang/zugzwangref05.Dark -/
def a46 : AF := ⟨14, [.tmp 2],
 (.seq (.ops [⟨some 2, none, .p (.mv (.k (.s (.bool false))))⟩])
 (.seq (.ops [⟨some 3, none, .p (.mv (.t 0))⟩,
 ⟨some 4, none, .h (.call (.k (.fn 42 [])) [(.t 3)])⟩,
 ⟨some 5, none, .p (.mv (.t 4))⟩,
 ⟨some 6, some (5, true), .p (.mv (.t 0))⟩,
 ⟨some 7, some (5, true), .p (.bin .rem (.t 6) (.k (.s (.int .i64 8))))⟩,
 ⟨some 8, some (5, true), .p (.mv (.t 0))⟩,
 ⟨some 9, some (5, true), .p (.bin .quo (.t 8) (.k (.s (.int .i64 8))))⟩,
 ⟨some 10, some (5, true), .p (.bin .add (.t 7) (.t 9))⟩,
 ⟨some 11, some (5, true), .p (.bin .rem (.t 10) (.k (.s (.int .i64 2))))⟩,
 ⟨some 12, some (5, true), .p (.bin .eql (.t 11) (.k (.s (.int .i64 0))))⟩,
 ⟨some 13, none, .p (.pick (.t 5) (.t 12) (.k (.s (.bool false))))⟩,
 ⟨some 2, none, .p (.mv (.t 13))⟩])
 .ret))⟩
theorem c46 : compF Try.prog Try.f46 = some a46 := by kernel_rfl
/-- zugzwang/zugzwangref05.Name -/
def a47 : AF := ⟨16, [.tmp 2],
 (.seq (.ops [⟨some 2, none, .p (.mv (.k (.s (.str ⟨#[]⟩))))⟩])
 (.seq (.seq (.ops [⟨some 3, none, .p (.mv (.t 0))⟩,
 ⟨some 4, none, .h (.call (.k (.fn 42 [])) [(.t 3)])⟩,
 ⟨some 5, none, .p (.un .not (.t 4))⟩])
 (.cond (.t 5)
 (.seq (.ops [⟨some 2, none, .p (.mv (.k (.s (.str ⟨#[]⟩))))⟩])
 .ret)
 .skip))
 (.seq (.ops [⟨some 6, none, .p (.mv (.t 0))⟩,
 ⟨some 7, none, .p (.bin .rem (.t 6) (.k (.s (.int .i64 8))))⟩,
 ⟨some 8, none, .p (.bin .add (.k (.s (.int .i64 97))) (.t 7))⟩,
 ⟨some 9, none, .p (.conv .u8 (.t 8))⟩,
 ⟨some 10, none, .p (.mv (.t 0))⟩,
 ⟨some 11, none, .p (.bin .quo (.t 10) (.k (.s (.int .i64 8))))⟩,
 ⟨some 12, none, .p (.bin .add (.k (.s (.int .i64 49))) (.t 11))⟩,
 ⟨some 13, none, .p (.conv .u8 (.t 12))⟩,
 ⟨some 14, none, .h (.mksl 2 1 (.one (.s (.int .u8 0))) [(0, (.t 9)), (1, (.t 13))])⟩,
 ⟨some 15, none, .h (.b2s (.t 14))⟩,
 ⟨some 2, none, .p (.mv (.t 15))⟩])
 .ret)))⟩
theorem c47 : compF Try.prog Try.f47 = some a47 := by kernel_rfl
/-- zugzwang/zugzwangref05.Step -/
def a48 : AF := ⟨33, [.tmp 6],
 (.seq (.ops [⟨some 6, none, .p (.mv (.k (.s (.int .i64 0))))⟩])
 (.seq (.seq (.ops [⟨some 7, none, .p (.mv (.k (.s (.int .i64 0))))⟩])
 (.block 0 (.loop (.seq (.seq (.ops [⟨some 8, none, .p (.mv (.t 7))⟩,
 ⟨some 9, none, .p (.bin .lss (.t 8) (.k (.s (.int .i64 64))))⟩,
 ⟨some 10, none, .p (.mv (.t 9))⟩,
 ⟨some 11, some (10, true), .p (.mv (.t 0))⟩,
 ⟨some 12, some (10, true), .h (.call (.k (.fn 42 [])) [(.t 11)])⟩,
 ⟨some 13, none, .p (.pick (.t 10) (.t 12) (.k (.s (.bool false))))⟩])
 (.cond (.t 13)
 .skip
 (.exit 0)))
 (.seq (.block 1 (.seq (.ops [⟨some 16, none, .p (.mv (.t 7))⟩,
 ⟨some 17, none, .p (.bin .rem (.t 16) (.k (.s (.int .i64 8))))⟩,
 ⟨some 18, none, .p (.mv (.t 0))⟩,
 ⟨some 19, none, .p (.bin .rem (.t 18) (.k (.s (.int .i64 8))))⟩,
 ⟨some 20, none, .p (.bin .sub (.t 17) (.t 19))⟩,
 ⟨some 21, none, .p (.mv (.t 1))⟩,
 ⟨some 22, none, .p (.bin .eql (.t 20) (.t 21))⟩,
 ⟨some 23, none, .p (.mv (.t 22))⟩,
 ⟨some 24, some (23, true), .p (.mv (.t 7))⟩,
 ⟨some 25, some (23, true), .p (.bin .quo (.t 24) (.k (.s (.int .i64 8))))⟩,
 ⟨some 26, some (23, true), .p (.mv (.t 0))⟩,
 ⟨some 27, some (23, true), .p (.bin .quo (.t 26) (.k (.s (.int .i64 8))))⟩,
 ⟨some 28, some (23, true), .p (.bin .sub (.t 25) (.t 27))⟩,
 ⟨some 29, some (23, true), .p (.mv (.t 2))⟩,
 ⟨some 30, some (23, true), .p (.bin .eql (.t 28) (.t 29))⟩,
 ⟨some 31, none, .p (.pick (.t 23) (.t 30) (.k (.s (.bool false))))⟩])
 (.cond (.t 31)
 (.seq (.ops [⟨some 32, none, .p (.mv (.t 7))⟩,
 ⟨some 6, none, .p (.mv (.t 32))⟩])
 .ret)
 .skip)))
 (.ops [⟨some 14, none, .p (.mv (.t 7))⟩,
 ⟨some 15, none, .p (.bin .add (.t 14) (.k (.s (.int .i64 1))))⟩,
 ⟨some 7, none, .p (.mv (.t 15))⟩]))))))
 (.seq (.ops [⟨some 6, none, .p (.mv (.k (.s (.int .i64 (-1)))))⟩])
 .ret)))⟩
theorem c48 : compF Try.prog Try.f48 = some a48 := by kernel_rfl
/-- zugzwang/zugzwangkit.SameInts -/
def a49 : AF := ⟨26, [.tmp 4],
 (.seq (.ops [⟨some 4, none, .p (.mv (.k (.s (.bool false))))⟩])
 (.seq (.seq (.ops [⟨some 6, none, .p (.mv (.t 0))⟩,
 ⟨some 7, none, .p (.len (.t 6))⟩,
 ⟨some 8, none, .p (.mv (.t 1))⟩,
 ⟨some 9, none, .p (.len (.t 8))⟩,
 ⟨some 10, none, .p (.bin .neq (.t 7) (.t 9))⟩])
 (.cond (.t 10)
 (.seq (.ops [⟨some 4, none, .p (.mv (.k (.s (.bool false))))⟩])
 .ret)
 .skip))
 (.seq (.seq (.ops [⟨some 5, none, .p (.mv (.k (.s (.int .i64 0))))⟩])
 (.block 0 (.loop (.seq (.seq (.ops [⟨some 11, none, .p (.mv (.t 5))⟩,
 ⟨some 12, none, .p (.mv (.t 0))⟩,
 ⟨some 13, none, .p (.len (.t 12))⟩,
 ⟨some 14, none, .p (.bin .lss (.t 11) (.t 13))⟩])
 (.cond (.t 14)
 .skip
 (.exit 0)))
 (.seq (.block 1 (.seq (.ops [⟨some 17, none, .p (.mv (.t 0))⟩,
 ⟨some 18, none, .p (.mv (.t 5))⟩,
 ⟨some 19, none, .p (.ixs 1 (.t 17) (.t 18))⟩,
 ⟨some 20, none, .h (.load false 1 (.t 19))⟩,
 ⟨some 21, none, .p (.mv (.t 1))⟩,
 ⟨some 22, none, .p (.mv (.t 5))⟩,
 ⟨some 23, none, .p (.ixs 1 (.t 21) (.t 22))⟩,
 ⟨some 24, none, .h (.load false 1 (.t 23))⟩,
 ⟨some 25, none, .p (.bin .neq (.t 20) (.t 24))⟩])
 (.cond (.t 25)
 (.seq (.ops [⟨some 4, none, .p (.mv (.k (.s (.bool false))))⟩])
 .ret)
 .skip)))
 (.ops [⟨some 15, none, .p (.mv (.t 5))⟩,
 ⟨some 16, none, .p (.bin .add (.t 15) (.k (.s (.int .i64 1))))⟩,
 ⟨some 5, none, .p (.mv (.t 16))⟩]))))))
 (.seq (.ops [⟨some 4, none, .p (.mv (.k (.s (.bool true))))⟩])
 .ret))))⟩
theorem c49 : compF Try.prog Try.f49 = some a49 := by kernel_rfl
/-- zugzwang/zugzwangref05.Ray -/
def a50 : AF := ⟨30, [.tmp 6],
 (.seq (.ops [⟨some 6, none, .p (.mv (.k .snil))⟩])
 (.seq (.ops [⟨some 7, none, .p (.mv (.k .snil))⟩])
 (.seq (.seq (.ops [⟨some 9, none, .p (.mv (.t 1))⟩,
 ⟨some 10, none, .p (.bin .eql (.t 9) (.k (.s (.int .i64 0))))⟩,
 ⟨some 11, none, .p (.mv (.t 10))⟩,
 ⟨some 12, some (11, true), .p (.mv (.t 2))⟩,
 ⟨some 13, some (11, true), .p (.bin .eql (.t 12) (.k (.s (.int .i64 0))))⟩,
 ⟨some 14, none, .p (.pick (.t 11) (.t 13) (.k (.s (.bool false))))⟩])
 (.cond (.t 14)
 (.seq (.ops [⟨some 6, none, .p (.mv (.k .snil))⟩])
 .ret)
 .skip))
 (.seq (.seq (.ops [⟨some 15, none, .p (.mv (.t 0))⟩,
 ⟨some 16, none, .p (.mv (.t 1))⟩,
 ⟨some 17, none, .p (.mv (.t 2))⟩,
 ⟨some 18, none, .h (.call (.k (.fn 48 [])) [(.t 15), (.t 16), (.t 17)])⟩,
 ⟨some 8, none, .p (.mv (.t 18))⟩])
 (.block 0 (.loop (.seq (.seq (.ops [⟨some 19, none, .p (.mv (.t 8))⟩,
 ⟨some 20, none, .p (.bin .geq (.t 19) (.k (.s (.int .i64 0))))⟩])
 (.cond (.t 20)
 .skip
 (.exit 0)))
 (.seq (.block 1 (.ops [⟨some 25, none, .p (.mv (.t 7))⟩,
 ⟨some 26, none, .p (.mv (.t 8))⟩,
 ⟨some 27, none, .h (.mksl 1 1 (.one (.s (.int .i64 0))) [(0, (.t 26))])⟩,
 ⟨some 28, none, .h (.append 1 8 (.t 25) (.t 27))⟩,
 ⟨some 7, none, .p (.mv (.t 28))⟩]))
 (.ops [⟨some 21, none, .p (.mv (.t 8))⟩,
 ⟨some 22, none, .p (.mv (.t 1))⟩,
 ⟨some 23, none, .p (.mv (.t 2))⟩,
 ⟨some 24, none, .h (.call (.k (.fn 48 [])) [(.t 21), (.t 22), (.t 23)])⟩,
 ⟨some 8, none, .p (.mv (.t 24))⟩]))))))
 (.seq (.ops [⟨some 29, none, .p (.mv (.t 7))⟩,
 ⟨some 6, none, .p (.mv (.t 29))⟩])
 .ret)))))⟩
theorem c50 : compF Try.prog Try.f50 = some a50 := by kernel_rfl
/-- zugzwang/square.Ring -/
def a51 : AF := ⟨28, [.tmp 4],
 (.seq (.ops [⟨some 4, none, .p (.mv (.k .snil))⟩])
 (.seq (.seq (.ops [⟨some 8, none, .p (.mv (.t 1))⟩,
 ⟨some 9, none, .p (.len (.t 8))⟩,
 ⟨some 10, none, .p (.mv (.k (.s (.int .i64 0))))⟩])
 (.block 0 (.loop (.seq (.ops [⟨some 11, none, .p (.bin .lss (.t 10) (.t 9))⟩])
 (.seq (.cond (.t 11)
 .skip
 (.exit 0))
 (.seq (.block 1 (.seq (.ops [⟨some 12, none, .p (.ixs 2 (.t 8) (.t 10))⟩,
 ⟨some 13, none, .h (.load true 2 (.t 12))⟩,
 ⟨some 6, none, .h (.alloc (.ints 2))⟩,
 ⟨none, none, .h (.store 2 (.t 6) (.t 13))⟩])
 (.seq (.ops [⟨some 14, none, .p (.mv (.t 0))⟩,
 ⟨some 15, none, .p (.ixa 2 1 (.t 6) (.k (.s (.int .i64 0))))⟩,
 ⟨some 16, none, .h (.load false 1 (.t 15))⟩,
 ⟨some 17, none, .p (.ixa 2 1 (.t 6) (.k (.s (.int .i64 1))))⟩,
 ⟨some 18, none, .h (.load false 1 (.t 17))⟩,
 ⟨some 19, none, .h (.call (.k (.fn 33 [])) [(.t 14), (.t 16), (.t 18)])⟩,
 ⟨some 7, none, .p (.mv (.t 19))⟩])
 (.seq (.ops [⟨some 20, none, .p (.mv (.t 7))⟩,
 ⟨some 21, none, .p (.bin .neq (.t 20) (.k (.s (.int .i64 (-1)))))⟩])
 (.cond (.t 21)
 (.ops [⟨some 22, none, .p (.mv (.t 4))⟩,
 ⟨some 23, none, .p (.mv (.t 7))⟩,
 ⟨some 24, none, .h (.mksl 1 1 (.one (.s (.int .i64 0))) [(0, (.t 23))])⟩,
 ⟨some 25, none, .h (.append 1 8 (.t 22) (.t 24))⟩,
 ⟨some 4, none, .p (.mv (.t 25))⟩])
 .skip)))))
 (.ops [⟨some 26, none, .p (.bin .add (.t 10) (.k (.s (.int .i64 1))))⟩,
 ⟨some 10, none, .p (.mv (.t 26))⟩])))))))
 (.seq (.ops [⟨some 27, none, .p (.mv (.t 4))⟩,
 ⟨some 4, none, .p (.mv (.t 27))⟩])
 .ret)))⟩
theorem c51 : compF Try.prog Try.f51 = some a51 := by kernel_rfl
/-- zugzwang/zugzwangref05.Ring -/
def a52 : AF := ⟨33, [.tmp 4],
 (.seq (.ops [⟨some 4, none, .p (.mv (.k .snil))⟩])
 (.seq (.ops [⟨some 5, none, .p (.mv (.k .snil))⟩])
 (.seq (.seq (.ops [⟨some 6, none, .p (.mv (.k (.s (.int .i64 0))))⟩])
 (.block 0 (.loop (.seq (.seq (.ops [⟨some 8, none, .p (.mv (.t 6))⟩,
 ⟨some 9, none, .p (.mv (.t 1))⟩,
 ⟨some 10, none, .p (.len (.t 9))⟩,
 ⟨some 11, none, .p (.bin .lss (.t 8) (.t 10))⟩])
 (.cond (.t 11)
 .skip
 (.exit 0)))
 (.seq (.block 1 (.seq (.ops [⟨some 14, none, .p (.mv (.t 0))⟩,
 ⟨some 15, none, .p (.mv (.t 1))⟩,
 ⟨some 16, none, .p (.mv (.t 6))⟩,
 ⟨some 17, none, .p (.ixs 2 (.t 15) (.t 16))⟩,
 ⟨some 18, none, .p (.ixa 2 1 (.t 17) (.k (.s (.int .i64 0))))⟩,
 ⟨some 19, none, .h (.load false 1 (.t 18))⟩,
 ⟨some 20, none, .p (.mv (.t 1))⟩,
 ⟨some 21, none, .p (.mv (.t 6))⟩,
 ⟨some 22, none, .p (.ixs 2 (.t 20) (.t 21))⟩,
 ⟨some 23, none, .p (.ixa 2 1 (.t 22) (.k (.s (.int .i64 1))))⟩,
 ⟨some 24, none, .h (.load false 1 (.t 23))⟩,
 ⟨some 25, none, .h (.call (.k (.fn 48 [])) [(.t 14), (.t 19), (.t 24)])⟩,
 ⟨some 7, none, .p (.mv (.t 25))⟩])
 (.seq (.ops [⟨some 26, none, .p (.mv (.t 7))⟩,
 ⟨some 27, none, .p (.bin .geq (.t 26) (.k (.s (.int .i64 0))))⟩])
 (.cond (.t 27)
 (.ops [⟨some 28, none, .p (.mv (.t 5))⟩,
 ⟨some 29, none, .p (.mv (.t 7))⟩,
 ⟨some 30, none, .h (.mksl 1 1 (.one (.s (.int .i64 0))) [(0, (.t 29))])⟩,
 ⟨some 31, none, .h (.append 1 8 (.t 28) (.t 30))⟩,
 ⟨some 5, none, .p (.mv (.t 31))⟩])
 .skip))))
 (.ops [⟨some 12, none, .p (.mv (.t 6))⟩,
 ⟨some 13, none, .p (.bin .add (.t 12) (.k (.s (.int .i64 1))))⟩,
 ⟨some 6, none, .p (.mv (.t 13))⟩]))))))
 (.seq (.ops [⟨some 32, none, .p (.mv (.t 5))⟩,
 ⟨some 4, none, .p (.mv (.t 32))⟩])
 .ret))))⟩
theorem c52 : compF Try.prog Try.f52 = some a52 := by kernel_rfl
/-- zugzwang/board.Turn -/
def a53 : AF := ⟨57, [.cell 2 true 133],
 (.seq (.ops [⟨some 1, none, .h (.box (.t 0))⟩,
 ⟨some 2, none, .h (.alloc (.ints 133))⟩])
 (.seq (.ops [⟨some 7, none, .h (.load true 133 (.t 1))⟩,
 ⟨some 3, none, .h (.alloc (.ints 133))⟩,
 ⟨none, none, .h (.store 133 (.t 3) (.t 7))⟩])
 (.seq (.ops [⟨some 4, none, .p (.mv (.k (.fn 87 [])))⟩])
 (.seq (.seq (.ops [⟨some 8, none, .p (.fa 0 128 (.t 1))⟩,
 ⟨some 9, none, .h (.load true 128 (.t 8))⟩,
 ⟨some 10, none, .p (.mv (.k (.s (.int .i64 0))))⟩])
 (.block 0 (.loop (.seq (.ops [⟨some 11, none, .p (.bin .lss (.t 10) (.k (.s (.int .i64 64))))⟩])
 (.seq (.cond (.t 11)
 .skip
 (.exit 0))
 (.seq (.block 1 (.seq (.ops [⟨some 12, none, .p (.mv (.t 10))⟩,
 ⟨some 13, none, .p (.ix 64 2 true (.t 9) (.t 10))⟩,
 ⟨some 6, none, .h (.alloc (.ints 2))⟩,
 ⟨some 5, none, .p (.mv (.t 12))⟩,
 ⟨none, none, .h (.store 2 (.t 6) (.t 13))⟩])
 (.seq (.seq (.ops [⟨some 14, none, .h (.load true 2 (.t 6))⟩,
 ⟨some 15, none, .h (.call (.k (.fn 88 [])) [(.t 14)])⟩])
 (.cond (.t 15)
 (.ops [⟨some 16, none, .p (.fa 1 1 (.t 6))⟩,
 ⟨some 17, none, .h (.load false 1 (.t 16))⟩,
 ⟨some 18, none, .h (.call (.k (.fn 57 [])) [(.t 17)])⟩,
 ⟨some 19, none, .p (.fa 1 1 (.t 6))⟩,
 ⟨none, none, .h (.store 1 (.t 19) (.t 18))⟩])
 .skip))
 (.ops [⟨some 20, none, .p (.mv (.t 4))⟩,
 ⟨some 21, none, .p (.mv (.t 5))⟩,
 ⟨some 22, none, .h (.callq (.t 20) [(.t 21)])⟩,
 ⟨some 23, none, .h (.load true 2 (.t 6))⟩,
 ⟨some 24, none, .p (.fa 0 128 (.t 3))⟩,
 ⟨some 25, none, .p (.ixa 64 2 (.t 24) (.t 22))⟩,
 ⟨none, none, .h (.store 2 (.t 25) (.t 23))⟩]))))
 (.ops [⟨some 26, none, .p (.bin .add (.t 10) (.k (.s (.int .i64 1))))⟩,
 ⟨some 10, none, .p (.mv (.t 26))⟩])))))))
 (.seq (.ops [⟨some 27, none, .p (.fa 128 1 (.t 1))⟩,
 ⟨some 28, none, .h (.load false 1 (.t 27))⟩,
 ⟨some 29, none, .h (.call (.k (.fn 57 [])) [(.t 28)])⟩,
 ⟨some 30, none, .p (.fa 128 1 (.t 3))⟩,
 ⟨none, none, .h (.store 1 (.t 30) (.t 29))⟩])
 (.seq (.seq (.ops [⟨some 31, none, .p (.fa 129 1 (.t 1))⟩,
 ⟨some 32, none, .h (.load false 1 (.t 31))⟩,
 ⟨some 33, none, .p (.bin .geq (.t 32) (.k (.s (.int .i64 0))))⟩,
 ⟨some 34, none, .p (.mv (.t 33))⟩,
 ⟨some 35, some (34, true), .p (.fa 129 1 (.t 1))⟩,
 ⟨some 36, some (34, true), .h (.load false 1 (.t 35))⟩,
 ⟨some 37, some (34, true), .p (.bin .leq (.t 36) (.k (.s (.int .i64 15))))⟩,
 ⟨some 38, none, .p (.pick (.t 34) (.t 37) (.k (.s (.bool false))))⟩])
 (.cond (.t 38)
 (.ops [⟨some 39, none, .p (.fa 129 1 (.t 1))⟩,
 ⟨some 40, none, .h (.load false 1 (.t 39))⟩,
 ⟨some 41, none, .p (.bin .shr (.t 40) (.k (.s (.int .u64 2))))⟩,
 ⟨some 42, none, .p (.fa 129 1 (.t 1))⟩,
 ⟨some 43, none, .h (.load false 1 (.t 42))⟩,
 ⟨some 44, none, .p (.bin .and (.t 43) (.k (.s (.int .i64 3))))⟩,
 ⟨some 45, none, .p (.bin .shl (.t 44) (.k (.s (.int .u64 2))))⟩,
 ⟨some 46, none, .p (.bin .or (.t 41) (.t 45))⟩,
 ⟨some 47, none, .p (.fa 129 1 (.t 3))⟩,
 ⟨none, none, .h (.store 1 (.t 47) (.t 46))⟩])
 .skip))
 (.seq (.seq (.ops [⟨some 48, none, .p (.fa 130 1 (.t 1))⟩,
 ⟨some 49, none, .h (.load false 1 (.t 48))⟩,
 ⟨some 50, none, .h (.call (.k (.fn 39 [])) [(.t 49)])⟩])
 (.cond (.t 50)
 (.ops [⟨some 51, none, .p (.mv (.t 4))⟩,
 ⟨some 52, none, .p (.fa 130 1 (.t 1))⟩,
 ⟨some 53, none, .h (.load false 1 (.t 52))⟩,
 ⟨some 54, none, .h (.call (.t 51) [(.t 53)])⟩,
 ⟨some 55, none, .p (.fa 130 1 (.t 3))⟩,
 ⟨none, none, .h (.store 1 (.t 55) (.t 54))⟩])
 .skip))
 (.seq (.ops [⟨some 56, none, .h (.load true 133 (.t 3))⟩,
 ⟨none, none, .h (.store 133 (.t 2) (.t 56))⟩])
 .ret))))))))⟩
theorem c53 : compF Try.prog Try.f53 = some a53 := by kernel_rfl
/-- zugzwang/zugzwanglaw06.awake -/
def a54 : AF := ⟨17, [.tmp 0],
 (.seq (.ops [⟨some 0, none, .p (.mv (.k (.s (.bool false))))⟩])
 (.seq (.ops [⟨some 2, none, .h (.call (.k (.fn 77 [])) [])⟩,
 ⟨some 1, none, .h (.alloc (.ints 133))⟩,
 ⟨none, none, .h (.store 133 (.t 1) (.t 2))⟩])
 (.seq (.ops [⟨some 3, none, .h (.load true 133 (.t 1))⟩,
 ⟨some 4, none, .h (.call (.k (.fn 60 [])) [(.t 3), (.k (.s (.int .i64 1)))])⟩,
 ⟨some 5, none, .p (.bin .eql (.t 4) (.k (.s (.int .i64 60))))⟩,
 ⟨some 6, none, .p (.mv (.t 5))⟩,
 ⟨some 7, some (6, true), .h (.load true 133 (.t 1))⟩,
 ⟨some 8, some (6, true), .p (.build (.ints 2) [(0, 1, (.k (.s (.int .i64 1))))])⟩,
 ⟨some 9, some (6, true), .h (.call (.k (.fn 58 [])) [(.t 7), (.t 8)])⟩,
 ⟨some 10, some (6, true), .h (.mksl 8 1 (.one (.s (.int .i64 0))) [(0, (.k (.s (.int .i64 8)))), (1, (.k (.s (.int .i64 9)))), (2, (.k (.s (.int .i64 10)))), (3, (.k (.s (.int .i64 11)))), (4, (.k (.s (.int .i64 12)))), (5, (.k (.s (.int .i64 13)))), (6, (.k (.s (.int .i64 14)))), (7, (.k (.s (.int .i64 15))))])⟩,
 ⟨some 11, some (6, true), .h (.call (.k (.fn 49 [])) [(.t 9), (.t 10)])⟩,
 ⟨some 12, none, .p (.pick (.t 6) (.t 11) (.k (.s (.bool false))))⟩,
 ⟨some 13, none, .p (.mv (.t 12))⟩,
 ⟨some 14, some (13, true), .h (.load true 133 (.t 1))⟩,
 ⟨some 15, some (13, true), .h (.call (.k (.fn 56 [])) [(.t 14)])⟩,
 ⟨some 16, none, .p (.pick (.t 13) (.t 15) (.k (.s (.bool false))))⟩,
 ⟨some 0, none, .p (.mv (.t 16))⟩])
 .ret)))⟩
theorem c54 : compF Try.prog Try.f54 = some a54 := by kernel_rfl
/-- zugzwang/zugzwangref06.May -/
def a55 : AF := ⟨21, [.tmp 2],
 (.seq (.ops [⟨some 1, none, .h (.box (.t 0))⟩,
 ⟨some 2, none, .p (.mv (.k (.s (.bool false))))⟩])
 (.seq (.ops [⟨some 3, none, .p (.fa 0 1 (.t 1))⟩,
 ⟨some 4, none, .h (.load false 1 (.t 3))⟩,
 ⟨some 5, none, .p (.bin .geq (.t 4) (.k (.s (.int .i64 1))))⟩,
 ⟨some 6, none, .p (.mv (.t 5))⟩,
 ⟨some 7, some (6, true), .p (.fa 0 1 (.t 1))⟩,
 ⟨some 8, some (6, true), .h (.load false 1 (.t 7))⟩,
 ⟨some 9, some (6, true), .p (.bin .leq (.t 8) (.k (.s (.int .i64 6))))⟩,
 ⟨some 10, none, .p (.pick (.t 6) (.t 9) (.k (.s (.bool false))))⟩,
 ⟨some 11, none, .p (.mv (.t 10))⟩,
 ⟨some 12, some (11, true), .p (.fa 1 1 (.t 1))⟩,
 ⟨some 13, some (11, true), .h (.load false 1 (.t 12))⟩,
 ⟨some 14, some (11, true), .p (.bin .eql (.t 13) (.k (.s (.int .i64 0))))⟩,
 ⟨some 15, some (11, true), .p (.mv (.t 14))⟩,
 ⟨some 16, some (15, false), .p (.fa 1 1 (.t 1))⟩,
 ⟨some 17, some (15, false), .h (.load false 1 (.t 16))⟩,
 ⟨some 18, some (15, false), .p (.bin .eql (.t 17) (.k (.s (.int .i64 1))))⟩,
 ⟨some 19, some (11, true), .p (.pick (.t 15) (.k (.s (.bool true))) (.t 18))⟩,
 ⟨some 20, none, .p (.pick (.t 11) (.t 19) (.k (.s (.bool false))))⟩,
 ⟨some 2, none, .p (.mv (.t 20))⟩])
 .ret))⟩
theorem c55 : compF Try.prog Try.f55 = some a55 := by kernel_rfl
/-- zugzwang/board.Right -/
def a56 : AF := ⟨36, [.tmp 2],
 (.seq (.ops [⟨some 1, none, .h (.box (.t 0))⟩,
 ⟨some 2, none, .p (.mv (.k (.s (.bool false))))⟩])
 (.seq (.ops [⟨some 4, none, .h (.load true 133 (.t 1))⟩,
 ⟨some 5, none, .p (.build (.ints 133) [(0, 133, (.t 4))])⟩,
 ⟨some 3, none, .h (.alloc (.ints 133))⟩,
 ⟨none, none, .h (.store 133 (.t 3) (.t 5))⟩])
 (.seq (.ops [⟨some 6, none, .h (.load true 133 (.t 3))⟩,
 ⟨some 7, none, .h (.call (.k (.fn 89 [])) [(.t 6)])⟩,
 ⟨some 8, none, .p (.mv (.t 7))⟩,
 ⟨some 9, some (8, true), .h (.load true 133 (.t 3))⟩,
 ⟨some 10, some (8, true), .h (.call (.k (.fn 90 [])) [(.t 9)])⟩,
 ⟨some 11, none, .p (.pick (.t 8) (.t 10) (.k (.s (.bool false))))⟩,
 ⟨some 12, none, .p (.mv (.t 11))⟩,
 ⟨some 13, some (12, true), .h (.load true 133 (.t 3))⟩,
 ⟨some 14, some (12, true), .h (.call (.k (.fn 91 [])) [(.t 13)])⟩,
 ⟨some 15, none, .p (.pick (.t 12) (.t 14) (.k (.s (.bool false))))⟩,
 ⟨some 16, none, .p (.mv (.t 15))⟩,
 ⟨some 17, some (16, true), .p (.fa 131 1 (.t 1))⟩,
 ⟨some 18, some (16, true), .h (.load false 1 (.t 17))⟩,
 ⟨some 19, some (16, true), .p (.bin .geq (.t 18) (.k (.s (.int .i64 0))))⟩,
 ⟨some 20, none, .p (.pick (.t 16) (.t 19) (.k (.s (.bool false))))⟩,
 ⟨some 21, none, .p (.mv (.t 20))⟩,
 ⟨some 22, some (21, true), .p (.fa 131 1 (.t 1))⟩,
 ⟨some 23, some (21, true), .h (.load false 1 (.t 22))⟩,
 ⟨some 24, some (21, true), .p (.bin .leq (.t 23) (.k (.s (.int .i64 1024))))⟩,
 ⟨some 25, none, .p (.pick (.t 21) (.t 24) (.k (.s (.bool false))))⟩,
 ⟨some 26, none, .p (.mv (.t 25))⟩,
 ⟨some 27, some (26, true), .p (.fa 132 1 (.t 1))⟩,
 ⟨some 28, some (26, true), .h (.load false 1 (.t 27))⟩,
 ⟨some 29, some (26, true), .p (.bin .geq (.t 28) (.k (.s (.int .i64 1))))⟩,
 ⟨some 30, none, .p (.pick (.t 26) (.t 29) (.k (.s (.bool false))))⟩,
 ⟨some 31, none, .p (.mv (.t 30))⟩,
 ⟨some 32, some (31, true), .p (.fa 132 1 (.t 1))⟩,
 ⟨some 33, some (31, true), .h (.load false 1 (.t 32))⟩,
 ⟨some 34, some (31, true), .p (.bin .leq (.t 33) (.k (.s (.int .i64 16384))))⟩,
 ⟨some 35, none, .p (.pick (.t 31) (.t 34) (.k (.s (.bool false))))⟩,
 ⟨some 2, none, .p (.mv (.t 35))⟩])
 .ret)))⟩
theorem c56 : compF Try.prog Try.f56 = some a56 := by kernel_rfl
/-- zugzwang/board.Other -/
def a57 : AF := ⟨5, [.tmp 2],
 (.seq (.ops [⟨some 2, none, .p (.mv (.k (.s (.int .i64 0))))⟩])
 (.seq (.seq (.ops [⟨some 3, none, .p (.mv (.t 0))⟩,
 ⟨some 4, none, .p (.bin .eql (.t 3) (.k (.s (.int .i64 0))))⟩])
 (.cond (.t 4)
 (.seq (.ops [⟨some 2, none, .p (.mv (.k (.s (.int .i64 1))))⟩])
 .ret)
 .skip))
 (.seq (.ops [⟨some 2, none, .p (.mv (.k (.s (.int .i64 0))))⟩])
 .ret)))⟩
theorem c57 : compF Try.prog Try.f57 = some a57 := by kernel_rfl
/-- zugzwang/board.Find -/
def a58 : AF := ⟨22, [.tmp 4],
 (.seq (.ops [⟨some 2, none, .h (.box (.t 0))⟩,
 ⟨some 3, none, .h (.box (.t 1))⟩,
 ⟨some 4, none, .p (.mv (.k .snil))⟩])
 (.seq (.seq (.ops [⟨some 7, none, .p (.fa 0 128 (.t 2))⟩,
 ⟨some 8, none, .h (.load true 128 (.t 7))⟩,
 ⟨some 9, none, .p (.mv (.k (.s (.int .i64 0))))⟩])
 (.block 0 (.loop (.seq (.ops [⟨some 10, none, .p (.bin .lss (.t 9) (.k (.s (.int .i64 64))))⟩])
 (.seq (.cond (.t 10)
 .skip
 (.exit 0))
 (.seq (.block 1 (.seq (.ops [⟨some 11, none, .p (.mv (.t 9))⟩,
 ⟨some 12, none, .p (.ix 64 2 true (.t 8) (.t 9))⟩,
 ⟨some 6, none, .h (.alloc (.ints 2))⟩,
 ⟨some 5, none, .p (.mv (.t 11))⟩,
 ⟨none, none, .h (.store 2 (.t 6) (.t 12))⟩])
 (.seq (.ops [⟨some 13, none, .h (.load true 2 (.t 3))⟩,
 ⟨some 14, none, .h (.load true 2 (.t 6))⟩,
 ⟨some 15, none, .p (.eqa false 2 (.t 13) (.t 14))⟩])
 (.cond (.t 15)
 (.ops [⟨some 16, none, .p (.mv (.t 4))⟩,
 ⟨some 17, none, .p (.mv (.t 5))⟩,
 ⟨some 18, none, .h (.mksl 1 1 (.one (.s (.int .i64 0))) [(0, (.t 17))])⟩,
 ⟨some 19, none, .h (.append 1 8 (.t 16) (.t 18))⟩,
 ⟨some 4, none, .p (.mv (.t 19))⟩])
 .skip))))
 (.ops [⟨some 20, none, .p (.bin .add (.t 9) (.k (.s (.int .i64 1))))⟩,
 ⟨some 9, none, .p (.mv (.t 20))⟩])))))))
 (.seq (.ops [⟨some 21, none, .p (.mv (.t 4))⟩,
 ⟨some 4, none, .p (.mv (.t 21))⟩])
 .ret)))⟩
theorem c58 : compF Try.prog Try.f58 = some a58 := by kernel_rfl
/-- zugzwang/board.Put -/
def a59 : AF := ⟨34, [.cell 6 true 133, .tmp 7],
 (.seq (.ops [⟨some 3, none, .h (.box (.t 0))⟩,
 ⟨some 4, none, .h (.box (.t 1))⟩,
 ⟨some 6, none, .h (.alloc (.ints 133))⟩,
 ⟨some 7, none, .p (.mv (.k (.s (.int .i64 0))))⟩])
 (.seq (.seq (.ops [⟨some 10, none, .h (.load true 2 (.t 4))⟩,
 ⟨some 11, none, .p (.build (.ints 2) [])⟩,
 ⟨some 12, none, .p (.eqa true 2 (.t 10) (.t 11))⟩,
 ⟨some 13, none, .p (.mv (.t 12))⟩,
 ⟨some 14, some (13, true), .h (.load true 2 (.t 4))⟩,
 ⟨some 15, some (13, true), .h (.call (.k (.fn 88 [])) [(.t 14)])⟩,
 ⟨some 16, some (13, true), .p (.un .not (.t 15))⟩,
 ⟨some 17, none, .p (.pick (.t 13) (.t 16) (.k (.s (.bool false))))⟩])
 (.cond (.t 17)
 (.seq (.ops [⟨some 18, none, .p (.build (.ints 133) [])⟩,
 ⟨none, none, .h (.store 133 (.t 6) (.t 18))⟩,
 ⟨some 7, none, .p (.mv (.k (.s (.int .i64 2))))⟩])
 .ret)
 .skip))
 (.seq (.seq (.ops [⟨some 19, none, .p (.mv (.t 2))⟩,
 ⟨some 20, none, .h (.call (.k (.fn 92 [])) [(.t 19), (.k (.fn 93 []))])⟩])
 (.cond (.t 20)
 (.seq (.ops [⟨some 21, none, .p (.build (.ints 133) [])⟩,
 ⟨none, none, .h (.store 133 (.t 6) (.t 21))⟩,
 ⟨some 7, none, .p (.mv (.k (.s (.int .i64 6))))⟩])
 .ret)
 .skip))
 (.seq (.seq (.ops [⟨some 22, none, .p (.mv (.t 2))⟩,
 ⟨some 23, none, .p (.len (.t 22))⟩,
 ⟨some 24, none, .p (.mv (.k (.s (.int .i64 0))))⟩])
 (.block 0 (.loop (.seq (.ops [⟨some 25, none, .p (.bin .lss (.t 24) (.t 23))⟩])
 (.seq (.cond (.t 25)
 .skip
 (.exit 0))
 (.seq (.block 1 (.seq (.ops [⟨some 26, none, .p (.ixs 1 (.t 22) (.t 24))⟩,
 ⟨some 27, none, .h (.load false 1 (.t 26))⟩,
 ⟨some 9, none, .p (.mv (.t 27))⟩])
 (.ops [⟨some 28, none, .p (.mv (.t 9))⟩,
 ⟨some 29, none, .h (.load true 2 (.t 4))⟩,
 ⟨some 30, none, .p (.fa 0 128 (.t 3))⟩,
 ⟨some 31, none, .p (.ixa 64 2 (.t 30) (.t 28))⟩,
 ⟨none, none, .h (.store 2 (.t 31) (.t 29))⟩])))
 (.ops [⟨some 32, none, .p (.bin .add (.t 24) (.k (.s (.int .i64 1))))⟩,
 ⟨some 24, none, .p (.mv (.t 32))⟩])))))))
 (.seq (.ops [⟨some 33, none, .h (.load true 133 (.t 3))⟩,
 ⟨none, none, .h (.store 133 (.t 6) (.t 33))⟩,
 ⟨some 7, none, .p (.mv (.k (.s (.int .i64 0))))⟩])
 .ret)))))⟩
theorem c59 : compF Try.prog Try.f59 = some a59 := by kernel_rfl
/-- zugzwang/board.King -/
def a60 : AF := ⟨10, [.tmp 4],
 (.seq (.ops [⟨some 2, none, .h (.box (.t 0))⟩,
 ⟨some 4, none, .p (.mv (.k (.s (.int .i64 0))))⟩])
 (.seq (.ops [⟨some 5, none, .p (.fa 0 128 (.t 2))⟩,
 ⟨some 6, none, .p (.slA 64 2 (.t 5) none none)⟩,
 ⟨some 7, none, .p (.mv (.t 1))⟩,
 ⟨some 8, none, .p (.build (.ints 2) [(0, 1, (.k (.s (.int .i64 6)))), (1, 1, (.t 7))])⟩,
 ⟨some 9, none, .h (.call (.k (.fn 94 [])) [(.t 6), (.t 8)])⟩,
 ⟨some 4, none, .p (.mv (.t 9))⟩])
 .ret))⟩
theorem c60 : compF Try.prog Try.f60 = some a60 := by kernel_rfl
/-- zugzwang/zugzwanglaw08.awake -/
def a61 : AF := ⟨61, [.tmp 0],
 (.seq (.ops [⟨some 0, none, .p (.mv (.k (.s (.bool false))))⟩])
 (.seq (.ops [⟨some 6, none, .h (.call (.k (.fn 29 [])) [])⟩,
 ⟨some 7, none, .p (.build (.ints 3) [(0, 1, (.k (.s (.int .i64 12)))), (1, 1, (.k (.s (.int .i64 28))))])⟩,
 ⟨some 8, none, .h (.mksl 1 3 (.ints 3) [(0, (.t 7))])⟩,
 ⟨some 9, none, .h (.call (.k (.fn 62 [])) [(.t 6), (.t 8)])⟩,
 ⟨some 5, none, .p (.mv (.t 9))⟩,
 ⟨some 10, none, .p (.ext (.t 5) 0)⟩,
 ⟨some 11, none, .p (.ext (.t 5) 1)⟩,
 ⟨some 1, none, .h (.alloc (.ints 133))⟩,
 ⟨none, none, .h (.store 133 (.t 1) (.t 10))⟩,
 ⟨some 2, none, .p (.mv (.t 11))⟩])
 (.seq (.ops [⟨some 13, none, .h (.load true 133 (.t 1))⟩,
 ⟨some 14, none, .p (.build (.ints 3) [(0, 1, (.k (.s (.int .i64 62)))), (1, 1, (.k (.s (.int .i64 45))))])⟩,
 ⟨some 15, none, .h (.call (.k (.fn 64 [])) [(.t 13), (.t 14)])⟩,
 ⟨some 12, none, .p (.mv (.t 15))⟩,
 ⟨some 16, none, .p (.ext (.t 12) 0)⟩,
 ⟨some 17, none, .p (.ext (.t 12) 1)⟩,
 ⟨some 3, none, .h (.alloc (.ints 133))⟩,
 ⟨none, none, .h (.store 133 (.t 3) (.t 16))⟩,
 ⟨some 4, none, .p (.mv (.t 17))⟩])
 (.seq (.ops [⟨some 18, none, .p (.mv (.t 2))⟩,
 ⟨some 19, none, .p (.bin .eql (.t 18) (.k (.s (.int .i64 0))))⟩,
 ⟨some 20, none, .p (.mv (.t 19))⟩,
 ⟨some 21, some (20, true), .p (.fa 130 1 (.t 1))⟩,
 ⟨some 22, some (20, true), .h (.load false 1 (.t 21))⟩,
 ⟨some 23, some (20, true), .p (.bin .eql (.t 22) (.k (.s (.int .i64 20))))⟩,
 ⟨some 24, none, .p (.pick (.t 20) (.t 23) (.k (.s (.bool false))))⟩,
 ⟨some 25, none, .p (.mv (.t 24))⟩,
 ⟨some 26, some (25, true), .p (.fa 131 1 (.t 1))⟩,
 ⟨some 27, some (25, true), .h (.load false 1 (.t 26))⟩,
 ⟨some 28, some (25, true), .p (.bin .eql (.t 27) (.k (.s (.int .i64 0))))⟩,
 ⟨some 29, none, .p (.pick (.t 25) (.t 28) (.k (.s (.bool false))))⟩,
 ⟨some 30, none, .p (.mv (.t 29))⟩,
 ⟨some 31, some (30, true), .p (.fa 132 1 (.t 1))⟩,
 ⟨some 32, some (30, true), .h (.load false 1 (.t 31))⟩,
 ⟨some 33, some (30, true), .p (.bin .eql (.t 32) (.k (.s (.int .i64 1))))⟩,
 ⟨some 34, none, .p (.pick (.t 30) (.t 33) (.k (.s (.bool false))))⟩,
 ⟨some 35, none, .p (.mv (.t 34))⟩,
 ⟨some 36, some (35, true), .p (.mv (.t 4))⟩,
 ⟨some 37, some (35, true), .p (.bin .eql (.t 36) (.k (.s (.int .i64 0))))⟩,
 ⟨some 38, none, .p (.pick (.t 35) (.t 37) (.k (.s (.bool false))))⟩,
 ⟨some 39, none, .p (.mv (.t 38))⟩,
 ⟨some 40, some (39, true), .p (.fa 131 1 (.t 3))⟩,
 ⟨some 41, some (39, true), .h (.load false 1 (.t 40))⟩,
 ⟨some 42, some (39, true), .p (.bin .eql (.t 41) (.k (.s (.int .i64 1))))⟩,
 ⟨some 43, none, .p (.pick (.t 39) (.t 42) (.k (.s (.bool false))))⟩,
 ⟨some 44, none, .p (.mv (.t 43))⟩,
 ⟨some 45, some (44, true), .p (.fa 132 1 (.t 3))⟩,
 ⟨some 46, some (44, true), .h (.load false 1 (.t 45))⟩,
 ⟨some 47, some (44, true), .p (.bin .eql (.t 46) (.k (.s (.int .i64 2))))⟩,
 ⟨some 48, none, .p (.pick (.t 44) (.t 47) (.k (.s (.bool false))))⟩,
 ⟨some 49, none, .p (.mv (.t 48))⟩,
 ⟨some 50, some (49, true), .p (.fa 130 1 (.t 3))⟩,
 ⟨some 51, some (49, true), .h (.load false 1 (.t 50))⟩,
 ⟨some 52, some (49, true), .p (.bin .eql (.t 51) (.k (.s (.int .i64 (-1)))))⟩,
 ⟨some 53, none, .p (.pick (.t 49) (.t 52) (.k (.s (.bool false))))⟩,
 ⟨some 54, none, .p (.mv (.t 53))⟩,
 ⟨some 55, some (54, true), .p (.fa 0 128 (.t 3))⟩,
 ⟨some 56, some (54, true), .p (.ixa 64 2 (.t 55) (.k (.s (.int .i64 45))))⟩,
 ⟨some 57, some (54, true), .p (.fa 0 1 (.t 56))⟩,
 ⟨some 58, some (54, true), .h (.load false 1 (.t 57))⟩,
 ⟨some 59, some (54, true), .p (.bin .eql (.t 58) (.k (.s (.int .i64 2))))⟩,
 ⟨some 60, none, .p (.pick (.t 54) (.t 59) (.k (.s (.bool false))))⟩,
 ⟨some 0, none, .p (.mv (.t 60))⟩])
 .ret))))⟩
theorem c61 : compF Try.prog Try.f61 = some a61 := by kernel_rfl
/-- zugzwang/play.Moves -/
def a62 : AF := ⟨29, [.cell 4 true 133, .tmp 5],
 (.seq (.ops [⟨some 2, none, .h (.box (.t 0))⟩,
 ⟨some 4, none, .h (.alloc (.ints 133))⟩,
 ⟨some 5, none, .p (.mv (.k (.s (.int .i64 0))))⟩])
 (.seq (.seq (.ops [⟨some 10, none, .p (.mv (.t 1))⟩,
 ⟨some 11, none, .p (.len (.t 10))⟩,
 ⟨some 12, none, .p (.mv (.k (.s (.int .i64 0))))⟩])
 (.block 0 (.loop (.seq (.ops [⟨some 13, none, .p (.bin .lss (.t 12) (.t 11))⟩])
 (.seq (.cond (.t 13)
 .skip
 (.exit 0))
 (.seq (.block 1 (.seq (.ops [⟨some 14, none, .p (.ixs 3 (.t 10) (.t 12))⟩,
 ⟨some 15, none, .h (.load true 3 (.t 14))⟩,
 ⟨some 7, none, .h (.alloc (.ints 3))⟩,
 ⟨none, none, .h (.store 3 (.t 7) (.t 15))⟩])
 (.seq (.ops [⟨some 17, none, .h (.load true 133 (.t 2))⟩,
 ⟨some 18, none, .h (.load true 3 (.t 7))⟩,
 ⟨some 19, none, .h (.call (.k (.fn 64 [])) [(.t 17), (.t 18)])⟩,
 ⟨some 16, none, .p (.mv (.t 19))⟩,
 ⟨some 20, none, .p (.ext (.t 16) 0)⟩,
 ⟨some 21, none, .p (.ext (.t 16) 1)⟩,
 ⟨some 8, none, .h (.alloc (.ints 133))⟩,
 ⟨none, none, .h (.store 133 (.t 8) (.t 20))⟩,
 ⟨some 9, none, .p (.mv (.t 21))⟩])
 (.seq (.seq (.ops [⟨some 22, none, .p (.mv (.t 9))⟩,
 ⟨some 23, none, .p (.bin .neq (.t 22) (.k (.s (.int .i64 0))))⟩])
 (.cond (.t 23)
 (.seq (.ops [⟨some 24, none, .p (.build (.ints 133) [])⟩,
 ⟨some 25, none, .p (.mv (.t 9))⟩,
 ⟨none, none, .h (.store 133 (.t 4) (.t 24))⟩,
 ⟨some 5, none, .p (.mv (.t 25))⟩])
 .ret)
 .skip))
 (.ops [⟨some 26, none, .h (.load true 133 (.t 8))⟩,
 ⟨none, none, .h (.store 133 (.t 2) (.t 26))⟩])))))
 (.ops [⟨some 27, none, .p (.bin .add (.t 12) (.k (.s (.int .i64 1))))⟩,
 ⟨some 12, none, .p (.mv (.t 27))⟩])))))))
 (.seq (.ops [⟨some 28, none, .h (.load true 133 (.t 2))⟩,
 ⟨none, none, .h (.store 133 (.t 4) (.t 28))⟩,
 ⟨some 5, none, .p (.mv (.k (.s (.int .i64 0))))⟩])
 .ret)))⟩
theorem c62 : compF Try.prog Try.f62 = some a62 := by kernel_rfl
/-- zugzwang/zugzwangref08.Moves -/
def a63 : AF := ⟨30, [.cell 4 true 133, .tmp 5],
 (.seq (.ops [⟨some 2, none, .h (.box (.t 0))⟩,
 ⟨some 4, none, .h (.alloc (.ints 133))⟩,
 ⟨some 5, none, .p (.mv (.k (.s (.int .i64 0))))⟩])
 (.seq (.seq (.ops [⟨some 6, none, .p (.mv (.k (.s (.int .i64 0))))⟩])
 (.block 0 (.loop (.seq (.seq (.ops [⟨some 9, none, .p (.mv (.t 6))⟩,
 ⟨some 10, none, .p (.mv (.t 1))⟩,
 ⟨some 11, none, .p (.len (.t 10))⟩,
 ⟨some 12, none, .p (.bin .lss (.t 9) (.t 11))⟩])
 (.cond (.t 12)
 .skip
 (.exit 0)))
 (.seq (.block 1 (.seq (.ops [⟨some 16, none, .h (.load true 133 (.t 2))⟩,
 ⟨some 17, none, .p (.mv (.t 1))⟩,
 ⟨some 18, none, .p (.mv (.t 6))⟩,
 ⟨some 19, none, .p (.ixs 3 (.t 17) (.t 18))⟩,
 ⟨some 20, none, .h (.load true 3 (.t 19))⟩,
 ⟨some 21, none, .h (.callq (.k (.fn 65 [])) [(.t 16), (.t 20)])⟩,
 ⟨some 15, none, .p (.mv (.t 21))⟩,
 ⟨some 22, none, .p (.ext (.t 15) 0)⟩,
 ⟨some 23, none, .p (.ext (.t 15) 1)⟩,
 ⟨some 7, none, .h (.alloc (.ints 133))⟩,
 ⟨none, none, .h (.store 133 (.t 7) (.t 22))⟩,
 ⟨some 8, none, .p (.mv (.t 23))⟩])
 (.seq (.seq (.ops [⟨some 24, none, .p (.mv (.t 8))⟩,
 ⟨some 25, none, .p (.bin .neq (.t 24) (.k (.s (.int .i64 0))))⟩])
 (.cond (.t 25)
 (.seq (.ops [⟨some 26, none, .p (.build (.ints 133) [])⟩,
 ⟨some 27, none, .p (.mv (.t 8))⟩,
 ⟨none, none, .h (.store 133 (.t 4) (.t 26))⟩,
 ⟨some 5, none, .p (.mv (.t 27))⟩])
 .ret)
 .skip))
 (.ops [⟨some 28, none, .h (.load true 133 (.t 7))⟩,
 ⟨none, none, .h (.store 133 (.t 2) (.t 28))⟩]))))
 (.ops [⟨some 13, none, .p (.mv (.t 6))⟩,
 ⟨some 14, none, .p (.bin .add (.t 13) (.k (.s (.int .i64 1))))⟩,
 ⟨some 6, none, .p (.mv (.t 14))⟩]))))))
 (.seq (.ops [⟨some 29, none, .h (.load true 133 (.t 2))⟩,
 ⟨none, none, .h (.store 133 (.t 4) (.t 29))⟩,
 ⟨some 5, none, .p (.mv (.k (.s (.int .i64 0))))⟩])
 .ret)))⟩
theorem c63 : compF Try.prog Try.f63 = some a63 := by kernel_rfl
/-- zugzwang/play.Move -/
def a64 : AF := ⟨20, [.cell 4 true 133, .tmp 5],
 (.seq (.ops [⟨some 2, none, .h (.box (.t 0))⟩,
 ⟨some 3, none, .h (.box (.t 1))⟩,
 ⟨some 4, none, .h (.alloc (.ints 133))⟩,
 ⟨some 5, none, .p (.mv (.k (.s (.int .i64 0))))⟩])
 (.seq (.ops [⟨some 9, none, .h (.load true 133 (.t 2))⟩,
 ⟨some 10, none, .h (.load true 3 (.t 3))⟩,
 ⟨some 11, none, .h (.call (.k (.fn 95 [])) [(.t 9), (.t 10)])⟩,
 ⟨some 8, none, .p (.mv (.t 11))⟩,
 ⟨some 12, none, .p (.ext (.t 8) 0)⟩,
 ⟨some 13, none, .p (.ext (.t 8) 1)⟩,
 ⟨some 6, none, .p (.mv (.t 12))⟩,
 ⟨some 7, none, .p (.mv (.t 13))⟩])
 (.seq (.seq (.ops [⟨some 14, none, .p (.mv (.t 7))⟩,
 ⟨some 15, none, .p (.bin .neq (.t 14) (.k (.s (.int .i64 0))))⟩])
 (.cond (.t 15)
 (.seq (.ops [⟨some 16, none, .p (.build (.ints 133) [])⟩,
 ⟨some 17, none, .p (.mv (.t 7))⟩,
 ⟨none, none, .h (.store 133 (.t 4) (.t 16))⟩,
 ⟨some 5, none, .p (.mv (.t 17))⟩])
 .ret)
 .skip))
 (.seq (.ops [⟨some 18, none, .p (.mv (.t 6))⟩,
 ⟨some 19, none, .h (.call (.k (.fn 96 [])) [(.t 18)])⟩,
 ⟨none, none, .h (.store 133 (.t 4) (.t 19))⟩,
 ⟨some 5, none, .p (.mv (.k (.s (.int .i64 0))))⟩])
 .ret))))⟩
theorem c64 : compF Try.prog Try.f64 = some a64 := by kernel_rfl
/-- zugzwang/zugzwangref08.Move -/
def a65 : AF := ⟨150, [.cell 4 true 133, .tmp 5],
 (.seq (.ops [⟨some 2, none, .h (.box (.t 0))⟩,
 ⟨some 3, none, .h (.box (.t 1))⟩,
 ⟨some 4, none, .h (.alloc (.ints 133))⟩,
 ⟨some 5, none, .p (.mv (.k (.s (.int .i64 0))))⟩])
 (.seq (.seq (.ops [⟨some 9, none, .p (.fa 0 1 (.t 3))⟩,
 ⟨some 10, none, .h (.load false 1 (.t 9))⟩,
 ⟨some 11, none, .h (.call (.k (.fn 97 [])) [(.t 10)])⟩,
 ⟨some 12, none, .p (.un .not (.t 11))⟩,
 ⟨some 13, none, .p (.mv (.t 12))⟩,
 ⟨some 14, some (13, false), .p (.fa 1 1 (.t 3))⟩,
 ⟨some 15, some (13, false), .h (.load false 1 (.t 14))⟩,
 ⟨some 16, some (13, false), .h (.call (.k (.fn 97 [])) [(.t 15)])⟩,
 ⟨some 17, some (13, false), .p (.un .not (.t 16))⟩,
 ⟨some 18, none, .p (.pick (.t 13) (.k (.s (.bool true))) (.t 17))⟩,
 ⟨some 19, none, .p (.mv (.t 18))⟩,
 ⟨some 20, some (19, false), .p (.fa 0 1 (.t 3))⟩,
 ⟨some 21, some (19, false), .h (.load false 1 (.t 20))⟩,
 ⟨some 22, some (19, false), .p (.fa 1 1 (.t 3))⟩,
 ⟨some 23, some (19, false), .h (.load false 1 (.t 22))⟩,
 ⟨some 24, some (19, false), .p (.bin .eql (.t 21) (.t 23))⟩,
 ⟨some 25, none, .p (.pick (.t 19) (.k (.s (.bool true))) (.t 24))⟩])
 (.cond (.t 25)
 (.seq (.ops [⟨some 26, none, .p (.build (.ints 133) [])⟩,
 ⟨none, none, .h (.store 133 (.t 4) (.t 26))⟩,
 ⟨some 5, none, .p (.mv (.k (.s (.int .i64 6))))⟩])
 .ret)
 .skip))
 (.seq (.seq (.ops [⟨some 27, none, .h (.load true 133 (.t 2))⟩,
 ⟨some 28, none, .h (.load true 3 (.t 3))⟩,
 ⟨some 29, none, .h (.call (.k (.fn 98 [])) [(.t 27), (.t 28)])⟩,
 ⟨some 30, none, .p (.un .not (.t 29))⟩])
 (.cond (.t 30)
 (.seq (.ops [⟨some 31, none, .p (.build (.ints 133) [])⟩,
 ⟨none, none, .h (.store 133 (.t 4) (.t 31))⟩,
 ⟨some 5, none, .p (.mv (.k (.s (.int .i64 8))))⟩])
 .ret)
 .skip))
 (.seq (.ops [⟨some 32, none, .p (.fa 0 1 (.t 3))⟩,
 ⟨some 33, none, .h (.load false 1 (.t 32))⟩,
 ⟨some 34, none, .p (.fa 0 128 (.t 2))⟩,
 ⟨some 35, none, .p (.ixa 64 2 (.t 34) (.t 33))⟩,
 ⟨some 36, none, .h (.load true 2 (.t 35))⟩,
 ⟨some 6, none, .h (.alloc (.ints 2))⟩,
 ⟨none, none, .h (.store 2 (.t 6) (.t 36))⟩])
 (.seq (.ops [⟨some 37, none, .h (.load true 133 (.t 2))⟩,
 ⟨some 7, none, .h (.alloc (.ints 133))⟩,
 ⟨none, none, .h (.store 133 (.t 7) (.t 37))⟩])
 (.seq (.ops [⟨some 38, none, .h (.load true 133 (.t 2))⟩,
 ⟨some 39, none, .h (.load true 3 (.t 3))⟩,
 ⟨some 40, none, .h (.call (.k (.fn 67 [])) [(.t 38), (.t 39)])⟩,
 ⟨some 8, none, .p (.mv (.t 40))⟩])
 (.seq (.seq (.ops [⟨some 41, none, .p (.mv (.t 8))⟩,
 ⟨some 42, none, .p (.bin .geq (.t 41) (.k (.s (.int .i64 0))))⟩])
 (.cond (.t 42)
 (.ops [⟨some 43, none, .p (.mv (.t 8))⟩,
 ⟨some 44, none, .p (.build (.ints 2) [])⟩,
 ⟨some 45, none, .p (.fa 0 128 (.t 7))⟩,
 ⟨some 46, none, .p (.ixa 64 2 (.t 45) (.t 43))⟩,
 ⟨none, none, .h (.store 2 (.t 46) (.t 44))⟩])
 .skip))
 (.seq (.ops [⟨some 47, none, .p (.fa 0 1 (.t 3))⟩,
 ⟨some 48, none, .h (.load false 1 (.t 47))⟩,
 ⟨some 49, none, .p (.build (.ints 2) [])⟩,
 ⟨some 50, none, .p (.fa 0 128 (.t 7))⟩,
 ⟨some 51, none, .p (.ixa 64 2 (.t 50) (.t 48))⟩,
 ⟨none, none, .h (.store 2 (.t 51) (.t 49))⟩])
 (.seq (.ops [⟨some 52, none, .p (.fa 1 1 (.t 3))⟩,
 ⟨some 53, none, .h (.load false 1 (.t 52))⟩,
 ⟨some 54, none, .h (.load true 2 (.t 6))⟩,
 ⟨some 55, none, .p (.fa 0 128 (.t 7))⟩,
 ⟨some 56, none, .p (.ixa 64 2 (.t 55) (.t 53))⟩,
 ⟨none, none, .h (.store 2 (.t 56) (.t 54))⟩])
 (.seq (.seq (.ops [⟨some 57, none, .p (.fa 2 1 (.t 3))⟩,
 ⟨some 58, none, .h (.load false 1 (.t 57))⟩,
 ⟨some 59, none, .p (.bin .neq (.t 58) (.k (.s (.int .i64 0))))⟩])
 (.cond (.t 59)
 (.ops [⟨some 60, none, .p (.fa 1 1 (.t 3))⟩,
 ⟨some 61, none, .h (.load false 1 (.t 60))⟩,
 ⟨some 62, none, .p (.fa 2 1 (.t 3))⟩,
 ⟨some 63, none, .h (.load false 1 (.t 62))⟩,
 ⟨some 64, none, .p (.fa 0 128 (.t 7))⟩,
 ⟨some 65, none, .p (.ixa 64 2 (.t 64) (.t 61))⟩,
 ⟨some 66, none, .p (.fa 0 1 (.t 65))⟩,
 ⟨none, none, .h (.store 1 (.t 66) (.t 63))⟩])
 .skip))
 (.seq (.seq (.ops [⟨some 67, none, .h (.load true 133 (.t 2))⟩,
 ⟨some 68, none, .h (.load true 3 (.t 3))⟩,
 ⟨some 69, none, .h (.call (.k (.fn 99 [])) [(.t 67), (.t 68)])⟩])
 (.block 0 (.seq (.ops [⟨some 71, none, .p (.bin .eql (.t 69) (.k (.s (.int .i64 1))))⟩,
 ⟨some 70, none, .p (.mv (.t 71))⟩])
 (.cond (.t 70)
 (.seq (.ops [⟨some 72, none, .p (.fa 0 1 (.t 3))⟩,
 ⟨some 73, none, .h (.load false 1 (.t 72))⟩,
 ⟨some 74, none, .p (.bin .add (.t 73) (.k (.s (.int .i64 3))))⟩,
 ⟨some 75, none, .p (.build (.ints 2) [])⟩,
 ⟨some 76, none, .p (.fa 0 128 (.t 7))⟩,
 ⟨some 77, none, .p (.ixa 64 2 (.t 76) (.t 74))⟩,
 ⟨none, none, .h (.store 2 (.t 77) (.t 75))⟩])
 (.ops [⟨some 78, none, .p (.fa 0 1 (.t 3))⟩,
 ⟨some 79, none, .h (.load false 1 (.t 78))⟩,
 ⟨some 80, none, .p (.bin .add (.t 79) (.k (.s (.int .i64 1))))⟩,
 ⟨some 81, none, .p (.fa 1 1 (.t 6))⟩,
 ⟨some 82, none, .h (.load false 1 (.t 81))⟩,
 ⟨some 83, none, .p (.build (.ints 2) [(0, 1, (.k (.s (.int .i64 4)))), (1, 1, (.t 82))])⟩,
 ⟨some 84, none, .p (.fa 0 128 (.t 7))⟩,
 ⟨some 85, none, .p (.ixa 64 2 (.t 84) (.t 80))⟩,
 ⟨none, none, .h (.store 2 (.t 85) (.t 83))⟩]))
 (.seq (.ops [⟨some 87, none, .p (.bin .eql (.t 69) (.k (.s (.int .i64 (-1)))))⟩,
 ⟨some 86, none, .p (.mv (.t 87))⟩])
 (.cond (.t 86)
 (.seq (.ops [⟨some 88, none, .p (.fa 0 1 (.t 3))⟩,
 ⟨some 89, none, .h (.load false 1 (.t 88))⟩,
 ⟨some 90, none, .p (.bin .sub (.t 89) (.k (.s (.int .i64 4))))⟩,
 ⟨some 91, none, .p (.build (.ints 2) [])⟩,
 ⟨some 92, none, .p (.fa 0 128 (.t 7))⟩,
 ⟨some 93, none, .p (.ixa 64 2 (.t 92) (.t 90))⟩,
 ⟨none, none, .h (.store 2 (.t 93) (.t 91))⟩])
 (.ops [⟨some 94, none, .p (.fa 0 1 (.t 3))⟩,
 ⟨some 95, none, .h (.load false 1 (.t 94))⟩,
 ⟨some 96, none, .p (.bin .sub (.t 95) (.k (.s (.int .i64 1))))⟩,
 ⟨some 97, none, .p (.fa 1 1 (.t 6))⟩,
 ⟨some 98, none, .h (.load false 1 (.t 97))⟩,
 ⟨some 99, none, .p (.build (.ints 2) [(0, 1, (.k (.s (.int .i64 4)))), (1, 1, (.t 98))])⟩,
 ⟨some 100, none, .p (.fa 0 128 (.t 7))⟩,
 ⟨some 101, none, .p (.ixa 64 2 (.t 100) (.t 96))⟩,
 ⟨none, none, .h (.store 2 (.t 101) (.t 99))⟩]))
 .skip))))))
 (.seq (.ops [⟨some 102, none, .p (.fa 128 1 (.t 2))⟩,
 ⟨some 103, none, .h (.load false 1 (.t 102))⟩,
 ⟨some 104, none, .h (.call (.k (.fn 76 [])) [(.t 103)])⟩,
 ⟨some 105, none, .p (.fa 128 1 (.t 7))⟩,
 ⟨none, none, .h (.store 1 (.t 105) (.t 104))⟩])
 (.seq (.ops [⟨some 106, none, .h (.load true 133 (.t 2))⟩,
 ⟨some 107, none, .h (.callq (.k (.fn 101 [])) [(.t 106)])⟩,
 ⟨some 108, none, .p (.fa 0 1 (.t 3))⟩,
 ⟨some 109, none, .h (.load false 1 (.t 108))⟩,
 ⟨some 110, none, .h (.callq (.k (.fn 102 [])) [(.t 109)])⟩,
 ⟨some 111, none, .h (.callq (.k (.fn 100 [])) [(.t 107), (.t 110)])⟩,
 ⟨some 112, none, .p (.fa 1 1 (.t 3))⟩,
 ⟨some 113, none, .h (.load false 1 (.t 112))⟩,
 ⟨some 114, none, .h (.call (.k (.fn 102 [])) [(.t 113)])⟩,
 ⟨some 115, none, .h (.call (.k (.fn 100 [])) [(.t 111), (.t 114)])⟩,
 ⟨some 116, none, .p (.fa 129 1 (.t 7))⟩,
 ⟨none, none, .h (.store 1 (.t 116) (.t 115))⟩])
 (.seq (.ops [⟨some 117, none, .p (.fa 130 1 (.t 7))⟩,
 ⟨none, none, .h (.store 1 (.t 117) (.k (.s (.int .i64 (-1)))))⟩])
 (.seq (.seq (.ops [⟨some 118, none, .h (.load true 2 (.t 6))⟩,
 ⟨some 119, none, .h (.load true 3 (.t 3))⟩,
 ⟨some 120, none, .h (.call (.k (.fn 103 [])) [(.t 118), (.t 119)])⟩])
 (.cond (.t 120)
 (.ops [⟨some 121, none, .p (.fa 0 1 (.t 3))⟩,
 ⟨some 122, none, .h (.load false 1 (.t 121))⟩,
 ⟨some 123, none, .p (.fa 1 1 (.t 3))⟩,
 ⟨some 124, none, .h (.load false 1 (.t 123))⟩,
 ⟨some 125, none, .p (.bin .add (.t 122) (.t 124))⟩,
 ⟨some 126, none, .p (.bin .quo (.t 125) (.k (.s (.int .i64 2))))⟩,
 ⟨some 127, none, .p (.fa 130 1 (.t 7))⟩,
 ⟨none, none, .h (.store 1 (.t 127) (.t 126))⟩])
 .skip))
 (.seq (.ops [⟨some 128, none, .p (.fa 131 1 (.t 2))⟩,
 ⟨some 129, none, .h (.load false 1 (.t 128))⟩,
 ⟨some 130, none, .p (.mn [(.t 129), (.k (.s (.int .i64 1023)))])⟩,
 ⟨some 131, none, .p (.bin .add (.t 130) (.k (.s (.int .i64 1))))⟩,
 ⟨some 132, none, .p (.fa 131 1 (.t 7))⟩,
 ⟨none, none, .h (.store 1 (.t 132) (.t 131))⟩])
 (.seq (.seq (.ops [⟨some 133, none, .p (.fa 0 1 (.t 6))⟩,
 ⟨some 134, none, .h (.load false 1 (.t 133))⟩,
 ⟨some 135, none, .p (.bin .eql (.t 134) (.k (.s (.int .i64 1))))⟩,
 ⟨some 136, none, .p (.mv (.t 135))⟩,
 ⟨some 137, some (136, false), .p (.mv (.t 8))⟩,
 ⟨some 138, some (136, false), .p (.bin .geq (.t 137) (.k (.s (.int .i64 0))))⟩,
 ⟨some 139, none, .p (.pick (.t 136) (.k (.s (.bool true))) (.t 138))⟩])
 (.cond (.t 139)
 (.ops [⟨some 140, none, .p (.fa 131 1 (.t 7))⟩,
 ⟨none, none, .h (.store 1 (.t 140) (.k (.s (.int .i64 0))))⟩])
 .skip))
 (.seq (.seq (.ops [⟨some 141, none, .p (.fa 128 1 (.t 2))⟩,
 ⟨some 142, none, .h (.load false 1 (.t 141))⟩,
 ⟨some 143, none, .p (.bin .eql (.t 142) (.k (.s (.int .i64 1))))⟩])
 (.cond (.t 143)
 (.ops [⟨some 144, none, .p (.fa 132 1 (.t 2))⟩,
 ⟨some 145, none, .h (.load false 1 (.t 144))⟩,
 ⟨some 146, none, .p (.mn [(.t 145), (.k (.s (.int .i64 16383)))])⟩,
 ⟨some 147, none, .p (.bin .add (.t 146) (.k (.s (.int .i64 1))))⟩,
 ⟨some 148, none, .p (.fa 132 1 (.t 7))⟩,
 ⟨none, none, .h (.store 1 (.t 148) (.t 147))⟩])
 .skip))
 (.seq (.ops [⟨some 149, none, .h (.load true 133 (.t 7))⟩,
 ⟨none, none, .h (.store 133 (.t 4) (.t 149))⟩,
 ⟨some 5, none, .p (.mv (.k (.s (.int .i64 0))))⟩])
 .ret)))))))))))))))))))⟩
theorem c65 : compF Try.prog Try.f65 = some a65 := by kernel_rfl
/-- zugzwang/play.Takes -/
def a66 : AF := ⟨17, [.tmp 4],
 (.seq (.ops [⟨some 2, none, .h (.box (.t 0))⟩,
 ⟨some 3, none, .h (.box (.t 1))⟩,
 ⟨some 4, none, .p (.mv (.k (.s (.int .i64 0))))⟩])
 (.seq (.ops [⟨some 8, none, .h (.load true 133 (.t 2))⟩,
 ⟨some 9, none, .h (.load true 3 (.t 3))⟩,
 ⟨some 10, none, .h (.call (.k (.fn 95 [])) [(.t 8), (.t 9)])⟩,
 ⟨some 7, none, .p (.mv (.t 10))⟩,
 ⟨some 11, none, .p (.ext (.t 7) 0)⟩,
 ⟨some 12, none, .p (.ext (.t 7) 1)⟩,
 ⟨some 5, none, .p (.mv (.t 11))⟩,
 ⟨some 6, none, .p (.mv (.t 12))⟩])
 (.seq (.seq (.ops [⟨some 13, none, .p (.mv (.t 6))⟩,
 ⟨some 14, none, .p (.bin .neq (.t 13) (.k (.s (.int .i64 0))))⟩])
 (.cond (.t 14)
 (.seq (.ops [⟨some 4, none, .p (.mv (.k (.s (.int .i64 (-1)))))⟩])
 .ret)
 .skip))
 (.seq (.ops [⟨some 15, none, .p (.mv (.t 5))⟩,
 ⟨some 16, none, .h (.call (.k (.fn 104 [])) [(.t 15)])⟩,
 ⟨some 4, none, .p (.mv (.t 16))⟩])
 .ret))))⟩
theorem c66 : compF Try.prog Try.f66 = some a66 := by kernel_rfl
/-- zugzwang/zugzwangref08.Takes -/
def a67 : AF := ⟨49, [.tmp 4],
 (.seq (.ops [⟨some 2, none, .h (.box (.t 0))⟩,
 ⟨some 3, none, .h (.box (.t 1))⟩,
 ⟨some 4, none, .p (.mv (.k (.s (.int .i64 0))))⟩])
 (.seq (.seq (.ops [⟨some 6, none, .p (.fa 0 1 (.t 3))⟩,
 ⟨some 7, none, .h (.load false 1 (.t 6))⟩,
 ⟨some 8, none, .h (.call (.k (.fn 97 [])) [(.t 7)])⟩,
 ⟨some 9, none, .p (.un .not (.t 8))⟩,
 ⟨some 10, none, .p (.mv (.t 9))⟩,
 ⟨some 11, some (10, false), .p (.fa 1 1 (.t 3))⟩,
 ⟨some 12, some (10, false), .h (.load false 1 (.t 11))⟩,
 ⟨some 13, some (10, false), .h (.call (.k (.fn 97 [])) [(.t 12)])⟩,
 ⟨some 14, some (10, false), .p (.un .not (.t 13))⟩,
 ⟨some 15, none, .p (.pick (.t 10) (.k (.s (.bool true))) (.t 14))⟩,
 ⟨some 16, none, .p (.mv (.t 15))⟩,
 ⟨some 17, some (16, false), .p (.fa 0 1 (.t 3))⟩,
 ⟨some 18, some (16, false), .h (.load false 1 (.t 17))⟩,
 ⟨some 19, some (16, false), .p (.fa 1 1 (.t 3))⟩,
 ⟨some 20, some (16, false), .h (.load false 1 (.t 19))⟩,
 ⟨some 21, some (16, false), .p (.bin .eql (.t 18) (.t 20))⟩,
 ⟨some 22, none, .p (.pick (.t 16) (.k (.s (.bool true))) (.t 21))⟩,
 ⟨some 23, none, .p (.mv (.t 22))⟩,
 ⟨some 24, some (23, false), .h (.load true 133 (.t 2))⟩,
 ⟨some 25, some (23, false), .h (.load true 3 (.t 3))⟩,
 ⟨some 26, some (23, false), .h (.call (.k (.fn 98 [])) [(.t 24), (.t 25)])⟩,
 ⟨some 27, some (23, false), .p (.un .not (.t 26))⟩,
 ⟨some 28, none, .p (.pick (.t 23) (.k (.s (.bool true))) (.t 27))⟩])
 (.cond (.t 28)
 (.seq (.ops [⟨some 4, none, .p (.mv (.k (.s (.int .i64 (-1)))))⟩])
 .ret)
 .skip))
 (.seq (.ops [⟨some 29, none, .p (.fa 1 1 (.t 3))⟩,
 ⟨some 30, none, .h (.load false 1 (.t 29))⟩,
 ⟨some 5, none, .p (.mv (.t 30))⟩])
 (.seq (.seq (.ops [⟨some 31, none, .h (.load true 133 (.t 2))⟩,
 ⟨some 32, none, .h (.load true 3 (.t 3))⟩,
 ⟨some 33, none, .h (.call (.k (.fn 105 [])) [(.t 31), (.t 32)])⟩])
 (.cond (.t 33)
 (.ops [⟨some 34, none, .p (.fa 0 1 (.t 3))⟩,
 ⟨some 35, none, .h (.load false 1 (.t 34))⟩,
 ⟨some 36, none, .p (.bin .quo (.t 35) (.k (.s (.int .i64 8))))⟩,
 ⟨some 37, none, .p (.bin .mul (.t 36) (.k (.s (.int .i64 8))))⟩,
 ⟨some 38, none, .p (.fa 1 1 (.t 3))⟩,
 ⟨some 39, none, .h (.load false 1 (.t 38))⟩,
 ⟨some 40, none, .p (.bin .rem (.t 39) (.k (.s (.int .i64 8))))⟩,
 ⟨some 41, none, .p (.bin .add (.t 37) (.t 40))⟩,
 ⟨some 5, none, .p (.mv (.t 41))⟩])
 .skip))
 (.seq (.seq (.ops [⟨some 42, none, .p (.mv (.t 5))⟩,
 ⟨some 43, none, .p (.fa 0 128 (.t 2))⟩,
 ⟨some 44, none, .p (.ixa 64 2 (.t 43) (.t 42))⟩,
 ⟨some 45, none, .h (.load true 2 (.t 44))⟩,
 ⟨some 46, none, .p (.build (.ints 2) [])⟩,
 ⟨some 47, none, .p (.eqa false 2 (.t 45) (.t 46))⟩])
 (.cond (.t 47)
 (.seq (.ops [⟨some 4, none, .p (.mv (.k (.s (.int .i64 (-1)))))⟩])
 .ret)
 .skip))
 (.seq (.ops [⟨some 48, none, .p (.mv (.t 5))⟩,
 ⟨some 4, none, .p (.mv (.t 48))⟩])
 .ret))))))⟩
theorem c67 : compF Try.prog Try.f67 = some a67 := by kernel_rfl
/-- zugzwang/zugzwangref06.Empty -/
def a68 : AF := ⟨2, [.cell 0 true 133],
 (.seq (.ops [⟨some 0, none, .h (.alloc (.ints 133))⟩])
 (.seq (.ops [⟨some 1, none, .p (.build (.ints 133) [(130, 1, (.k (.s (.int .i64 (-1))))), (132, 1, (.k (.s (.int .i64 1))))])⟩,
 ⟨none, none, .h (.store 133 (.t 0) (.t 1))⟩])
 .ret))⟩
theorem c68 : compF Try.prog Try.f68 = some a68 := by kernel_rfl
/-- zugzwang/zugzwangkit.LentInts -/
def a69 : AF := ⟨25, [.tmp 2],
 (.seq (.ops [⟨some 2, none, .p (.mv (.k .snil))⟩])
 (.seq (.ops [⟨some 5, none, .p (.mv (.t 0))⟩,
 ⟨some 6, none, .p (.len (.t 5))⟩,
 ⟨some 7, none, .p (.bin .add (.t 6) (.k (.s (.int .i64 12))))⟩,
 ⟨some 8, none, .h (.mkslice 1 8 (.one (.s (.int .i64 0))) (.k (.s (.int .i64 0))) (.t 7))⟩,
 ⟨some 3, none, .p (.mv (.t 8))⟩])
 (.seq (.ops [⟨some 9, none, .p (.mv (.t 3))⟩,
 ⟨some 10, none, .p (.mv (.t 0))⟩,
 ⟨some 11, none, .h (.append 1 8 (.t 9) (.t 10))⟩,
 ⟨some 3, none, .p (.mv (.t 11))⟩])
 (.seq (.seq (.ops [⟨some 4, none, .p (.mv (.k (.s (.int .i64 0))))⟩])
 (.block 0 (.loop (.seq (.seq (.ops [⟨some 12, none, .p (.mv (.t 4))⟩,
 ⟨some 13, none, .p (.bin .lss (.t 12) (.k (.s (.int .i64 12))))⟩])
 (.cond (.t 13)
 .skip
 (.exit 0)))
 (.seq (.block 1 (.ops [⟨some 16, none, .p (.mv (.t 3))⟩,
 ⟨some 17, none, .p (.mv (.t 4))⟩,
 ⟨some 18, none, .h (.call (.k (.fn 106 [])) [(.k (.s (.int .i64 1))), (.t 17)])⟩,
 ⟨some 19, none, .h (.mksl 1 1 (.one (.s (.int .i64 0))) [(0, (.t 18))])⟩,
 ⟨some 20, none, .h (.append 1 8 (.t 16) (.t 19))⟩,
 ⟨some 3, none, .p (.mv (.t 20))⟩]))
 (.ops [⟨some 14, none, .p (.mv (.t 4))⟩,
 ⟨some 15, none, .p (.bin .add (.t 14) (.k (.s (.int .i64 1))))⟩,
 ⟨some 4, none, .p (.mv (.t 15))⟩]))))))
 (.seq (.ops [⟨some 21, none, .p (.mv (.t 3))⟩,
 ⟨some 22, none, .p (.mv (.t 0))⟩,
 ⟨some 23, none, .p (.len (.t 22))⟩,
 ⟨some 24, none, .p (.slV 1 (.t 21) none (some (.t 23)))⟩,
 ⟨some 2, none, .p (.mv (.t 24))⟩])
 .ret)))))⟩
theorem c69 : compF Try.prog Try.f69 = some a69 := by kernel_rfl
/-- zugzwang/zugzwangref06.Put -/
def a70 : AF := ⟨52, [.cell 6 true 133, .tmp 7],
 (.seq (.ops [⟨some 3, none, .h (.box (.t 0))⟩,
 ⟨some 4, none, .h (.box (.t 1))⟩,
 ⟨some 6, none, .h (.alloc (.ints 133))⟩,
 ⟨some 7, none, .p (.mv (.k (.s (.int .i64 0))))⟩])
 (.seq (.seq (.ops [⟨some 10, none, .h (.load true 2 (.t 4))⟩,
 ⟨some 11, none, .h (.call (.k (.fn 107 [])) [(.t 10)])⟩,
 ⟨some 12, none, .p (.un .not (.t 11))⟩,
 ⟨some 13, none, .p (.mv (.t 12))⟩,
 ⟨some 14, some (13, true), .h (.load true 2 (.t 4))⟩,
 ⟨some 15, some (13, true), .h (.call (.k (.fn 55 [])) [(.t 14)])⟩,
 ⟨some 16, some (13, true), .p (.un .not (.t 15))⟩,
 ⟨some 17, none, .p (.pick (.t 13) (.t 16) (.k (.s (.bool false))))⟩])
 (.cond (.t 17)
 (.seq (.ops [⟨some 18, none, .p (.build (.ints 133) [])⟩,
 ⟨none, none, .h (.store 133 (.t 6) (.t 18))⟩,
 ⟨some 7, none, .p (.mv (.k (.s (.int .i64 2))))⟩])
 .ret)
 .skip))
 (.seq (.seq (.ops [⟨some 8, none, .p (.mv (.k (.s (.int .i64 0))))⟩])
 (.block 0 (.loop (.seq (.seq (.ops [⟨some 19, none, .p (.mv (.t 8))⟩,
 ⟨some 20, none, .p (.mv (.t 2))⟩,
 ⟨some 21, none, .p (.len (.t 20))⟩,
 ⟨some 22, none, .p (.bin .lss (.t 19) (.t 21))⟩])
 (.cond (.t 22)
 .skip
 (.exit 0)))
 (.seq (.block 1 (.seq (.ops [⟨some 25, none, .p (.mv (.t 2))⟩,
 ⟨some 26, none, .p (.mv (.t 8))⟩,
 ⟨some 27, none, .p (.ixs 1 (.t 25) (.t 26))⟩,
 ⟨some 28, none, .h (.load false 1 (.t 27))⟩,
 ⟨some 29, none, .p (.bin .lss (.t 28) (.k (.s (.int .i64 0))))⟩,
 ⟨some 30, none, .p (.mv (.t 29))⟩,
 ⟨some 31, some (30, false), .p (.mv (.t 2))⟩,
 ⟨some 32, some (30, false), .p (.mv (.t 8))⟩,
 ⟨some 33, some (30, false), .p (.ixs 1 (.t 31) (.t 32))⟩,
 ⟨some 34, some (30, false), .h (.load false 1 (.t 33))⟩,
 ⟨some 35, some (30, false), .p (.bin .gtr (.t 34) (.k (.s (.int .i64 63))))⟩,
 ⟨some 36, none, .p (.pick (.t 30) (.k (.s (.bool true))) (.t 35))⟩])
 (.cond (.t 36)
 (.seq (.ops [⟨some 37, none, .p (.build (.ints 133) [])⟩,
 ⟨none, none, .h (.store 133 (.t 6) (.t 37))⟩,
 ⟨some 7, none, .p (.mv (.k (.s (.int .i64 6))))⟩])
 .ret)
 .skip)))
 (.ops [⟨some 23, none, .p (.mv (.t 8))⟩,
 ⟨some 24, none, .p (.bin .add (.t 23) (.k (.s (.int .i64 1))))⟩,
 ⟨some 8, none, .p (.mv (.t 24))⟩]))))))
 (.seq (.seq (.ops [⟨some 9, none, .p (.mv (.k (.s (.int .i64 0))))⟩])
 (.block 2 (.loop (.seq (.seq (.ops [⟨some 38, none, .p (.mv (.t 9))⟩,
 ⟨some 39, none, .p (.mv (.t 2))⟩,
 ⟨some 40, none, .p (.len (.t 39))⟩,
 ⟨some 41, none, .p (.bin .lss (.t 38) (.t 40))⟩])
 (.cond (.t 41)
 .skip
 (.exit 2)))
 (.seq (.block 3 (.ops [⟨some 44, none, .p (.mv (.t 2))⟩,
 ⟨some 45, none, .p (.mv (.t 9))⟩,
 ⟨some 46, none, .p (.ixs 1 (.t 44) (.t 45))⟩,
 ⟨some 47, none, .h (.load false 1 (.t 46))⟩,
 ⟨some 48, none, .h (.load true 2 (.t 4))⟩,
 ⟨some 49, none, .p (.fa 0 128 (.t 3))⟩,
 ⟨some 50, none, .p (.ixa 64 2 (.t 49) (.t 47))⟩,
 ⟨none, none, .h (.store 2 (.t 50) (.t 48))⟩]))
 (.ops [⟨some 42, none, .p (.mv (.t 9))⟩,
 ⟨some 43, none, .p (.bin .add (.t 42) (.k (.s (.int .i64 1))))⟩,
 ⟨some 9, none, .p (.mv (.t 43))⟩]))))))
 (.seq (.ops [⟨some 51, none, .h (.load true 133 (.t 3))⟩,
 ⟨none, none, .h (.store 133 (.t 6) (.t 51))⟩,
 ⟨some 7, none, .p (.mv (.k (.s (.int .i64 0))))⟩])
 .ret)))))⟩
theorem c70 : compF Try.prog Try.f70 = some a70 := by kernel_rfl
/-- zugzwang/zugzwangkit.KeptInts -/
def a71 : AF := ⟨58, [.tmp 4],
 (.seq (.ops [⟨some 4, none, .p (.mv (.k (.s (.bool false))))⟩])
 (.seq (.seq (.ops [⟨some 7, none, .p (.mv (.t 0))⟩,
 ⟨some 8, none, .p (.len (.t 7))⟩,
 ⟨some 9, none, .p (.mv (.t 1))⟩,
 ⟨some 10, none, .p (.len (.t 9))⟩,
 ⟨some 11, none, .p (.bin .neq (.t 8) (.t 10))⟩])
 (.cond (.t 11)
 (.seq (.ops [⟨some 4, none, .p (.mv (.k (.s (.bool false))))⟩])
 .ret)
 .skip))
 (.seq (.ops [⟨some 12, none, .p (.mv (.t 0))⟩,
 ⟨some 13, none, .p (.mv (.t 1))⟩,
 ⟨some 14, none, .p (.len (.t 13))⟩,
 ⟨some 15, none, .p (.bin .add (.t 14) (.k (.s (.int .i64 12))))⟩,
 ⟨some 16, none, .p (.slV 1 (.t 12) none (some (.t 15)))⟩,
 ⟨some 5, none, .p (.mv (.t 16))⟩])
 (.seq (.seq (.ops [⟨some 6, none, .p (.mv (.k (.s (.int .i64 0))))⟩])
 (.block 0 (.loop (.seq (.seq (.ops [⟨some 17, none, .p (.mv (.t 6))⟩,
 ⟨some 18, none, .p (.mv (.t 5))⟩,
 ⟨some 19, none, .p (.len (.t 18))⟩,
 ⟨some 20, none, .p (.bin .lss (.t 17) (.t 19))⟩])
 (.cond (.t 20)
 .skip
 (.exit 0)))
 (.seq (.block 1 (.seq (.ops [⟨some 23, none, .p (.mv (.t 6))⟩,
 ⟨some 24, none, .p (.mv (.t 1))⟩,
 ⟨some 25, none, .p (.len (.t 24))⟩,
 ⟨some 26, none, .p (.bin .lss (.t 23) (.t 25))⟩,
 ⟨some 27, none, .p (.mv (.t 26))⟩,
 ⟨some 28, some (27, true), .p (.mv (.t 5))⟩,
 ⟨some 29, some (27, true), .p (.mv (.t 6))⟩,
 ⟨some 30, some (27, true), .p (.ixs 1 (.t 28) (.t 29))⟩,
 ⟨some 31, some (27, true), .h (.load false 1 (.t 30))⟩,
 ⟨some 32, some (27, true), .p (.mv (.t 1))⟩,
 ⟨some 33, some (27, true), .p (.mv (.t 6))⟩,
 ⟨some 34, some (27, true), .p (.ixs 1 (.t 32) (.t 33))⟩,
 ⟨some 35, some (27, true), .h (.load false 1 (.t 34))⟩,
 ⟨some 36, some (27, true), .p (.bin .eql (.t 31) (.t 35))⟩,
 ⟨some 37, some (27, true), .p (.un .not (.t 36))⟩,
 ⟨some 38, none, .p (.pick (.t 27) (.t 37) (.k (.s (.bool false))))⟩,
 ⟨some 39, none, .p (.mv (.t 38))⟩,
 ⟨some 40, some (39, false), .p (.mv (.t 6))⟩,
 ⟨some 41, some (39, false), .p (.mv (.t 1))⟩,
 ⟨some 42, some (39, false), .p (.len (.t 41))⟩,
 ⟨some 43, some (39, false), .p (.bin .geq (.t 40) (.t 42))⟩,
 ⟨some 44, some (39, false), .p (.mv (.t 43))⟩,
 ⟨some 45, some (44, true), .p (.mv (.t 5))⟩,
 ⟨some 46, some (44, true), .p (.mv (.t 6))⟩,
 ⟨some 47, some (44, true), .p (.ixs 1 (.t 45) (.t 46))⟩,
 ⟨some 48, some (44, true), .h (.load false 1 (.t 47))⟩,
 ⟨some 49, some (44, true), .p (.mv (.t 6))⟩,
 ⟨some 50, some (44, true), .p (.mv (.t 1))⟩,
 ⟨some 51, some (44, true), .p (.len (.t 50))⟩,
 ⟨some 52, some (44, true), .p (.bin .sub (.t 49) (.t 51))⟩,
 ⟨some 53, some (44, true), .h (.callq (.k (.fn 106 [])) [(.k (.s (.int .i64 1))), (.t 52)])⟩,
 ⟨some 54, some (44, true), .p (.bin .eql (.t 48) (.t 53))⟩,
 ⟨some 55, some (44, true), .p (.un .not (.t 54))⟩,
 ⟨some 56, some (39, false), .p (.pick (.t 44) (.t 55) (.k (.s (.bool false))))⟩,
 ⟨some 57, none, .p (.pick (.t 39) (.k (.s (.bool true))) (.t 56))⟩])
 (.cond (.t 57)
 (.seq (.ops [⟨some 4, none, .p (.mv (.k (.s (.bool false))))⟩])
 .ret)
 .skip)))
 (.ops [⟨some 21, none, .p (.mv (.t 6))⟩,
 ⟨some 22, none, .p (.bin .add (.t 21) (.k (.s (.int .i64 1))))⟩,
 ⟨some 6, none, .p (.mv (.t 22))⟩]))))))
 (.seq (.ops [⟨some 4, none, .p (.mv (.k (.s (.bool true))))⟩])
 .ret)))))⟩
theorem c71 : compF Try.prog Try.f71 = some a71 := by kernel_rfl
/-- zugzwang/zugzwangref06.Right -/
def a72 : AF := ⟨33, [.tmp 2],
 (.seq (.ops [⟨some 1, none, .h (.box (.t 0))⟩,
 ⟨some 2, none, .p (.mv (.k (.s (.bool false))))⟩])
 (.seq (.ops [⟨some 3, none, .h (.load true 133 (.t 1))⟩,
 ⟨some 4, none, .h (.call (.k (.fn 108 [])) [(.t 3)])⟩,
 ⟨some 5, none, .p (.mv (.t 4))⟩,
 ⟨some 6, some (5, true), .h (.load true 133 (.t 1))⟩,
 ⟨some 7, some (5, true), .h (.call (.k (.fn 109 [])) [(.t 6)])⟩,
 ⟨some 8, none, .p (.pick (.t 5) (.t 7) (.k (.s (.bool false))))⟩,
 ⟨some 9, none, .p (.mv (.t 8))⟩,
 ⟨some 10, some (9, true), .h (.load true 133 (.t 1))⟩,
 ⟨some 11, some (9, true), .h (.call (.k (.fn 110 [])) [(.t 10)])⟩,
 ⟨some 12, none, .p (.pick (.t 9) (.t 11) (.k (.s (.bool false))))⟩,
 ⟨some 13, none, .p (.mv (.t 12))⟩,
 ⟨some 14, some (13, true), .p (.fa 131 1 (.t 1))⟩,
 ⟨some 15, some (13, true), .h (.load false 1 (.t 14))⟩,
 ⟨some 16, some (13, true), .p (.bin .geq (.t 15) (.k (.s (.int .i64 0))))⟩,
 ⟨some 17, none, .p (.pick (.t 13) (.t 16) (.k (.s (.bool false))))⟩,
 ⟨some 18, none, .p (.mv (.t 17))⟩,
 ⟨some 19, some (18, true), .p (.fa 131 1 (.t 1))⟩,
 ⟨some 20, some (18, true), .h (.load false 1 (.t 19))⟩,
 ⟨some 21, some (18, true), .p (.bin .leq (.t 20) (.k (.s (.int .i64 1024))))⟩,
 ⟨some 22, none, .p (.pick (.t 18) (.t 21) (.k (.s (.bool false))))⟩,
 ⟨some 23, none, .p (.mv (.t 22))⟩,
 ⟨some 24, some (23, true), .p (.fa 132 1 (.t 1))⟩,
 ⟨some 25, some (23, true), .h (.load false 1 (.t 24))⟩,
 ⟨some 26, some (23, true), .p (.bin .geq (.t 25) (.k (.s (.int .i64 1))))⟩,
 ⟨some 27, none, .p (.pick (.t 23) (.t 26) (.k (.s (.bool false))))⟩,
 ⟨some 28, none, .p (.mv (.t 27))⟩,
 ⟨some 29, some (28, true), .p (.fa 132 1 (.t 1))⟩,
 ⟨some 30, some (28, true), .h (.load false 1 (.t 29))⟩,
 ⟨some 31, some (28, true), .p (.bin .leq (.t 30) (.k (.s (.int .i64 16384))))⟩,
 ⟨some 32, none, .p (.pick (.t 28) (.t 31) (.k (.s (.bool false))))⟩,
 ⟨some 2, none, .p (.mv (.t 32))⟩])
 .ret))⟩
theorem c72 : compF Try.prog Try.f72 = some a72 := by kernel_rfl
/-- zugzwang/zugzwangref06.Turn -/
def a73 : AF := ⟨71, [.cell 2 true 133],
 (.seq (.ops [⟨some 1, none, .h (.box (.t 0))⟩,
 ⟨some 2, none, .h (.alloc (.ints 133))⟩])
 (.seq (.ops [⟨some 6, none, .h (.load true 133 (.t 1))⟩,
 ⟨some 3, none, .h (.alloc (.ints 133))⟩,
 ⟨none, none, .h (.store 133 (.t 3) (.t 6))⟩])
 (.seq (.seq (.ops [⟨some 4, none, .p (.mv (.k (.s (.int .i64 0))))⟩])
 (.block 0 (.loop (.seq (.seq (.ops [⟨some 7, none, .p (.mv (.t 4))⟩,
 ⟨some 8, none, .p (.bin .lss (.t 7) (.k (.s (.int .i64 64))))⟩])
 (.cond (.t 8)
 .skip
 (.exit 0)))
 (.seq (.block 1 (.seq (.ops [⟨some 11, none, .p (.mv (.t 4))⟩,
 ⟨some 12, none, .p (.bin .quo (.t 11) (.k (.s (.int .i64 8))))⟩,
 ⟨some 13, none, .p (.bin .sub (.k (.s (.int .i64 7))) (.t 12))⟩,
 ⟨some 14, none, .p (.bin .mul (.k (.s (.int .i64 8))) (.t 13))⟩,
 ⟨some 15, none, .p (.mv (.t 4))⟩,
 ⟨some 16, none, .p (.bin .rem (.t 15) (.k (.s (.int .i64 8))))⟩,
 ⟨some 17, none, .p (.bin .add (.t 14) (.t 16))⟩,
 ⟨some 18, none, .p (.fa 0 128 (.t 1))⟩,
 ⟨some 19, none, .p (.ixa 64 2 (.t 18) (.t 17))⟩,
 ⟨some 20, none, .h (.load true 2 (.t 19))⟩,
 ⟨some 5, none, .h (.alloc (.ints 2))⟩,
 ⟨none, none, .h (.store 2 (.t 5) (.t 20))⟩])
 (.seq (.seq (.ops [⟨some 21, none, .h (.load true 2 (.t 5))⟩,
 ⟨some 22, none, .h (.call (.k (.fn 55 [])) [(.t 21)])⟩])
 (.cond (.t 22)
 (.ops [⟨some 23, none, .p (.fa 1 1 (.t 5))⟩,
 ⟨some 24, none, .h (.load false 1 (.t 23))⟩,
 ⟨some 25, none, .h (.call (.k (.fn 76 [])) [(.t 24)])⟩,
 ⟨some 26, none, .p (.fa 1 1 (.t 5))⟩,
 ⟨none, none, .h (.store 1 (.t 26) (.t 25))⟩])
 .skip))
 (.ops [⟨some 27, none, .p (.mv (.t 4))⟩,
 ⟨some 28, none, .h (.load true 2 (.t 5))⟩,
 ⟨some 29, none, .p (.fa 0 128 (.t 3))⟩,
 ⟨some 30, none, .p (.ixa 64 2 (.t 29) (.t 27))⟩,
 ⟨none, none, .h (.store 2 (.t 30) (.t 28))⟩]))))
 (.ops [⟨some 9, none, .p (.mv (.t 4))⟩,
 ⟨some 10, none, .p (.bin .add (.t 9) (.k (.s (.int .i64 1))))⟩,
 ⟨some 4, none, .p (.mv (.t 10))⟩]))))))
 (.seq (.ops [⟨some 31, none, .p (.fa 128 1 (.t 1))⟩,
 ⟨some 32, none, .h (.load false 1 (.t 31))⟩,
 ⟨some 33, none, .h (.call (.k (.fn 76 [])) [(.t 32)])⟩,
 ⟨some 34, none, .p (.fa 128 1 (.t 3))⟩,
 ⟨none, none, .h (.store 1 (.t 34) (.t 33))⟩])
 (.seq (.seq (.ops [⟨some 35, none, .p (.fa 129 1 (.t 1))⟩,
 ⟨some 36, none, .h (.load false 1 (.t 35))⟩,
 ⟨some 37, none, .p (.bin .geq (.t 36) (.k (.s (.int .i64 0))))⟩,
 ⟨some 38, none, .p (.mv (.t 37))⟩,
 ⟨some 39, some (38, true), .p (.fa 129 1 (.t 1))⟩,
 ⟨some 40, some (38, true), .h (.load false 1 (.t 39))⟩,
 ⟨some 41, some (38, true), .p (.bin .leq (.t 40) (.k (.s (.int .i64 15))))⟩,
 ⟨some 42, none, .p (.pick (.t 38) (.t 41) (.k (.s (.bool false))))⟩])
 (.cond (.t 42)
 (.ops [⟨some 43, none, .p (.fa 129 1 (.t 1))⟩,
 ⟨some 44, none, .h (.load false 1 (.t 43))⟩,
 ⟨some 45, none, .p (.bin .rem (.t 44) (.k (.s (.int .i64 4))))⟩,
 ⟨some 46, none, .p (.bin .mul (.t 45) (.k (.s (.int .i64 4))))⟩,
 ⟨some 47, none, .p (.fa 129 1 (.t 1))⟩,
 ⟨some 48, none, .h (.load false 1 (.t 47))⟩,
 ⟨some 49, none, .p (.bin .quo (.t 48) (.k (.s (.int .i64 4))))⟩,
 ⟨some 50, none, .p (.bin .add (.t 46) (.t 49))⟩,
 ⟨some 51, none, .p (.fa 129 1 (.t 3))⟩,
 ⟨none, none, .h (.store 1 (.t 51) (.t 50))⟩])
 .skip))
 (.seq (.seq (.ops [⟨some 52, none, .p (.fa 130 1 (.t 1))⟩,
 ⟨some 53, none, .h (.load false 1 (.t 52))⟩,
 ⟨some 54, none, .p (.bin .geq (.t 53) (.k (.s (.int .i64 0))))⟩,
 ⟨some 55, none, .p (.mv (.t 54))⟩,
 ⟨some 56, some (55, true), .p (.fa 130 1 (.t 1))⟩,
 ⟨some 57, some (55, true), .h (.load false 1 (.t 56))⟩,
 ⟨some 58, some (55, true), .p (.bin .leq (.t 57) (.k (.s (.int .i64 63))))⟩,
 ⟨some 59, none, .p (.pick (.t 55) (.t 58) (.k (.s (.bool false))))⟩])
 (.cond (.t 59)
 (.ops [⟨some 60, none, .p (.fa 130 1 (.t 1))⟩,
 ⟨some 61, none, .h (.load false 1 (.t 60))⟩,
 ⟨some 62, none, .p (.bin .quo (.t 61) (.k (.s (.int .i64 8))))⟩,
 ⟨some 63, none, .p (.bin .sub (.k (.s (.int .i64 7))) (.t 62))⟩,
 ⟨some 64, none, .p (.bin .mul (.k (.s (.int .i64 8))) (.t 63))⟩,
 ⟨some 65, none, .p (.fa 130 1 (.t 1))⟩,
 ⟨some 66, none, .h (.load false 1 (.t 65))⟩,
 ⟨some 67, none, .p (.bin .rem (.t 66) (.k (.s (.int .i64 8))))⟩,
 ⟨some 68, none, .p (.bin .add (.t 64) (.t 67))⟩,
 ⟨some 69, none, .p (.fa 130 1 (.t 3))⟩,
 ⟨none, none, .h (.store 1 (.t 69) (.t 68))⟩])
 .skip))
 (.seq (.ops [⟨some 70, none, .h (.load true 133 (.t 3))⟩,
 ⟨none, none, .h (.store 133 (.t 2) (.t 70))⟩])
 .ret)))))))⟩
theorem c73 : compF Try.prog Try.f73 = some a73 := by kernel_rfl
/-- zugzwang/zugzwangref06.Find -/
def a74 : AF := ⟨22, [.tmp 4],
 (.seq (.ops [⟨some 2, none, .h (.box (.t 0))⟩,
 ⟨some 3, none, .h (.box (.t 1))⟩,
 ⟨some 4, none, .p (.mv (.k .snil))⟩])
 (.seq (.ops [⟨some 5, none, .p (.mv (.k .snil))⟩])
 (.seq (.seq (.ops [⟨some 6, none, .p (.mv (.k (.s (.int .i64 0))))⟩])
 (.block 0 (.loop (.seq (.seq (.ops [⟨some 7, none, .p (.mv (.t 6))⟩,
 ⟨some 8, none, .p (.bin .lss (.t 7) (.k (.s (.int .i64 64))))⟩])
 (.cond (.t 8)
 .skip
 (.exit 0)))
 (.seq (.block 1 (.seq (.ops [⟨some 11, none, .p (.mv (.t 6))⟩,
 ⟨some 12, none, .p (.fa 0 128 (.t 2))⟩,
 ⟨some 13, none, .p (.ixa 64 2 (.t 12) (.t 11))⟩,
 ⟨some 14, none, .h (.load true 2 (.t 13))⟩,
 ⟨some 15, none, .h (.load true 2 (.t 3))⟩,
 ⟨some 16, none, .p (.eqa false 2 (.t 14) (.t 15))⟩])
 (.cond (.t 16)
 (.ops [⟨some 17, none, .p (.mv (.t 5))⟩,
 ⟨some 18, none, .p (.mv (.t 6))⟩,
 ⟨some 19, none, .h (.mksl 1 1 (.one (.s (.int .i64 0))) [(0, (.t 18))])⟩,
 ⟨some 20, none, .h (.append 1 8 (.t 17) (.t 19))⟩,
 ⟨some 5, none, .p (.mv (.t 20))⟩])
 .skip)))
 (.ops [⟨some 9, none, .p (.mv (.t 6))⟩,
 ⟨some 10, none, .p (.bin .add (.t 9) (.k (.s (.int .i64 1))))⟩,
 ⟨some 6, none, .p (.mv (.t 10))⟩]))))))
 (.seq (.ops [⟨some 21, none, .p (.mv (.t 5))⟩,
 ⟨some 4, none, .p (.mv (.t 21))⟩])
 .ret))))⟩
theorem c74 : compF Try.prog Try.f74 = some a74 := by kernel_rfl
/-- zugzwang/zugzwangref06.King -/
def a75 : AF := ⟨16, [.tmp 4],
 (.seq (.ops [⟨some 2, none, .h (.box (.t 0))⟩,
 ⟨some 4, none, .p (.mv (.k (.s (.int .i64 0))))⟩])
 (.seq (.ops [⟨some 6, none, .h (.load true 133 (.t 2))⟩,
 ⟨some 7, none, .p (.mv (.t 1))⟩,
 ⟨some 8, none, .p (.build (.ints 2) [(0, 1, (.k (.s (.int .i64 6)))), (1, 1, (.t 7))])⟩,
 ⟨some 9, none, .h (.call (.k (.fn 74 [])) [(.t 6), (.t 8)])⟩,
 ⟨some 5, none, .p (.mv (.t 9))⟩])
 (.seq (.seq (.ops [⟨some 10, none, .p (.mv (.t 5))⟩,
 ⟨some 11, none, .p (.len (.t 10))⟩,
 ⟨some 12, none, .p (.bin .eql (.t 11) (.k (.s (.int .i64 0))))⟩])
 (.cond (.t 12)
 (.seq (.ops [⟨some 4, none, .p (.mv (.k (.s (.int .i64 (-1)))))⟩])
 .ret)
 .skip))
 (.seq (.ops [⟨some 13, none, .p (.mv (.t 5))⟩,
 ⟨some 14, none, .p (.ixs 1 (.t 13) (.k (.s (.int .i64 0))))⟩,
 ⟨some 15, none, .h (.load false 1 (.t 14))⟩,
 ⟨some 4, none, .p (.mv (.t 15))⟩])
 .ret))))⟩
theorem c75 : compF Try.prog Try.f75 = some a75 := by kernel_rfl
/-- zugzwang/zugzwangref06.Other -/
def a76 : AF := ⟨5, [.tmp 2],
 (.seq (.ops [⟨some 2, none, .p (.mv (.k (.s (.int .i64 0))))⟩])
 (.seq (.seq (.ops [⟨some 3, none, .p (.mv (.t 0))⟩,
 ⟨some 4, none, .p (.bin .eql (.t 3) (.k (.s (.int .i64 0))))⟩])
 (.cond (.t 4)
 (.seq (.ops [⟨some 2, none, .p (.mv (.k (.s (.int .i64 1))))⟩])
 .ret)
 .skip))
 (.seq (.ops [⟨some 2, none, .p (.mv (.k (.s (.int .i64 0))))⟩])
 .ret)))⟩
theorem c76 : compF Try.prog Try.f76 = some a76 := by kernel_rfl
/-- zugzwang/board.Empty -/
def a78 : AF := ⟨2, [.cell 0 true 133],
 (.seq (.ops [⟨some 0, none, .h (.alloc (.ints 133))⟩])
 (.seq (.ops [⟨some 1, none, .p (.build (.ints 133) [(130, 1, (.k (.s (.int .i64 (-1))))), (132, 1, (.k (.s (.int .i64 1))))])⟩,
 ⟨none, none, .h (.store 133 (.t 0) (.t 1))⟩])
 .ret))⟩
theorem c78 : compF Try.prog Try.f78 = some a78 := by kernel_rfl
/-- zugzwang/zugzwanglaw08.made -/
def a79 : AF := ⟨72, [.cell 8 true 3],
 (.seq (.ops [⟨some 4, none, .h (.box (.t 0))⟩,
 ⟨some 8, none, .h (.alloc (.ints 3))⟩])
 (.seq (.ops [⟨some 9, none, .p (.mv (.k .snil))⟩])
 (.seq (.seq (.ops [⟨some 10, none, .p (.mv (.k (.s (.int .i64 0))))⟩])
 (.block 0 (.loop (.seq (.seq (.ops [⟨some 12, none, .p (.mv (.t 10))⟩,
 ⟨some 13, none, .p (.bin .lss (.t 12) (.k (.s (.int .i64 64))))⟩])
 (.cond (.t 13)
 .skip
 (.exit 0)))
 (.seq (.block 1 (.seq (.ops [⟨some 16, none, .p (.mv (.t 10))⟩,
 ⟨some 17, none, .p (.fa 0 128 (.t 4))⟩,
 ⟨some 18, none, .p (.ixa 64 2 (.t 17) (.t 16))⟩,
 ⟨some 19, none, .p (.fa 0 1 (.t 18))⟩,
 ⟨some 20, none, .h (.load false 1 (.t 19))⟩,
 ⟨some 21, none, .p (.bin .neq (.t 20) (.k (.s (.int .i64 0))))⟩,
 ⟨some 22, none, .p (.mv (.t 21))⟩,
 ⟨some 23, some (22, true), .p (.mv (.t 10))⟩,
 ⟨some 24, some (22, true), .p (.fa 0 128 (.t 4))⟩,
 ⟨some 25, some (22, true), .p (.ixa 64 2 (.t 24) (.t 23))⟩,
 ⟨some 26, some (22, true), .p (.fa 1 1 (.t 25))⟩,
 ⟨some 27, some (22, true), .h (.load false 1 (.t 26))⟩,
 ⟨some 28, some (22, true), .p (.fa 128 1 (.t 4))⟩,
 ⟨some 29, some (22, true), .h (.load false 1 (.t 28))⟩,
 ⟨some 30, some (22, true), .p (.bin .eql (.t 27) (.t 29))⟩,
 ⟨some 31, none, .p (.pick (.t 22) (.t 30) (.k (.s (.bool false))))⟩])
 (.cond (.t 31)
 (.ops [⟨some 32, none, .p (.mv (.t 9))⟩,
 ⟨some 33, none, .p (.mv (.t 10))⟩,
 ⟨some 34, none, .h (.mksl 1 1 (.one (.s (.int .i64 0))) [(0, (.t 33))])⟩,
 ⟨some 35, none, .h (.append 1 8 (.t 32) (.t 34))⟩,
 ⟨some 9, none, .p (.mv (.t 35))⟩])
 .skip)))
 (.ops [⟨some 14, none, .p (.mv (.t 10))⟩,
 ⟨some 15, none, .p (.bin .add (.t 14) (.k (.s (.int .i64 1))))⟩,
 ⟨some 10, none, .p (.mv (.t 15))⟩]))))))
 (.seq (.seq (.ops [⟨some 36, none, .p (.mv (.t 9))⟩,
 ⟨some 37, none, .p (.len (.t 36))⟩,
 ⟨some 38, none, .p (.bin .eql (.t 37) (.k (.s (.int .i64 0))))⟩])
 (.cond (.t 38)
 (.seq (.ops [⟨some 39, none, .p (.build (.ints 3) [])⟩,
 ⟨none, none, .h (.store 3 (.t 8) (.t 39))⟩])
 .ret)
 .skip))
 (.seq (.ops [⟨some 40, none, .p (.mv (.t 9))⟩,
 ⟨some 41, none, .p (.mv (.t 1))⟩,
 ⟨some 42, none, .p (.mv (.t 9))⟩,
 ⟨some 43, none, .p (.len (.t 42))⟩,
 ⟨some 44, none, .h (.callq (.k (.fn 30 [])) [(.t 41), (.t 43)])⟩,
 ⟨some 45, none, .p (.ixs 1 (.t 40) (.t 44))⟩,
 ⟨some 46, none, .h (.load false 1 (.t 45))⟩,
 ⟨some 47, none, .p (.mv (.t 2))⟩,
 ⟨some 48, none, .h (.callq (.k (.fn 30 [])) [(.t 47), (.k (.s (.int .i64 64)))])⟩,
 ⟨some 49, none, .p (.build (.ints 3) [(0, 1, (.t 46)), (1, 1, (.t 48))])⟩,
 ⟨some 11, none, .h (.alloc (.ints 3))⟩,
 ⟨none, none, .h (.store 3 (.t 11) (.t 49))⟩])
 (.seq (.seq (.ops [⟨some 50, none, .p (.fa 0 1 (.t 11))⟩,
 ⟨some 51, none, .h (.load false 1 (.t 50))⟩,
 ⟨some 52, none, .p (.fa 0 128 (.t 4))⟩,
 ⟨some 53, none, .p (.ixa 64 2 (.t 52) (.t 51))⟩,
 ⟨some 54, none, .p (.fa 0 1 (.t 53))⟩,
 ⟨some 55, none, .h (.load false 1 (.t 54))⟩,
 ⟨some 56, none, .p (.bin .eql (.t 55) (.k (.s (.int .i64 1))))⟩,
 ⟨some 57, none, .p (.mv (.t 56))⟩,
 ⟨some 58, some (57, true), .p (.fa 1 1 (.t 11))⟩,
 ⟨some 59, some (57, true), .h (.load false 1 (.t 58))⟩,
 ⟨some 60, some (57, true), .p (.bin .geq (.t 59) (.k (.s (.int .i64 56))))⟩,
 ⟨some 61, some (57, true), .p (.mv (.t 60))⟩,
 ⟨some 62, some (61, false), .p (.fa 1 1 (.t 11))⟩,
 ⟨some 63, some (61, false), .h (.load false 1 (.t 62))⟩,
 ⟨some 64, some (61, false), .p (.bin .lss (.t 63) (.k (.s (.int .i64 8))))⟩,
 ⟨some 65, some (57, true), .p (.pick (.t 61) (.k (.s (.bool true))) (.t 64))⟩,
 ⟨some 66, none, .p (.pick (.t 57) (.t 65) (.k (.s (.bool false))))⟩])
 (.cond (.t 66)
 (.ops [⟨some 67, none, .p (.mv (.t 3))⟩,
 ⟨some 68, none, .h (.call (.k (.fn 30 [])) [(.t 67), (.k (.s (.int .i64 4)))])⟩,
 ⟨some 69, none, .p (.bin .add (.k (.s (.int .i64 2))) (.t 68))⟩,
 ⟨some 70, none, .p (.fa 2 1 (.t 11))⟩,
 ⟨none, none, .h (.store 1 (.t 70) (.t 69))⟩])
 .skip))
 (.seq (.ops [⟨some 71, none, .h (.load true 3 (.t 11))⟩,
 ⟨none, none, .h (.store 3 (.t 8) (.t 71))⟩])
 .ret)))))))⟩
theorem c79 : compF Try.prog Try.f79 = some a79 := by kernel_rfl
/-- zugzwang/zugzwanglaw08.across -/
def a80 : AF := ⟨10, [.tmp 2],
 (.seq (.ops [⟨some 2, none, .p (.mv (.k (.s (.int .i64 0))))⟩])
 (.seq (.ops [⟨some 3, none, .p (.mv (.t 0))⟩,
 ⟨some 4, none, .p (.bin .quo (.t 3) (.k (.s (.int .i64 8))))⟩,
 ⟨some 5, none, .p (.bin .sub (.k (.s (.int .i64 7))) (.t 4))⟩,
 ⟨some 6, none, .p (.bin .mul (.k (.s (.int .i64 8))) (.t 5))⟩,
 ⟨some 7, none, .p (.mv (.t 0))⟩,
 ⟨some 8, none, .p (.bin .rem (.t 7) (.k (.s (.int .i64 8))))⟩,
 ⟨some 9, none, .p (.bin .add (.t 6) (.t 8))⟩,
 ⟨some 2, none, .p (.mv (.t 9))⟩])
 .ret))⟩
theorem c80 : compF Try.prog Try.f80 = some a80 := by kernel_rfl
/-- (*zugzwang/dead.counter).put -/
def a81 : AF := ⟨57, [],
 (.block 0 (.seq (.ops [⟨some 16, none, .p (.mv (.t 1))⟩,
 ⟨some 17, none, .p (.bin .eql (.t 16) (.k (.s (.int .i64 0))))⟩,
 ⟨some 18, none, .p (.mv (.t 17))⟩,
 ⟨some 19, some (18, false), .p (.mv (.t 1))⟩,
 ⟨some 20, some (18, false), .p (.bin .eql (.t 19) (.k (.s (.int .i64 6))))⟩,
 ⟨some 21, none, .p (.pick (.t 18) (.k (.s (.bool true))) (.t 20))⟩,
 ⟨some 15, none, .p (.mv (.t 21))⟩])
 (.cond (.t 15)
 .skip
 (.seq (.ops [⟨some 23, none, .p (.mv (.t 1))⟩,
 ⟨some 24, none, .p (.bin .eql (.t 23) (.k (.s (.int .i64 2))))⟩,
 ⟨some 22, none, .p (.mv (.t 24))⟩])
 (.cond (.t 22)
 (.ops [⟨some 25, none, .p (.mv (.t 0))⟩,
 ⟨some 26, none, .p (.nilck (.t 25))⟩,
 ⟨some 27, none, .p (.fa 0 4 (.t 26))⟩,
 ⟨some 28, none, .p (.fa 1 1 (.t 27))⟩,
 ⟨some 29, none, .h (.load false 1 (.t 28))⟩,
 ⟨some 30, none, .p (.bin .add (.t 29) (.k (.s (.int .i64 1))))⟩,
 ⟨some 31, none, .p (.nilck (.t 25))⟩,
 ⟨some 32, none, .p (.fa 0 4 (.t 31))⟩,
 ⟨some 33, none, .p (.fa 1 1 (.t 32))⟩,
 ⟨none, none, .h (.store 1 (.t 33) (.t 30))⟩])
 (.seq (.ops [⟨some 35, none, .p (.mv (.t 1))⟩,
 ⟨some 36, none, .p (.bin .neq (.t 35) (.k (.s (.int .i64 3))))⟩,
 ⟨some 34, none, .p (.mv (.t 36))⟩])
 (.cond (.t 34)
 (.ops [⟨some 37, none, .p (.mv (.t 0))⟩,
 ⟨some 38, none, .p (.nilck (.t 37))⟩,
 ⟨some 39, none, .p (.fa 0 4 (.t 38))⟩,
 ⟨some 40, none, .p (.fa 0 1 (.t 39))⟩,
 ⟨some 41, none, .h (.load false 1 (.t 40))⟩,
 ⟨some 42, none, .p (.bin .add (.t 41) (.k (.s (.int .i64 1))))⟩,
 ⟨some 43, none, .p (.nilck (.t 37))⟩,
 ⟨some 44, none, .p (.fa 0 4 (.t 43))⟩,
 ⟨some 45, none, .p (.fa 0 1 (.t 44))⟩,
 ⟨none, none, .h (.store 1 (.t 45) (.t 42))⟩])
 (.seq (.ops [⟨some 47, none, .p (.mv (.t 2))⟩,
 ⟨some 46, none, .p (.mv (.t 47))⟩])
 (.cond (.t 46)
 (.ops [⟨some 48, none, .p (.mv (.t 0))⟩,
 ⟨some 49, none, .p (.nilck (.t 48))⟩,
 ⟨some 50, none, .p (.fa 0 4 (.t 49))⟩,
 ⟨some 51, none, .p (.fa 2 1 (.t 50))⟩,
 ⟨some 52, none, .h (.load false 1 (.t 51))⟩,
 ⟨some 53, none, .p (.bin .add (.t 52) (.k (.s (.int .i64 1))))⟩,
 ⟨some 54, none, .p (.nilck (.t 48))⟩,
 ⟨some 55, none, .p (.fa 0 4 (.t 54))⟩,
 ⟨some 56, none, .p (.fa 2 1 (.t 55))⟩,
 ⟨none, none, .h (.store 1 (.t 56) (.t 53))⟩])
 (.ops [⟨some 6, none, .p (.mv (.t 0))⟩,
 ⟨some 7, none, .p (.nilck (.t 6))⟩,
 ⟨some 8, none, .p (.fa 0 4 (.t 7))⟩,
 ⟨some 9, none, .p (.fa 3 1 (.t 8))⟩,
 ⟨some 10, none, .h (.load false 1 (.t 9))⟩,
 ⟨some 11, none, .p (.bin .add (.t 10) (.k (.s (.int .i64 1))))⟩,
 ⟨some 12, none, .p (.nilck (.t 6))⟩,
 ⟨some 13, none, .p (.fa 0 4 (.t 12))⟩,
 ⟨some 14, none, .p (.fa 3 1 (.t 13))⟩,
 ⟨none, none, .h (.store 1 (.t 14) (.t 11))⟩]))))))))))⟩
theorem c81 : compF Try.prog Try.f81 = some a81 := by kernel_rfl
/-- zugzwang/square.of -/
def a82 : AF := ⟨17, [.cell 2 true 3],
 (.seq (.ops [⟨some 2, none, .h (.alloc (.scl [(.int .i64 0), (.int .i64 0), (.bool false)]))⟩])
 (.seq (.seq (.ops [⟨some 3, none, .p (.mv (.t 0))⟩,
 ⟨some 4, none, .p (.bin .lss (.t 3) (.k (.s (.int .i64 0))))⟩,
 ⟨some 5, none, .p (.mv (.t 4))⟩,
 ⟨some 6, some (5, false), .p (.mv (.t 0))⟩,
 ⟨some 7, some (5, false), .p (.bin .geq (.t 6) (.k (.s (.int .i64 64))))⟩,
 ⟨some 8, none, .p (.pick (.t 5) (.k (.s (.bool true))) (.t 7))⟩])
 (.cond (.t 8)
 (.seq (.ops [⟨some 9, none, .p (.build (.ints 2) [(0, 1, (.k (.s (.int .i64 (-1))))), (1, 1, (.k (.s (.int .i64 (-1)))))])⟩,
 ⟨some 10, none, .p (.build (.scl [(.int .i64 0), (.int .i64 0), (.bool false)]) [(0, 2, (.t 9))])⟩,
 ⟨none, none, .h (.store 3 (.t 2) (.t 10))⟩])
 .ret)
 .skip))
 (.seq (.ops [⟨some 11, none, .p (.mv (.t 0))⟩,
 ⟨some 12, none, .p (.bin .rem (.t 11) (.k (.s (.int .i64 8))))⟩,
 ⟨some 13, none, .p (.mv (.t 0))⟩,
 ⟨some 14, none, .p (.bin .quo (.t 13) (.k (.s (.int .i64 8))))⟩,
 ⟨some 15, none, .p (.build (.ints 2) [(0, 1, (.t 12)), (1, 1, (.t 14))])⟩,
 ⟨some 16, none, .p (.build (.scl [(.int .i64 0), (.int .i64 0), (.bool false)]) [(0, 2, (.t 15)), (2, 1, (.k (.s (.bool true))))])⟩,
 ⟨none, none, .h (.store 3 (.t 2) (.t 16))⟩])
 .ret)))⟩
theorem c82 : compF Try.prog Try.f82 = some a82 := by kernel_rfl
/-- (zugzwang/square.place).on -/
def a83 : AF := ⟨34, [.cell 6 true 2],
 (.seq (.ops [⟨some 3, none, .h (.box (.t 0))⟩,
 ⟨some 6, none, .h (.alloc (.ints 2))⟩])
 (.seq (.seq (.ops [⟨some 7, none, .p (.fa 2 1 (.t 3))⟩,
 ⟨some 8, none, .h (.load false 1 (.t 7))⟩,
 ⟨some 9, none, .p (.un .not (.t 8))⟩,
 ⟨some 10, none, .p (.mv (.t 9))⟩,
 ⟨some 11, some (10, false), .p (.mv (.t 1))⟩,
 ⟨some 12, some (10, false), .p (.mv (.t 2))⟩,
 ⟨some 13, some (10, false), .p (.mx [(.t 11), (.t 12)])⟩,
 ⟨some 14, some (10, false), .p (.bin .geq (.t 13) (.k (.s (.int .i64 8))))⟩,
 ⟨some 15, none, .p (.pick (.t 10) (.k (.s (.bool true))) (.t 14))⟩,
 ⟨some 16, none, .p (.mv (.t 15))⟩,
 ⟨some 17, some (16, false), .p (.mv (.t 1))⟩,
 ⟨some 18, some (16, false), .p (.mv (.t 2))⟩,
 ⟨some 19, some (16, false), .p (.mn [(.t 17), (.t 18)])⟩,
 ⟨some 20, some (16, false), .p (.bin .leq (.t 19) (.k (.s (.int .i64 (-8)))))⟩,
 ⟨some 21, none, .p (.pick (.t 16) (.k (.s (.bool true))) (.t 20))⟩])
 (.cond (.t 21)
 (.seq (.ops [⟨some 22, none, .p (.build (.ints 2) [(0, 1, (.k (.s (.int .i64 (-1))))), (1, 1, (.k (.s (.int .i64 (-1)))))])⟩,
 ⟨none, none, .h (.store 2 (.t 6) (.t 22))⟩])
 .ret)
 .skip))
 (.seq (.ops [⟨some 23, none, .p (.fa 0 2 (.t 3))⟩,
 ⟨some 24, none, .p (.fa 0 1 (.t 23))⟩,
 ⟨some 25, none, .h (.load false 1 (.t 24))⟩,
 ⟨some 26, none, .p (.mv (.t 1))⟩,
 ⟨some 27, none, .p (.bin .add (.t 25) (.t 26))⟩,
 ⟨some 28, none, .p (.fa 0 2 (.t 3))⟩,
 ⟨some 29, none, .p (.fa 1 1 (.t 28))⟩,
 ⟨some 30, none, .h (.load false 1 (.t 29))⟩,
 ⟨some 31, none, .p (.mv (.t 2))⟩,
 ⟨some 32, none, .p (.bin .add (.t 30) (.t 31))⟩,
 ⟨some 33, none, .p (.build (.ints 2) [(0, 1, (.t 27)), (1, 1, (.t 32))])⟩,
 ⟨none, none, .h (.store 2 (.t 6) (.t 33))⟩])
 .ret)))⟩
theorem c83 : compF Try.prog Try.f83 = some a83 := by kernel_rfl
/-- (zugzwang/square.pair).number -/
def a84 : AF := ⟨12, [.tmp 2],
 (.seq (.ops [⟨some 1, none, .h (.box (.t 0))⟩,
 ⟨some 2, none, .p (.mv (.k (.s (.int .i64 0))))⟩])
 (.seq (.seq (.ops [⟨some 3, none, .h (.load true 2 (.t 1))⟩,
 ⟨some 4, none, .h (.call (.k (.fn 86 [])) [(.t 3)])⟩,
 ⟨some 5, none, .p (.un .not (.t 4))⟩])
 (.cond (.t 5)
 (.seq (.ops [⟨some 2, none, .p (.mv (.k (.s (.int .i64 (-1)))))⟩])
 .ret)
 .skip))
 (.seq (.ops [⟨some 6, none, .p (.fa 1 1 (.t 1))⟩,
 ⟨some 7, none, .h (.load false 1 (.t 6))⟩,
 ⟨some 8, none, .p (.bin .mul (.t 7) (.k (.s (.int .i64 8))))⟩,
 ⟨some 9, none, .p (.fa 0 1 (.t 1))⟩,
 ⟨some 10, none, .h (.load false 1 (.t 9))⟩,
 ⟨some 11, none, .p (.bin .add (.t 8) (.t 10))⟩,
 ⟨some 2, none, .p (.mv (.t 11))⟩])
 .ret)))⟩
theorem c84 : compF Try.prog Try.f84 = some a84 := by kernel_rfl
/-- strings.IndexByte -/
def a85 : AF := ⟨8, [.tmp 4],
 (.seq (.ops [⟨some 4, none, .p (.mv (.k (.s (.int .i64 0))))⟩])
 (.seq (.ops [⟨some 5, none, .p (.mv (.t 0))⟩,
 ⟨some 6, none, .p (.mv (.t 1))⟩,
 ⟨some 7, none, .h (.call (.k (.fn 111 [])) [(.t 5), (.t 6)])⟩,
 ⟨some 4, none, .p (.mv (.t 7))⟩])
 .ret))⟩
theorem c85 : compF Try.prog Try.f85 = some a85 := by kernel_rfl
/-- (zugzwang/square.pair).within -/
def a86 : AF := ⟨13, [.tmp 2],
 (.seq (.ops [⟨some 1, none, .h (.box (.t 0))⟩,
 ⟨some 2, none, .p (.mv (.k (.s (.bool false))))⟩])
 (.seq (.ops [⟨some 3, none, .p (.fa 0 1 (.t 1))⟩,
 ⟨some 4, none, .h (.load false 1 (.t 3))⟩,
 ⟨some 5, none, .p (.conv .u64 (.t 4))⟩,
 ⟨some 6, none, .p (.bin .lss (.t 5) (.k (.s (.int .u64 8))))⟩,
 ⟨some 7, none, .p (.mv (.t 6))⟩,
 ⟨some 8, some (7, true), .p (.fa 1 1 (.t 1))⟩,
 ⟨some 9, some (7, true), .h (.load false 1 (.t 8))⟩,
 ⟨some 10, some (7, true), .p (.conv .u64 (.t 9))⟩,
 ⟨some 11, some (7, true), .p (.bin .lss (.t 10) (.k (.s (.int .u64 8))))⟩,
 ⟨some 12, none, .p (.pick (.t 7) (.t 11) (.k (.s (.bool false))))⟩,
 ⟨some 2, none, .p (.mv (.t 12))⟩])
 .ret))⟩
theorem c86 : compF Try.prog Try.f86 = some a86 := by kernel_rfl
/-- zugzwang/board.Turn$1 -/
def a87 : AF := ⟨9, [.tmp 2],
 (.seq (.ops [⟨some 2, none, .p (.mv (.k (.s (.int .i64 0))))⟩])
 (.seq (.ops [⟨some 3, none, .p (.mv (.t 0))⟩,
 ⟨some 4, none, .h (.call (.k (.fn 37 [])) [(.t 3)])⟩,
 ⟨some 5, none, .p (.mv (.t 0))⟩,
 ⟨some 6, none, .h (.call (.k (.fn 38 [])) [(.t 5)])⟩,
 ⟨some 7, none, .p (.bin .sub (.k (.s (.int .i64 7))) (.t 6))⟩,
 ⟨some 8, none, .h (.call (.k (.fn 36 [])) [(.t 4), (.t 7)])⟩,
 ⟨some 2, none, .p (.mv (.t 8))⟩])
 .ret))⟩
theorem c87 : compF Try.prog Try.f87 = some a87 := by kernel_rfl
/-- zugzwang/board.may -/
def a88 : AF := ⟨21, [.tmp 2],
 (.seq (.ops [⟨some 1, none, .h (.box (.t 0))⟩,
 ⟨some 2, none, .p (.mv (.k (.s (.bool false))))⟩])
 (.seq (.ops [⟨some 3, none, .p (.fa 0 1 (.t 1))⟩,
 ⟨some 4, none, .h (.load false 1 (.t 3))⟩,
 ⟨some 5, none, .p (.bin .geq (.t 4) (.k (.s (.int .i64 1))))⟩,
 ⟨some 6, none, .p (.mv (.t 5))⟩,
 ⟨some 7, some (6, true), .p (.fa 0 1 (.t 1))⟩,
 ⟨some 8, some (6, true), .h (.load false 1 (.t 7))⟩,
 ⟨some 9, some (6, true), .p (.bin .leq (.t 8) (.k (.s (.int .i64 6))))⟩,
 ⟨some 10, none, .p (.pick (.t 6) (.t 9) (.k (.s (.bool false))))⟩,
 ⟨some 11, none, .p (.mv (.t 10))⟩,
 ⟨some 12, some (11, true), .p (.fa 1 1 (.t 1))⟩,
 ⟨some 13, some (11, true), .h (.load false 1 (.t 12))⟩,
 ⟨some 14, some (11, true), .p (.bin .eql (.t 13) (.k (.s (.int .i64 0))))⟩,
 ⟨some 15, some (11, true), .p (.mv (.t 14))⟩,
 ⟨some 16, some (15, false), .p (.fa 1 1 (.t 1))⟩,
 ⟨some 17, some (15, false), .h (.load false 1 (.t 16))⟩,
 ⟨some 18, some (15, false), .p (.bin .eql (.t 17) (.k (.s (.int .i64 1))))⟩,
 ⟨some 19, some (11, true), .p (.pick (.t 15) (.k (.s (.bool true))) (.t 18))⟩,
 ⟨some 20, none, .p (.pick (.t 11) (.t 19) (.k (.s (.bool false))))⟩,
 ⟨some 2, none, .p (.mv (.t 20))⟩])
 .ret))⟩
theorem c88 : compF Try.prog Try.f88 = some a88 := by kernel_rfl
/-- (zugzwang/board.checker).pieces -/
def a89 : AF := ⟨61, [.tmp 2],
 (.seq (.ops [⟨some 1, none, .h (.box (.t 0))⟩,
 ⟨some 2, none, .p (.mv (.k (.s (.bool false))))⟩])
 (.seq (.ops [⟨some 3, none, .h (.alloc (.ints 2))⟩])
 (.seq (.seq (.ops [⟨some 7, none, .p (.fa 0 133 (.t 1))⟩,
 ⟨some 8, none, .p (.fa 0 128 (.t 7))⟩,
 ⟨some 9, none, .h (.load true 128 (.t 8))⟩,
 ⟨some 10, none, .p (.mv (.k (.s (.int .i64 0))))⟩])
 (.block 0 (.loop (.seq (.ops [⟨some 11, none, .p (.bin .lss (.t 10) (.k (.s (.int .i64 64))))⟩])
 (.seq (.cond (.t 11)
 .skip
 (.exit 0))
 (.seq (.block 1 (.seq (.ops [⟨some 12, none, .p (.mv (.t 10))⟩,
 ⟨some 13, none, .p (.ix 64 2 true (.t 9) (.t 10))⟩,
 ⟨some 5, none, .h (.alloc (.ints 2))⟩,
 ⟨some 4, none, .p (.mv (.t 12))⟩,
 ⟨none, none, .h (.store 2 (.t 5) (.t 13))⟩])
 (.seq (.seq (.ops [⟨some 14, none, .h (.load true 2 (.t 5))⟩,
 ⟨some 15, none, .p (.build (.ints 2) [])⟩,
 ⟨some 16, none, .p (.eqa false 2 (.t 14) (.t 15))⟩])
 (.cond (.t 16)
 (.exit 1)
 .skip))
 (.seq (.ops [⟨some 17, none, .p (.mv (.t 4))⟩,
 ⟨some 18, none, .h (.call (.k (.fn 38 [])) [(.t 17)])⟩,
 ⟨some 19, none, .p (.bin .eql (.t 18) (.k (.s (.int .i64 0))))⟩,
 ⟨some 20, none, .p (.mv (.t 19))⟩,
 ⟨some 21, some (20, false), .p (.mv (.t 4))⟩,
 ⟨some 22, some (20, false), .h (.call (.k (.fn 38 [])) [(.t 21)])⟩,
 ⟨some 23, some (20, false), .p (.bin .eql (.t 22) (.k (.s (.int .i64 7))))⟩,
 ⟨some 24, none, .p (.pick (.t 20) (.k (.s (.bool true))) (.t 23))⟩,
 ⟨some 6, none, .p (.mv (.t 24))⟩])
 (.seq (.seq (.ops [⟨some 25, none, .h (.load true 2 (.t 5))⟩,
 ⟨some 26, none, .h (.call (.k (.fn 88 [])) [(.t 25)])⟩,
 ⟨some 27, none, .p (.un .not (.t 26))⟩,
 ⟨some 28, none, .p (.mv (.t 27))⟩,
 ⟨some 29, some (28, false), .p (.mv (.t 6))⟩,
 ⟨some 30, some (28, false), .p (.mv (.t 29))⟩,
 ⟨some 31, some (30, true), .p (.fa 0 1 (.t 5))⟩,
 ⟨some 32, some (30, true), .h (.load false 1 (.t 31))⟩,
 ⟨some 33, some (30, true), .p (.bin .eql (.t 32) (.k (.s (.int .i64 1))))⟩,
 ⟨some 34, some (28, false), .p (.pick (.t 30) (.t 33) (.k (.s (.bool false))))⟩,
 ⟨some 35, none, .p (.pick (.t 28) (.k (.s (.bool true))) (.t 34))⟩])
 (.cond (.t 35)
 (.seq (.ops [⟨some 2, none, .p (.mv (.k (.s (.bool false))))⟩])
 .ret)
 .skip))
 (.seq (.ops [⟨some 36, none, .p (.fa 0 1 (.t 5))⟩,
 ⟨some 37, none, .h (.load false 1 (.t 36))⟩,
 ⟨some 38, none, .p (.bin .eql (.t 37) (.k (.s (.int .i64 6))))⟩])
 (.cond (.t 38)
 (.ops [⟨some 39, none, .p (.fa 1 1 (.t 5))⟩,
 ⟨some 40, none, .h (.load false 1 (.t 39))⟩,
 ⟨some 41, none, .p (.ixa 2 1 (.t 3) (.t 40))⟩,
 ⟨some 42, none, .h (.load false 1 (.t 41))⟩,
 ⟨some 43, none, .p (.bin .add (.t 42) (.k (.s (.int .i64 1))))⟩,
 ⟨some 44, none, .p (.ixa 2 1 (.t 3) (.t 40))⟩,
 ⟨none, none, .h (.store 1 (.t 44) (.t 43))⟩])
 .skip)))))))
 (.ops [⟨some 45, none, .p (.bin .add (.t 10) (.k (.s (.int .i64 1))))⟩,
 ⟨some 10, none, .p (.mv (.t 45))⟩])))))))
 (.seq (.ops [⟨some 46, none, .h (.load true 2 (.t 3))⟩,
 ⟨some 47, none, .p (.build (.ints 2) [(0, 1, (.k (.s (.int .i64 1)))), (1, 1, (.k (.s (.int .i64 1))))])⟩,
 ⟨some 48, none, .p (.eqa false 2 (.t 46) (.t 47))⟩,
 ⟨some 49, none, .p (.mv (.t 48))⟩,
 ⟨some 50, some (49, true), .p (.fa 0 133 (.t 1))⟩,
 ⟨some 51, some (49, true), .p (.fa 128 1 (.t 50))⟩,
 ⟨some 52, some (49, true), .h (.load false 1 (.t 51))⟩,
 ⟨some 53, some (49, true), .p (.bin .eql (.t 52) (.k (.s (.int .i64 0))))⟩,
 ⟨some 54, some (49, true), .p (.mv (.t 53))⟩,
 ⟨some 55, some (54, false), .p (.fa 0 133 (.t 1))⟩,
 ⟨some 56, some (54, false), .p (.fa 128 1 (.t 55))⟩,
 ⟨some 57, some (54, false), .h (.load false 1 (.t 56))⟩,
 ⟨some 58, some (54, false), .p (.bin .eql (.t 57) (.k (.s (.int .i64 1))))⟩,
 ⟨some 59, some (49, true), .p (.pick (.t 54) (.k (.s (.bool true))) (.t 58))⟩,
 ⟨some 60, none, .p (.pick (.t 49) (.t 59) (.k (.s (.bool false))))⟩,
 ⟨some 2, none, .p (.mv (.t 60))⟩])
 .ret))))⟩
theorem c89 : compF Try.prog Try.f89 = some a89 := by kernel_rfl
/-- (zugzwang/board.checker).castles -/
def a90 : AF := ⟨46, [.tmp 2],
 (.seq (.ops [⟨some 1, none, .h (.box (.t 0))⟩,
 ⟨some 2, none, .p (.mv (.k (.s (.bool false))))⟩])
 (.seq (.seq (.ops [⟨some 6, none, .p (.fa 0 133 (.t 1))⟩,
 ⟨some 7, none, .p (.fa 129 1 (.t 6))⟩,
 ⟨some 8, none, .h (.load false 1 (.t 7))⟩,
 ⟨some 9, none, .p (.bin .lss (.t 8) (.k (.s (.int .i64 0))))⟩,
 ⟨some 10, none, .p (.mv (.t 9))⟩,
 ⟨some 11, some (10, false), .p (.fa 0 133 (.t 1))⟩,
 ⟨some 12, some (10, false), .p (.fa 129 1 (.t 11))⟩,
 ⟨some 13, some (10, false), .h (.load false 1 (.t 12))⟩,
 ⟨some 14, some (10, false), .p (.bin .gtr (.t 13) (.k (.s (.int .i64 15))))⟩,
 ⟨some 15, none, .p (.pick (.t 10) (.k (.s (.bool true))) (.t 14))⟩])
 (.cond (.t 15)
 (.seq (.ops [⟨some 2, none, .p (.mv (.k (.s (.bool false))))⟩])
 .ret)
 .skip))
 (.seq (.seq (.ops [⟨some 16, none, .p (.build (.ints 4) [(0, 1, (.k (.s (.int .i64 7)))), (1, 1, (.k (.s (.int .i64 0)))), (2, 1, (.k (.s (.int .i64 63)))), (3, 1, (.k (.s (.int .i64 56))))])⟩,
 ⟨some 17, none, .p (.mv (.k (.s (.int .i64 0))))⟩])
 (.block 0 (.loop (.seq (.ops [⟨some 18, none, .p (.bin .lss (.t 17) (.k (.s (.int .i64 4))))⟩])
 (.seq (.cond (.t 18)
 .skip
 (.exit 0))
 (.seq (.block 1 (.seq (.ops [⟨some 19, none, .p (.mv (.t 17))⟩,
 ⟨some 20, none, .p (.ix 4 1 false (.t 16) (.t 17))⟩,
 ⟨some 3, none, .p (.mv (.t 19))⟩,
 ⟨some 4, none, .p (.mv (.t 20))⟩])
 (.seq (.seq (.ops [⟨some 21, none, .p (.fa 0 133 (.t 1))⟩,
 ⟨some 22, none, .p (.fa 129 1 (.t 21))⟩,
 ⟨some 23, none, .h (.load false 1 (.t 22))⟩,
 ⟨some 24, none, .p (.mv (.t 3))⟩,
 ⟨some 25, none, .p (.bin .shr (.t 23) (.t 24))⟩,
 ⟨some 26, none, .p (.bin .and (.t 25) (.k (.s (.int .i64 1))))⟩,
 ⟨some 27, none, .p (.bin .eql (.t 26) (.k (.s (.int .i64 0))))⟩])
 (.cond (.t 27)
 (.exit 1)
 .skip))
 (.seq (.ops [⟨some 28, none, .p (.mv (.t 3))⟩,
 ⟨some 29, none, .p (.bin .quo (.t 28) (.k (.s (.int .i64 2))))⟩,
 ⟨some 5, none, .p (.mv (.t 29))⟩])
 (.seq (.ops [⟨some 30, none, .h (.load true 133 (.t 1))⟩,
 ⟨some 31, none, .p (.mv (.t 5))⟩,
 ⟨some 32, none, .p (.mv (.t 4))⟩,
 ⟨some 33, none, .h (.call (.k (.fn 112 [])) [(.t 30), (.k (.s (.int .i64 4))), (.t 31), (.t 32)])⟩,
 ⟨some 34, none, .p (.un .not (.t 33))⟩,
 ⟨some 35, none, .p (.mv (.t 34))⟩,
 ⟨some 36, some (35, false), .h (.load true 133 (.t 1))⟩,
 ⟨some 37, some (35, false), .p (.mv (.t 5))⟩,
 ⟨some 38, some (35, false), .p (.mv (.t 4))⟩,
 ⟨some 39, some (35, false), .p (.bin .quo (.t 38) (.k (.s (.int .i64 8))))⟩,
 ⟨some 40, some (35, false), .p (.bin .mul (.t 39) (.k (.s (.int .i64 8))))⟩,
 ⟨some 41, some (35, false), .p (.bin .add (.t 40) (.k (.s (.int .i64 4))))⟩,
 ⟨some 42, some (35, false), .h (.call (.k (.fn 112 [])) [(.t 36), (.k (.s (.int .i64 6))), (.t 37), (.t 41)])⟩,
 ⟨some 43, some (35, false), .p (.un .not (.t 42))⟩,
 ⟨some 44, none, .p (.pick (.t 35) (.k (.s (.bool true))) (.t 43))⟩])
 (.cond (.t 44)
 (.seq (.ops [⟨some 2, none, .p (.mv (.k (.s (.bool false))))⟩])
 .ret)
 .skip))))))
 (.ops [⟨some 45, none, .p (.bin .add (.t 17) (.k (.s (.int .i64 1))))⟩,
 ⟨some 17, none, .p (.mv (.t 45))⟩])))))))
 (.seq (.ops [⟨some 2, none, .p (.mv (.k (.s (.bool true))))⟩])
 .ret))))⟩
theorem c90 : compF Try.prog Try.f90 = some a90 := by kernel_rfl
/-- (zugzwang/board.checker).over -/
def a91 : AF := ⟨55, [.tmp 2],
 (.seq (.ops [⟨some 1, none, .h (.box (.t 0))⟩,
 ⟨some 2, none, .p (.mv (.k (.s (.bool false))))⟩])
 (.seq (.seq (.ops [⟨some 6, none, .p (.fa 0 133 (.t 1))⟩,
 ⟨some 7, none, .p (.fa 130 1 (.t 6))⟩,
 ⟨some 8, none, .h (.load false 1 (.t 7))⟩,
 ⟨some 9, none, .p (.bin .eql (.t 8) (.k (.s (.int .i64 (-1)))))⟩])
 (.cond (.t 9)
 (.seq (.ops [⟨some 2, none, .p (.mv (.k (.s (.bool true))))⟩])
 .ret)
 .skip))
 (.seq (.ops [⟨some 3, none, .p (.mv (.k (.s (.int .i64 5))))⟩,
 ⟨some 4, none, .p (.mv (.k (.s (.int .i64 1))))⟩])
 (.seq (.seq (.ops [⟨some 10, none, .p (.fa 0 133 (.t 1))⟩,
 ⟨some 11, none, .p (.fa 128 1 (.t 10))⟩,
 ⟨some 12, none, .h (.load false 1 (.t 11))⟩,
 ⟨some 13, none, .p (.bin .eql (.t 12) (.k (.s (.int .i64 1))))⟩])
 (.cond (.t 13)
 (.ops [⟨some 3, none, .p (.mv (.k (.s (.int .i64 2))))⟩,
 ⟨some 4, none, .p (.mv (.k (.s (.int .i64 (-1)))))⟩])
 .skip))
 (.seq (.seq (.ops [⟨some 14, none, .p (.fa 0 133 (.t 1))⟩,
 ⟨some 15, none, .p (.fa 130 1 (.t 14))⟩,
 ⟨some 16, none, .h (.load false 1 (.t 15))⟩,
 ⟨some 17, none, .h (.call (.k (.fn 38 [])) [(.t 16)])⟩,
 ⟨some 18, none, .p (.mv (.t 3))⟩,
 ⟨some 19, none, .p (.bin .neq (.t 17) (.t 18))⟩,
 ⟨some 20, none, .p (.mv (.t 19))⟩,
 ⟨some 21, some (20, false), .p (.fa 0 133 (.t 1))⟩,
 ⟨some 22, some (20, false), .p (.fa 131 1 (.t 21))⟩,
 ⟨some 23, some (20, false), .h (.load false 1 (.t 22))⟩,
 ⟨some 24, some (20, false), .p (.bin .neq (.t 23) (.k (.s (.int .i64 0))))⟩,
 ⟨some 25, none, .p (.pick (.t 20) (.k (.s (.bool true))) (.t 24))⟩])
 (.cond (.t 25)
 (.seq (.ops [⟨some 2, none, .p (.mv (.k (.s (.bool false))))⟩])
 .ret)
 .skip))
 (.seq (.ops [⟨some 26, none, .p (.mkfn 113 [(.t 1)])⟩,
 ⟨some 5, none, .p (.mv (.t 26))⟩])
 (.seq (.ops [⟨some 27, none, .p (.mv (.t 5))⟩,
 ⟨some 28, none, .p (.fa 0 133 (.t 1))⟩,
 ⟨some 29, none, .p (.fa 130 1 (.t 28))⟩,
 ⟨some 30, none, .h (.load false 1 (.t 29))⟩,
 ⟨some 31, none, .h (.call (.t 27) [(.t 30)])⟩,
 ⟨some 32, none, .p (.mv (.t 31))⟩,
 ⟨some 33, some (32, true), .p (.mv (.t 5))⟩,
 ⟨some 34, some (32, true), .p (.fa 0 133 (.t 1))⟩,
 ⟨some 35, some (32, true), .p (.fa 130 1 (.t 34))⟩,
 ⟨some 36, some (32, true), .h (.load false 1 (.t 35))⟩,
 ⟨some 37, some (32, true), .p (.mv (.t 4))⟩,
 ⟨some 38, some (32, true), .h (.call (.k (.fn 33 [])) [(.t 36), (.k (.s (.int .i64 0))), (.t 37)])⟩,
 ⟨some 39, some (32, true), .h (.call (.t 33) [(.t 38)])⟩,
 ⟨some 40, none, .p (.pick (.t 32) (.t 39) (.k (.s (.bool false))))⟩,
 ⟨some 41, none, .p (.mv (.t 40))⟩,
 ⟨some 42, some (41, true), .h (.load true 133 (.t 1))⟩,
 ⟨some 43, some (41, true), .p (.fa 0 133 (.t 1))⟩,
 ⟨some 44, some (41, true), .p (.fa 128 1 (.t 43))⟩,
 ⟨some 45, some (41, true), .h (.load false 1 (.t 44))⟩,
 ⟨some 46, some (41, true), .h (.callq (.k (.fn 57 [])) [(.t 45)])⟩,
 ⟨some 47, some (41, true), .p (.fa 0 133 (.t 1))⟩,
 ⟨some 48, some (41, true), .p (.fa 130 1 (.t 47))⟩,
 ⟨some 49, some (41, true), .h (.load false 1 (.t 48))⟩,
 ⟨some 50, some (41, true), .p (.mv (.t 4))⟩,
 ⟨some 51, some (41, true), .p (.un .neg (.t 50))⟩,
 ⟨some 52, some (41, true), .h (.callq (.k (.fn 33 [])) [(.t 49), (.k (.s (.int .i64 0))), (.t 51)])⟩,
 ⟨some 53, some (41, true), .h (.call (.k (.fn 112 [])) [(.t 42), (.k (.s (.int .i64 1))), (.t 46), (.t 52)])⟩,
 ⟨some 54, none, .p (.pick (.t 41) (.t 53) (.k (.s (.bool false))))⟩,
 ⟨some 2, none, .p (.mv (.t 54))⟩])
 .ret)))))))⟩
theorem c91 : compF Try.prog Try.f91 = some a91 := by kernel_rfl
/-- slices.ContainsFunc[[]int,int] -/
def a92 : AF := ⟨9, [.tmp 4],
 (.seq (.ops [⟨some 4, none, .p (.mv (.k (.s (.bool false))))⟩])
 (.seq (.ops [⟨some 5, none, .p (.mv (.t 0))⟩,
 ⟨some 6, none, .p (.mv (.t 1))⟩,
 ⟨some 7, none, .h (.call (.k (.fn 114 [])) [(.t 5), (.t 6)])⟩,
 ⟨some 8, none, .p (.bin .geq (.t 7) (.k (.s (.int .i64 0))))⟩,
 ⟨some 4, none, .p (.mv (.t 8))⟩])
 .ret))⟩
theorem c92 : compF Try.prog Try.f92 = some a92 := by kernel_rfl
/-- zugzwang/board.Put$1 -/
def a93 : AF := ⟨6, [.tmp 2],
 (.seq (.ops [⟨some 2, none, .p (.mv (.k (.s (.bool false))))⟩])
 (.seq (.ops [⟨some 3, none, .p (.mv (.t 0))⟩,
 ⟨some 4, none, .h (.call (.k (.fn 39 [])) [(.t 3)])⟩,
 ⟨some 5, none, .p (.un .not (.t 4))⟩,
 ⟨some 2, none, .p (.mv (.t 5))⟩])
 .ret))⟩
theorem c93 : compF Try.prog Try.f93 = some a93 := by kernel_rfl
/-- slices.Index[[]zugzwang/api.Piece,zugzwang/api.Piece] -/
def a94 : AF := ⟨19, [.tmp 4],
 (.seq (.ops [⟨some 3, none, .h (.box (.t 1))⟩,
 ⟨some 4, none, .p (.mv (.k (.s (.int .i64 0))))⟩])
 (.seq (.seq (.ops [⟨some 6, none, .p (.mv (.t 0))⟩,
 ⟨some 7, none, .p (.len (.t 6))⟩,
 ⟨some 8, none, .p (.mv (.k (.s (.int .i64 0))))⟩])
 (.block 0 (.loop (.seq (.ops [⟨some 9, none, .p (.bin .lss (.t 8) (.t 7))⟩])
 (.seq (.cond (.t 9)
 .skip
 (.exit 0))
 (.seq (.block 1 (.seq (.ops [⟨some 10, none, .p (.mv (.t 8))⟩,
 ⟨some 5, none, .p (.mv (.t 10))⟩])
 (.seq (.ops [⟨some 11, none, .h (.load true 2 (.t 3))⟩,
 ⟨some 12, none, .p (.mv (.t 0))⟩,
 ⟨some 13, none, .p (.mv (.t 5))⟩,
 ⟨some 14, none, .p (.ixs 2 (.t 12) (.t 13))⟩,
 ⟨some 15, none, .h (.load true 2 (.t 14))⟩,
 ⟨some 16, none, .p (.eqa false 2 (.t 11) (.t 15))⟩])
 (.cond (.t 16)
 (.seq (.ops [⟨some 17, none, .p (.mv (.t 5))⟩,
 ⟨some 4, none, .p (.mv (.t 17))⟩])
 .ret)
 .skip))))
 (.ops [⟨some 18, none, .p (.bin .add (.t 8) (.k (.s (.int .i64 1))))⟩,
 ⟨some 8, none, .p (.mv (.t 18))⟩])))))))
 (.seq (.ops [⟨some 4, none, .p (.mv (.k (.s (.int .i64 (-1)))))⟩])
 .ret)))⟩
theorem c94 : compF Try.prog Try.f94 = some a94 := by kernel_rfl
/-- zugzwang/play.taken -/
def a95 : AF := ⟨116, [.tmp 4, .tmp 5],
 (.seq (.ops [⟨some 2, none, .h (.box (.t 0))⟩,
 ⟨some 3, none, .h (.box (.t 1))⟩,
 ⟨some 4, none, .p (.mv (.k .pnil))⟩,
 ⟨some 5, none, .p (.mv (.k (.s (.int .i64 0))))⟩])
 (.seq (.seq (.ops [⟨some 9, none, .p (.fa 0 1 (.t 3))⟩,
 ⟨some 10, none, .h (.load false 1 (.t 9))⟩,
 ⟨some 11, none, .h (.call (.k (.fn 39 [])) [(.t 10)])⟩,
 ⟨some 12, none, .p (.un .not (.t 11))⟩,
 ⟨some 13, none, .p (.mv (.t 12))⟩,
 ⟨some 14, some (13, false), .p (.fa 1 1 (.t 3))⟩,
 ⟨some 15, some (13, false), .h (.load false 1 (.t 14))⟩,
 ⟨some 16, some (13, false), .h (.call (.k (.fn 39 [])) [(.t 15)])⟩,
 ⟨some 17, some (13, false), .p (.un .not (.t 16))⟩,
 ⟨some 18, none, .p (.pick (.t 13) (.k (.s (.bool true))) (.t 17))⟩,
 ⟨some 19, none, .p (.mv (.t 18))⟩,
 ⟨some 20, some (19, false), .p (.fa 0 1 (.t 3))⟩,
 ⟨some 21, some (19, false), .h (.load false 1 (.t 20))⟩,
 ⟨some 22, some (19, false), .p (.fa 1 1 (.t 3))⟩,
 ⟨some 23, some (19, false), .h (.load false 1 (.t 22))⟩,
 ⟨some 24, some (19, false), .p (.bin .eql (.t 21) (.t 23))⟩,
 ⟨some 25, none, .p (.pick (.t 19) (.k (.s (.bool true))) (.t 24))⟩])
 (.cond (.t 25)
 (.seq (.ops [⟨some 4, none, .p (.mv (.k .pnil))⟩,
 ⟨some 5, none, .p (.mv (.k (.s (.int .i64 6))))⟩])
 .ret)
 .skip))
 (.seq (.ops [⟨some 26, none, .h (.load true 133 (.t 2))⟩,
 ⟨some 27, none, .h (.load true 3 (.t 3))⟩,
 ⟨some 28, none, .p (.fa 0 1 (.t 3))⟩,
 ⟨some 29, none, .h (.load false 1 (.t 28))⟩,
 ⟨some 30, none, .p (.fa 0 128 (.t 2))⟩,
 ⟨some 31, none, .p (.ixa 64 2 (.t 30) (.t 29))⟩,
 ⟨some 32, none, .h (.load true 2 (.t 31))⟩,
 ⟨some 33, none, .p (.build (.ints 138) [(0, 133, (.t 26)), (133, 3, (.t 27)), (136, 2, (.t 32))])⟩,
 ⟨some 34, none, .h (.box (.t 33))⟩,
 ⟨some 6, none, .p (.mv (.t 34))⟩])
 (.seq (.seq (.ops [⟨some 35, none, .p (.mv (.t 6))⟩,
 ⟨some 36, none, .p (.nilck (.t 35))⟩,
 ⟨some 37, none, .p (.fa 0 133 (.t 36))⟩,
 ⟨some 38, none, .p (.fa 129 1 (.t 37))⟩,
 ⟨some 39, none, .h (.load false 1 (.t 38))⟩,
 ⟨some 40, none, .p (.bin .lss (.t 39) (.k (.s (.int .i64 0))))⟩,
 ⟨some 41, none, .p (.mv (.t 40))⟩,
 ⟨some 42, some (41, false), .p (.mv (.t 6))⟩,
 ⟨some 43, some (41, false), .p (.nilck (.t 42))⟩,
 ⟨some 44, some (41, false), .p (.fa 0 133 (.t 43))⟩,
 ⟨some 45, some (41, false), .p (.fa 129 1 (.t 44))⟩,
 ⟨some 46, some (41, false), .h (.load false 1 (.t 45))⟩,
 ⟨some 47, some (41, false), .p (.bin .gtr (.t 46) (.k (.s (.int .i64 15))))⟩,
 ⟨some 48, none, .p (.pick (.t 41) (.k (.s (.bool true))) (.t 47))⟩])
 (.cond (.t 48)
 (.ops [⟨some 49, none, .p (.mv (.t 6))⟩,
 ⟨some 50, none, .p (.nilck (.t 49))⟩,
 ⟨some 51, none, .p (.fa 0 133 (.t 50))⟩,
 ⟨some 52, none, .p (.fa 129 1 (.t 51))⟩,
 ⟨none, none, .h (.store 1 (.t 52) (.k (.s (.int .i64 0))))⟩])
 .skip))
 (.seq (.ops [⟨some 53, none, .p (.mv (.t 6))⟩,
 ⟨some 54, none, .p (.nilck (.t 53))⟩,
 ⟨some 55, none, .p (.fa 136 2 (.t 54))⟩,
 ⟨some 56, none, .h (.load true 2 (.t 55))⟩,
 ⟨some 7, none, .h (.alloc (.ints 2))⟩,
 ⟨none, none, .h (.store 2 (.t 7) (.t 56))⟩])
 (.seq (.seq (.ops [⟨some 57, none, .p (.fa 0 1 (.t 7))⟩,
 ⟨some 58, none, .h (.load false 1 (.t 57))⟩,
 ⟨some 59, none, .p (.bin .lss (.t 58) (.k (.s (.int .i64 1))))⟩,
 ⟨some 60, none, .p (.mv (.t 59))⟩,
 ⟨some 61, some (60, false), .p (.fa 0 1 (.t 7))⟩,
 ⟨some 62, some (60, false), .h (.load false 1 (.t 61))⟩,
 ⟨some 63, some (60, false), .p (.bin .gtr (.t 62) (.k (.s (.int .i64 6))))⟩,
 ⟨some 64, none, .p (.pick (.t 60) (.k (.s (.bool true))) (.t 63))⟩,
 ⟨some 65, none, .p (.mv (.t 64))⟩,
 ⟨some 66, some (65, false), .p (.fa 1 1 (.t 7))⟩,
 ⟨some 67, some (65, false), .h (.load false 1 (.t 66))⟩,
 ⟨some 68, some (65, false), .p (.fa 128 1 (.t 2))⟩,
 ⟨some 69, some (65, false), .h (.load false 1 (.t 68))⟩,
 ⟨some 70, some (65, false), .p (.bin .neq (.t 67) (.t 69))⟩,
 ⟨some 71, none, .p (.pick (.t 65) (.k (.s (.bool true))) (.t 70))⟩,
 ⟨some 72, none, .p (.mv (.t 71))⟩,
 ⟨some 73, some (72, false), .p (.fa 1 1 (.t 7))⟩,
 ⟨some 74, some (72, false), .h (.load false 1 (.t 73))⟩,
 ⟨some 75, some (72, false), .p (.bin .neq (.t 74) (.k (.s (.int .i64 0))))⟩,
 ⟨some 76, some (72, false), .p (.mv (.t 75))⟩,
 ⟨some 77, some (76, true), .p (.fa 1 1 (.t 7))⟩,
 ⟨some 78, some (76, true), .h (.load false 1 (.t 77))⟩,
 ⟨some 79, some (76, true), .p (.bin .neq (.t 78) (.k (.s (.int .i64 1))))⟩,
 ⟨some 80, some (72, false), .p (.pick (.t 76) (.t 79) (.k (.s (.bool false))))⟩,
 ⟨some 81, none, .p (.pick (.t 72) (.k (.s (.bool true))) (.t 80))⟩])
 (.cond (.t 81)
 (.seq (.ops [⟨some 4, none, .p (.mv (.k .pnil))⟩,
 ⟨some 5, none, .p (.mv (.k (.s (.int .i64 8))))⟩])
 .ret)
 .skip))
 (.seq (.ops [⟨some 82, none, .p (.fa 0 1 (.t 7))⟩,
 ⟨some 83, none, .h (.load false 1 (.t 82))⟩,
 ⟨some 84, none, .p (.bin .eql (.t 83) (.k (.s (.int .i64 1))))⟩,
 ⟨some 85, none, .p (.mv (.t 84))⟩,
 ⟨some 86, some (85, true), .p (.fa 1 1 (.t 3))⟩,
 ⟨some 87, some (85, true), .h (.load false 1 (.t 86))⟩,
 ⟨some 88, some (85, true), .h (.callq (.k (.fn 38 [])) [(.t 87)])⟩,
 ⟨some 89, some (85, true), .p (.fa 1 1 (.t 7))⟩,
 ⟨some 90, some (85, true), .h (.load false 1 (.t 89))⟩,
 ⟨some 91, some (85, true), .p (.bin .sub (.k (.s (.int .i64 1))) (.t 90))⟩,
 ⟨some 92, some (85, true), .p (.bin .mul (.k (.s (.int .i64 7))) (.t 91))⟩,
 ⟨some 93, some (85, true), .p (.bin .eql (.t 88) (.t 92))⟩,
 ⟨some 94, none, .p (.pick (.t 85) (.t 93) (.k (.s (.bool false))))⟩,
 ⟨some 8, none, .p (.mv (.t 94))⟩])
 (.seq (.seq (.ops [⟨some 95, none, .p (.mv (.t 8))⟩,
 ⟨some 96, none, .p (.mv (.t 95))⟩,
 ⟨some 97, some (96, true), .p (.fa 2 1 (.t 3))⟩,
 ⟨some 98, some (96, true), .h (.load false 1 (.t 97))⟩,
 ⟨some 99, some (96, true), .p (.bin .lss (.t 98) (.k (.s (.int .i64 2))))⟩,
 ⟨some 100, some (96, true), .p (.mv (.t 99))⟩,
 ⟨some 101, some (100, false), .p (.fa 2 1 (.t 3))⟩,
 ⟨some 102, some (100, false), .h (.load false 1 (.t 101))⟩,
 ⟨some 103, some (100, false), .p (.bin .gtr (.t 102) (.k (.s (.int .i64 5))))⟩,
 ⟨some 104, some (96, true), .p (.pick (.t 100) (.k (.s (.bool true))) (.t 103))⟩,
 ⟨some 105, none, .p (.pick (.t 96) (.t 104) (.k (.s (.bool false))))⟩,
 ⟨some 106, none, .p (.mv (.t 105))⟩,
 ⟨some 107, some (106, false), .p (.mv (.t 8))⟩,
 ⟨some 108, some (106, false), .p (.un .not (.t 107))⟩,
 ⟨some 109, some (106, false), .p (.mv (.t 108))⟩,
 ⟨some 110, some (109, true), .p (.fa 2 1 (.t 3))⟩,
 ⟨some 111, some (109, true), .h (.load false 1 (.t 110))⟩,
 ⟨some 112, some (109, true), .p (.bin .neq (.t 111) (.k (.s (.int .i64 0))))⟩,
 ⟨some 113, some (106, false), .p (.pick (.t 109) (.t 112) (.k (.s (.bool false))))⟩,
 ⟨some 114, none, .p (.pick (.t 106) (.k (.s (.bool true))) (.t 113))⟩])
 (.cond (.t 114)
 (.seq (.ops [⟨some 4, none, .p (.mv (.k .pnil))⟩,
 ⟨some 5, none, .p (.mv (.k (.s (.int .i64 8))))⟩])
 .ret)
 .skip))
 (.seq (.ops [⟨some 115, none, .p (.mv (.t 6))⟩,
 ⟨some 4, none, .p (.mv (.t 115))⟩,
 ⟨some 5, none, .p (.mv (.k (.s (.int .i64 0))))⟩])
 .ret)))))))))⟩
theorem c95 : compF Try.prog Try.f95 = some a95 := by kernel_rfl
/-- (*zugzwang/play.hand).made -/
def a96 : AF := ⟨161, [.cell 2 true 133],
 (.seq (.ops [⟨some 2, none, .h (.alloc (.ints 133))⟩])
 (.seq (.ops [⟨some 9, none, .p (.mv (.t 0))⟩,
 ⟨some 10, none, .h (.call (.k (.fn 104 [])) [(.t 9)])⟩,
 ⟨some 3, none, .p (.mv (.t 10))⟩])
 (.seq (.ops [⟨some 12, none, .p (.mv (.t 0))⟩,
 ⟨some 13, none, .h (.call (.k (.fn 115 [])) [(.t 12)])⟩,
 ⟨some 11, none, .p (.mv (.t 13))⟩,
 ⟨some 14, none, .p (.ext (.t 11) 0)⟩,
 ⟨some 15, none, .p (.ext (.t 11) 1)⟩,
 ⟨some 16, none, .p (.ext (.t 11) 2)⟩,
 ⟨some 4, none, .p (.mv (.t 14))⟩,
 ⟨some 5, none, .p (.mv (.t 15))⟩,
 ⟨some 6, none, .p (.mv (.t 16))⟩])
 (.seq (.ops [⟨some 7, none, .p (.mv (.k (.s (.int .i64 (-1)))))⟩])
 (.seq (.seq (.ops [⟨some 17, none, .p (.mv (.t 0))⟩,
 ⟨some 18, none, .h (.call (.k (.fn 116 [])) [(.t 17)])⟩])
 (.cond (.t 18)
 (.ops [⟨some 19, none, .p (.mv (.t 0))⟩,
 ⟨some 20, none, .p (.nilck (.t 19))⟩,
 ⟨some 21, none, .p (.fa 133 3 (.t 20))⟩,
 ⟨some 22, none, .p (.fa 0 1 (.t 21))⟩,
 ⟨some 23, none, .h (.load false 1 (.t 22))⟩,
 ⟨some 24, none, .p (.mv (.t 0))⟩,
 ⟨some 25, none, .p (.nilck (.t 24))⟩,
 ⟨some 26, none, .p (.fa 133 3 (.t 25))⟩,
 ⟨some 27, none, .p (.fa 1 1 (.t 26))⟩,
 ⟨some 28, none, .h (.load false 1 (.t 27))⟩,
 ⟨some 29, none, .p (.bin .add (.t 23) (.t 28))⟩,
 ⟨some 30, none, .p (.bin .quo (.t 29) (.k (.s (.int .i64 2))))⟩,
 ⟨some 7, none, .p (.mv (.t 30))⟩])
 .skip))
 (.seq (.ops [⟨some 31, none, .p (.mv (.t 0))⟩,
 ⟨some 32, none, .p (.nilck (.t 31))⟩,
 ⟨some 33, none, .p (.fa 136 2 (.t 32))⟩,
 ⟨some 34, none, .h (.load true 2 (.t 33))⟩,
 ⟨some 8, none, .h (.alloc (.ints 2))⟩,
 ⟨none, none, .h (.store 2 (.t 8) (.t 34))⟩])
 (.seq (.seq (.ops [⟨some 35, none, .p (.mv (.t 0))⟩,
 ⟨some 36, none, .p (.nilck (.t 35))⟩,
 ⟨some 37, none, .p (.fa 133 3 (.t 36))⟩,
 ⟨some 38, none, .p (.fa 2 1 (.t 37))⟩,
 ⟨some 39, none, .h (.load false 1 (.t 38))⟩,
 ⟨some 40, none, .p (.bin .neq (.t 39) (.k (.s (.int .i64 0))))⟩])
 (.cond (.t 40)
 (.ops [⟨some 41, none, .p (.mv (.t 0))⟩,
 ⟨some 42, none, .p (.nilck (.t 41))⟩,
 ⟨some 43, none, .p (.fa 133 3 (.t 42))⟩,
 ⟨some 44, none, .p (.fa 2 1 (.t 43))⟩,
 ⟨some 45, none, .h (.load false 1 (.t 44))⟩,
 ⟨some 46, none, .p (.fa 0 1 (.t 8))⟩,
 ⟨none, none, .h (.store 1 (.t 46) (.t 45))⟩])
 .skip))
 (.seq (.ops [⟨some 47, none, .p (.mv (.t 0))⟩,
 ⟨some 48, none, .p (.build (.ints 2) [])⟩,
 ⟨some 49, none, .p (.mv (.t 3))⟩,
 ⟨some 50, none, .p (.mv (.t 0))⟩,
 ⟨some 51, none, .p (.nilck (.t 50))⟩,
 ⟨some 52, none, .p (.fa 133 3 (.t 51))⟩,
 ⟨some 53, none, .p (.fa 0 1 (.t 52))⟩,
 ⟨some 54, none, .h (.load false 1 (.t 53))⟩,
 ⟨some 55, none, .h (.mksl 2 1 (.one (.s (.int .i64 0))) [(0, (.t 49)), (1, (.t 54))])⟩,
 ⟨some 56, none, .h (.call (.k (.fn 117 [])) [(.t 47), (.t 48), (.t 55)])⟩])
 (.seq (.ops [⟨some 57, none, .p (.mv (.t 0))⟩,
 ⟨some 58, none, .h (.load true 2 (.t 8))⟩,
 ⟨some 59, none, .p (.mv (.t 0))⟩,
 ⟨some 60, none, .p (.nilck (.t 59))⟩,
 ⟨some 61, none, .p (.fa 133 3 (.t 60))⟩,
 ⟨some 62, none, .p (.fa 1 1 (.t 61))⟩,
 ⟨some 63, none, .h (.load false 1 (.t 62))⟩,
 ⟨some 64, none, .h (.mksl 1 1 (.one (.s (.int .i64 0))) [(0, (.t 63))])⟩,
 ⟨some 65, none, .h (.call (.k (.fn 117 [])) [(.t 57), (.t 58), (.t 64)])⟩])
 (.seq (.seq (.ops [⟨some 66, none, .p (.mv (.t 6))⟩])
 (.cond (.t 66)
 (.seq (.ops [⟨some 67, none, .p (.mv (.t 0))⟩,
 ⟨some 68, none, .p (.build (.ints 2) [])⟩,
 ⟨some 69, none, .p (.mv (.t 4))⟩,
 ⟨some 70, none, .h (.mksl 1 1 (.one (.s (.int .i64 0))) [(0, (.t 69))])⟩,
 ⟨some 71, none, .h (.call (.k (.fn 117 [])) [(.t 67), (.t 68), (.t 70)])⟩])
 (.ops [⟨some 72, none, .p (.mv (.t 0))⟩,
 ⟨some 73, none, .p (.fa 1 1 (.t 8))⟩,
 ⟨some 74, none, .h (.load false 1 (.t 73))⟩,
 ⟨some 75, none, .p (.build (.ints 2) [(0, 1, (.k (.s (.int .i64 4)))), (1, 1, (.t 74))])⟩,
 ⟨some 76, none, .p (.mv (.t 5))⟩,
 ⟨some 77, none, .h (.mksl 1 1 (.one (.s (.int .i64 0))) [(0, (.t 76))])⟩,
 ⟨some 78, none, .h (.call (.k (.fn 117 [])) [(.t 72), (.t 75), (.t 77)])⟩]))
 .skip))
 (.seq (.ops [⟨some 79, none, .p (.mv (.t 0))⟩,
 ⟨some 80, none, .p (.mv (.t 7))⟩,
 ⟨some 81, none, .p (.nilck (.t 79))⟩,
 ⟨some 82, none, .p (.fa 0 133 (.t 81))⟩,
 ⟨some 83, none, .p (.fa 130 1 (.t 82))⟩,
 ⟨none, none, .h (.store 1 (.t 83) (.t 80))⟩])
 (.seq (.ops [⟨some 84, none, .p (.mv (.t 0))⟩,
 ⟨some 85, none, .p (.nilck (.t 84))⟩,
 ⟨some 86, none, .p (.fa 0 133 (.t 85))⟩,
 ⟨some 87, none, .p (.fa 129 1 (.t 86))⟩,
 ⟨some 88, none, .h (.load false 1 (.t 87))⟩,
 ⟨some 89, none, .p (.mv (.t 0))⟩,
 ⟨some 90, none, .p (.nilck (.t 89))⟩,
 ⟨some 91, none, .p (.fa 133 3 (.t 90))⟩,
 ⟨some 92, none, .p (.fa 0 1 (.t 91))⟩,
 ⟨some 93, none, .h (.load false 1 (.t 92))⟩,
 ⟨some 94, none, .p (.mv (.t 0))⟩,
 ⟨some 95, none, .p (.nilck (.t 94))⟩,
 ⟨some 96, none, .p (.fa 133 3 (.t 95))⟩,
 ⟨some 97, none, .p (.fa 1 1 (.t 96))⟩,
 ⟨some 98, none, .h (.load false 1 (.t 97))⟩,
 ⟨some 99, none, .h (.mksl 2 1 (.one (.s (.int .i64 0))) [(0, (.t 93)), (1, (.t 98))])⟩,
 ⟨some 100, none, .h (.callq (.k (.fn 118 [])) [(.t 99)])⟩,
 ⟨some 101, none, .p (.bin .andNot (.t 88) (.t 100))⟩,
 ⟨some 102, none, .p (.nilck (.t 84))⟩,
 ⟨some 103, none, .p (.fa 0 133 (.t 102))⟩,
 ⟨some 104, none, .p (.fa 129 1 (.t 103))⟩,
 ⟨none, none, .h (.store 1 (.t 104) (.t 101))⟩])
 (.seq (.ops [⟨some 105, none, .p (.mv (.t 0))⟩,
 ⟨some 106, none, .p (.mv (.t 0))⟩,
 ⟨some 107, none, .p (.nilck (.t 106))⟩,
 ⟨some 108, none, .p (.fa 0 133 (.t 107))⟩,
 ⟨some 109, none, .p (.fa 131 1 (.t 108))⟩,
 ⟨some 110, none, .h (.load false 1 (.t 109))⟩,
 ⟨some 111, none, .p (.mn [(.t 110), (.k (.s (.int .i64 1023)))])⟩,
 ⟨some 112, none, .p (.bin .add (.t 111) (.k (.s (.int .i64 1))))⟩,
 ⟨some 113, none, .p (.nilck (.t 105))⟩,
 ⟨some 114, none, .p (.fa 0 133 (.t 113))⟩,
 ⟨some 115, none, .p (.fa 131 1 (.t 114))⟩,
 ⟨none, none, .h (.store 1 (.t 115) (.t 112))⟩])
 (.seq (.seq (.ops [⟨some 116, none, .p (.mv (.t 3))⟩,
 ⟨some 117, none, .p (.bin .neq (.t 116) (.k (.s (.int .i64 (-1)))))⟩,
 ⟨some 118, none, .p (.mv (.t 117))⟩,
 ⟨some 119, some (118, false), .p (.mv (.t 0))⟩,
 ⟨some 120, some (118, false), .p (.nilck (.t 119))⟩,
 ⟨some 121, some (118, false), .p (.fa 136 2 (.t 120))⟩,
 ⟨some 122, some (118, false), .p (.fa 0 1 (.t 121))⟩,
 ⟨some 123, some (118, false), .h (.load false 1 (.t 122))⟩,
 ⟨some 124, some (118, false), .p (.bin .eql (.t 123) (.k (.s (.int .i64 1))))⟩,
 ⟨some 125, none, .p (.pick (.t 118) (.k (.s (.bool true))) (.t 124))⟩])
 (.cond (.t 125)
 (.ops [⟨some 126, none, .p (.mv (.t 0))⟩,
 ⟨some 127, none, .p (.nilck (.t 126))⟩,
 ⟨some 128, none, .p (.fa 0 133 (.t 127))⟩,
 ⟨some 129, none, .p (.fa 131 1 (.t 128))⟩,
 ⟨none, none, .h (.store 1 (.t 129) (.k (.s (.int .i64 0))))⟩])
 .skip))
 (.seq (.seq (.ops [⟨some 130, none, .p (.mv (.t 0))⟩,
 ⟨some 131, none, .p (.nilck (.t 130))⟩,
 ⟨some 132, none, .p (.fa 0 133 (.t 131))⟩,
 ⟨some 133, none, .p (.fa 128 1 (.t 132))⟩,
 ⟨some 134, none, .h (.load false 1 (.t 133))⟩,
 ⟨some 135, none, .p (.bin .eql (.t 134) (.k (.s (.int .i64 1))))⟩])
 (.cond (.t 135)
 (.ops [⟨some 136, none, .p (.mv (.t 0))⟩,
 ⟨some 137, none, .p (.mv (.t 0))⟩,
 ⟨some 138, none, .p (.nilck (.t 137))⟩,
 ⟨some 139, none, .p (.fa 0 133 (.t 138))⟩,
 ⟨some 140, none, .p (.fa 132 1 (.t 139))⟩,
 ⟨some 141, none, .h (.load false 1 (.t 140))⟩,
 ⟨some 142, none, .p (.mn [(.t 141), (.k (.s (.int .i64 16383)))])⟩,
 ⟨some 143, none, .p (.bin .add (.t 142) (.k (.s (.int .i64 1))))⟩,
 ⟨some 144, none, .p (.nilck (.t 136))⟩,
 ⟨some 145, none, .p (.fa 0 133 (.t 144))⟩,
 ⟨some 146, none, .p (.fa 132 1 (.t 145))⟩,
 ⟨none, none, .h (.store 1 (.t 146) (.t 143))⟩])
 .skip))
 (.seq (.ops [⟨some 147, none, .p (.mv (.t 0))⟩,
 ⟨some 148, none, .p (.mv (.t 0))⟩,
 ⟨some 149, none, .p (.nilck (.t 148))⟩,
 ⟨some 150, none, .p (.fa 0 133 (.t 149))⟩,
 ⟨some 151, none, .p (.fa 128 1 (.t 150))⟩,
 ⟨some 152, none, .h (.load false 1 (.t 151))⟩,
 ⟨some 153, none, .h (.call (.k (.fn 57 [])) [(.t 152)])⟩,
 ⟨some 154, none, .p (.nilck (.t 147))⟩,
 ⟨some 155, none, .p (.fa 0 133 (.t 154))⟩,
 ⟨some 156, none, .p (.fa 128 1 (.t 155))⟩,
 ⟨none, none, .h (.store 1 (.t 156) (.t 153))⟩])
 (.seq (.ops [⟨some 157, none, .p (.mv (.t 0))⟩,
 ⟨some 158, none, .p (.nilck (.t 157))⟩,
 ⟨some 159, none, .p (.fa 0 133 (.t 158))⟩,
 ⟨some 160, none, .h (.load true 133 (.t 159))⟩,
 ⟨none, none, .h (.store 133 (.t 2) (.t 160))⟩])
 .ret)))))))))))))))))⟩
theorem c96 : compF Try.prog Try.f96 = some a96 := by kernel_rfl
/-- zugzwang/zugzwangref08.is -/
def a97 : AF := ⟨9, [.tmp 2],
 (.seq (.ops [⟨some 2, none, .p (.mv (.k (.s (.bool false))))⟩])
 (.seq (.ops [⟨some 3, none, .p (.mv (.t 0))⟩,
 ⟨some 4, none, .p (.bin .geq (.t 3) (.k (.s (.int .i64 0))))⟩,
 ⟨some 5, none, .p (.mv (.t 4))⟩,
 ⟨some 6, some (5, true), .p (.mv (.t 0))⟩,
 ⟨some 7, some (5, true), .p (.bin .lss (.t 6) (.k (.s (.int .i64 64))))⟩,
 ⟨some 8, none, .p (.pick (.t 5) (.t 7) (.k (.s (.bool false))))⟩,
 ⟨some 2, none, .p (.mv (.t 8))⟩])
 .ret))⟩
theorem c97 : compF Try.prog Try.f97 = some a97 := by kernel_rfl
/-- zugzwang/zugzwangref08.Can -/
def a98 : AF := ⟨59, [.tmp 4],
 (.seq (.ops [⟨some 2, none, .h (.box (.t 0))⟩,
 ⟨some 3, none, .h (.box (.t 1))⟩,
 ⟨some 4, none, .p (.mv (.k (.s (.bool false))))⟩])
 (.seq (.ops [⟨some 7, none, .p (.fa 0 1 (.t 3))⟩,
 ⟨some 8, none, .h (.load false 1 (.t 7))⟩,
 ⟨some 9, none, .p (.fa 0 128 (.t 2))⟩,
 ⟨some 10, none, .p (.ixa 64 2 (.t 9) (.t 8))⟩,
 ⟨some 11, none, .h (.load true 2 (.t 10))⟩,
 ⟨some 5, none, .h (.alloc (.ints 2))⟩,
 ⟨none, none, .h (.store 2 (.t 5) (.t 11))⟩])
 (.seq (.seq (.ops [⟨some 12, none, .h (.load true 2 (.t 5))⟩,
 ⟨some 13, none, .h (.call (.k (.fn 55 [])) [(.t 12)])⟩,
 ⟨some 14, none, .p (.un .not (.t 13))⟩,
 ⟨some 15, none, .p (.mv (.t 14))⟩,
 ⟨some 16, some (15, false), .p (.fa 1 1 (.t 5))⟩,
 ⟨some 17, some (15, false), .h (.load false 1 (.t 16))⟩,
 ⟨some 18, some (15, false), .p (.fa 128 1 (.t 2))⟩,
 ⟨some 19, some (15, false), .h (.load false 1 (.t 18))⟩,
 ⟨some 20, some (15, false), .p (.bin .neq (.t 17) (.t 19))⟩,
 ⟨some 21, none, .p (.pick (.t 15) (.k (.s (.bool true))) (.t 20))⟩])
 (.cond (.t 21)
 (.seq (.ops [⟨some 4, none, .p (.mv (.k (.s (.bool false))))⟩])
 .ret)
 .skip))
 (.seq (.ops [⟨some 22, none, .p (.fa 0 1 (.t 5))⟩,
 ⟨some 23, none, .h (.load false 1 (.t 22))⟩,
 ⟨some 24, none, .p (.bin .eql (.t 23) (.k (.s (.int .i64 1))))⟩,
 ⟨some 25, none, .p (.mv (.t 24))⟩,
 ⟨some 26, some (25, true), .p (.fa 1 1 (.t 5))⟩,
 ⟨some 27, some (25, true), .h (.load false 1 (.t 26))⟩,
 ⟨some 28, some (25, true), .p (.bin .eql (.t 27) (.k (.s (.int .i64 0))))⟩,
 ⟨some 29, some (25, true), .p (.mv (.t 28))⟩,
 ⟨some 30, some (29, true), .p (.fa 1 1 (.t 3))⟩,
 ⟨some 31, some (29, true), .h (.load false 1 (.t 30))⟩,
 ⟨some 32, some (29, true), .p (.bin .quo (.t 31) (.k (.s (.int .i64 8))))⟩,
 ⟨some 33, some (29, true), .p (.bin .eql (.t 32) (.k (.s (.int .i64 7))))⟩,
 ⟨some 34, some (25, true), .p (.pick (.t 29) (.t 33) (.k (.s (.bool false))))⟩,
 ⟨some 35, some (25, true), .p (.mv (.t 34))⟩,
 ⟨some 36, some (35, false), .p (.fa 1 1 (.t 5))⟩,
 ⟨some 37, some (35, false), .h (.load false 1 (.t 36))⟩,
 ⟨some 38, some (35, false), .p (.bin .eql (.t 37) (.k (.s (.int .i64 1))))⟩,
 ⟨some 39, some (35, false), .p (.mv (.t 38))⟩,
 ⟨some 40, some (39, true), .p (.fa 1 1 (.t 3))⟩,
 ⟨some 41, some (39, true), .h (.load false 1 (.t 40))⟩,
 ⟨some 42, some (39, true), .p (.bin .quo (.t 41) (.k (.s (.int .i64 8))))⟩,
 ⟨some 43, some (39, true), .p (.bin .eql (.t 42) (.k (.s (.int .i64 0))))⟩,
 ⟨some 44, some (35, false), .p (.pick (.t 39) (.t 43) (.k (.s (.bool false))))⟩,
 ⟨some 45, some (25, true), .p (.pick (.t 35) (.k (.s (.bool true))) (.t 44))⟩,
 ⟨some 46, none, .p (.pick (.t 25) (.t 45) (.k (.s (.bool false))))⟩,
 ⟨some 6, none, .p (.mv (.t 46))⟩])
 (.seq (.seq (.ops [⟨some 47, none, .p (.mv (.t 6))⟩])
 (.cond (.t 47)
 (.seq (.ops [⟨some 48, none, .p (.fa 2 1 (.t 3))⟩,
 ⟨some 49, none, .h (.load false 1 (.t 48))⟩,
 ⟨some 50, none, .p (.bin .geq (.t 49) (.k (.s (.int .i64 2))))⟩,
 ⟨some 51, none, .p (.mv (.t 50))⟩,
 ⟨some 52, some (51, true), .p (.fa 2 1 (.t 3))⟩,
 ⟨some 53, some (51, true), .h (.load false 1 (.t 52))⟩,
 ⟨some 54, some (51, true), .p (.bin .leq (.t 53) (.k (.s (.int .i64 5))))⟩,
 ⟨some 55, none, .p (.pick (.t 51) (.t 54) (.k (.s (.bool false))))⟩,
 ⟨some 4, none, .p (.mv (.t 55))⟩])
 .ret)
 .skip))
 (.seq (.ops [⟨some 56, none, .p (.fa 2 1 (.t 3))⟩,
 ⟨some 57, none, .h (.load false 1 (.t 56))⟩,
 ⟨some 58, none, .p (.bin .eql (.t 57) (.k (.s (.int .i64 0))))⟩,
 ⟨some 4, none, .p (.mv (.t 58))⟩])
 .ret))))))⟩
theorem c98 : compF Try.prog Try.f98 = some a98 := by kernel_rfl
end Go.Proofs.Ytjldefmcnppdoaa
