/- The functions of this seat, as the abstract machine has them: each held against the loaded one by the kernel. -/
import Derived.Test.YtjldefmcnppdoaaProg
import Derived.Test.YtjldefmcnppdoaaAmRun
import Derived.KernelRfl
namespace Go.Proofs.Ytjldefmcnppdoaa
open Go Go.Am
set_option maxRecDepth 100000
/-- zugzwang/zugzwangref08.castling -/
def a99 : AF := ⟨52, [.tmp 4],
 (.seq (.ops [⟨some 2, none, .h (.box (.t 0))⟩,
 ⟨some 3, none, .h (.box (.t 1))⟩,
 ⟨some 4, none, .p (.mv (.k (.s (.int .i64 0))))⟩])
 (.seq (.ops [⟨some 9, none, .p (.fa 0 1 (.t 3))⟩,
 ⟨some 10, none, .h (.load false 1 (.t 9))⟩,
 ⟨some 11, none, .p (.fa 0 128 (.t 2))⟩,
 ⟨some 12, none, .p (.ixa 64 2 (.t 11) (.t 10))⟩,
 ⟨some 13, none, .h (.load true 2 (.t 12))⟩,
 ⟨some 5, none, .h (.alloc (.ints 2))⟩,
 ⟨none, none, .h (.store 2 (.t 5) (.t 13))⟩])
 (.seq (.ops [⟨some 6, none, .p (.mv (.k (.s (.int .i64 4))))⟩,
 ⟨some 7, none, .p (.mv (.k (.s (.int .i64 1))))⟩,
 ⟨some 8, none, .p (.mv (.k (.s (.int .i64 2))))⟩])
 (.seq (.seq (.ops [⟨some 14, none, .p (.fa 1 1 (.t 5))⟩,
 ⟨some 15, none, .h (.load false 1 (.t 14))⟩,
 ⟨some 16, none, .p (.bin .eql (.t 15) (.k (.s (.int .i64 1))))⟩])
 (.cond (.t 16)
 (.ops [⟨some 6, none, .p (.mv (.k (.s (.int .i64 60))))⟩,
 ⟨some 7, none, .p (.mv (.k (.s (.int .i64 4))))⟩,
 ⟨some 8, none, .p (.mv (.k (.s (.int .i64 8))))⟩])
 .skip))
 (.seq (.seq (.ops [⟨some 17, none, .p (.fa 0 1 (.t 5))⟩,
 ⟨some 18, none, .h (.load false 1 (.t 17))⟩,
 ⟨some 19, none, .p (.bin .neq (.t 18) (.k (.s (.int .i64 6))))⟩,
 ⟨some 20, none, .p (.mv (.t 19))⟩,
 ⟨some 21, some (20, false), .p (.fa 0 1 (.t 3))⟩,
 ⟨some 22, some (20, false), .h (.load false 1 (.t 21))⟩,
 ⟨some 23, some (20, false), .p (.mv (.t 6))⟩,
 ⟨some 24, some (20, false), .p (.bin .neq (.t 22) (.t 23))⟩,
 ⟨some 25, none, .p (.pick (.t 20) (.k (.s (.bool true))) (.t 24))⟩])
 (.cond (.t 25)
 (.seq (.ops [⟨some 4, none, .p (.mv (.k (.s (.int .i64 0))))⟩])
 .ret)
 .skip))
 (.seq (.seq (.ops [⟨some 26, none, .p (.fa 1 1 (.t 3))⟩,
 ⟨some 27, none, .h (.load false 1 (.t 26))⟩,
 ⟨some 28, none, .p (.mv (.t 6))⟩,
 ⟨some 29, none, .p (.bin .add (.t 28) (.k (.s (.int .i64 2))))⟩,
 ⟨some 30, none, .p (.bin .eql (.t 27) (.t 29))⟩,
 ⟨some 31, none, .p (.mv (.t 30))⟩,
 ⟨some 32, some (31, true), .h (.load true 133 (.t 2))⟩,
 ⟨some 33, some (31, true), .h (.call (.k (.fn 101 [])) [(.t 32)])⟩,
 ⟨some 34, some (31, true), .p (.mv (.t 7))⟩,
 ⟨some 35, some (31, true), .p (.bin .quo (.t 33) (.t 34))⟩,
 ⟨some 36, some (31, true), .p (.bin .rem (.t 35) (.k (.s (.int .i64 2))))⟩,
 ⟨some 37, some (31, true), .p (.bin .eql (.t 36) (.k (.s (.int .i64 1))))⟩,
 ⟨some 38, none, .p (.pick (.t 31) (.t 37) (.k (.s (.bool false))))⟩])
 (.cond (.t 38)
 (.seq (.ops [⟨some 4, none, .p (.mv (.k (.s (.int .i64 1))))⟩])
 .ret)
 .skip))
 (.seq (.seq (.ops [⟨some 39, none, .p (.fa 1 1 (.t 3))⟩,
 ⟨some 40, none, .h (.load false 1 (.t 39))⟩,
 ⟨some 41, none, .p (.mv (.t 6))⟩,
 ⟨some 42, none, .p (.bin .sub (.t 41) (.k (.s (.int .i64 2))))⟩,
 ⟨some 43, none, .p (.bin .eql (.t 40) (.t 42))⟩,
 ⟨some 44, none, .p (.mv (.t 43))⟩,
 ⟨some 45, some (44, true), .h (.load true 133 (.t 2))⟩,
 ⟨some 46, some (44, true), .h (.call (.k (.fn 101 [])) [(.t 45)])⟩,
 ⟨some 47, some (44, true), .p (.mv (.t 8))⟩,
 ⟨some 48, some (44, true), .p (.bin .quo (.t 46) (.t 47))⟩,
 ⟨some 49, some (44, true), .p (.bin .rem (.t 48) (.k (.s (.int .i64 2))))⟩,
 ⟨some 50, some (44, true), .p (.bin .eql (.t 49) (.k (.s (.int .i64 1))))⟩,
 ⟨some 51, none, .p (.pick (.t 44) (.t 50) (.k (.s (.bool false))))⟩])
 (.cond (.t 51)
 (.seq (.ops [⟨some 4, none, .p (.mv (.k (.s (.int .i64 (-1)))))⟩])
 .ret)
 .skip))
 (.seq (.ops [⟨some 4, none, .p (.mv (.k (.s (.int .i64 0))))⟩])
 .ret))))))))⟩
theorem c99 : compF Try.prog Try.f99 = some a99 := by kernel_rfl
/-- zugzwang/zugzwangref08.without -/
def a100 : AF := ⟨27, [.tmp 4],
 (.seq (.ops [⟨some 4, none, .p (.mv (.k (.s (.int .i64 0))))⟩])
 (.seq (.ops [⟨some 5, none, .p (.mv (.k (.s (.int .i64 0))))⟩])
 (.seq (.seq (.ops [⟨some 6, none, .p (.mv (.k (.s (.int .i64 1))))⟩])
 (.block 0 (.loop (.seq (.seq (.ops [⟨some 7, none, .p (.mv (.t 6))⟩,
 ⟨some 8, none, .p (.bin .leq (.t 7) (.k (.s (.int .i64 8))))⟩])
 (.cond (.t 8)
 .skip
 (.exit 0)))
 (.seq (.block 1 (.seq (.ops [⟨some 11, none, .p (.mv (.t 0))⟩,
 ⟨some 12, none, .p (.mv (.t 6))⟩,
 ⟨some 13, none, .p (.bin .quo (.t 11) (.t 12))⟩,
 ⟨some 14, none, .p (.bin .rem (.t 13) (.k (.s (.int .i64 2))))⟩,
 ⟨some 15, none, .p (.bin .eql (.t 14) (.k (.s (.int .i64 1))))⟩,
 ⟨some 16, none, .p (.mv (.t 15))⟩,
 ⟨some 17, some (16, true), .p (.mv (.t 1))⟩,
 ⟨some 18, some (16, true), .p (.mv (.t 6))⟩,
 ⟨some 19, some (16, true), .p (.bin .quo (.t 17) (.t 18))⟩,
 ⟨some 20, some (16, true), .p (.bin .rem (.t 19) (.k (.s (.int .i64 2))))⟩,
 ⟨some 21, some (16, true), .p (.bin .eql (.t 20) (.k (.s (.int .i64 0))))⟩,
 ⟨some 22, none, .p (.pick (.t 16) (.t 21) (.k (.s (.bool false))))⟩])
 (.cond (.t 22)
 (.ops [⟨some 23, none, .p (.mv (.t 5))⟩,
 ⟨some 24, none, .p (.mv (.t 6))⟩,
 ⟨some 25, none, .p (.bin .add (.t 23) (.t 24))⟩,
 ⟨some 5, none, .p (.mv (.t 25))⟩])
 .skip)))
 (.ops [⟨some 9, none, .p (.mv (.t 6))⟩,
 ⟨some 10, none, .p (.bin .mul (.k (.s (.int .i64 2))) (.t 9))⟩,
 ⟨some 6, none, .p (.mv (.t 10))⟩]))))))
 (.seq (.ops [⟨some 26, none, .p (.mv (.t 5))⟩,
 ⟨some 4, none, .p (.mv (.t 26))⟩])
 .ret))))⟩
theorem c100 : compF Try.prog Try.f100 = some a100 := by kernel_rfl
/-- zugzwang/zugzwangref08.castles -/
def a101 : AF := ⟨13, [.tmp 2],
 (.seq (.ops [⟨some 1, none, .h (.box (.t 0))⟩,
 ⟨some 2, none, .p (.mv (.k (.s (.int .i64 0))))⟩])
 (.seq (.seq (.ops [⟨some 3, none, .p (.fa 129 1 (.t 1))⟩,
 ⟨some 4, none, .h (.load false 1 (.t 3))⟩,
 ⟨some 5, none, .p (.bin .lss (.t 4) (.k (.s (.int .i64 0))))⟩,
 ⟨some 6, none, .p (.mv (.t 5))⟩,
 ⟨some 7, some (6, false), .p (.fa 129 1 (.t 1))⟩,
 ⟨some 8, some (6, false), .h (.load false 1 (.t 7))⟩,
 ⟨some 9, some (6, false), .p (.bin .gtr (.t 8) (.k (.s (.int .i64 15))))⟩,
 ⟨some 10, none, .p (.pick (.t 6) (.k (.s (.bool true))) (.t 9))⟩])
 (.cond (.t 10)
 (.seq (.ops [⟨some 2, none, .p (.mv (.k (.s (.int .i64 0))))⟩])
 .ret)
 .skip))
 (.seq (.ops [⟨some 11, none, .p (.fa 129 1 (.t 1))⟩,
 ⟨some 12, none, .h (.load false 1 (.t 11))⟩,
 ⟨some 2, none, .p (.mv (.t 12))⟩])
 .ret)))⟩
theorem c101 : compF Try.prog Try.f101 = some a101 := by kernel_rfl
/-- zugzwang/zugzwangref08.lost -/
def a102 : AF := ⟨16, [.tmp 2],
 (.seq (.ops [⟨some 2, none, .p (.mv (.k (.s (.int .i64 0))))⟩])
 (.seq (.seq (.ops [⟨some 3, none, .p (.mv (.t 0))⟩])
 (.block 0 (.seq (.ops [⟨some 5, none, .p (.bin .eql (.t 3) (.k (.s (.int .i64 4))))⟩,
 ⟨some 4, none, .p (.mv (.t 5))⟩])
 (.cond (.t 4)
 (.seq (.ops [⟨some 2, none, .p (.mv (.k (.s (.int .i64 3))))⟩])
 .ret)
 (.seq (.ops [⟨some 7, none, .p (.bin .eql (.t 3) (.k (.s (.int .i64 7))))⟩,
 ⟨some 6, none, .p (.mv (.t 7))⟩])
 (.cond (.t 6)
 (.seq (.ops [⟨some 2, none, .p (.mv (.k (.s (.int .i64 1))))⟩])
 .ret)
 (.seq (.ops [⟨some 9, none, .p (.bin .eql (.t 3) (.k (.s (.int .i64 0))))⟩,
 ⟨some 8, none, .p (.mv (.t 9))⟩])
 (.cond (.t 8)
 (.seq (.ops [⟨some 2, none, .p (.mv (.k (.s (.int .i64 2))))⟩])
 .ret)
 (.seq (.ops [⟨some 11, none, .p (.bin .eql (.t 3) (.k (.s (.int .i64 60))))⟩,
 ⟨some 10, none, .p (.mv (.t 11))⟩])
 (.cond (.t 10)
 (.seq (.ops [⟨some 2, none, .p (.mv (.k (.s (.int .i64 12))))⟩])
 .ret)
 (.seq (.ops [⟨some 13, none, .p (.bin .eql (.t 3) (.k (.s (.int .i64 63))))⟩,
 ⟨some 12, none, .p (.mv (.t 13))⟩])
 (.cond (.t 12)
 (.seq (.ops [⟨some 2, none, .p (.mv (.k (.s (.int .i64 4))))⟩])
 .ret)
 (.seq (.ops [⟨some 15, none, .p (.bin .eql (.t 3) (.k (.s (.int .i64 56))))⟩,
 ⟨some 14, none, .p (.mv (.t 15))⟩])
 (.cond (.t 14)
 (.seq (.ops [⟨some 2, none, .p (.mv (.k (.s (.int .i64 8))))⟩])
 .ret)
 .skip))))))))))))))
 (.seq (.ops [⟨some 2, none, .p (.mv (.k (.s (.int .i64 0))))⟩])
 .ret)))⟩
theorem c102 : compF Try.prog Try.f102 = some a102 := by kernel_rfl
/-- zugzwang/zugzwangref08.long -/
def a103 : AF := ⟨49, [.tmp 4],
 (.seq (.ops [⟨some 2, none, .h (.box (.t 0))⟩,
 ⟨some 3, none, .h (.box (.t 1))⟩,
 ⟨some 4, none, .p (.mv (.k (.s (.bool false))))⟩])
 (.seq (.seq (.ops [⟨some 5, none, .p (.fa 0 1 (.t 2))⟩,
 ⟨some 6, none, .h (.load false 1 (.t 5))⟩,
 ⟨some 7, none, .p (.bin .neq (.t 6) (.k (.s (.int .i64 1))))⟩,
 ⟨some 8, none, .p (.mv (.t 7))⟩,
 ⟨some 9, some (8, false), .p (.fa 0 1 (.t 3))⟩,
 ⟨some 10, some (8, false), .h (.load false 1 (.t 9))⟩,
 ⟨some 11, some (8, false), .p (.bin .rem (.t 10) (.k (.s (.int .i64 8))))⟩,
 ⟨some 12, some (8, false), .p (.fa 1 1 (.t 3))⟩,
 ⟨some 13, some (8, false), .h (.load false 1 (.t 12))⟩,
 ⟨some 14, some (8, false), .p (.bin .rem (.t 13) (.k (.s (.int .i64 8))))⟩,
 ⟨some 15, some (8, false), .p (.bin .neq (.t 11) (.t 14))⟩,
 ⟨some 16, none, .p (.pick (.t 8) (.k (.s (.bool true))) (.t 15))⟩])
 (.cond (.t 16)
 (.seq (.ops [⟨some 4, none, .p (.mv (.k (.s (.bool false))))⟩])
 .ret)
 .skip))
 (.seq (.ops [⟨some 17, none, .p (.fa 1 1 (.t 2))⟩,
 ⟨some 18, none, .h (.load false 1 (.t 17))⟩,
 ⟨some 19, none, .p (.bin .eql (.t 18) (.k (.s (.int .i64 0))))⟩,
 ⟨some 20, none, .p (.mv (.t 19))⟩,
 ⟨some 21, some (20, true), .p (.fa 0 1 (.t 3))⟩,
 ⟨some 22, some (20, true), .h (.load false 1 (.t 21))⟩,
 ⟨some 23, some (20, true), .p (.bin .quo (.t 22) (.k (.s (.int .i64 8))))⟩,
 ⟨some 24, some (20, true), .p (.bin .eql (.t 23) (.k (.s (.int .i64 1))))⟩,
 ⟨some 25, none, .p (.pick (.t 20) (.t 24) (.k (.s (.bool false))))⟩,
 ⟨some 26, none, .p (.mv (.t 25))⟩,
 ⟨some 27, some (26, true), .p (.fa 1 1 (.t 3))⟩,
 ⟨some 28, some (26, true), .h (.load false 1 (.t 27))⟩,
 ⟨some 29, some (26, true), .p (.bin .quo (.t 28) (.k (.s (.int .i64 8))))⟩,
 ⟨some 30, some (26, true), .p (.bin .eql (.t 29) (.k (.s (.int .i64 3))))⟩,
 ⟨some 31, none, .p (.pick (.t 26) (.t 30) (.k (.s (.bool false))))⟩,
 ⟨some 32, none, .p (.mv (.t 31))⟩,
 ⟨some 33, some (32, false), .p (.fa 1 1 (.t 2))⟩,
 ⟨some 34, some (32, false), .h (.load false 1 (.t 33))⟩,
 ⟨some 35, some (32, false), .p (.bin .eql (.t 34) (.k (.s (.int .i64 1))))⟩,
 ⟨some 36, some (32, false), .p (.mv (.t 35))⟩,
 ⟨some 37, some (36, true), .p (.fa 0 1 (.t 3))⟩,
 ⟨some 38, some (36, true), .h (.load false 1 (.t 37))⟩,
 ⟨some 39, some (36, true), .p (.bin .quo (.t 38) (.k (.s (.int .i64 8))))⟩,
 ⟨some 40, some (36, true), .p (.bin .eql (.t 39) (.k (.s (.int .i64 6))))⟩,
 ⟨some 41, some (32, false), .p (.pick (.t 36) (.t 40) (.k (.s (.bool false))))⟩,
 ⟨some 42, some (32, false), .p (.mv (.t 41))⟩,
 ⟨some 43, some (42, true), .p (.fa 1 1 (.t 3))⟩,
 ⟨some 44, some (42, true), .h (.load false 1 (.t 43))⟩,
 ⟨some 45, some (42, true), .p (.bin .quo (.t 44) (.k (.s (.int .i64 8))))⟩,
 ⟨some 46, some (42, true), .p (.bin .eql (.t 45) (.k (.s (.int .i64 4))))⟩,
 ⟨some 47, some (32, false), .p (.pick (.t 42) (.t 46) (.k (.s (.bool false))))⟩,
 ⟨some 48, none, .p (.pick (.t 32) (.k (.s (.bool true))) (.t 47))⟩,
 ⟨some 4, none, .p (.mv (.t 48))⟩])
 .ret)))⟩
theorem c103 : compF Try.prog Try.f103 = some a103 := by kernel_rfl
/-- (*zugzwang/play.hand).takes -/
def a104 : AF := ⟨59, [.tmp 2],
 (.seq (.ops [⟨some 2, none, .p (.mv (.k (.s (.int .i64 0))))⟩])
 (.seq (.ops [⟨some 4, none, .p (.mv (.t 0))⟩,
 ⟨some 5, none, .p (.nilck (.t 4))⟩,
 ⟨some 6, none, .p (.fa 133 3 (.t 5))⟩,
 ⟨some 7, none, .p (.fa 1 1 (.t 6))⟩,
 ⟨some 8, none, .h (.load false 1 (.t 7))⟩,
 ⟨some 3, none, .p (.mv (.t 8))⟩])
 (.seq (.seq (.ops [⟨some 9, none, .p (.mv (.t 0))⟩,
 ⟨some 10, none, .p (.nilck (.t 9))⟩,
 ⟨some 11, none, .p (.fa 136 2 (.t 10))⟩,
 ⟨some 12, none, .p (.fa 0 1 (.t 11))⟩,
 ⟨some 13, none, .h (.load false 1 (.t 12))⟩,
 ⟨some 14, none, .p (.bin .eql (.t 13) (.k (.s (.int .i64 1))))⟩,
 ⟨some 15, none, .p (.mv (.t 14))⟩,
 ⟨some 16, some (15, true), .p (.mv (.t 0))⟩,
 ⟨some 17, some (15, true), .h (.call (.k (.fn 119 [])) [(.t 16)])⟩,
 ⟨some 18, some (15, true), .p (.bin .neq (.t 17) (.k (.s (.int .i64 0))))⟩,
 ⟨some 19, none, .p (.pick (.t 15) (.t 18) (.k (.s (.bool false))))⟩,
 ⟨some 20, none, .p (.mv (.t 19))⟩,
 ⟨some 21, some (20, true), .p (.mv (.t 3))⟩,
 ⟨some 22, some (20, true), .p (.mv (.t 0))⟩,
 ⟨some 23, some (20, true), .p (.nilck (.t 22))⟩,
 ⟨some 24, some (20, true), .p (.fa 0 133 (.t 23))⟩,
 ⟨some 25, some (20, true), .p (.fa 130 1 (.t 24))⟩,
 ⟨some 26, some (20, true), .h (.load false 1 (.t 25))⟩,
 ⟨some 27, some (20, true), .p (.bin .eql (.t 21) (.t 26))⟩,
 ⟨some 28, none, .p (.pick (.t 20) (.t 27) (.k (.s (.bool false))))⟩,
 ⟨some 29, none, .p (.mv (.t 28))⟩,
 ⟨some 30, some (29, true), .p (.mv (.t 0))⟩,
 ⟨some 31, some (29, true), .p (.mv (.t 3))⟩,
 ⟨some 32, some (29, true), .p (.nilck (.t 30))⟩,
 ⟨some 33, some (29, true), .p (.fa 0 133 (.t 32))⟩,
 ⟨some 34, some (29, true), .p (.fa 0 128 (.t 33))⟩,
 ⟨some 35, some (29, true), .p (.ixa 64 2 (.t 34) (.t 31))⟩,
 ⟨some 36, some (29, true), .h (.load true 2 (.t 35))⟩,
 ⟨some 37, some (29, true), .p (.build (.ints 2) [])⟩,
 ⟨some 38, some (29, true), .p (.eqa false 2 (.t 36) (.t 37))⟩,
 ⟨some 39, none, .p (.pick (.t 29) (.t 38) (.k (.s (.bool false))))⟩])
 (.cond (.t 39)
 (.ops [⟨some 40, none, .p (.mv (.t 3))⟩,
 ⟨some 41, none, .h (.callq (.k (.fn 37 [])) [(.t 40)])⟩,
 ⟨some 42, none, .p (.mv (.t 0))⟩,
 ⟨some 43, none, .p (.nilck (.t 42))⟩,
 ⟨some 44, none, .p (.fa 133 3 (.t 43))⟩,
 ⟨some 45, none, .p (.fa 0 1 (.t 44))⟩,
 ⟨some 46, none, .h (.load false 1 (.t 45))⟩,
 ⟨some 47, none, .h (.call (.k (.fn 38 [])) [(.t 46)])⟩,
 ⟨some 48, none, .h (.call (.k (.fn 36 [])) [(.t 41), (.t 47)])⟩,
 ⟨some 3, none, .p (.mv (.t 48))⟩])
 .skip))
 (.seq (.seq (.ops [⟨some 49, none, .p (.mv (.t 0))⟩,
 ⟨some 50, none, .p (.mv (.t 3))⟩,
 ⟨some 51, none, .p (.nilck (.t 49))⟩,
 ⟨some 52, none, .p (.fa 0 133 (.t 51))⟩,
 ⟨some 53, none, .p (.fa 0 128 (.t 52))⟩,
 ⟨some 54, none, .p (.ixa 64 2 (.t 53) (.t 50))⟩,
 ⟨some 55, none, .h (.load true 2 (.t 54))⟩,
 ⟨some 56, none, .p (.build (.ints 2) [])⟩,
 ⟨some 57, none, .p (.eqa false 2 (.t 55) (.t 56))⟩])
 (.cond (.t 57)
 (.seq (.ops [⟨some 2, none, .p (.mv (.k (.s (.int .i64 (-1)))))⟩])
 .ret)
 .skip))
 (.seq (.ops [⟨some 58, none, .p (.mv (.t 3))⟩,
 ⟨some 2, none, .p (.mv (.t 58))⟩])
 .ret)))))⟩
theorem c104 : compF Try.prog Try.f104 = some a104 := by kernel_rfl
/-- zugzwang/zugzwangref08.over -/
def a105 : AF := ⟨37, [.tmp 4],
 (.seq (.ops [⟨some 2, none, .h (.box (.t 0))⟩,
 ⟨some 3, none, .h (.box (.t 1))⟩,
 ⟨some 4, none, .p (.mv (.k (.s (.bool false))))⟩])
 (.seq (.ops [⟨some 5, none, .p (.fa 0 1 (.t 3))⟩,
 ⟨some 6, none, .h (.load false 1 (.t 5))⟩,
 ⟨some 7, none, .p (.fa 0 128 (.t 2))⟩,
 ⟨some 8, none, .p (.ixa 64 2 (.t 7) (.t 6))⟩,
 ⟨some 9, none, .p (.fa 0 1 (.t 8))⟩,
 ⟨some 10, none, .h (.load false 1 (.t 9))⟩,
 ⟨some 11, none, .p (.bin .eql (.t 10) (.k (.s (.int .i64 1))))⟩,
 ⟨some 12, none, .p (.mv (.t 11))⟩,
 ⟨some 13, some (12, true), .p (.fa 0 1 (.t 3))⟩,
 ⟨some 14, some (12, true), .h (.load false 1 (.t 13))⟩,
 ⟨some 15, some (12, true), .p (.bin .rem (.t 14) (.k (.s (.int .i64 8))))⟩,
 ⟨some 16, some (12, true), .p (.fa 1 1 (.t 3))⟩,
 ⟨some 17, some (12, true), .h (.load false 1 (.t 16))⟩,
 ⟨some 18, some (12, true), .p (.bin .rem (.t 17) (.k (.s (.int .i64 8))))⟩,
 ⟨some 19, some (12, true), .p (.bin .neq (.t 15) (.t 18))⟩,
 ⟨some 20, none, .p (.pick (.t 12) (.t 19) (.k (.s (.bool false))))⟩,
 ⟨some 21, none, .p (.mv (.t 20))⟩,
 ⟨some 22, some (21, true), .p (.fa 1 1 (.t 3))⟩,
 ⟨some 23, some (21, true), .h (.load false 1 (.t 22))⟩,
 ⟨some 24, some (21, true), .p (.fa 130 1 (.t 2))⟩,
 ⟨some 25, some (21, true), .h (.load false 1 (.t 24))⟩,
 ⟨some 26, some (21, true), .p (.bin .eql (.t 23) (.t 25))⟩,
 ⟨some 27, none, .p (.pick (.t 21) (.t 26) (.k (.s (.bool false))))⟩,
 ⟨some 28, none, .p (.mv (.t 27))⟩,
 ⟨some 29, some (28, true), .p (.fa 1 1 (.t 3))⟩,
 ⟨some 30, some (28, true), .h (.load false 1 (.t 29))⟩,
 ⟨some 31, some (28, true), .p (.fa 0 128 (.t 2))⟩,
 ⟨some 32, some (28, true), .p (.ixa 64 2 (.t 31) (.t 30))⟩,
 ⟨some 33, some (28, true), .h (.load true 2 (.t 32))⟩,
 ⟨some 34, some (28, true), .p (.build (.ints 2) [])⟩,
 ⟨some 35, some (28, true), .p (.eqa false 2 (.t 33) (.t 34))⟩,
 ⟨some 36, none, .p (.pick (.t 28) (.t 35) (.k (.s (.bool false))))⟩,
 ⟨some 4, none, .p (.mv (.t 36))⟩])
 .ret))⟩
theorem c105 : compF Try.prog Try.f105 = some a105 := by kernel_rfl
/-- zugzwang/zugzwangkit.mark -/
def a106 : AF := ⟨10, [.tmp 4],
 (.seq (.ops [⟨some 4, none, .p (.mv (.k (.s (.int .i64 0))))⟩])
 (.seq (.ops [⟨some 5, none, .p (.mv (.t 0))⟩,
 ⟨some 6, none, .p (.bin .add (.t 5) (.k (.s (.int .i64 7))))⟩,
 ⟨some 7, none, .p (.bin .mul (.k (.s (.int .i64 1000003))) (.t 6))⟩,
 ⟨some 8, none, .p (.mv (.t 1))⟩,
 ⟨some 9, none, .p (.bin .add (.t 7) (.t 8))⟩,
 ⟨some 4, none, .p (.mv (.t 9))⟩])
 .ret))⟩
theorem c106 : compF Try.prog Try.f106 = some a106 := by kernel_rfl
/-- zugzwang/zugzwangref06.none -/
def a107 : AF := ⟨6, [.tmp 2],
 (.seq (.ops [⟨some 1, none, .h (.box (.t 0))⟩,
 ⟨some 2, none, .p (.mv (.k (.s (.bool false))))⟩])
 (.seq (.ops [⟨some 3, none, .h (.load true 2 (.t 1))⟩,
 ⟨some 4, none, .p (.build (.ints 2) [])⟩,
 ⟨some 5, none, .p (.eqa false 2 (.t 3) (.t 4))⟩,
 ⟨some 2, none, .p (.mv (.t 5))⟩])
 .ret))⟩
theorem c107 : compF Try.prog Try.f107 = some a107 := by kernel_rfl
/-- zugzwang/zugzwangref06.pieces -/
def a108 : AF := ⟨63, [.tmp 2],
 (.seq (.ops [⟨some 1, none, .h (.box (.t 0))⟩,
 ⟨some 2, none, .p (.mv (.k (.s (.bool false))))⟩])
 (.seq (.ops [⟨some 6, none, .p (.build (.ints 2) [])⟩,
 ⟨some 3, none, .h (.alloc (.ints 2))⟩,
 ⟨none, none, .h (.store 2 (.t 3) (.t 6))⟩])
 (.seq (.seq (.ops [⟨some 4, none, .p (.mv (.k (.s (.int .i64 0))))⟩])
 (.block 0 (.loop (.seq (.seq (.ops [⟨some 7, none, .p (.mv (.t 4))⟩,
 ⟨some 8, none, .p (.bin .lss (.t 7) (.k (.s (.int .i64 64))))⟩])
 (.cond (.t 8)
 .skip
 (.exit 0)))
 (.seq (.block 1 (.seq (.ops [⟨some 11, none, .p (.mv (.t 4))⟩,
 ⟨some 12, none, .p (.fa 0 128 (.t 1))⟩,
 ⟨some 13, none, .p (.ixa 64 2 (.t 12) (.t 11))⟩,
 ⟨some 14, none, .h (.load true 2 (.t 13))⟩,
 ⟨some 5, none, .h (.alloc (.ints 2))⟩,
 ⟨none, none, .h (.store 2 (.t 5) (.t 14))⟩])
 (.seq (.seq (.ops [⟨some 15, none, .h (.load true 2 (.t 5))⟩,
 ⟨some 16, none, .h (.call (.k (.fn 107 [])) [(.t 15)])⟩,
 ⟨some 17, none, .p (.un .not (.t 16))⟩,
 ⟨some 18, none, .p (.mv (.t 17))⟩,
 ⟨some 19, some (18, true), .h (.load true 2 (.t 5))⟩,
 ⟨some 20, some (18, true), .h (.call (.k (.fn 55 [])) [(.t 19)])⟩,
 ⟨some 21, some (18, true), .p (.un .not (.t 20))⟩,
 ⟨some 22, none, .p (.pick (.t 18) (.t 21) (.k (.s (.bool false))))⟩,
 ⟨some 23, none, .p (.mv (.t 22))⟩,
 ⟨some 24, some (23, false), .p (.fa 0 1 (.t 5))⟩,
 ⟨some 25, some (23, false), .h (.load false 1 (.t 24))⟩,
 ⟨some 26, some (23, false), .p (.bin .eql (.t 25) (.k (.s (.int .i64 1))))⟩,
 ⟨some 27, some (23, false), .p (.mv (.t 26))⟩,
 ⟨some 28, some (27, true), .p (.mv (.t 4))⟩,
 ⟨some 29, some (27, true), .p (.bin .lss (.t 28) (.k (.s (.int .i64 8))))⟩,
 ⟨some 30, some (27, true), .p (.mv (.t 29))⟩,
 ⟨some 31, some (30, false), .p (.mv (.t 4))⟩,
 ⟨some 32, some (30, false), .p (.bin .geq (.t 31) (.k (.s (.int .i64 56))))⟩,
 ⟨some 33, some (27, true), .p (.pick (.t 30) (.k (.s (.bool true))) (.t 32))⟩,
 ⟨some 34, some (23, false), .p (.pick (.t 27) (.t 33) (.k (.s (.bool false))))⟩,
 ⟨some 35, none, .p (.pick (.t 23) (.k (.s (.bool true))) (.t 34))⟩])
 (.cond (.t 35)
 (.seq (.ops [⟨some 2, none, .p (.mv (.k (.s (.bool false))))⟩])
 .ret)
 .skip))
 (.seq (.ops [⟨some 36, none, .p (.fa 0 1 (.t 5))⟩,
 ⟨some 37, none, .h (.load false 1 (.t 36))⟩,
 ⟨some 38, none, .p (.bin .eql (.t 37) (.k (.s (.int .i64 6))))⟩])
 (.cond (.t 38)
 (.ops [⟨some 39, none, .p (.fa 1 1 (.t 5))⟩,
 ⟨some 40, none, .h (.load false 1 (.t 39))⟩,
 ⟨some 41, none, .p (.ixa 2 1 (.t 3) (.t 40))⟩,
 ⟨some 42, none, .h (.load false 1 (.t 41))⟩,
 ⟨some 43, none, .p (.bin .add (.t 42) (.k (.s (.int .i64 1))))⟩,
 ⟨some 44, none, .p (.ixa 2 1 (.t 3) (.t 40))⟩,
 ⟨none, none, .h (.store 1 (.t 44) (.t 43))⟩])
 .skip)))))
 (.ops [⟨some 9, none, .p (.mv (.t 4))⟩,
 ⟨some 10, none, .p (.bin .add (.t 9) (.k (.s (.int .i64 1))))⟩,
 ⟨some 4, none, .p (.mv (.t 10))⟩]))))))
 (.seq (.ops [⟨some 45, none, .p (.ixa 2 1 (.t 3) (.k (.s (.int .i64 0))))⟩,
 ⟨some 46, none, .h (.load false 1 (.t 45))⟩,
 ⟨some 47, none, .p (.bin .eql (.t 46) (.k (.s (.int .i64 1))))⟩,
 ⟨some 48, none, .p (.mv (.t 47))⟩,
 ⟨some 49, some (48, true), .p (.ixa 2 1 (.t 3) (.k (.s (.int .i64 1))))⟩,
 ⟨some 50, some (48, true), .h (.load false 1 (.t 49))⟩,
 ⟨some 51, some (48, true), .p (.bin .eql (.t 50) (.k (.s (.int .i64 1))))⟩,
 ⟨some 52, none, .p (.pick (.t 48) (.t 51) (.k (.s (.bool false))))⟩,
 ⟨some 53, none, .p (.mv (.t 52))⟩,
 ⟨some 54, some (53, true), .p (.fa 128 1 (.t 1))⟩,
 ⟨some 55, some (53, true), .h (.load false 1 (.t 54))⟩,
 ⟨some 56, some (53, true), .p (.bin .eql (.t 55) (.k (.s (.int .i64 0))))⟩,
 ⟨some 57, some (53, true), .p (.mv (.t 56))⟩,
 ⟨some 58, some (57, false), .p (.fa 128 1 (.t 1))⟩,
 ⟨some 59, some (57, false), .h (.load false 1 (.t 58))⟩,
 ⟨some 60, some (57, false), .p (.bin .eql (.t 59) (.k (.s (.int .i64 1))))⟩,
 ⟨some 61, some (53, true), .p (.pick (.t 57) (.k (.s (.bool true))) (.t 60))⟩,
 ⟨some 62, none, .p (.pick (.t 53) (.t 61) (.k (.s (.bool false))))⟩,
 ⟨some 2, none, .p (.mv (.t 62))⟩])
 .ret))))⟩
theorem c108 : compF Try.prog Try.f108 = some a108 := by kernel_rfl
/-- zugzwang/zugzwangref06.castles -/
def a109 : AF := ⟨48, [.tmp 2],
 (.seq (.ops [⟨some 1, none, .h (.box (.t 0))⟩,
 ⟨some 2, none, .p (.mv (.k (.s (.bool false))))⟩])
 (.seq (.ops [⟨some 4, none, .p (.fa 129 1 (.t 1))⟩,
 ⟨some 5, none, .h (.load false 1 (.t 4))⟩,
 ⟨some 3, none, .p (.mv (.t 5))⟩])
 (.seq (.seq (.ops [⟨some 6, none, .p (.mv (.t 3))⟩,
 ⟨some 7, none, .p (.bin .lss (.t 6) (.k (.s (.int .i64 0))))⟩,
 ⟨some 8, none, .p (.mv (.t 7))⟩,
 ⟨some 9, some (8, false), .p (.mv (.t 3))⟩,
 ⟨some 10, some (8, false), .p (.bin .gtr (.t 9) (.k (.s (.int .i64 15))))⟩,
 ⟨some 11, none, .p (.pick (.t 8) (.k (.s (.bool true))) (.t 10))⟩])
 (.cond (.t 11)
 (.seq (.ops [⟨some 2, none, .p (.mv (.k (.s (.bool false))))⟩])
 .ret)
 .skip))
 (.seq (.ops [⟨some 12, none, .p (.mv (.t 3))⟩,
 ⟨some 13, none, .p (.bin .rem (.t 12) (.k (.s (.int .i64 2))))⟩,
 ⟨some 14, none, .p (.bin .eql (.t 13) (.k (.s (.int .i64 0))))⟩,
 ⟨some 15, none, .p (.mv (.t 14))⟩,
 ⟨some 16, some (15, false), .h (.load true 133 (.t 1))⟩,
 ⟨some 17, some (15, false), .h (.call (.k (.fn 120 [])) [(.t 16), (.k (.s (.int .i64 0))), (.k (.s (.int .i64 4))), (.k (.s (.int .i64 7)))])⟩,
 ⟨some 18, none, .p (.pick (.t 15) (.k (.s (.bool true))) (.t 17))⟩,
 ⟨some 19, none, .p (.mv (.t 18))⟩,
 ⟨some 20, some (19, true), .p (.mv (.t 3))⟩,
 ⟨some 21, some (19, true), .p (.bin .quo (.t 20) (.k (.s (.int .i64 2))))⟩,
 ⟨some 22, some (19, true), .p (.bin .rem (.t 21) (.k (.s (.int .i64 2))))⟩,
 ⟨some 23, some (19, true), .p (.bin .eql (.t 22) (.k (.s (.int .i64 0))))⟩,
 ⟨some 24, some (19, true), .p (.mv (.t 23))⟩,
 ⟨some 25, some (24, false), .h (.load true 133 (.t 1))⟩,
 ⟨some 26, some (24, false), .h (.call (.k (.fn 120 [])) [(.t 25), (.k (.s (.int .i64 0))), (.k (.s (.int .i64 4))), (.k (.s (.int .i64 0)))])⟩,
 ⟨some 27, some (19, true), .p (.pick (.t 24) (.k (.s (.bool true))) (.t 26))⟩,
 ⟨some 28, none, .p (.pick (.t 19) (.t 27) (.k (.s (.bool false))))⟩,
 ⟨some 29, none, .p (.mv (.t 28))⟩,
 ⟨some 30, some (29, true), .p (.mv (.t 3))⟩,
 ⟨some 31, some (29, true), .p (.bin .quo (.t 30) (.k (.s (.int .i64 4))))⟩,
 ⟨some 32, some (29, true), .p (.bin .rem (.t 31) (.k (.s (.int .i64 2))))⟩,
 ⟨some 33, some (29, true), .p (.bin .eql (.t 32) (.k (.s (.int .i64 0))))⟩,
 ⟨some 34, some (29, true), .p (.mv (.t 33))⟩,
 ⟨some 35, some (34, false), .h (.load true 133 (.t 1))⟩,
 ⟨some 36, some (34, false), .h (.call (.k (.fn 120 [])) [(.t 35), (.k (.s (.int .i64 1))), (.k (.s (.int .i64 60))), (.k (.s (.int .i64 63)))])⟩,
 ⟨some 37, some (29, true), .p (.pick (.t 34) (.k (.s (.bool true))) (.t 36))⟩,
 ⟨some 38, none, .p (.pick (.t 29) (.t 37) (.k (.s (.bool false))))⟩,
 ⟨some 39, none, .p (.mv (.t 38))⟩,
 ⟨some 40, some (39, true), .p (.mv (.t 3))⟩,
 ⟨some 41, some (39, true), .p (.bin .quo (.t 40) (.k (.s (.int .i64 8))))⟩,
 ⟨some 42, some (39, true), .p (.bin .eql (.t 41) (.k (.s (.int .i64 0))))⟩,
 ⟨some 43, some (39, true), .p (.mv (.t 42))⟩,
 ⟨some 44, some (43, false), .h (.load true 133 (.t 1))⟩,
 ⟨some 45, some (43, false), .h (.call (.k (.fn 120 [])) [(.t 44), (.k (.s (.int .i64 1))), (.k (.s (.int .i64 60))), (.k (.s (.int .i64 56)))])⟩,
 ⟨some 46, some (39, true), .p (.pick (.t 43) (.k (.s (.bool true))) (.t 45))⟩,
 ⟨some 47, none, .p (.pick (.t 39) (.t 46) (.k (.s (.bool false))))⟩,
 ⟨some 2, none, .p (.mv (.t 47))⟩])
 .ret))))⟩
theorem c109 : compF Try.prog Try.f109 = some a109 := by kernel_rfl
/-- zugzwang/zugzwangref06.over -/
def a110 : AF := ⟨61, [.tmp 2],
 (.seq (.ops [⟨some 1, none, .h (.box (.t 0))⟩,
 ⟨some 2, none, .p (.mv (.k (.s (.bool false))))⟩])
 (.seq (.seq (.ops [⟨some 6, none, .p (.fa 130 1 (.t 1))⟩,
 ⟨some 7, none, .h (.load false 1 (.t 6))⟩,
 ⟨some 8, none, .p (.bin .eql (.t 7) (.k (.s (.int .i64 (-1)))))⟩])
 (.cond (.t 8)
 (.seq (.ops [⟨some 2, none, .p (.mv (.k (.s (.bool true))))⟩])
 .ret)
 .skip))
 (.seq (.seq (.ops [⟨some 9, none, .p (.fa 130 1 (.t 1))⟩,
 ⟨some 10, none, .h (.load false 1 (.t 9))⟩,
 ⟨some 11, none, .p (.bin .lss (.t 10) (.k (.s (.int .i64 0))))⟩,
 ⟨some 12, none, .p (.mv (.t 11))⟩,
 ⟨some 13, some (12, false), .p (.fa 130 1 (.t 1))⟩,
 ⟨some 14, some (12, false), .h (.load false 1 (.t 13))⟩,
 ⟨some 15, some (12, false), .p (.bin .gtr (.t 14) (.k (.s (.int .i64 63))))⟩,
 ⟨some 16, none, .p (.pick (.t 12) (.k (.s (.bool true))) (.t 15))⟩,
 ⟨some 17, none, .p (.mv (.t 16))⟩,
 ⟨some 18, some (17, false), .p (.fa 131 1 (.t 1))⟩,
 ⟨some 19, some (17, false), .h (.load false 1 (.t 18))⟩,
 ⟨some 20, some (17, false), .p (.bin .neq (.t 19) (.k (.s (.int .i64 0))))⟩,
 ⟨some 21, none, .p (.pick (.t 17) (.k (.s (.bool true))) (.t 20))⟩])
 (.cond (.t 21)
 (.seq (.ops [⟨some 2, none, .p (.mv (.k (.s (.bool false))))⟩])
 .ret)
 .skip))
 (.seq (.ops [⟨some 22, none, .p (.build (.ints 2) [(0, 1, (.k (.s (.int .i64 1)))), (1, 1, (.k (.s (.int .i64 1))))])⟩,
 ⟨some 5, none, .h (.alloc (.ints 2))⟩,
 ⟨some 3, none, .p (.mv (.k (.s (.int .i64 5))))⟩,
 ⟨some 4, none, .p (.mv (.k (.s (.int .i64 8))))⟩,
 ⟨none, none, .h (.store 2 (.t 5) (.t 22))⟩])
 (.seq (.seq (.ops [⟨some 23, none, .p (.fa 128 1 (.t 1))⟩,
 ⟨some 24, none, .h (.load false 1 (.t 23))⟩,
 ⟨some 25, none, .p (.bin .eql (.t 24) (.k (.s (.int .i64 1))))⟩])
 (.cond (.t 25)
 (.ops [⟨some 26, none, .p (.build (.ints 2) [(0, 1, (.k (.s (.int .i64 1)))), (1, 1, (.k (.s (.int .i64 0))))])⟩,
 ⟨some 3, none, .p (.mv (.k (.s (.int .i64 2))))⟩,
 ⟨some 4, none, .p (.mv (.k (.s (.int .i64 (-8)))))⟩,
 ⟨none, none, .h (.store 2 (.t 5) (.t 26))⟩])
 .skip))
 (.seq (.ops [⟨some 27, none, .p (.fa 130 1 (.t 1))⟩,
 ⟨some 28, none, .h (.load false 1 (.t 27))⟩,
 ⟨some 29, none, .p (.bin .quo (.t 28) (.k (.s (.int .i64 8))))⟩,
 ⟨some 30, none, .p (.mv (.t 3))⟩,
 ⟨some 31, none, .p (.bin .eql (.t 29) (.t 30))⟩,
 ⟨some 32, none, .p (.mv (.t 31))⟩,
 ⟨some 33, some (32, true), .p (.fa 130 1 (.t 1))⟩,
 ⟨some 34, some (32, true), .h (.load false 1 (.t 33))⟩,
 ⟨some 35, some (32, true), .p (.fa 0 128 (.t 1))⟩,
 ⟨some 36, some (32, true), .p (.ixa 64 2 (.t 35) (.t 34))⟩,
 ⟨some 37, some (32, true), .h (.load true 2 (.t 36))⟩,
 ⟨some 38, some (32, true), .h (.call (.k (.fn 107 [])) [(.t 37)])⟩,
 ⟨some 39, none, .p (.pick (.t 32) (.t 38) (.k (.s (.bool false))))⟩,
 ⟨some 40, none, .p (.mv (.t 39))⟩,
 ⟨some 41, some (40, true), .p (.fa 130 1 (.t 1))⟩,
 ⟨some 42, some (40, true), .h (.load false 1 (.t 41))⟩,
 ⟨some 43, some (40, true), .p (.mv (.t 4))⟩,
 ⟨some 44, some (40, true), .p (.bin .add (.t 42) (.t 43))⟩,
 ⟨some 45, some (40, true), .p (.fa 0 128 (.t 1))⟩,
 ⟨some 46, some (40, true), .p (.ixa 64 2 (.t 45) (.t 44))⟩,
 ⟨some 47, some (40, true), .h (.load true 2 (.t 46))⟩,
 ⟨some 48, some (40, true), .h (.call (.k (.fn 107 [])) [(.t 47)])⟩,
 ⟨some 49, none, .p (.pick (.t 40) (.t 48) (.k (.s (.bool false))))⟩,
 ⟨some 50, none, .p (.mv (.t 49))⟩,
 ⟨some 51, some (50, true), .p (.fa 130 1 (.t 1))⟩,
 ⟨some 52, some (50, true), .h (.load false 1 (.t 51))⟩,
 ⟨some 53, some (50, true), .p (.mv (.t 4))⟩,
 ⟨some 54, some (50, true), .p (.bin .sub (.t 52) (.t 53))⟩,
 ⟨some 55, some (50, true), .p (.fa 0 128 (.t 1))⟩,
 ⟨some 56, some (50, true), .p (.ixa 64 2 (.t 55) (.t 54))⟩,
 ⟨some 57, some (50, true), .h (.load true 2 (.t 56))⟩,
 ⟨some 58, some (50, true), .h (.load true 2 (.t 5))⟩,
 ⟨some 59, some (50, true), .p (.eqa false 2 (.t 57) (.t 58))⟩,
 ⟨some 60, none, .p (.pick (.t 50) (.t 59) (.k (.s (.bool false))))⟩,
 ⟨some 2, none, .p (.mv (.t 60))⟩])
 .ret))))))⟩
theorem c110 : compF Try.prog Try.f110 = some a110 := by kernel_rfl
/-- internal/stringslite.IndexByte -/
def a111 : AF := ⟨8, [.tmp 4],
 (.seq (.ops [⟨some 4, none, .p (.mv (.k (.s (.int .i64 0))))⟩])
 (.seq (.ops [⟨some 5, none, .p (.mv (.t 0))⟩,
 ⟨some 6, none, .p (.mv (.t 1))⟩,
 ⟨some 7, none, .h (.call (.k (.fn 121 [])) [(.t 5), (.t 6)])⟩,
 ⟨some 4, none, .p (.mv (.t 7))⟩])
 .ret))⟩
theorem c111 : compF Try.prog Try.f111 = some a111 := by kernel_rfl
/-- (zugzwang/board.checker).stands -/
def a112 : AF := ⟨18, [.tmp 8],
 (.seq (.ops [⟨some 4, none, .h (.box (.t 0))⟩,
 ⟨some 8, none, .p (.mv (.k (.s (.bool false))))⟩])
 (.seq (.ops [⟨some 9, none, .p (.mv (.t 3))⟩,
 ⟨some 10, none, .p (.fa 0 133 (.t 4))⟩,
 ⟨some 11, none, .p (.fa 0 128 (.t 10))⟩,
 ⟨some 12, none, .p (.ixa 64 2 (.t 11) (.t 9))⟩,
 ⟨some 13, none, .h (.load true 2 (.t 12))⟩,
 ⟨some 14, none, .p (.mv (.t 1))⟩,
 ⟨some 15, none, .p (.mv (.t 2))⟩,
 ⟨some 16, none, .p (.build (.ints 2) [(0, 1, (.t 14)), (1, 1, (.t 15))])⟩,
 ⟨some 17, none, .p (.eqa false 2 (.t 13) (.t 16))⟩,
 ⟨some 8, none, .p (.mv (.t 17))⟩])
 .ret))⟩
theorem c112 : compF Try.prog Try.f112 = some a112 := by kernel_rfl
/-- (zugzwang/board.checker).over$1 -/
def a113 : AF := ⟨11, [.tmp 3],
 (.seq (.ops [⟨some 3, none, .p (.mv (.k (.s (.bool false))))⟩])
 (.seq (.ops [⟨some 4, none, .p (.mv (.t 0))⟩,
 ⟨some 5, none, .p (.fa 0 133 (.t 1))⟩,
 ⟨some 6, none, .p (.fa 0 128 (.t 5))⟩,
 ⟨some 7, none, .p (.ixa 64 2 (.t 6) (.t 4))⟩,
 ⟨some 8, none, .h (.load true 2 (.t 7))⟩,
 ⟨some 9, none, .p (.build (.ints 2) [])⟩,
 ⟨some 10, none, .p (.eqa false 2 (.t 8) (.t 9))⟩,
 ⟨some 3, none, .p (.mv (.t 10))⟩])
 .ret))⟩
theorem c113 : compF Try.prog Try.f113 = some a113 := by kernel_rfl
/-- slices.IndexFunc[[]int,int] -/
def a114 : AF := ⟨19, [.tmp 4],
 (.seq (.ops [⟨some 4, none, .p (.mv (.k (.s (.int .i64 0))))⟩])
 (.seq (.seq (.ops [⟨some 6, none, .p (.mv (.t 0))⟩,
 ⟨some 7, none, .p (.len (.t 6))⟩,
 ⟨some 8, none, .p (.mv (.k (.s (.int .i64 0))))⟩])
 (.block 0 (.loop (.seq (.ops [⟨some 9, none, .p (.bin .lss (.t 8) (.t 7))⟩])
 (.seq (.cond (.t 9)
 .skip
 (.exit 0))
 (.seq (.block 1 (.seq (.ops [⟨some 10, none, .p (.mv (.t 8))⟩,
 ⟨some 5, none, .p (.mv (.t 10))⟩])
 (.seq (.ops [⟨some 11, none, .p (.mv (.t 1))⟩,
 ⟨some 12, none, .p (.mv (.t 0))⟩,
 ⟨some 13, none, .p (.mv (.t 5))⟩,
 ⟨some 14, none, .p (.ixs 1 (.t 12) (.t 13))⟩,
 ⟨some 15, none, .h (.load false 1 (.t 14))⟩,
 ⟨some 16, none, .h (.call (.t 11) [(.t 15)])⟩])
 (.cond (.t 16)
 (.seq (.ops [⟨some 17, none, .p (.mv (.t 5))⟩,
 ⟨some 4, none, .p (.mv (.t 17))⟩])
 .ret)
 .skip))))
 (.ops [⟨some 18, none, .p (.bin .add (.t 8) (.k (.s (.int .i64 1))))⟩,
 ⟨some 8, none, .p (.mv (.t 18))⟩])))))))
 (.seq (.ops [⟨some 4, none, .p (.mv (.k (.s (.int .i64 (-1)))))⟩])
 .ret)))⟩
theorem c114 : compF Try.prog Try.f114 = some a114 := by kernel_rfl
/-- (*zugzwang/play.hand).rook -/
def a115 : AF := ⟨80, [.tmp 2, .tmp 3, .tmp 4],
 (.seq (.ops [⟨some 2, none, .p (.mv (.k (.s (.int .i64 0))))⟩,
 ⟨some 3, none, .p (.mv (.k (.s (.int .i64 0))))⟩,
 ⟨some 4, none, .p (.mv (.k (.s (.bool false))))⟩])
 (.seq (.ops [⟨some 7, none, .p (.mv (.t 0))⟩,
 ⟨some 8, none, .p (.nilck (.t 7))⟩,
 ⟨some 9, none, .p (.fa 136 2 (.t 8))⟩,
 ⟨some 10, none, .p (.fa 1 1 (.t 9))⟩,
 ⟨some 11, none, .h (.load false 1 (.t 10))⟩,
 ⟨some 12, none, .p (.bin .mul (.k (.s (.int .i64 56))) (.t 11))⟩,
 ⟨some 13, none, .p (.bin .add (.t 12) (.k (.s (.int .i64 4))))⟩,
 ⟨some 5, none, .p (.mv (.t 13))⟩])
 (.seq (.ops [⟨some 14, none, .p (.mv (.t 0))⟩,
 ⟨some 15, none, .p (.nilck (.t 14))⟩,
 ⟨some 16, none, .p (.fa 136 2 (.t 15))⟩,
 ⟨some 17, none, .p (.fa 1 1 (.t 16))⟩,
 ⟨some 18, none, .h (.load false 1 (.t 17))⟩,
 ⟨some 19, none, .p (.bin .mul (.k (.s (.int .i64 2))) (.t 18))⟩,
 ⟨some 20, none, .p (.bin .shl (.k (.s (.int .i64 1))) (.t 19))⟩,
 ⟨some 6, none, .p (.mv (.t 20))⟩])
 (.seq (.block 0 (.seq (.ops [⟨some 22, none, .p (.mv (.t 0))⟩,
 ⟨some 23, none, .p (.nilck (.t 22))⟩,
 ⟨some 24, none, .p (.fa 136 2 (.t 23))⟩,
 ⟨some 25, none, .p (.fa 0 1 (.t 24))⟩,
 ⟨some 26, none, .h (.load false 1 (.t 25))⟩,
 ⟨some 27, none, .p (.bin .neq (.t 26) (.k (.s (.int .i64 6))))⟩,
 ⟨some 28, none, .p (.mv (.t 27))⟩,
 ⟨some 29, some (28, false), .p (.mv (.t 0))⟩,
 ⟨some 30, some (28, false), .p (.nilck (.t 29))⟩,
 ⟨some 31, some (28, false), .p (.fa 133 3 (.t 30))⟩,
 ⟨some 32, some (28, false), .p (.fa 0 1 (.t 31))⟩,
 ⟨some 33, some (28, false), .h (.load false 1 (.t 32))⟩,
 ⟨some 34, some (28, false), .p (.mv (.t 5))⟩,
 ⟨some 35, some (28, false), .p (.bin .neq (.t 33) (.t 34))⟩,
 ⟨some 36, none, .p (.pick (.t 28) (.k (.s (.bool true))) (.t 35))⟩,
 ⟨some 21, none, .p (.mv (.t 36))⟩])
 (.cond (.t 21)
 (.seq (.ops [⟨some 2, none, .p (.mv (.k (.s (.int .i64 0))))⟩,
 ⟨some 3, none, .p (.mv (.k (.s (.int .i64 0))))⟩,
 ⟨some 4, none, .p (.mv (.k (.s (.bool false))))⟩])
 .ret)
 (.seq (.ops [⟨some 38, none, .p (.mv (.t 0))⟩,
 ⟨some 39, none, .p (.nilck (.t 38))⟩,
 ⟨some 40, none, .p (.fa 133 3 (.t 39))⟩,
 ⟨some 41, none, .p (.fa 1 1 (.t 40))⟩,
 ⟨some 42, none, .h (.load false 1 (.t 41))⟩,
 ⟨some 43, none, .p (.mv (.t 5))⟩,
 ⟨some 44, none, .p (.bin .add (.t 43) (.k (.s (.int .i64 2))))⟩,
 ⟨some 45, none, .p (.bin .eql (.t 42) (.t 44))⟩,
 ⟨some 37, none, .p (.mv (.t 45))⟩])
 (.cond (.t 37)
 (.seq (.ops [⟨some 46, none, .p (.mv (.t 5))⟩,
 ⟨some 47, none, .p (.bin .add (.t 46) (.k (.s (.int .i64 3))))⟩,
 ⟨some 48, none, .p (.mv (.t 5))⟩,
 ⟨some 49, none, .p (.bin .add (.t 48) (.k (.s (.int .i64 1))))⟩,
 ⟨some 50, none, .p (.mv (.t 0))⟩,
 ⟨some 51, none, .p (.nilck (.t 50))⟩,
 ⟨some 52, none, .p (.fa 0 133 (.t 51))⟩,
 ⟨some 53, none, .p (.fa 129 1 (.t 52))⟩,
 ⟨some 54, none, .h (.load false 1 (.t 53))⟩,
 ⟨some 55, none, .p (.mv (.t 6))⟩,
 ⟨some 56, none, .p (.bin .and (.t 54) (.t 55))⟩,
 ⟨some 57, none, .p (.bin .neq (.t 56) (.k (.s (.int .i64 0))))⟩,
 ⟨some 2, none, .p (.mv (.t 47))⟩,
 ⟨some 3, none, .p (.mv (.t 49))⟩,
 ⟨some 4, none, .p (.mv (.t 57))⟩])
 .ret)
 (.seq (.ops [⟨some 59, none, .p (.mv (.t 0))⟩,
 ⟨some 60, none, .p (.nilck (.t 59))⟩,
 ⟨some 61, none, .p (.fa 133 3 (.t 60))⟩,
 ⟨some 62, none, .p (.fa 1 1 (.t 61))⟩,
 ⟨some 63, none, .h (.load false 1 (.t 62))⟩,
 ⟨some 64, none, .p (.mv (.t 5))⟩,
 ⟨some 65, none, .p (.bin .sub (.t 64) (.k (.s (.int .i64 2))))⟩,
 ⟨some 66, none, .p (.bin .eql (.t 63) (.t 65))⟩,
 ⟨some 58, none, .p (.mv (.t 66))⟩])
 (.cond (.t 58)
 (.seq (.ops [⟨some 67, none, .p (.mv (.t 5))⟩,
 ⟨some 68, none, .p (.bin .sub (.t 67) (.k (.s (.int .i64 4))))⟩,
 ⟨some 69, none, .p (.mv (.t 5))⟩,
 ⟨some 70, none, .p (.bin .sub (.t 69) (.k (.s (.int .i64 1))))⟩,
 ⟨some 71, none, .p (.mv (.t 0))⟩,
 ⟨some 72, none, .p (.nilck (.t 71))⟩,
 ⟨some 73, none, .p (.fa 0 133 (.t 72))⟩,
 ⟨some 74, none, .p (.fa 129 1 (.t 73))⟩,
 ⟨some 75, none, .h (.load false 1 (.t 74))⟩,
 ⟨some 76, none, .p (.mv (.t 6))⟩,
 ⟨some 77, none, .p (.bin .shl (.t 76) (.k (.s (.int .u64 1))))⟩,
 ⟨some 78, none, .p (.bin .and (.t 75) (.t 77))⟩,
 ⟨some 79, none, .p (.bin .neq (.t 78) (.k (.s (.int .i64 0))))⟩,
 ⟨some 2, none, .p (.mv (.t 68))⟩,
 ⟨some 3, none, .p (.mv (.t 70))⟩,
 ⟨some 4, none, .p (.mv (.t 79))⟩])
 .ret)
 .skip)))))))
 (.seq (.ops [⟨some 2, none, .p (.mv (.k (.s (.int .i64 0))))⟩,
 ⟨some 3, none, .p (.mv (.k (.s (.int .i64 0))))⟩,
 ⟨some 4, none, .p (.mv (.k (.s (.bool false))))⟩])
 .ret)))))⟩
theorem c115 : compF Try.prog Try.f115 = some a115 := by kernel_rfl
/-- (*zugzwang/play.hand).long -/
def a116 : AF := ⟨55, [.tmp 2],
 (.seq (.ops [⟨some 2, none, .p (.mv (.k (.s (.bool false))))⟩])
 (.seq (.ops [⟨some 6, none, .p (.mv (.t 0))⟩,
 ⟨some 7, none, .p (.nilck (.t 6))⟩,
 ⟨some 8, none, .p (.fa 136 2 (.t 7))⟩,
 ⟨some 9, none, .p (.fa 1 1 (.t 8))⟩,
 ⟨some 10, none, .h (.load false 1 (.t 9))⟩,
 ⟨some 11, none, .p (.bin .mul (.k (.s (.int .i64 2))) (.t 10))⟩,
 ⟨some 12, none, .p (.bin .sub (.k (.s (.int .i64 1))) (.t 11))⟩,
 ⟨some 3, none, .p (.mv (.t 12))⟩])
 (.seq (.ops [⟨some 13, none, .p (.mv (.t 0))⟩,
 ⟨some 14, none, .p (.nilck (.t 13))⟩,
 ⟨some 15, none, .p (.fa 133 3 (.t 14))⟩,
 ⟨some 16, none, .p (.fa 0 1 (.t 15))⟩,
 ⟨some 17, none, .h (.load false 1 (.t 16))⟩,
 ⟨some 18, none, .h (.callq (.k (.fn 38 [])) [(.t 17)])⟩,
 ⟨some 19, none, .p (.mv (.t 0))⟩,
 ⟨some 20, none, .p (.nilck (.t 19))⟩,
 ⟨some 21, none, .p (.fa 133 3 (.t 20))⟩,
 ⟨some 22, none, .p (.fa 1 1 (.t 21))⟩,
 ⟨some 23, none, .h (.load false 1 (.t 22))⟩,
 ⟨some 24, none, .h (.call (.k (.fn 38 [])) [(.t 23)])⟩,
 ⟨some 4, none, .p (.mv (.t 18))⟩,
 ⟨some 5, none, .p (.mv (.t 24))⟩])
 (.seq (.ops [⟨some 25, none, .p (.mv (.t 0))⟩,
 ⟨some 26, none, .p (.nilck (.t 25))⟩,
 ⟨some 27, none, .p (.fa 136 2 (.t 26))⟩,
 ⟨some 28, none, .p (.fa 0 1 (.t 27))⟩,
 ⟨some 29, none, .h (.load false 1 (.t 28))⟩,
 ⟨some 30, none, .p (.bin .eql (.t 29) (.k (.s (.int .i64 1))))⟩,
 ⟨some 31, none, .p (.mv (.t 30))⟩,
 ⟨some 32, some (31, true), .p (.mv (.t 0))⟩,
 ⟨some 33, some (31, true), .h (.call (.k (.fn 119 [])) [(.t 32)])⟩,
 ⟨some 34, some (31, true), .p (.bin .eql (.t 33) (.k (.s (.int .i64 0))))⟩,
 ⟨some 35, none, .p (.pick (.t 31) (.t 34) (.k (.s (.bool false))))⟩,
 ⟨some 36, none, .p (.mv (.t 35))⟩,
 ⟨some 37, some (36, true), .p (.mv (.t 4))⟩,
 ⟨some 38, some (36, true), .p (.mv (.t 0))⟩,
 ⟨some 39, some (36, true), .p (.nilck (.t 38))⟩,
 ⟨some 40, some (36, true), .p (.fa 136 2 (.t 39))⟩,
 ⟨some 41, some (36, true), .p (.fa 1 1 (.t 40))⟩,
 ⟨some 42, some (36, true), .h (.load false 1 (.t 41))⟩,
 ⟨some 43, some (36, true), .p (.bin .mul (.k (.s (.int .i64 5))) (.t 42))⟩,
 ⟨some 44, some (36, true), .p (.bin .add (.k (.s (.int .i64 1))) (.t 43))⟩,
 ⟨some 45, some (36, true), .p (.bin .eql (.t 37) (.t 44))⟩,
 ⟨some 46, none, .p (.pick (.t 36) (.t 45) (.k (.s (.bool false))))⟩,
 ⟨some 47, none, .p (.mv (.t 46))⟩,
 ⟨some 48, some (47, true), .p (.mv (.t 5))⟩,
 ⟨some 49, some (47, true), .p (.mv (.t 4))⟩,
 ⟨some 50, some (47, true), .p (.mv (.t 3))⟩,
 ⟨some 51, some (47, true), .p (.bin .mul (.k (.s (.int .i64 2))) (.t 50))⟩,
 ⟨some 52, some (47, true), .p (.bin .add (.t 49) (.t 51))⟩,
 ⟨some 53, some (47, true), .p (.bin .eql (.t 48) (.t 52))⟩,
 ⟨some 54, none, .p (.pick (.t 47) (.t 53) (.k (.s (.bool false))))⟩,
 ⟨some 2, none, .p (.mv (.t 54))⟩])
 .ret))))⟩
theorem c116 : compF Try.prog Try.f116 = some a116 := by kernel_rfl
/-- (*zugzwang/play.hand).set -/
def a117 : AF := ⟨24, [],
 (.seq (.ops [⟨some 4, none, .h (.box (.t 1))⟩])
 (.seq (.ops [⟨some 8, none, .p (.mv (.t 2))⟩,
 ⟨some 9, none, .p (.len (.t 8))⟩,
 ⟨some 10, none, .p (.mv (.k (.s (.int .i64 0))))⟩])
 (.block 0 (.loop (.seq (.ops [⟨some 11, none, .p (.bin .lss (.t 10) (.t 9))⟩])
 (.seq (.cond (.t 11)
 .skip
 (.exit 0))
 (.seq (.block 1 (.seq (.ops [⟨some 12, none, .p (.ixs 1 (.t 8) (.t 10))⟩,
 ⟨some 13, none, .h (.load false 1 (.t 12))⟩,
 ⟨some 7, none, .p (.mv (.t 13))⟩])
 (.seq (.ops [⟨some 14, none, .p (.mv (.t 7))⟩,
 ⟨some 15, none, .h (.call (.k (.fn 39 [])) [(.t 14)])⟩])
 (.cond (.t 15)
 (.ops [⟨some 16, none, .p (.mv (.t 0))⟩,
 ⟨some 17, none, .p (.mv (.t 7))⟩,
 ⟨some 18, none, .h (.load true 2 (.t 4))⟩,
 ⟨some 19, none, .p (.nilck (.t 16))⟩,
 ⟨some 20, none, .p (.fa 0 133 (.t 19))⟩,
 ⟨some 21, none, .p (.fa 0 128 (.t 20))⟩,
 ⟨some 22, none, .p (.ixa 64 2 (.t 21) (.t 17))⟩,
 ⟨none, none, .h (.store 2 (.t 22) (.t 18))⟩])
 .skip))))
 (.ops [⟨some 23, none, .p (.bin .add (.t 10) (.k (.s (.int .i64 1))))⟩,
 ⟨some 10, none, .p (.mv (.t 23))⟩]))))))))⟩
theorem c117 : compF Try.prog Try.f117 = some a117 := by kernel_rfl
/-- zugzwang/play.lost -/
def a118 : AF := ⟨21, [.tmp 2],
 (.seq (.ops [⟨some 2, none, .p (.mv (.k (.s (.int .i64 0))))⟩])
 (.seq (.ops [⟨some 6, none, .h (.mkmap)⟩,
 ⟨none, none, .h (.mput (.t 6) (.k (.s (.int .i64 4))) (.k (.s (.int .i64 3))))⟩,
 ⟨none, none, .h (.mput (.t 6) (.k (.s (.int .i64 7))) (.k (.s (.int .i64 1))))⟩,
 ⟨none, none, .h (.mput (.t 6) (.k (.s (.int .i64 0))) (.k (.s (.int .i64 2))))⟩,
 ⟨none, none, .h (.mput (.t 6) (.k (.s (.int .i64 60))) (.k (.s (.int .i64 12))))⟩,
 ⟨none, none, .h (.mput (.t 6) (.k (.s (.int .i64 63))) (.k (.s (.int .i64 4))))⟩,
 ⟨none, none, .h (.mput (.t 6) (.k (.s (.int .i64 56))) (.k (.s (.int .i64 8))))⟩,
 ⟨some 7, none, .p (.mv (.t 6))⟩,
 ⟨some 3, none, .p (.mv (.t 7))⟩])
 (.seq (.seq (.ops [⟨some 8, none, .p (.mv (.t 0))⟩,
 ⟨some 9, none, .p (.len (.t 8))⟩,
 ⟨some 10, none, .p (.mv (.k (.s (.int .i64 0))))⟩])
 (.block 0 (.loop (.seq (.ops [⟨some 11, none, .p (.bin .lss (.t 10) (.t 9))⟩])
 (.seq (.cond (.t 11)
 .skip
 (.exit 0))
 (.seq (.block 1 (.seq (.ops [⟨some 12, none, .p (.ixs 1 (.t 8) (.t 10))⟩,
 ⟨some 13, none, .h (.load false 1 (.t 12))⟩,
 ⟨some 5, none, .p (.mv (.t 13))⟩])
 (.ops [⟨some 14, none, .p (.mv (.t 2))⟩,
 ⟨some 15, none, .p (.mv (.t 3))⟩,
 ⟨some 16, none, .p (.mv (.t 5))⟩,
 ⟨some 17, none, .h (.mget (.one (.s (.int .i64 0))) false (.t 15) (.t 16))⟩,
 ⟨some 18, none, .p (.bin .or (.t 14) (.t 17))⟩,
 ⟨some 2, none, .p (.mv (.t 18))⟩])))
 (.ops [⟨some 19, none, .p (.bin .add (.t 10) (.k (.s (.int .i64 1))))⟩,
 ⟨some 10, none, .p (.mv (.t 19))⟩])))))))
 (.seq (.ops [⟨some 20, none, .p (.mv (.t 2))⟩,
 ⟨some 2, none, .p (.mv (.t 20))⟩])
 .ret))))⟩
theorem c118 : compF Try.prog Try.f118 = some a118 := by kernel_rfl
/-- (*zugzwang/play.hand).turns -/
def a119 : AF := ⟨16, [.tmp 2],
 (.seq (.ops [⟨some 2, none, .p (.mv (.k (.s (.int .i64 0))))⟩])
 (.seq (.ops [⟨some 3, none, .p (.mv (.t 0))⟩,
 ⟨some 4, none, .p (.nilck (.t 3))⟩,
 ⟨some 5, none, .p (.fa 133 3 (.t 4))⟩,
 ⟨some 6, none, .p (.fa 1 1 (.t 5))⟩,
 ⟨some 7, none, .h (.load false 1 (.t 6))⟩,
 ⟨some 8, none, .h (.callq (.k (.fn 37 [])) [(.t 7)])⟩,
 ⟨some 9, none, .p (.mv (.t 0))⟩,
 ⟨some 10, none, .p (.nilck (.t 9))⟩,
 ⟨some 11, none, .p (.fa 133 3 (.t 10))⟩,
 ⟨some 12, none, .p (.fa 0 1 (.t 11))⟩,
 ⟨some 13, none, .h (.load false 1 (.t 12))⟩,
 ⟨some 14, none, .h (.call (.k (.fn 37 [])) [(.t 13)])⟩,
 ⟨some 15, none, .p (.bin .sub (.t 8) (.t 14))⟩,
 ⟨some 2, none, .p (.mv (.t 15))⟩])
 .ret))⟩
theorem c119 : compF Try.prog Try.f119 = some a119 := by kernel_rfl
/-- zugzwang/zugzwangref06.home -/
def a120 : AF := ⟨25, [.tmp 8],
 (.seq (.ops [⟨some 4, none, .h (.box (.t 0))⟩,
 ⟨some 8, none, .p (.mv (.k (.s (.bool false))))⟩])
 (.seq (.ops [⟨some 9, none, .p (.mv (.t 2))⟩,
 ⟨some 10, none, .p (.fa 0 128 (.t 4))⟩,
 ⟨some 11, none, .p (.ixa 64 2 (.t 10) (.t 9))⟩,
 ⟨some 12, none, .h (.load true 2 (.t 11))⟩,
 ⟨some 13, none, .p (.mv (.t 1))⟩,
 ⟨some 14, none, .p (.build (.ints 2) [(0, 1, (.k (.s (.int .i64 6)))), (1, 1, (.t 13))])⟩,
 ⟨some 15, none, .p (.eqa false 2 (.t 12) (.t 14))⟩,
 ⟨some 16, none, .p (.mv (.t 15))⟩,
 ⟨some 17, some (16, true), .p (.mv (.t 3))⟩,
 ⟨some 18, some (16, true), .p (.fa 0 128 (.t 4))⟩,
 ⟨some 19, some (16, true), .p (.ixa 64 2 (.t 18) (.t 17))⟩,
 ⟨some 20, some (16, true), .h (.load true 2 (.t 19))⟩,
 ⟨some 21, some (16, true), .p (.mv (.t 1))⟩,
 ⟨some 22, some (16, true), .p (.build (.ints 2) [(0, 1, (.k (.s (.int .i64 4)))), (1, 1, (.t 21))])⟩,
 ⟨some 23, some (16, true), .p (.eqa false 2 (.t 20) (.t 22))⟩,
 ⟨some 24, none, .p (.pick (.t 16) (.t 23) (.k (.s (.bool false))))⟩,
 ⟨some 8, none, .p (.mv (.t 24))⟩])
 .ret))⟩
theorem c120 : compF Try.prog Try.f120 = some a120 := by kernel_rfl
end Go.Proofs.Ytjldefmcnppdoaa
