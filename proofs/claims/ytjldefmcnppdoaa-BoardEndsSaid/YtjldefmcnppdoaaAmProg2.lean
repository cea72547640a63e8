/- The functions of this seat, as the abstract machine has them: each held against the loaded one by the kernel. -/
import Derived.Test.YtjldefmcnppdoaaProg
import Derived.Test.YtjldefmcnppdoaaAmRun
import Derived.KernelRfl
namespace Go.Proofs.Ytjldefmcnppdoaa
open Go Go.Am
set_option maxRecDepth 100000
/-- zugzwang/zugzwangkit.mark -/
def a106 : AF := ⟨10, [.tmp 4],
 (.seq (.ops [⟨some 4, none, .p (.mv (.k (.s (.int .i64 0))))⟩])
 (.seq (.ops [⟨some 5, none, .p (.mv (.t 0))⟩,
 ⟨some 6, none, .p (.bin .add (.t 5) (.k (.s (.int .i64 7))))⟩,
 ⟨some 7, none, .p (.bin .mul (.k (.s (.int .i64 1000003))) (.t 6))⟩,
 ⟨some 8, none, .p (.mv (.t 1))⟩,
 ⟨some 9, none, .p (.bin .add (.t 7) (.t 8))⟩,
 ⟨some 4, none, .p (.mv (.t 9))⟩])
 .ret))⟩
theorem c106 : compF Try.prog Try.f106 = some a106 := by kernel_rfl
/-- zugzwang/zugzwangref06.none -/
def a107 : AF := ⟨6, [.tmp 2],
 (.seq (.ops [⟨some 1, none, .h (.box (.t 0))⟩,
 ⟨some 2, none, .p (.mv (.k (.s (.bool false))))⟩])
 (.seq (.ops [⟨some 3, none, .h (.load true 2 (.t 1))⟩,
 ⟨some 4, none, .p (.build (.ints 2) [])⟩,
 ⟨some 5, none, .p (.eqa false 2 (.t 3) (.t 4))⟩,
 ⟨some 2, none, .p (.mv (.t 5))⟩])
 .ret))⟩
theorem c107 : compF Try.prog Try.f107 = some a107 := by kernel_rfl
/-- zugzwang/zugzwangref06.pieces -/
def a108 : AF := ⟨63, [.tmp 2],
 (.seq (.ops [⟨some 1, none, .h (.box (.t 0))⟩,
 ⟨some 2, none, .p (.mv (.k (.s (.bool false))))⟩])
 (.seq (.ops [⟨some 6, none, .p (.build (.ints 2) [])⟩,
 ⟨some 3, none, .h (.alloc (.ints 2))⟩,
 ⟨none, none, .h (.store 2 (.t 3) (.t 6))⟩])
 (.seq (.seq (.ops [⟨some 4, none, .p (.mv (.k (.s (.int .i64 0))))⟩])
 (.block 0 (.loop (.seq (.seq (.ops [⟨some 7, none, .p (.mv (.t 4))⟩,
 ⟨some 8, none, .p (.bin .lss (.t 7) (.k (.s (.int .i64 64))))⟩])
 (.cond (.t 8)
 .skip
 (.exit 0)))
 (.seq (.block 1 (.seq (.ops [⟨some 11, none, .p (.mv (.t 4))⟩,
 ⟨some 12, none, .p (.fa 0 128 (.t 1))⟩,
 ⟨some 13, none, .p (.ixa 64 2 (.t 12) (.t 11))⟩,
 ⟨some 14, none, .h (.load true 2 (.t 13))⟩,
 ⟨some 5, none, .h (.alloc (.ints 2))⟩,
 ⟨none, none, .h (.store 2 (.t 5) (.t 14))⟩])
 (.seq (.seq (.ops [⟨some 15, none, .h (.load true 2 (.t 5))⟩,
 ⟨some 16, none, .h (.call (.k (.fn 107 [])) [(.t 15)])⟩,
 ⟨some 17, none, .p (.un .not (.t 16))⟩,
 ⟨some 18, none, .p (.mv (.t 17))⟩,
 ⟨some 19, some (18, true), .h (.load true 2 (.t 5))⟩,
 ⟨some 20, some (18, true), .h (.call (.k (.fn 55 [])) [(.t 19)])⟩,
 ⟨some 21, some (18, true), .p (.un .not (.t 20))⟩,
 ⟨some 22, none, .p (.pick (.t 18) (.t 21) (.k (.s (.bool false))))⟩,
 ⟨some 23, none, .p (.mv (.t 22))⟩,
 ⟨some 24, some (23, false), .p (.fa 0 1 (.t 5))⟩,
 ⟨some 25, some (23, false), .h (.load false 1 (.t 24))⟩,
 ⟨some 26, some (23, false), .p (.bin .eql (.t 25) (.k (.s (.int .i64 1))))⟩,
 ⟨some 27, some (23, false), .p (.mv (.t 26))⟩,
 ⟨some 28, some (27, true), .p (.mv (.t 4))⟩,
 ⟨some 29, some (27, true), .p (.bin .lss (.t 28) (.k (.s (.int .i64 8))))⟩,
 ⟨some 30, some (27, true), .p (.mv (.t 29))⟩,
 ⟨some 31, some (30, false), .p (.mv (.t 4))⟩,
 ⟨some 32, some (30, false), .p (.bin .geq (.t 31) (.k (.s (.int .i64 56))))⟩,
 ⟨some 33, some (27, true), .p (.pick (.t 30) (.k (.s (.bool true))) (.t 32))⟩,
 ⟨some 34, some (23, false), .p (.pick (.t 27) (.t 33) (.k (.s (.bool false))))⟩,
 ⟨some 35, none, .p (.pick (.t 23) (.k (.s (.bool true))) (.t 34))⟩])
 (.cond (.t 35)
 (.seq (.ops [⟨some 2, none, .p (.mv (.k (.s (.bool false))))⟩])
 .ret)
 .skip))
 (.seq (.ops [⟨some 36, none, .p (.fa 0 1 (.t 5))⟩,
 ⟨some 37, none, .h (.load false 1 (.t 36))⟩,
 ⟨some 38, none, .p (.bin .eql (.t 37) (.k (.s (.int .i64 6))))⟩])
 (.cond (.t 38)
 (.ops [⟨some 39, none, .p (.fa 1 1 (.t 5))⟩,
 ⟨some 40, none, .h (.load false 1 (.t 39))⟩,
 ⟨some 41, none, .p (.ixa 2 1 (.t 3) (.t 40))⟩,
 ⟨some 42, none, .h (.load false 1 (.t 41))⟩,
 ⟨some 43, none, .p (.bin .add (.t 42) (.k (.s (.int .i64 1))))⟩,
 ⟨some 44, none, .p (.ixa 2 1 (.t 3) (.t 40))⟩,
 ⟨none, none, .h (.store 1 (.t 44) (.t 43))⟩])
 .skip)))))
 (.ops [⟨some 9, none, .p (.mv (.t 4))⟩,
 ⟨some 10, none, .p (.bin .add (.t 9) (.k (.s (.int .i64 1))))⟩,
 ⟨some 4, none, .p (.mv (.t 10))⟩]))))))
 (.seq (.ops [⟨some 45, none, .p (.ixa 2 1 (.t 3) (.k (.s (.int .i64 0))))⟩,
 ⟨some 46, none, .h (.load false 1 (.t 45))⟩,
 ⟨some 47, none, .p (.bin .eql (.t 46) (.k (.s (.int .i64 1))))⟩,
 ⟨some 48, none, .p (.mv (.t 47))⟩,
 ⟨some 49, some (48, true), .p (.ixa 2 1 (.t 3) (.k (.s (.int .i64 1))))⟩,
 ⟨some 50, some (48, true), .h (.load false 1 (.t 49))⟩,
 ⟨some 51, some (48, true), .p (.bin .eql (.t 50) (.k (.s (.int .i64 1))))⟩,
 ⟨some 52, none, .p (.pick (.t 48) (.t 51) (.k (.s (.bool false))))⟩,
 ⟨some 53, none, .p (.mv (.t 52))⟩,
 ⟨some 54, some (53, true), .p (.fa 128 1 (.t 1))⟩,
 ⟨some 55, some (53, true), .h (.load false 1 (.t 54))⟩,
 ⟨some 56, some (53, true), .p (.bin .eql (.t 55) (.k (.s (.int .i64 0))))⟩,
 ⟨some 57, some (53, true), .p (.mv (.t 56))⟩,
 ⟨some 58, some (57, false), .p (.fa 128 1 (.t 1))⟩,
 ⟨some 59, some (57, false), .h (.load false 1 (.t 58))⟩,
 ⟨some 60, some (57, false), .p (.bin .eql (.t 59) (.k (.s (.int .i64 1))))⟩,
 ⟨some 61, some (53, true), .p (.pick (.t 57) (.k (.s (.bool true))) (.t 60))⟩,
 ⟨some 62, none, .p (.pick (.t 53) (.t 61) (.k (.s (.bool false))))⟩,
 ⟨some 2, none, .p (.mv (.t 62))⟩])
 .ret))))⟩
theorem c108 : compF Try.prog Try.f108 = some a108 := by kernel_rfl
/-- zugzwang/zugzwangref06.castles -/
def a109 : AF := ⟨48, [.tmp 2],
 (.seq (.ops [⟨some 1, none, .h (.box (.t 0))⟩,
 ⟨some 2, none, .p (.mv (.k (.s (.bool false))))⟩])
 (.seq (.ops [⟨some 4, none, .p (.fa 129 1 (.t 1))⟩,
 ⟨some 5, none, .h (.load false 1 (.t 4))⟩,
 ⟨some 3, none, .p (.mv (.t 5))⟩])
 (.seq (.seq (.ops [⟨some 6, none, .p (.mv (.t 3))⟩,
 ⟨some 7, none, .p (.bin .lss (.t 6) (.k (.s (.int .i64 0))))⟩,
 ⟨some 8, none, .p (.mv (.t 7))⟩,
 ⟨some 9, some (8, false), .p (.mv (.t 3))⟩,
 ⟨some 10, some (8, false), .p (.bin .gtr (.t 9) (.k (.s (.int .i64 15))))⟩,
 ⟨some 11, none, .p (.pick (.t 8) (.k (.s (.bool true))) (.t 10))⟩])
 (.cond (.t 11)
 (.seq (.ops [⟨some 2, none, .p (.mv (.k (.s (.bool false))))⟩])
 .ret)
 .skip))
 (.seq (.ops [⟨some 12, none, .p (.mv (.t 3))⟩,
 ⟨some 13, none, .p (.bin .rem (.t 12) (.k (.s (.int .i64 2))))⟩,
 ⟨some 14, none, .p (.bin .eql (.t 13) (.k (.s (.int .i64 0))))⟩,
 ⟨some 15, none, .p (.mv (.t 14))⟩,
 ⟨some 16, some (15, false), .h (.load true 133 (.t 1))⟩,
 ⟨some 17, some (15, false), .h (.call (.k (.fn 120 [])) [(.t 16), (.k (.s (.int .i64 0))), (.k (.s (.int .i64 4))), (.k (.s (.int .i64 7)))])⟩,
 ⟨some 18, none, .p (.pick (.t 15) (.k (.s (.bool true))) (.t 17))⟩,
 ⟨some 19, none, .p (.mv (.t 18))⟩,
 ⟨some 20, some (19, true), .p (.mv (.t 3))⟩,
 ⟨some 21, some (19, true), .p (.bin .quo (.t 20) (.k (.s (.int .i64 2))))⟩,
 ⟨some 22, some (19, true), .p (.bin .rem (.t 21) (.k (.s (.int .i64 2))))⟩,
 ⟨some 23, some (19, true), .p (.bin .eql (.t 22) (.k (.s (.int .i64 0))))⟩,
 ⟨some 24, some (19, true), .p (.mv (.t 23))⟩,
 ⟨some 25, some (24, false), .h (.load true 133 (.t 1))⟩,
 ⟨some 26, some (24, false), .h (.call (.k (.fn 120 [])) [(.t 25), (.k (.s (.int .i64 0))), (.k (.s (.int .i64 4))), (.k (.s (.int .i64 0)))])⟩,
 ⟨some 27, some (19, true), .p (.pick (.t 24) (.k (.s (.bool true))) (.t 26))⟩,
 ⟨some 28, none, .p (.pick (.t 19) (.t 27) (.k (.s (.bool false))))⟩,
 ⟨some 29, none, .p (.mv (.t 28))⟩,
 ⟨some 30, some (29, true), .p (.mv (.t 3))⟩,
 ⟨some 31, some (29, true), .p (.bin .quo (.t 30) (.k (.s (.int .i64 4))))⟩,
 ⟨some 32, some (29, true), .p (.bin .rem (.t 31) (.k (.s (.int .i64 2))))⟩,
 ⟨some 33, some (29, true), .p (.bin .eql (.t 32) (.k (.s (.int .i64 0))))⟩,
 ⟨some 34, some (29, true), .p (.mv (.t 33))⟩,
 ⟨some 35, some (34, false), .h (.load true 133 (.t 1))⟩,
 ⟨some 36, some (34, false), .h (.call (.k (.fn 120 [])) [(.t 35), (.k (.s (.int .i64 1))), (.k (.s (.int .i64 60))), (.k (.s (.int .i64 63)))])⟩,
 ⟨some 37, some (29, true), .p (.pick (.t 34) (.k (.s (.bool true))) (.t 36))⟩,
 ⟨some 38, none, .p (.pick (.t 29) (.t 37) (.k (.s (.bool false))))⟩,
 ⟨some 39, none, .p (.mv (.t 38))⟩,
 ⟨some 40, some (39, true), .p (.mv (.t 3))⟩,
 ⟨some 41, some (39, true), .p (.bin .quo (.t 40) (.k (.s (.int .i64 8))))⟩,
 ⟨some 42, some (39, true), .p (.bin .eql (.t 41) (.k (.s (.int .i64 0))))⟩,
 ⟨some 43, some (39, true), .p (.mv (.t 42))⟩,
 ⟨some 44, some (43, false), .h (.load true 133 (.t 1))⟩,
 ⟨some 45, some (43, false), .h (.call (.k (.fn 120 [])) [(.t 44), (.k (.s (.int .i64 1))), (.k (.s (.int .i64 60))), (.k (.s (.int .i64 56)))])⟩,
 ⟨some 46, some (39, true), .p (.pick (.t 43) (.k (.s (.bool true))) (.t 45))⟩,
 ⟨some 47, none, .p (.pick (.t 39) (.t 46) (.k (.s (.bool false))))⟩,
 ⟨some 2, none, .p (.mv (.t 47))⟩])
 .ret))))⟩
theorem c109 : compF Try.prog Try.f109 = some a109 := by kernel_rfl
/-- zugzwang/zugzwangref06.over -/
def a110 : AF := ⟨61, [.tmp 2],
 (.seq (.ops [⟨some 1, none, .h (.box (.t 0))⟩,
 ⟨some 2, none, .p (.mv (.k (.s (.bool false))))⟩])
 (.seq (.seq (.ops [⟨some 6, none, .p (.fa 130 1 (.t 1))⟩,
 ⟨some 7, none, .h (.load false 1 (.t 6))⟩,
 ⟨some 8, none, .p (.bin .eql (.t 7) (.k (.s (.int .i64 (-1)))))⟩])
 (.cond (.t 8)
 (.seq (.ops [⟨some 2, none, .p (.mv (.k (.s (.bool true))))⟩])
 .ret)
 .skip))
 (.seq (.seq (.ops [⟨some 9, none, .p (.fa 130 1 (.t 1))⟩,
 ⟨some 10, none, .h (.load false 1 (.t 9))⟩,
 ⟨some 11, none, .p (.bin .lss (.t 10) (.k (.s (.int .i64 0))))⟩,
 ⟨some 12, none, .p (.mv (.t 11))⟩,
 ⟨some 13, some (12, false), .p (.fa 130 1 (.t 1))⟩,
 ⟨some 14, some (12, false), .h (.load false 1 (.t 13))⟩,
 ⟨some 15, some (12, false), .p (.bin .gtr (.t 14) (.k (.s (.int .i64 63))))⟩,
 ⟨some 16, none, .p (.pick (.t 12) (.k (.s (.bool true))) (.t 15))⟩,
 ⟨some 17, none, .p (.mv (.t 16))⟩,
 ⟨some 18, some (17, false), .p (.fa 131 1 (.t 1))⟩,
 ⟨some 19, some (17, false), .h (.load false 1 (.t 18))⟩,
 ⟨some 20, some (17, false), .p (.bin .neq (.t 19) (.k (.s (.int .i64 0))))⟩,
 ⟨some 21, none, .p (.pick (.t 17) (.k (.s (.bool true))) (.t 20))⟩])
 (.cond (.t 21)
 (.seq (.ops [⟨some 2, none, .p (.mv (.k (.s (.bool false))))⟩])
 .ret)
 .skip))
 (.seq (.ops [⟨some 22, none, .p (.build (.ints 2) [(0, 1, (.k (.s (.int .i64 1)))), (1, 1, (.k (.s (.int .i64 1))))])⟩,
 ⟨some 5, none, .h (.alloc (.ints 2))⟩,
 ⟨some 3, none, .p (.mv (.k (.s (.int .i64 5))))⟩,
 ⟨some 4, none, .p (.mv (.k (.s (.int .i64 8))))⟩,
 ⟨none, none, .h (.store 2 (.t 5) (.t 22))⟩])
 (.seq (.seq (.ops [⟨some 23, none, .p (.fa 128 1 (.t 1))⟩,
 ⟨some 24, none, .h (.load false 1 (.t 23))⟩,
 ⟨some 25, none, .p (.bin .eql (.t 24) (.k (.s (.int .i64 1))))⟩])
 (.cond (.t 25)
 (.ops [⟨some 26, none, .p (.build (.ints 2) [(0, 1, (.k (.s (.int .i64 1)))), (1, 1, (.k (.s (.int .i64 0))))])⟩,
 ⟨some 3, none, .p (.mv (.k (.s (.int .i64 2))))⟩,
 ⟨some 4, none, .p (.mv (.k (.s (.int .i64 (-8)))))⟩,
 ⟨none, none, .h (.store 2 (.t 5) (.t 26))⟩])
 .skip))
 (.seq (.ops [⟨some 27, none, .p (.fa 130 1 (.t 1))⟩,
 ⟨some 28, none, .h (.load false 1 (.t 27))⟩,
 ⟨some 29, none, .p (.bin .quo (.t 28) (.k (.s (.int .i64 8))))⟩,
 ⟨some 30, none, .p (.mv (.t 3))⟩,
 ⟨some 31, none, .p (.bin .eql (.t 29) (.t 30))⟩,
 ⟨some 32, none, .p (.mv (.t 31))⟩,
 ⟨some 33, some (32, true), .p (.fa 130 1 (.t 1))⟩,
 ⟨some 34, some (32, true), .h (.load false 1 (.t 33))⟩,
 ⟨some 35, some (32, true), .p (.fa 0 128 (.t 1))⟩,
 ⟨some 36, some (32, true), .p (.ixa 64 2 (.t 35) (.t 34))⟩,
 ⟨some 37, some (32, true), .h (.load true 2 (.t 36))⟩,
 ⟨some 38, some (32, true), .h (.call (.k (.fn 107 [])) [(.t 37)])⟩,
 ⟨some 39, none, .p (.pick (.t 32) (.t 38) (.k (.s (.bool false))))⟩,
 ⟨some 40, none, .p (.mv (.t 39))⟩,
 ⟨some 41, some (40, true), .p (.fa 130 1 (.t 1))⟩,
 ⟨some 42, some (40, true), .h (.load false 1 (.t 41))⟩,
 ⟨some 43, some (40, true), .p (.mv (.t 4))⟩,
 ⟨some 44, some (40, true), .p (.bin .add (.t 42) (.t 43))⟩,
 ⟨some 45, some (40, true), .p (.fa 0 128 (.t 1))⟩,
 ⟨some 46, some (40, true), .p (.ixa 64 2 (.t 45) (.t 44))⟩,
 ⟨some 47, some (40, true), .h (.load true 2 (.t 46))⟩,
 ⟨some 48, some (40, true), .h (.call (.k (.fn 107 [])) [(.t 47)])⟩,
 ⟨some 49, none, .p (.pick (.t 40) (.t 48) (.k (.s (.bool false))))⟩,
 ⟨some 50, none, .p (.mv (.t 49))⟩,
 ⟨some 51, some (50, true), .p (.fa 130 1 (.t 1))⟩,
 ⟨some 52, some (50, true), .h (.load false 1 (.t 51))⟩,
 ⟨some 53, some (50, true), .p (.mv (.t 4))⟩,
 ⟨some 54, some (50, true), .p (.bin .sub (.t 52) (.t 53))⟩,
 ⟨some 55, some (50, true), .p (.fa 0 128 (.t 1))⟩,
 ⟨some 56, some (50, true), .p (.ixa 64 2 (.t 55) (.t 54))⟩,
 ⟨some 57, some (50, true), .h (.load true 2 (.t 56))⟩,
 ⟨some 58, some (50, true), .h (.load true 2 (.t 5))⟩,
 ⟨some 59, some (50, true), .p (.eqa false 2 (.t 57) (.t 58))⟩,
 ⟨some 60, none, .p (.pick (.t 50) (.t 59) (.k (.s (.bool false))))⟩,
 ⟨some 2, none, .p (.mv (.t 60))⟩])
 .ret))))))⟩
theorem c110 : compF Try.prog Try.f110 = some a110 := by kernel_rfl
/-- (zugzwang/board.checker).stands -/
def a112 : AF := ⟨18, [.tmp 8],
 (.seq (.ops [⟨some 4, none, .h (.box (.t 0))⟩,
 ⟨some 8, none, .p (.mv (.k (.s (.bool false))))⟩])
 (.seq (.ops [⟨some 9, none, .p (.mv (.t 3))⟩,
 ⟨some 10, none, .p (.fa 0 133 (.t 4))⟩,
 ⟨some 11, none, .p (.fa 0 128 (.t 10))⟩,
 ⟨some 12, none, .p (.ixa 64 2 (.t 11) (.t 9))⟩,
 ⟨some 13, none, .h (.load true 2 (.t 12))⟩,
 ⟨some 14, none, .p (.mv (.t 1))⟩,
 ⟨some 15, none, .p (.mv (.t 2))⟩,
 ⟨some 16, none, .p (.build (.ints 2) [(0, 1, (.t 14)), (1, 1, (.t 15))])⟩,
 ⟨some 17, none, .p (.eqa false 2 (.t 13) (.t 16))⟩,
 ⟨some 8, none, .p (.mv (.t 17))⟩])
 .ret))⟩
theorem c112 : compF Try.prog Try.f112 = some a112 := by kernel_rfl
/-- (zugzwang/board.checker).over$1 -/
def a113 : AF := ⟨11, [.tmp 3],
 (.seq (.ops [⟨some 3, none, .p (.mv (.k (.s (.bool false))))⟩])
 (.seq (.ops [⟨some 4, none, .p (.mv (.t 0))⟩,
 ⟨some 5, none, .p (.fa 0 133 (.t 1))⟩,
 ⟨some 6, none, .p (.fa 0 128 (.t 5))⟩,
 ⟨some 7, none, .p (.ixa 64 2 (.t 6) (.t 4))⟩,
 ⟨some 8, none, .h (.load true 2 (.t 7))⟩,
 ⟨some 9, none, .p (.build (.ints 2) [])⟩,
 ⟨some 10, none, .p (.eqa false 2 (.t 8) (.t 9))⟩,
 ⟨some 3, none, .p (.mv (.t 10))⟩])
 .ret))⟩
theorem c113 : compF Try.prog Try.f113 = some a113 := by kernel_rfl
/-- slices.IndexFunc[[]int,int] -/
def a114 : AF := ⟨19, [.tmp 4],
 (.seq (.ops [⟨some 4, none, .p (.mv (.k (.s (.int .i64 0))))⟩])
 (.seq (.seq (.ops [⟨some 6, none, .p (.mv (.t 0))⟩,
 ⟨some 7, none, .p (.len (.t 6))⟩,
 ⟨some 8, none, .p (.mv (.k (.s (.int .i64 0))))⟩])
 (.block 0 (.loop (.seq (.ops [⟨some 9, none, .p (.bin .lss (.t 8) (.t 7))⟩])
 (.seq (.cond (.t 9)
 .skip
 (.exit 0))
 (.seq (.block 1 (.seq (.ops [⟨some 10, none, .p (.mv (.t 8))⟩,
 ⟨some 5, none, .p (.mv (.t 10))⟩])
 (.seq (.ops [⟨some 11, none, .p (.mv (.t 1))⟩,
 ⟨some 12, none, .p (.mv (.t 0))⟩,
 ⟨some 13, none, .p (.mv (.t 5))⟩,
 ⟨some 14, none, .p (.ixs 1 (.t 12) (.t 13))⟩,
 ⟨some 15, none, .h (.load false 1 (.t 14))⟩,
 ⟨some 16, none, .h (.call (.t 11) [(.t 15)])⟩])
 (.cond (.t 16)
 (.seq (.ops [⟨some 17, none, .p (.mv (.t 5))⟩,
 ⟨some 4, none, .p (.mv (.t 17))⟩])
 .ret)
 .skip))))
 (.ops [⟨some 18, none, .p (.bin .add (.t 8) (.k (.s (.int .i64 1))))⟩,
 ⟨some 8, none, .p (.mv (.t 18))⟩])))))))
 (.seq (.ops [⟨some 4, none, .p (.mv (.k (.s (.int .i64 (-1)))))⟩])
 .ret)))⟩
theorem c114 : compF Try.prog Try.f114 = some a114 := by kernel_rfl
/-- zugzwang/zugzwangref06.home -/
def a120 : AF := ⟨25, [.tmp 8],
 (.seq (.ops [⟨some 4, none, .h (.box (.t 0))⟩,
 ⟨some 8, none, .p (.mv (.k (.s (.bool false))))⟩])
 (.seq (.ops [⟨some 9, none, .p (.mv (.t 2))⟩,
 ⟨some 10, none, .p (.fa 0 128 (.t 4))⟩,
 ⟨some 11, none, .p (.ixa 64 2 (.t 10) (.t 9))⟩,
 ⟨some 12, none, .h (.load true 2 (.t 11))⟩,
 ⟨some 13, none, .p (.mv (.t 1))⟩,
 ⟨some 14, none, .p (.build (.ints 2) [(0, 1, (.k (.s (.int .i64 6)))), (1, 1, (.t 13))])⟩,
 ⟨some 15, none, .p (.eqa false 2 (.t 12) (.t 14))⟩,
 ⟨some 16, none, .p (.mv (.t 15))⟩,
 ⟨some 17, some (16, true), .p (.mv (.t 3))⟩,
 ⟨some 18, some (16, true), .p (.fa 0 128 (.t 4))⟩,
 ⟨some 19, some (16, true), .p (.ixa 64 2 (.t 18) (.t 17))⟩,
 ⟨some 20, some (16, true), .h (.load true 2 (.t 19))⟩,
 ⟨some 21, some (16, true), .p (.mv (.t 1))⟩,
 ⟨some 22, some (16, true), .p (.build (.ints 2) [(0, 1, (.k (.s (.int .i64 4)))), (1, 1, (.t 21))])⟩,
 ⟨some 23, some (16, true), .p (.eqa false 2 (.t 20) (.t 22))⟩,
 ⟨some 24, none, .p (.pick (.t 16) (.t 23) (.k (.s (.bool false))))⟩,
 ⟨some 8, none, .p (.mv (.t 24))⟩])
 .ret))⟩
theorem c120 : compF Try.prog Try.f120 = some a120 := by kernel_rfl
end Go.Proofs.Ytjldefmcnppdoaa
