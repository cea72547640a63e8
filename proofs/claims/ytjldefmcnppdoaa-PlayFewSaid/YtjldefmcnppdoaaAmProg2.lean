/- The functions of this seat, as the abstract machine has them: each held against the loaded one by the kernel. -/
import Derived.Test.YtjldefmcnppdoaaProg
import Derived.Test.YtjldefmcnppdoaaAmRun
import Derived.KernelRfl
namespace Go.Proofs.Ytjldefmcnppdoaa
open Go Go.Am
set_option maxRecDepth 100000
/-- zugzwang/play.taken -/
def a95 : AF := ⟨116, [.tmp 4, .tmp 5],
 (.seq (.ops [⟨some 2, none, .h (.box (.t 0))⟩,
 ⟨some 3, none, .h (.box (.t 1))⟩,
 ⟨some 4, none, .p (.mv (.k .pnil))⟩,
 ⟨some 5, none, .p (.mv (.k (.s (.int .i64 0))))⟩])
 (.seq (.seq (.ops [⟨some 9, none, .p (.fa 0 1 (.t 3))⟩,
 ⟨some 10, none, .h (.load false 1 (.t 9))⟩,
 ⟨some 11, none, .h (.call (.k (.fn 39 [])) [(.t 10)])⟩,
 ⟨some 12, none, .p (.un .not (.t 11))⟩,
 ⟨some 13, none, .p (.mv (.t 12))⟩,
 ⟨some 14, some (13, false), .p (.fa 1 1 (.t 3))⟩,
 ⟨some 15, some (13, false), .h (.load false 1 (.t 14))⟩,
 ⟨some 16, some (13, false), .h (.call (.k (.fn 39 [])) [(.t 15)])⟩,
 ⟨some 17, some (13, false), .p (.un .not (.t 16))⟩,
 ⟨some 18, none, .p (.pick (.t 13) (.k (.s (.bool true))) (.t 17))⟩,
 ⟨some 19, none, .p (.mv (.t 18))⟩,
 ⟨some 20, some (19, false), .p (.fa 0 1 (.t 3))⟩,
 ⟨some 21, some (19, false), .h (.load false 1 (.t 20))⟩,
 ⟨some 22, some (19, false), .p (.fa 1 1 (.t 3))⟩,
 ⟨some 23, some (19, false), .h (.load false 1 (.t 22))⟩,
 ⟨some 24, some (19, false), .p (.bin .eql (.t 21) (.t 23))⟩,
 ⟨some 25, none, .p (.pick (.t 19) (.k (.s (.bool true))) (.t 24))⟩])
 (.cond (.t 25)
 (.seq (.ops [⟨some 4, none, .p (.mv (.k .pnil))⟩,
 ⟨some 5, none, .p (.mv (.k (.s (.int .i64 6))))⟩])
 .ret)
 .skip))
 (.seq (.ops [⟨some 26, none, .h (.load true 133 (.t 2))⟩,
 ⟨some 27, none, .h (.load true 3 (.t 3))⟩,
 ⟨some 28, none, .p (.fa 0 1 (.t 3))⟩,
 ⟨some 29, none, .h (.load false 1 (.t 28))⟩,
 ⟨some 30, none, .p (.fa 0 128 (.t 2))⟩,
 ⟨some 31, none, .p (.ixa 64 2 (.t 30) (.t 29))⟩,
 ⟨some 32, none, .h (.load true 2 (.t 31))⟩,
 ⟨some 33, none, .p (.build (.ints 138) [(0, 133, (.t 26)), (133, 3, (.t 27)), (136, 2, (.t 32))])⟩,
 ⟨some 34, none, .h (.box (.t 33))⟩,
 ⟨some 6, none, .p (.mv (.t 34))⟩])
 (.seq (.seq (.ops [⟨some 35, none, .p (.mv (.t 6))⟩,
 ⟨some 36, none, .p (.nilck (.t 35))⟩,
 ⟨some 37, none, .p (.fa 0 133 (.t 36))⟩,
 ⟨some 38, none, .p (.fa 129 1 (.t 37))⟩,
 ⟨some 39, none, .h (.load false 1 (.t 38))⟩,
 ⟨some 40, none, .p (.bin .lss (.t 39) (.k (.s (.int .i64 0))))⟩,
 ⟨some 41, none, .p (.mv (.t 40))⟩,
 ⟨some 42, some (41, false), .p (.mv (.t 6))⟩,
 ⟨some 43, some (41, false), .p (.nilck (.t 42))⟩,
 ⟨some 44, some (41, false), .p (.fa 0 133 (.t 43))⟩,
 ⟨some 45, some (41, false), .p (.fa 129 1 (.t 44))⟩,
 ⟨some 46, some (41, false), .h (.load false 1 (.t 45))⟩,
 ⟨some 47, some (41, false), .p (.bin .gtr (.t 46) (.k (.s (.int .i64 15))))⟩,
 ⟨some 48, none, .p (.pick (.t 41) (.k (.s (.bool true))) (.t 47))⟩])
 (.cond (.t 48)
 (.ops [⟨some 49, none, .p (.mv (.t 6))⟩,
 ⟨some 50, none, .p (.nilck (.t 49))⟩,
 ⟨some 51, none, .p (.fa 0 133 (.t 50))⟩,
 ⟨some 52, none, .p (.fa 129 1 (.t 51))⟩,
 ⟨none, none, .h (.store 1 (.t 52) (.k (.s (.int .i64 0))))⟩])
 .skip))
 (.seq (.ops [⟨some 53, none, .p (.mv (.t 6))⟩,
 ⟨some 54, none, .p (.nilck (.t 53))⟩,
 ⟨some 55, none, .p (.fa 136 2 (.t 54))⟩,
 ⟨some 56, none, .h (.load true 2 (.t 55))⟩,
 ⟨some 7, none, .h (.alloc (.ints 2))⟩,
 ⟨none, none, .h (.store 2 (.t 7) (.t 56))⟩])
 (.seq (.seq (.ops [⟨some 57, none, .p (.fa 0 1 (.t 7))⟩,
 ⟨some 58, none, .h (.load false 1 (.t 57))⟩,
 ⟨some 59, none, .p (.bin .lss (.t 58) (.k (.s (.int .i64 1))))⟩,
 ⟨some 60, none, .p (.mv (.t 59))⟩,
 ⟨some 61, some (60, false), .p (.fa 0 1 (.t 7))⟩,
 ⟨some 62, some (60, false), .h (.load false 1 (.t 61))⟩,
 ⟨some 63, some (60, false), .p (.bin .gtr (.t 62) (.k (.s (.int .i64 6))))⟩,
 ⟨some 64, none, .p (.pick (.t 60) (.k (.s (.bool true))) (.t 63))⟩,
 ⟨some 65, none, .p (.mv (.t 64))⟩,
 ⟨some 66, some (65, false), .p (.fa 1 1 (.t 7))⟩,
 ⟨some 67, some (65, false), .h (.load false 1 (.t 66))⟩,
 ⟨some 68, some (65, false), .p (.fa 128 1 (.t 2))⟩,
 ⟨some 69, some (65, false), .h (.load false 1 (.t 68))⟩,
 ⟨some 70, some (65, false), .p (.bin .neq (.t 67) (.t 69))⟩,
 ⟨some 71, none, .p (.pick (.t 65) (.k (.s (.bool true))) (.t 70))⟩,
 ⟨some 72, none, .p (.mv (.t 71))⟩,
 ⟨some 73, some (72, false), .p (.fa 1 1 (.t 7))⟩,
 ⟨some 74, some (72, false), .h (.load false 1 (.t 73))⟩,
 ⟨some 75, some (72, false), .p (.bin .neq (.t 74) (.k (.s (.int .i64 0))))⟩,
 ⟨some 76, some (72, false), .p (.mv (.t 75))⟩,
 ⟨some 77, some (76, true), .p (.fa 1 1 (.t 7))⟩,
 ⟨some 78, some (76, true), .h (.load false 1 (.t 77))⟩,
 ⟨some 79, some (76, true), .p (.bin .neq (.t 78) (.k (.s (.int .i64 1))))⟩,
 ⟨some 80, some (72, false), .p (.pick (.t 76) (.t 79) (.k (.s (.bool false))))⟩,
 ⟨some 81, none, .p (.pick (.t 72) (.k (.s (.bool true))) (.t 80))⟩])
 (.cond (.t 81)
 (.seq (.ops [⟨some 4, none, .p (.mv (.k .pnil))⟩,
 ⟨some 5, none, .p (.mv (.k (.s (.int .i64 8))))⟩])
 .ret)
 .skip))
 (.seq (.ops [⟨some 82, none, .p (.fa 0 1 (.t 7))⟩,
 ⟨some 83, none, .h (.load false 1 (.t 82))⟩,
 ⟨some 84, none, .p (.bin .eql (.t 83) (.k (.s (.int .i64 1))))⟩,
 ⟨some 85, none, .p (.mv (.t 84))⟩,
 ⟨some 86, some (85, true), .p (.fa 1 1 (.t 3))⟩,
 ⟨some 87, some (85, true), .h (.load false 1 (.t 86))⟩,
 ⟨some 88, some (85, true), .h (.callq (.k (.fn 38 [])) [(.t 87)])⟩,
 ⟨some 89, some (85, true), .p (.fa 1 1 (.t 7))⟩,
 ⟨some 90, some (85, true), .h (.load false 1 (.t 89))⟩,
 ⟨some 91, some (85, true), .p (.bin .sub (.k (.s (.int .i64 1))) (.t 90))⟩,
 ⟨some 92, some (85, true), .p (.bin .mul (.k (.s (.int .i64 7))) (.t 91))⟩,
 ⟨some 93, some (85, true), .p (.bin .eql (.t 88) (.t 92))⟩,
 ⟨some 94, none, .p (.pick (.t 85) (.t 93) (.k (.s (.bool false))))⟩,
 ⟨some 8, none, .p (.mv (.t 94))⟩])
 (.seq (.seq (.ops [⟨some 95, none, .p (.mv (.t 8))⟩,
 ⟨some 96, none, .p (.mv (.t 95))⟩,
 ⟨some 97, some (96, true), .p (.fa 2 1 (.t 3))⟩,
 ⟨some 98, some (96, true), .h (.load false 1 (.t 97))⟩,
 ⟨some 99, some (96, true), .p (.bin .lss (.t 98) (.k (.s (.int .i64 2))))⟩,
 ⟨some 100, some (96, true), .p (.mv (.t 99))⟩,
 ⟨some 101, some (100, false), .p (.fa 2 1 (.t 3))⟩,
 ⟨some 102, some (100, false), .h (.load false 1 (.t 101))⟩,
 ⟨some 103, some (100, false), .p (.bin .gtr (.t 102) (.k (.s (.int .i64 5))))⟩,
 ⟨some 104, some (96, true), .p (.pick (.t 100) (.k (.s (.bool true))) (.t 103))⟩,
 ⟨some 105, none, .p (.pick (.t 96) (.t 104) (.k (.s (.bool false))))⟩,
 ⟨some 106, none, .p (.mv (.t 105))⟩,
 ⟨some 107, some (106, false), .p (.mv (.t 8))⟩,
 ⟨some 108, some (106, false), .p (.un .not (.t 107))⟩,
 ⟨some 109, some (106, false), .p (.mv (.t 108))⟩,
 ⟨some 110, some (109, true), .p (.fa 2 1 (.t 3))⟩,
 ⟨some 111, some (109, true), .h (.load false 1 (.t 110))⟩,
 ⟨some 112, some (109, true), .p (.bin .neq (.t 111) (.k (.s (.int .i64 0))))⟩,
 ⟨some 113, some (106, false), .p (.pick (.t 109) (.t 112) (.k (.s (.bool false))))⟩,
 ⟨some 114, none, .p (.pick (.t 106) (.k (.s (.bool true))) (.t 113))⟩])
 (.cond (.t 114)
 (.seq (.ops [⟨some 4, none, .p (.mv (.k .pnil))⟩,
 ⟨some 5, none, .p (.mv (.k (.s (.int .i64 8))))⟩])
 .ret)
 .skip))
 (.seq (.ops [⟨some 115, none, .p (.mv (.t 6))⟩,
 ⟨some 4, none, .p (.mv (.t 115))⟩,
 ⟨some 5, none, .p (.mv (.k (.s (.int .i64 0))))⟩])
 .ret)))))))))⟩
theorem c95 : compF Try.prog Try.f95 = some a95 := by kernel_rfl
/-- (*zugzwang/play.hand).made -/
def a96 : AF := ⟨161, [.cell 2 true 133],
 (.seq (.ops [⟨some 2, none, .h (.alloc (.ints 133))⟩])
 (.seq (.ops [⟨some 9, none, .p (.mv (.t 0))⟩,
 ⟨some 10, none, .h (.call (.k (.fn 104 [])) [(.t 9)])⟩,
 ⟨some 3, none, .p (.mv (.t 10))⟩])
 (.seq (.ops [⟨some 12, none, .p (.mv (.t 0))⟩,
 ⟨some 13, none, .h (.call (.k (.fn 115 [])) [(.t 12)])⟩,
 ⟨some 11, none, .p (.mv (.t 13))⟩,
 ⟨some 14, none, .p (.ext (.t 11) 0)⟩,
 ⟨some 15, none, .p (.ext (.t 11) 1)⟩,
 ⟨some 16, none, .p (.ext (.t 11) 2)⟩,
 ⟨some 4, none, .p (.mv (.t 14))⟩,
 ⟨some 5, none, .p (.mv (.t 15))⟩,
 ⟨some 6, none, .p (.mv (.t 16))⟩])
 (.seq (.ops [⟨some 7, none, .p (.mv (.k (.s (.int .i64 (-1)))))⟩])
 (.seq (.seq (.ops [⟨some 17, none, .p (.mv (.t 0))⟩,
 ⟨some 18, none, .h (.call (.k (.fn 116 [])) [(.t 17)])⟩])
 (.cond (.t 18)
 (.ops [⟨some 19, none, .p (.mv (.t 0))⟩,
 ⟨some 20, none, .p (.nilck (.t 19))⟩,
 ⟨some 21, none, .p (.fa 133 3 (.t 20))⟩,
 ⟨some 22, none, .p (.fa 0 1 (.t 21))⟩,
 ⟨some 23, none, .h (.load false 1 (.t 22))⟩,
 ⟨some 24, none, .p (.mv (.t 0))⟩,
 ⟨some 25, none, .p (.nilck (.t 24))⟩,
 ⟨some 26, none, .p (.fa 133 3 (.t 25))⟩,
 ⟨some 27, none, .p (.fa 1 1 (.t 26))⟩,
 ⟨some 28, none, .h (.load false 1 (.t 27))⟩,
 ⟨some 29, none, .p (.bin .add (.t 23) (.t 28))⟩,
 ⟨some 30, none, .p (.bin .quo (.t 29) (.k (.s (.int .i64 2))))⟩,
 ⟨some 7, none, .p (.mv (.t 30))⟩])
 .skip))
 (.seq (.ops [⟨some 31, none, .p (.mv (.t 0))⟩,
 ⟨some 32, none, .p (.nilck (.t 31))⟩,
 ⟨some 33, none, .p (.fa 136 2 (.t 32))⟩,
 ⟨some 34, none, .h (.load true 2 (.t 33))⟩,
 ⟨some 8, none, .h (.alloc (.ints 2))⟩,
 ⟨none, none, .h (.store 2 (.t 8) (.t 34))⟩])
 (.seq (.seq (.ops [⟨some 35, none, .p (.mv (.t 0))⟩,
 ⟨some 36, none, .p (.nilck (.t 35))⟩,
 ⟨some 37, none, .p (.fa 133 3 (.t 36))⟩,
 ⟨some 38, none, .p (.fa 2 1 (.t 37))⟩,
 ⟨some 39, none, .h (.load false 1 (.t 38))⟩,
 ⟨some 40, none, .p (.bin .neq (.t 39) (.k (.s (.int .i64 0))))⟩])
 (.cond (.t 40)
 (.ops [⟨some 41, none, .p (.mv (.t 0))⟩,
 ⟨some 42, none, .p (.nilck (.t 41))⟩,
 ⟨some 43, none, .p (.fa 133 3 (.t 42))⟩,
 ⟨some 44, none, .p (.fa 2 1 (.t 43))⟩,
 ⟨some 45, none, .h (.load false 1 (.t 44))⟩,
 ⟨some 46, none, .p (.fa 0 1 (.t 8))⟩,
 ⟨none, none, .h (.store 1 (.t 46) (.t 45))⟩])
 .skip))
 (.seq (.ops [⟨some 47, none, .p (.mv (.t 0))⟩,
 ⟨some 48, none, .p (.build (.ints 2) [])⟩,
 ⟨some 49, none, .p (.mv (.t 3))⟩,
 ⟨some 50, none, .p (.mv (.t 0))⟩,
 ⟨some 51, none, .p (.nilck (.t 50))⟩,
 ⟨some 52, none, .p (.fa 133 3 (.t 51))⟩,
 ⟨some 53, none, .p (.fa 0 1 (.t 52))⟩,
 ⟨some 54, none, .h (.load false 1 (.t 53))⟩,
 ⟨some 55, none, .h (.mksl 2 1 (.one (.s (.int .i64 0))) [(0, (.t 49)), (1, (.t 54))])⟩,
 ⟨some 56, none, .h (.call (.k (.fn 117 [])) [(.t 47), (.t 48), (.t 55)])⟩])
 (.seq (.ops [⟨some 57, none, .p (.mv (.t 0))⟩,
 ⟨some 58, none, .h (.load true 2 (.t 8))⟩,
 ⟨some 59, none, .p (.mv (.t 0))⟩,
 ⟨some 60, none, .p (.nilck (.t 59))⟩,
 ⟨some 61, none, .p (.fa 133 3 (.t 60))⟩,
 ⟨some 62, none, .p (.fa 1 1 (.t 61))⟩,
 ⟨some 63, none, .h (.load false 1 (.t 62))⟩,
 ⟨some 64, none, .h (.mksl 1 1 (.one (.s (.int .i64 0))) [(0, (.t 63))])⟩,
 ⟨some 65, none, .h (.call (.k (.fn 117 [])) [(.t 57), (.t 58), (.t 64)])⟩])
 (.seq (.seq (.ops [⟨some 66, none, .p (.mv (.t 6))⟩])
 (.cond (.t 66)
 (.seq (.ops [⟨some 67, none, .p (.mv (.t 0))⟩,
 ⟨some 68, none, .p (.build (.ints 2) [])⟩,
 ⟨some 69, none, .p (.mv (.t 4))⟩,
 ⟨some 70, none, .h (.mksl 1 1 (.one (.s (.int .i64 0))) [(0, (.t 69))])⟩,
 ⟨some 71, none, .h (.call (.k (.fn 117 [])) [(.t 67), (.t 68), (.t 70)])⟩])
 (.ops [⟨some 72, none, .p (.mv (.t 0))⟩,
 ⟨some 73, none, .p (.fa 1 1 (.t 8))⟩,
 ⟨some 74, none, .h (.load false 1 (.t 73))⟩,
 ⟨some 75, none, .p (.build (.ints 2) [(0, 1, (.k (.s (.int .i64 4)))), (1, 1, (.t 74))])⟩,
 ⟨some 76, none, .p (.mv (.t 5))⟩,
 ⟨some 77, none, .h (.mksl 1 1 (.one (.s (.int .i64 0))) [(0, (.t 76))])⟩,
 ⟨some 78, none, .h (.call (.k (.fn 117 [])) [(.t 72), (.t 75), (.t 77)])⟩]))
 .skip))
 (.seq (.ops [⟨some 79, none, .p (.mv (.t 0))⟩,
 ⟨some 80, none, .p (.mv (.t 7))⟩,
 ⟨some 81, none, .p (.nilck (.t 79))⟩,
 ⟨some 82, none, .p (.fa 0 133 (.t 81))⟩,
 ⟨some 83, none, .p (.fa 130 1 (.t 82))⟩,
 ⟨none, none, .h (.store 1 (.t 83) (.t 80))⟩])
 (.seq (.ops [⟨some 84, none, .p (.mv (.t 0))⟩,
 ⟨some 85, none, .p (.nilck (.t 84))⟩,
 ⟨some 86, none, .p (.fa 0 133 (.t 85))⟩,
 ⟨some 87, none, .p (.fa 129 1 (.t 86))⟩,
 ⟨some 88, none, .h (.load false 1 (.t 87))⟩,
 ⟨some 89, none, .p (.mv (.t 0))⟩,
 ⟨some 90, none, .p (.nilck (.t 89))⟩,
 ⟨some 91, none, .p (.fa 133 3 (.t 90))⟩,
 ⟨some 92, none, .p (.fa 0 1 (.t 91))⟩,
 ⟨some 93, none, .h (.load false 1 (.t 92))⟩,
 ⟨some 94, none, .p (.mv (.t 0))⟩,
 ⟨some 95, none, .p (.nilck (.t 94))⟩,
 ⟨some 96, none, .p (.fa 133 3 (.t 95))⟩,
 ⟨some 97, none, .p (.fa 1 1 (.t 96))⟩,
 ⟨some 98, none, .h (.load false 1 (.t 97))⟩,
 ⟨some 99, none, .h (.mksl 2 1 (.one (.s (.int .i64 0))) [(0, (.t 93)), (1, (.t 98))])⟩,
 ⟨some 100, none, .h (.callq (.k (.fn 118 [])) [(.t 99)])⟩,
 ⟨some 101, none, .p (.bin .andNot (.t 88) (.t 100))⟩,
 ⟨some 102, none, .p (.nilck (.t 84))⟩,
 ⟨some 103, none, .p (.fa 0 133 (.t 102))⟩,
 ⟨some 104, none, .p (.fa 129 1 (.t 103))⟩,
 ⟨none, none, .h (.store 1 (.t 104) (.t 101))⟩])
 (.seq (.ops [⟨some 105, none, .p (.mv (.t 0))⟩,
 ⟨some 106, none, .p (.mv (.t 0))⟩,
 ⟨some 107, none, .p (.nilck (.t 106))⟩,
 ⟨some 108, none, .p (.fa 0 133 (.t 107))⟩,
 ⟨some 109, none, .p (.fa 131 1 (.t 108))⟩,
 ⟨some 110, none, .h (.load false 1 (.t 109))⟩,
 ⟨some 111, none, .p (.mn [(.t 110), (.k (.s (.int .i64 1023)))])⟩,
 ⟨some 112, none, .p (.bin .add (.t 111) (.k (.s (.int .i64 1))))⟩,
 ⟨some 113, none, .p (.nilck (.t 105))⟩,
 ⟨some 114, none, .p (.fa 0 133 (.t 113))⟩,
 ⟨some 115, none, .p (.fa 131 1 (.t 114))⟩,
 ⟨none, none, .h (.store 1 (.t 115) (.t 112))⟩])
 (.seq (.seq (.ops [⟨some 116, none, .p (.mv (.t 3))⟩,
 ⟨some 117, none, .p (.bin .neq (.t 116) (.k (.s (.int .i64 (-1)))))⟩,
 ⟨some 118, none, .p (.mv (.t 117))⟩,
 ⟨some 119, some (118, false), .p (.mv (.t 0))⟩,
 ⟨some 120, some (118, false), .p (.nilck (.t 119))⟩,
 ⟨some 121, some (118, false), .p (.fa 136 2 (.t 120))⟩,
 ⟨some 122, some (118, false), .p (.fa 0 1 (.t 121))⟩,
 ⟨some 123, some (118, false), .h (.load false 1 (.t 122))⟩,
 ⟨some 124, some (118, false), .p (.bin .eql (.t 123) (.k (.s (.int .i64 1))))⟩,
 ⟨some 125, none, .p (.pick (.t 118) (.k (.s (.bool true))) (.t 124))⟩])
 (.cond (.t 125)
 (.ops [⟨some 126, none, .p (.mv (.t 0))⟩,
 ⟨some 127, none, .p (.nilck (.t 126))⟩,
 ⟨some 128, none, .p (.fa 0 133 (.t 127))⟩,
 ⟨some 129, none, .p (.fa 131 1 (.t 128))⟩,
 ⟨none, none, .h (.store 1 (.t 129) (.k (.s (.int .i64 0))))⟩])
 .skip))
 (.seq (.seq (.ops [⟨some 130, none, .p (.mv (.t 0))⟩,
 ⟨some 131, none, .p (.nilck (.t 130))⟩,
 ⟨some 132, none, .p (.fa 0 133 (.t 131))⟩,
 ⟨some 133, none, .p (.fa 128 1 (.t 132))⟩,
 ⟨some 134, none, .h (.load false 1 (.t 133))⟩,
 ⟨some 135, none, .p (.bin .eql (.t 134) (.k (.s (.int .i64 1))))⟩])
 (.cond (.t 135)
 (.ops [⟨some 136, none, .p (.mv (.t 0))⟩,
 ⟨some 137, none, .p (.mv (.t 0))⟩,
 ⟨some 138, none, .p (.nilck (.t 137))⟩,
 ⟨some 139, none, .p (.fa 0 133 (.t 138))⟩,
 ⟨some 140, none, .p (.fa 132 1 (.t 139))⟩,
 ⟨some 141, none, .h (.load false 1 (.t 140))⟩,
 ⟨some 142, none, .p (.mn [(.t 141), (.k (.s (.int .i64 16383)))])⟩,
 ⟨some 143, none, .p (.bin .add (.t 142) (.k (.s (.int .i64 1))))⟩,
 ⟨some 144, none, .p (.nilck (.t 136))⟩,
 ⟨some 145, none, .p (.fa 0 133 (.t 144))⟩,
 ⟨some 146, none, .p (.fa 132 1 (.t 145))⟩,
 ⟨none, none, .h (.store 1 (.t 146) (.t 143))⟩])
 .skip))
 (.seq (.ops [⟨some 147, none, .p (.mv (.t 0))⟩,
 ⟨some 148, none, .p (.mv (.t 0))⟩,
 ⟨some 149, none, .p (.nilck (.t 148))⟩,
 ⟨some 150, none, .p (.fa 0 133 (.t 149))⟩,
 ⟨some 151, none, .p (.fa 128 1 (.t 150))⟩,
 ⟨some 152, none, .h (.load false 1 (.t 151))⟩,
 ⟨some 153, none, .h (.call (.k (.fn 57 [])) [(.t 152)])⟩,
 ⟨some 154, none, .p (.nilck (.t 147))⟩,
 ⟨some 155, none, .p (.fa 0 133 (.t 154))⟩,
 ⟨some 156, none, .p (.fa 128 1 (.t 155))⟩,
 ⟨none, none, .h (.store 1 (.t 156) (.t 153))⟩])
 (.seq (.ops [⟨some 157, none, .p (.mv (.t 0))⟩,
 ⟨some 158, none, .p (.nilck (.t 157))⟩,
 ⟨some 159, none, .p (.fa 0 133 (.t 158))⟩,
 ⟨some 160, none, .h (.load true 133 (.t 159))⟩,
 ⟨none, none, .h (.store 133 (.t 2) (.t 160))⟩])
 .ret)))))))))))))))))⟩
theorem c96 : compF Try.prog Try.f96 = some a96 := by kernel_rfl
/-- (*zugzwang/play.hand).takes -/
def a104 : AF := ⟨59, [.tmp 2],
 (.seq (.ops [⟨some 2, none, .p (.mv (.k (.s (.int .i64 0))))⟩])
 (.seq (.ops [⟨some 4, none, .p (.mv (.t 0))⟩,
 ⟨some 5, none, .p (.nilck (.t 4))⟩,
 ⟨some 6, none, .p (.fa 133 3 (.t 5))⟩,
 ⟨some 7, none, .p (.fa 1 1 (.t 6))⟩,
 ⟨some 8, none, .h (.load false 1 (.t 7))⟩,
 ⟨some 3, none, .p (.mv (.t 8))⟩])
 (.seq (.seq (.ops [⟨some 9, none, .p (.mv (.t 0))⟩,
 ⟨some 10, none, .p (.nilck (.t 9))⟩,
 ⟨some 11, none, .p (.fa 136 2 (.t 10))⟩,
 ⟨some 12, none, .p (.fa 0 1 (.t 11))⟩,
 ⟨some 13, none, .h (.load false 1 (.t 12))⟩,
 ⟨some 14, none, .p (.bin .eql (.t 13) (.k (.s (.int .i64 1))))⟩,
 ⟨some 15, none, .p (.mv (.t 14))⟩,
 ⟨some 16, some (15, true), .p (.mv (.t 0))⟩,
 ⟨some 17, some (15, true), .h (.call (.k (.fn 119 [])) [(.t 16)])⟩,
 ⟨some 18, some (15, true), .p (.bin .neq (.t 17) (.k (.s (.int .i64 0))))⟩,
 ⟨some 19, none, .p (.pick (.t 15) (.t 18) (.k (.s (.bool false))))⟩,
 ⟨some 20, none, .p (.mv (.t 19))⟩,
 ⟨some 21, some (20, true), .p (.mv (.t 3))⟩,
 ⟨some 22, some (20, true), .p (.mv (.t 0))⟩,
 ⟨some 23, some (20, true), .p (.nilck (.t 22))⟩,
 ⟨some 24, some (20, true), .p (.fa 0 133 (.t 23))⟩,
 ⟨some 25, some (20, true), .p (.fa 130 1 (.t 24))⟩,
 ⟨some 26, some (20, true), .h (.load false 1 (.t 25))⟩,
 ⟨some 27, some (20, true), .p (.bin .eql (.t 21) (.t 26))⟩,
 ⟨some 28, none, .p (.pick (.t 20) (.t 27) (.k (.s (.bool false))))⟩,
 ⟨some 29, none, .p (.mv (.t 28))⟩,
 ⟨some 30, some (29, true), .p (.mv (.t 0))⟩,
 ⟨some 31, some (29, true), .p (.mv (.t 3))⟩,
 ⟨some 32, some (29, true), .p (.nilck (.t 30))⟩,
 ⟨some 33, some (29, true), .p (.fa 0 133 (.t 32))⟩,
 ⟨some 34, some (29, true), .p (.fa 0 128 (.t 33))⟩,
 ⟨some 35, some (29, true), .p (.ixa 64 2 (.t 34) (.t 31))⟩,
 ⟨some 36, some (29, true), .h (.load true 2 (.t 35))⟩,
 ⟨some 37, some (29, true), .p (.build (.ints 2) [])⟩,
 ⟨some 38, some (29, true), .p (.eqa false 2 (.t 36) (.t 37))⟩,
 ⟨some 39, none, .p (.pick (.t 29) (.t 38) (.k (.s (.bool false))))⟩])
 (.cond (.t 39)
 (.ops [⟨some 40, none, .p (.mv (.t 3))⟩,
 ⟨some 41, none, .h (.callq (.k (.fn 37 [])) [(.t 40)])⟩,
 ⟨some 42, none, .p (.mv (.t 0))⟩,
 ⟨some 43, none, .p (.nilck (.t 42))⟩,
 ⟨some 44, none, .p (.fa 133 3 (.t 43))⟩,
 ⟨some 45, none, .p (.fa 0 1 (.t 44))⟩,
 ⟨some 46, none, .h (.load false 1 (.t 45))⟩,
 ⟨some 47, none, .h (.call (.k (.fn 38 [])) [(.t 46)])⟩,
 ⟨some 48, none, .h (.call (.k (.fn 36 [])) [(.t 41), (.t 47)])⟩,
 ⟨some 3, none, .p (.mv (.t 48))⟩])
 .skip))
 (.seq (.seq (.ops [⟨some 49, none, .p (.mv (.t 0))⟩,
 ⟨some 50, none, .p (.mv (.t 3))⟩,
 ⟨some 51, none, .p (.nilck (.t 49))⟩,
 ⟨some 52, none, .p (.fa 0 133 (.t 51))⟩,
 ⟨some 53, none, .p (.fa 0 128 (.t 52))⟩,
 ⟨some 54, none, .p (.ixa 64 2 (.t 53) (.t 50))⟩,
 ⟨some 55, none, .h (.load true 2 (.t 54))⟩,
 ⟨some 56, none, .p (.build (.ints 2) [])⟩,
 ⟨some 57, none, .p (.eqa false 2 (.t 55) (.t 56))⟩])
 (.cond (.t 57)
 (.seq (.ops [⟨some 2, none, .p (.mv (.k (.s (.int .i64 (-1)))))⟩])
 .ret)
 .skip))
 (.seq (.ops [⟨some 58, none, .p (.mv (.t 3))⟩,
 ⟨some 2, none, .p (.mv (.t 58))⟩])
 .ret)))))⟩
theorem c104 : compF Try.prog Try.f104 = some a104 := by kernel_rfl
/-- (zugzwang/board.checker).stands -/
def a112 : AF := ⟨18, [.tmp 8],
 (.seq (.ops [⟨some 4, none, .h (.box (.t 0))⟩,
 ⟨some 8, none, .p (.mv (.k (.s (.bool false))))⟩])
 (.seq (.ops [⟨some 9, none, .p (.mv (.t 3))⟩,
 ⟨some 10, none, .p (.fa 0 133 (.t 4))⟩,
 ⟨some 11, none, .p (.fa 0 128 (.t 10))⟩,
 ⟨some 12, none, .p (.ixa 64 2 (.t 11) (.t 9))⟩,
 ⟨some 13, none, .h (.load true 2 (.t 12))⟩,
 ⟨some 14, none, .p (.mv (.t 1))⟩,
 ⟨some 15, none, .p (.mv (.t 2))⟩,
 ⟨some 16, none, .p (.build (.ints 2) [(0, 1, (.t 14)), (1, 1, (.t 15))])⟩,
 ⟨some 17, none, .p (.eqa false 2 (.t 13) (.t 16))⟩,
 ⟨some 8, none, .p (.mv (.t 17))⟩])
 .ret))⟩
theorem c112 : compF Try.prog Try.f112 = some a112 := by kernel_rfl
/-- (zugzwang/board.checker).over$1 -/
def a113 : AF := ⟨11, [.tmp 3],
 (.seq (.ops [⟨some 3, none, .p (.mv (.k (.s (.bool false))))⟩])
 (.seq (.ops [⟨some 4, none, .p (.mv (.t 0))⟩,
 ⟨some 5, none, .p (.fa 0 133 (.t 1))⟩,
 ⟨some 6, none, .p (.fa 0 128 (.t 5))⟩,
 ⟨some 7, none, .p (.ixa 64 2 (.t 6) (.t 4))⟩,
 ⟨some 8, none, .h (.load true 2 (.t 7))⟩,
 ⟨some 9, none, .p (.build (.ints 2) [])⟩,
 ⟨some 10, none, .p (.eqa false 2 (.t 8) (.t 9))⟩,
 ⟨some 3, none, .p (.mv (.t 10))⟩])
 .ret))⟩
theorem c113 : compF Try.prog Try.f113 = some a113 := by kernel_rfl
/-- (*zugzwang/play.hand).rook -/
def a115 : AF := ⟨80, [.tmp 2, .tmp 3, .tmp 4],
 (.seq (.ops [⟨some 2, none, .p (.mv (.k (.s (.int .i64 0))))⟩,
 ⟨some 3, none, .p (.mv (.k (.s (.int .i64 0))))⟩,
 ⟨some 4, none, .p (.mv (.k (.s (.bool false))))⟩])
 (.seq (.ops [⟨some 7, none, .p (.mv (.t 0))⟩,
 ⟨some 8, none, .p (.nilck (.t 7))⟩,
 ⟨some 9, none, .p (.fa 136 2 (.t 8))⟩,
 ⟨some 10, none, .p (.fa 1 1 (.t 9))⟩,
 ⟨some 11, none, .h (.load false 1 (.t 10))⟩,
 ⟨some 12, none, .p (.bin .mul (.k (.s (.int .i64 56))) (.t 11))⟩,
 ⟨some 13, none, .p (.bin .add (.t 12) (.k (.s (.int .i64 4))))⟩,
 ⟨some 5, none, .p (.mv (.t 13))⟩])
 (.seq (.ops [⟨some 14, none, .p (.mv (.t 0))⟩,
 ⟨some 15, none, .p (.nilck (.t 14))⟩,
 ⟨some 16, none, .p (.fa 136 2 (.t 15))⟩,
 ⟨some 17, none, .p (.fa 1 1 (.t 16))⟩,
 ⟨some 18, none, .h (.load false 1 (.t 17))⟩,
 ⟨some 19, none, .p (.bin .mul (.k (.s (.int .i64 2))) (.t 18))⟩,
 ⟨some 20, none, .p (.bin .shl (.k (.s (.int .i64 1))) (.t 19))⟩,
 ⟨some 6, none, .p (.mv (.t 20))⟩])
 (.seq (.block 0 (.seq (.ops [⟨some 22, none, .p (.mv (.t 0))⟩,
 ⟨some 23, none, .p (.nilck (.t 22))⟩,
 ⟨some 24, none, .p (.fa 136 2 (.t 23))⟩,
 ⟨some 25, none, .p (.fa 0 1 (.t 24))⟩,
 ⟨some 26, none, .h (.load false 1 (.t 25))⟩,
 ⟨some 27, none, .p (.bin .neq (.t 26) (.k (.s (.int .i64 6))))⟩,
 ⟨some 28, none, .p (.mv (.t 27))⟩,
 ⟨some 29, some (28, false), .p (.mv (.t 0))⟩,
 ⟨some 30, some (28, false), .p (.nilck (.t 29))⟩,
 ⟨some 31, some (28, false), .p (.fa 133 3 (.t 30))⟩,
 ⟨some 32, some (28, false), .p (.fa 0 1 (.t 31))⟩,
 ⟨some 33, some (28, false), .h (.load false 1 (.t 32))⟩,
 ⟨some 34, some (28, false), .p (.mv (.t 5))⟩,
 ⟨some 35, some (28, false), .p (.bin .neq (.t 33) (.t 34))⟩,
 ⟨some 36, none, .p (.pick (.t 28) (.k (.s (.bool true))) (.t 35))⟩,
 ⟨some 21, none, .p (.mv (.t 36))⟩])
 (.cond (.t 21)
 (.seq (.ops [⟨some 2, none, .p (.mv (.k (.s (.int .i64 0))))⟩,
 ⟨some 3, none, .p (.mv (.k (.s (.int .i64 0))))⟩,
 ⟨some 4, none, .p (.mv (.k (.s (.bool false))))⟩])
 .ret)
 (.seq (.ops [⟨some 38, none, .p (.mv (.t 0))⟩,
 ⟨some 39, none, .p (.nilck (.t 38))⟩,
 ⟨some 40, none, .p (.fa 133 3 (.t 39))⟩,
 ⟨some 41, none, .p (.fa 1 1 (.t 40))⟩,
 ⟨some 42, none, .h (.load false 1 (.t 41))⟩,
 ⟨some 43, none, .p (.mv (.t 5))⟩,
 ⟨some 44, none, .p (.bin .add (.t 43) (.k (.s (.int .i64 2))))⟩,
 ⟨some 45, none, .p (.bin .eql (.t 42) (.t 44))⟩,
 ⟨some 37, none, .p (.mv (.t 45))⟩])
 (.cond (.t 37)
 (.seq (.ops [⟨some 46, none, .p (.mv (.t 5))⟩,
 ⟨some 47, none, .p (.bin .add (.t 46) (.k (.s (.int .i64 3))))⟩,
 ⟨some 48, none, .p (.mv (.t 5))⟩,
 ⟨some 49, none, .p (.bin .add (.t 48) (.k (.s (.int .i64 1))))⟩,
 ⟨some 50, none, .p (.mv (.t 0))⟩,
 ⟨some 51, none, .p (.nilck (.t 50))⟩,
 ⟨some 52, none, .p (.fa 0 133 (.t 51))⟩,
 ⟨some 53, none, .p (.fa 129 1 (.t 52))⟩,
 ⟨some 54, none, .h (.load false 1 (.t 53))⟩,
 ⟨some 55, none, .p (.mv (.t 6))⟩,
 ⟨some 56, none, .p (.bin .and (.t 54) (.t 55))⟩,
 ⟨some 57, none, .p (.bin .neq (.t 56) (.k (.s (.int .i64 0))))⟩,
 ⟨some 2, none, .p (.mv (.t 47))⟩,
 ⟨some 3, none, .p (.mv (.t 49))⟩,
 ⟨some 4, none, .p (.mv (.t 57))⟩])
 .ret)
 (.seq (.ops [⟨some 59, none, .p (.mv (.t 0))⟩,
 ⟨some 60, none, .p (.nilck (.t 59))⟩,
 ⟨some 61, none, .p (.fa 133 3 (.t 60))⟩,
 ⟨some 62, none, .p (.fa 1 1 (.t 61))⟩,
 ⟨some 63, none, .h (.load false 1 (.t 62))⟩,
 ⟨some 64, none, .p (.mv (.t 5))⟩,
 ⟨some 65, none, .p (.bin .sub (.t 64) (.k (.s (.int .i64 2))))⟩,
 ⟨some 66, none, .p (.bin .eql (.t 63) (.t 65))⟩,
 ⟨some 58, none, .p (.mv (.t 66))⟩])
 (.cond (.t 58)
 (.seq (.ops [⟨some 67, none, .p (.mv (.t 5))⟩,
 ⟨some 68, none, .p (.bin .sub (.t 67) (.k (.s (.int .i64 4))))⟩,
 ⟨some 69, none, .p (.mv (.t 5))⟩,
 ⟨some 70, none, .p (.bin .sub (.t 69) (.k (.s (.int .i64 1))))⟩,
 ⟨some 71, none, .p (.mv (.t 0))⟩,
 ⟨some 72, none, .p (.nilck (.t 71))⟩,
 ⟨some 73, none, .p (.fa 0 133 (.t 72))⟩,
 ⟨some 74, none, .p (.fa 129 1 (.t 73))⟩,
 ⟨some 75, none, .h (.load false 1 (.t 74))⟩,
 ⟨some 76, none, .p (.mv (.t 6))⟩,
 ⟨some 77, none, .p (.bin .shl (.t 76) (.k (.s (.int .u64 1))))⟩,
 ⟨some 78, none, .p (.bin .and (.t 75) (.t 77))⟩,
 ⟨some 79, none, .p (.bin .neq (.t 78) (.k (.s (.int .i64 0))))⟩,
 ⟨some 2, none, .p (.mv (.t 68))⟩,
 ⟨some 3, none, .p (.mv (.t 70))⟩,
 ⟨some 4, none, .p (.mv (.t 79))⟩])
 .ret)
 .skip)))))))
 (.seq (.ops [⟨some 2, none, .p (.mv (.k (.s (.int .i64 0))))⟩,
 ⟨some 3, none, .p (.mv (.k (.s (.int .i64 0))))⟩,
 ⟨some 4, none, .p (.mv (.k (.s (.bool false))))⟩])
 .ret)))))⟩
theorem c115 : compF Try.prog Try.f115 = some a115 := by kernel_rfl
/-- (*zugzwang/play.hand).long -/
def a116 : AF := ⟨55, [.tmp 2],
 (.seq (.ops [⟨some 2, none, .p (.mv (.k (.s (.bool false))))⟩])
 (.seq (.ops [⟨some 6, none, .p (.mv (.t 0))⟩,
 ⟨some 7, none, .p (.nilck (.t 6))⟩,
 ⟨some 8, none, .p (.fa 136 2 (.t 7))⟩,
 ⟨some 9, none, .p (.fa 1 1 (.t 8))⟩,
 ⟨some 10, none, .h (.load false 1 (.t 9))⟩,
 ⟨some 11, none, .p (.bin .mul (.k (.s (.int .i64 2))) (.t 10))⟩,
 ⟨some 12, none, .p (.bin .sub (.k (.s (.int .i64 1))) (.t 11))⟩,
 ⟨some 3, none, .p (.mv (.t 12))⟩])
 (.seq (.ops [⟨some 13, none, .p (.mv (.t 0))⟩,
 ⟨some 14, none, .p (.nilck (.t 13))⟩,
 ⟨some 15, none, .p (.fa 133 3 (.t 14))⟩,
 ⟨some 16, none, .p (.fa 0 1 (.t 15))⟩,
 ⟨some 17, none, .h (.load false 1 (.t 16))⟩,
 ⟨some 18, none, .h (.callq (.k (.fn 38 [])) [(.t 17)])⟩,
 ⟨some 19, none, .p (.mv (.t 0))⟩,
 ⟨some 20, none, .p (.nilck (.t 19))⟩,
 ⟨some 21, none, .p (.fa 133 3 (.t 20))⟩,
 ⟨some 22, none, .p (.fa 1 1 (.t 21))⟩,
 ⟨some 23, none, .h (.load false 1 (.t 22))⟩,
 ⟨some 24, none, .h (.call (.k (.fn 38 [])) [(.t 23)])⟩,
 ⟨some 4, none, .p (.mv (.t 18))⟩,
 ⟨some 5, none, .p (.mv (.t 24))⟩])
 (.seq (.ops [⟨some 25, none, .p (.mv (.t 0))⟩,
 ⟨some 26, none, .p (.nilck (.t 25))⟩,
 ⟨some 27, none, .p (.fa 136 2 (.t 26))⟩,
 ⟨some 28, none, .p (.fa 0 1 (.t 27))⟩,
 ⟨some 29, none, .h (.load false 1 (.t 28))⟩,
 ⟨some 30, none, .p (.bin .eql (.t 29) (.k (.s (.int .i64 1))))⟩,
 ⟨some 31, none, .p (.mv (.t 30))⟩,
 ⟨some 32, some (31, true), .p (.mv (.t 0))⟩,
 ⟨some 33, some (31, true), .h (.call (.k (.fn 119 [])) [(.t 32)])⟩,
 ⟨some 34, some (31, true), .p (.bin .eql (.t 33) (.k (.s (.int .i64 0))))⟩,
 ⟨some 35, none, .p (.pick (.t 31) (.t 34) (.k (.s (.bool false))))⟩,
 ⟨some 36, none, .p (.mv (.t 35))⟩,
 ⟨some 37, some (36, true), .p (.mv (.t 4))⟩,
 ⟨some 38, some (36, true), .p (.mv (.t 0))⟩,
 ⟨some 39, some (36, true), .p (.nilck (.t 38))⟩,
 ⟨some 40, some (36, true), .p (.fa 136 2 (.t 39))⟩,
 ⟨some 41, some (36, true), .p (.fa 1 1 (.t 40))⟩,
 ⟨some 42, some (36, true), .h (.load false 1 (.t 41))⟩,
 ⟨some 43, some (36, true), .p (.bin .mul (.k (.s (.int .i64 5))) (.t 42))⟩,
 ⟨some 44, some (36, true), .p (.bin .add (.k (.s (.int .i64 1))) (.t 43))⟩,
 ⟨some 45, some (36, true), .p (.bin .eql (.t 37) (.t 44))⟩,
 ⟨some 46, none, .p (.pick (.t 36) (.t 45) (.k (.s (.bool false))))⟩,
 ⟨some 47, none, .p (.mv (.t 46))⟩,
 ⟨some 48, some (47, true), .p (.mv (.t 5))⟩,
 ⟨some 49, some (47, true), .p (.mv (.t 4))⟩,
 ⟨some 50, some (47, true), .p (.mv (.t 3))⟩,
 ⟨some 51, some (47, true), .p (.bin .mul (.k (.s (.int .i64 2))) (.t 50))⟩,
 ⟨some 52, some (47, true), .p (.bin .add (.t 49) (.t 51))⟩,
 ⟨some 53, some (47, true), .p (.bin .eql (.t 48) (.t 52))⟩,
 ⟨some 54, none, .p (.pick (.t 47) (.t 53) (.k (.s (.bool false))))⟩,
 ⟨some 2, none, .p (.mv (.t 54))⟩])
 .ret))))⟩
theorem c116 : compF Try.prog Try.f116 = some a116 := by kernel_rfl
/-- (*zugzwang/play.hand).set -/
def a117 : AF := ⟨24, [],
 (.seq (.ops [⟨some 4, none, .h (.box (.t 1))⟩])
 (.seq (.ops [⟨some 8, none, .p (.mv (.t 2))⟩,
 ⟨some 9, none, .p (.len (.t 8))⟩,
 ⟨some 10, none, .p (.mv (.k (.s (.int .i64 0))))⟩])
 (.block 0 (.loop (.seq (.ops [⟨some 11, none, .p (.bin .lss (.t 10) (.t 9))⟩])
 (.seq (.cond (.t 11)
 .skip
 (.exit 0))
 (.seq (.block 1 (.seq (.ops [⟨some 12, none, .p (.ixs 1 (.t 8) (.t 10))⟩,
 ⟨some 13, none, .h (.load false 1 (.t 12))⟩,
 ⟨some 7, none, .p (.mv (.t 13))⟩])
 (.seq (.ops [⟨some 14, none, .p (.mv (.t 7))⟩,
 ⟨some 15, none, .h (.call (.k (.fn 39 [])) [(.t 14)])⟩])
 (.cond (.t 15)
 (.ops [⟨some 16, none, .p (.mv (.t 0))⟩,
 ⟨some 17, none, .p (.mv (.t 7))⟩,
 ⟨some 18, none, .h (.load true 2 (.t 4))⟩,
 ⟨some 19, none, .p (.nilck (.t 16))⟩,
 ⟨some 20, none, .p (.fa 0 133 (.t 19))⟩,
 ⟨some 21, none, .p (.fa 0 128 (.t 20))⟩,
 ⟨some 22, none, .p (.ixa 64 2 (.t 21) (.t 17))⟩,
 ⟨none, none, .h (.store 2 (.t 22) (.t 18))⟩])
 .skip))))
 (.ops [⟨some 23, none, .p (.bin .add (.t 10) (.k (.s (.int .i64 1))))⟩,
 ⟨some 10, none, .p (.mv (.t 23))⟩]))))))))⟩
theorem c117 : compF Try.prog Try.f117 = some a117 := by kernel_rfl
/-- zugzwang/play.lost -/
def a118 : AF := ⟨21, [.tmp 2],
 (.seq (.ops [⟨some 2, none, .p (.mv (.k (.s (.int .i64 0))))⟩])
 (.seq (.ops [⟨some 6, none, .h (.mkmap)⟩,
 ⟨none, none, .h (.mput (.t 6) (.k (.s (.int .i64 4))) (.k (.s (.int .i64 3))))⟩,
 ⟨none, none, .h (.mput (.t 6) (.k (.s (.int .i64 7))) (.k (.s (.int .i64 1))))⟩,
 ⟨none, none, .h (.mput (.t 6) (.k (.s (.int .i64 0))) (.k (.s (.int .i64 2))))⟩,
 ⟨none, none, .h (.mput (.t 6) (.k (.s (.int .i64 60))) (.k (.s (.int .i64 12))))⟩,
 ⟨none, none, .h (.mput (.t 6) (.k (.s (.int .i64 63))) (.k (.s (.int .i64 4))))⟩,
 ⟨none, none, .h (.mput (.t 6) (.k (.s (.int .i64 56))) (.k (.s (.int .i64 8))))⟩,
 ⟨some 7, none, .p (.mv (.t 6))⟩,
 ⟨some 3, none, .p (.mv (.t 7))⟩])
 (.seq (.seq (.ops [⟨some 8, none, .p (.mv (.t 0))⟩,
 ⟨some 9, none, .p (.len (.t 8))⟩,
 ⟨some 10, none, .p (.mv (.k (.s (.int .i64 0))))⟩])
 (.block 0 (.loop (.seq (.ops [⟨some 11, none, .p (.bin .lss (.t 10) (.t 9))⟩])
 (.seq (.cond (.t 11)
 .skip
 (.exit 0))
 (.seq (.block 1 (.seq (.ops [⟨some 12, none, .p (.ixs 1 (.t 8) (.t 10))⟩,
 ⟨some 13, none, .h (.load false 1 (.t 12))⟩,
 ⟨some 5, none, .p (.mv (.t 13))⟩])
 (.ops [⟨some 14, none, .p (.mv (.t 2))⟩,
 ⟨some 15, none, .p (.mv (.t 3))⟩,
 ⟨some 16, none, .p (.mv (.t 5))⟩,
 ⟨some 17, none, .h (.mget (.one (.s (.int .i64 0))) false (.t 15) (.t 16))⟩,
 ⟨some 18, none, .p (.bin .or (.t 14) (.t 17))⟩,
 ⟨some 2, none, .p (.mv (.t 18))⟩])))
 (.ops [⟨some 19, none, .p (.bin .add (.t 10) (.k (.s (.int .i64 1))))⟩,
 ⟨some 10, none, .p (.mv (.t 19))⟩])))))))
 (.seq (.ops [⟨some 20, none, .p (.mv (.t 2))⟩,
 ⟨some 2, none, .p (.mv (.t 20))⟩])
 .ret))))⟩
theorem c118 : compF Try.prog Try.f118 = some a118 := by kernel_rfl
/-- (*zugzwang/play.hand).turns -/
def a119 : AF := ⟨16, [.tmp 2],
 (.seq (.ops [⟨some 2, none, .p (.mv (.k (.s (.int .i64 0))))⟩])
 (.seq (.ops [⟨some 3, none, .p (.mv (.t 0))⟩,
 ⟨some 4, none, .p (.nilck (.t 3))⟩,
 ⟨some 5, none, .p (.fa 133 3 (.t 4))⟩,
 ⟨some 6, none, .p (.fa 1 1 (.t 5))⟩,
 ⟨some 7, none, .h (.load false 1 (.t 6))⟩,
 ⟨some 8, none, .h (.callq (.k (.fn 37 [])) [(.t 7)])⟩,
 ⟨some 9, none, .p (.mv (.t 0))⟩,
 ⟨some 10, none, .p (.nilck (.t 9))⟩,
 ⟨some 11, none, .p (.fa 133 3 (.t 10))⟩,
 ⟨some 12, none, .p (.fa 0 1 (.t 11))⟩,
 ⟨some 13, none, .h (.load false 1 (.t 12))⟩,
 ⟨some 14, none, .h (.call (.k (.fn 37 [])) [(.t 13)])⟩,
 ⟨some 15, none, .p (.bin .sub (.t 8) (.t 14))⟩,
 ⟨some 2, none, .p (.mv (.t 15))⟩])
 .ret))⟩
theorem c119 : compF Try.prog Try.f119 = some a119 := by kernel_rfl
end Go.Proofs.Ytjldefmcnppdoaa
