/- The functions of this seat, as the abstract machine has them: each held against the loaded one by the kernel. -/
import Derived.Test.YtjldefmcnppdoaaProg
import Derived.Test.YtjldefmcnppdoaaAmRun
import Derived.KernelRfl
namespace Go.Proofs.Ytjldefmcnppdoaa
open Go Go.Am
set_option maxRecDepth 100000
/-- gosem.cut.init -/
def a2 : AF := ⟨1, [],
 (.ops [⟨some 0, none, .h (.call (.k (.fn 1 [])) [])⟩])⟩
theorem c2 : compF Try.prog Try.f2 = some a2 := by kernel_rfl
/-- zugzwang/zugzwanglaw13.DeadTells -/
def a3 : AF := ⟨102, [.tmp 6],
 (.seq (.ops [⟨some 3, none, .h (.box (.t 0))⟩,
 ⟨some 4, none, .h (.box (.t 1))⟩,
 ⟨some 6, none, .p (.mv (.k (.s (.bool false))))⟩])
 (.seq (.seq (.ops [⟨some 11, none, .p (.mv (.t 2))⟩,
 ⟨some 12, none, .p (.len (.t 11))⟩,
 ⟨some 13, none, .p (.bin .gtr (.t 12) (.k (.s (.int .i64 500))))⟩,
 ⟨some 14, none, .p (.mv (.t 13))⟩,
 ⟨some 15, some (14, false), .p (.fa 0 1 (.t 4))⟩,
 ⟨some 16, some (14, false), .h (.load false 1 (.t 15))⟩,
 ⟨some 17, some (14, false), .p (.fa 1 1 (.t 4))⟩,
 ⟨some 18, some (14, false), .h (.load false 1 (.t 17))⟩,
 ⟨some 19, some (14, false), .p (.fa 2 1 (.t 4))⟩,
 ⟨some 20, some (14, false), .h (.load false 1 (.t 19))⟩,
 ⟨some 21, some (14, false), .p (.fa 3 1 (.t 4))⟩,
 ⟨some 22, some (14, false), .h (.load false 1 (.t 21))⟩,
 ⟨some 23, some (14, false), .p (.mx [(.t 16), (.t 18), (.t 20), (.t 22)])⟩,
 ⟨some 24, some (14, false), .p (.bin .gtr (.t 23) (.k (.s (.int .i64 1099511627776))))⟩,
 ⟨some 25, none, .p (.pick (.t 14) (.k (.s (.bool true))) (.t 24))⟩,
 ⟨some 26, none, .p (.mv (.t 25))⟩,
 ⟨some 27, some (26, false), .p (.fa 0 1 (.t 4))⟩,
 ⟨some 28, some (26, false), .h (.load false 1 (.t 27))⟩,
 ⟨some 29, some (26, false), .p (.fa 1 1 (.t 4))⟩,
 ⟨some 30, some (26, false), .h (.load false 1 (.t 29))⟩,
 ⟨some 31, some (26, false), .p (.fa 2 1 (.t 4))⟩,
 ⟨some 32, some (26, false), .h (.load false 1 (.t 31))⟩,
 ⟨some 33, some (26, false), .p (.fa 3 1 (.t 4))⟩,
 ⟨some 34, some (26, false), .h (.load false 1 (.t 33))⟩,
 ⟨some 35, some (26, false), .p (.mn [(.t 28), (.t 30), (.t 32), (.t 34)])⟩,
 ⟨some 36, some (26, false), .p (.bin .lss (.t 35) (.k (.s (.int .i64 (-1099511627776)))))⟩,
 ⟨some 37, none, .p (.pick (.t 26) (.k (.s (.bool true))) (.t 36))⟩])
 (.cond (.t 37)
 (.seq (.ops [⟨some 38, none, .h (.call (.k (.fn 19 [])) [])⟩,
 ⟨some 6, none, .p (.mv (.t 38))⟩])
 .ret)
 .skip))
 (.seq (.ops [⟨some 39, none, .p (.fa 0 1 (.t 4))⟩,
 ⟨some 40, none, .h (.load false 1 (.t 39))⟩,
 ⟨some 41, none, .p (.fa 1 1 (.t 4))⟩,
 ⟨some 42, none, .h (.load false 1 (.t 41))⟩,
 ⟨some 43, none, .p (.fa 2 1 (.t 4))⟩,
 ⟨some 44, none, .h (.load false 1 (.t 43))⟩,
 ⟨some 45, none, .p (.fa 3 1 (.t 4))⟩,
 ⟨some 46, none, .h (.load false 1 (.t 45))⟩,
 ⟨some 47, none, .p (.build (.ints 4) [(0, 1, (.t 40)), (1, 1, (.t 42)), (2, 1, (.t 44)), (3, 1, (.t 46))])⟩,
 ⟨some 7, none, .h (.alloc (.ints 4))⟩,
 ⟨none, none, .h (.store 4 (.t 7) (.t 47))⟩])
 (.seq (.ops [⟨some 48, none, .h (.mksl 0 1 (.one (.s (.int .i64 0))) [])⟩,
 ⟨some 49, none, .p (.mv (.t 2))⟩,
 ⟨some 50, none, .h (.append 1 8 (.t 48) (.t 49))⟩,
 ⟨some 8, none, .p (.mv (.t 50))⟩])
 (.seq (.ops [⟨some 51, none, .h (.load true 133 (.t 3))⟩,
 ⟨some 52, none, .h (.callq (.k (.fn 21 [])) [(.t 51)])⟩,
 ⟨some 53, none, .h (.load true 133 (.t 3))⟩,
 ⟨some 54, none, .h (.call (.k (.fn 22 [])) [(.t 53)])⟩,
 ⟨some 55, none, .h (.call (.k (.fn 20 [])) [(.t 52), (.t 54)])⟩,
 ⟨some 56, none, .p (.mv (.t 55))⟩,
 ⟨some 57, some (56, true), .h (.load true 133 (.t 3))⟩,
 ⟨some 58, some (56, true), .h (.callq (.k (.fn 23 [])) [(.t 57)])⟩,
 ⟨some 59, some (56, true), .h (.load true 133 (.t 3))⟩,
 ⟨some 60, some (56, true), .h (.call (.k (.fn 22 [])) [(.t 59)])⟩,
 ⟨some 61, some (56, true), .h (.call (.k (.fn 24 [])) [(.t 60)])⟩,
 ⟨some 62, some (56, true), .p (.eqb false (.t 58) (.t 61))⟩,
 ⟨some 63, none, .p (.pick (.t 56) (.t 62) (.k (.s (.bool false))))⟩,
 ⟨some 64, none, .p (.mv (.t 63))⟩,
 ⟨some 65, some (64, true), .h (.load true 4 (.t 4))⟩,
 ⟨some 66, some (64, true), .h (.callq (.k (.fn 25 [])) [(.t 65)])⟩,
 ⟨some 67, some (64, true), .h (.load true 4 (.t 7))⟩,
 ⟨some 68, some (64, true), .h (.call (.k (.fn 24 [])) [(.t 67)])⟩,
 ⟨some 69, some (64, true), .p (.eqb false (.t 66) (.t 68))⟩,
 ⟨some 70, none, .p (.pick (.t 64) (.t 69) (.k (.s (.bool false))))⟩,
 ⟨some 71, none, .p (.mv (.t 70))⟩,
 ⟨some 72, some (71, true), .h (.load true 4 (.t 4))⟩,
 ⟨some 73, some (71, true), .p (.mv (.t 8))⟩,
 ⟨some 74, some (71, true), .h (.callq (.k (.fn 26 [])) [(.t 72), (.t 73)])⟩,
 ⟨some 75, some (71, true), .h (.load true 4 (.t 7))⟩,
 ⟨some 76, some (71, true), .p (.mv (.t 2))⟩,
 ⟨some 77, some (71, true), .h (.call (.k (.fn 27 [])) [(.t 75), (.t 76)])⟩,
 ⟨some 78, some (71, true), .h (.call (.k (.fn 20 [])) [(.t 74), (.t 77)])⟩,
 ⟨some 79, none, .p (.pick (.t 71) (.t 78) (.k (.s (.bool false))))⟩,
 ⟨some 9, none, .p (.mv (.t 79))⟩])
 (.seq (.seq (.ops [⟨some 10, none, .p (.mv (.k (.s (.int .i64 0))))⟩])
 (.block 0 (.loop (.seq (.seq (.ops [⟨some 80, none, .p (.mv (.t 10))⟩,
 ⟨some 81, none, .p (.mv (.t 2))⟩,
 ⟨some 82, none, .p (.len (.t 81))⟩,
 ⟨some 83, none, .p (.bin .lss (.t 80) (.t 82))⟩])
 (.cond (.t 83)
 .skip
 (.exit 0)))
 (.seq (.block 1 (.ops [⟨some 86, none, .p (.mv (.t 9))⟩,
 ⟨some 87, none, .p (.mv (.t 86))⟩,
 ⟨some 88, some (87, true), .p (.mv (.t 8))⟩,
 ⟨some 89, some (87, true), .p (.mv (.t 10))⟩,
 ⟨some 90, some (87, true), .p (.ixs 1 (.t 88) (.t 89))⟩,
 ⟨some 91, some (87, true), .h (.load false 1 (.t 90))⟩,
 ⟨some 92, some (87, true), .p (.mv (.t 2))⟩,
 ⟨some 93, some (87, true), .p (.mv (.t 10))⟩,
 ⟨some 94, some (87, true), .p (.ixs 1 (.t 92) (.t 93))⟩,
 ⟨some 95, some (87, true), .h (.load false 1 (.t 94))⟩,
 ⟨some 96, some (87, true), .p (.bin .eql (.t 91) (.t 95))⟩,
 ⟨some 97, none, .p (.pick (.t 87) (.t 96) (.k (.s (.bool false))))⟩,
 ⟨some 9, none, .p (.mv (.t 97))⟩]))
 (.ops [⟨some 84, none, .p (.mv (.t 10))⟩,
 ⟨some 85, none, .p (.bin .add (.t 84) (.k (.s (.int .i64 1))))⟩,
 ⟨some 10, none, .p (.mv (.t 85))⟩]))))))
 (.seq (.ops [⟨some 98, none, .p (.mv (.t 9))⟩,
 ⟨some 99, none, .p (.mv (.t 98))⟩,
 ⟨some 100, some (99, true), .h (.call (.k (.fn 19 [])) [])⟩,
 ⟨some 101, none, .p (.pick (.t 99) (.t 100) (.k (.s (.bool false))))⟩,
 ⟨some 6, none, .p (.mv (.t 101))⟩])
 .ret)))))))⟩
theorem c3 : compF Try.prog Try.f3 = some a3 := by kernel_rfl
/-- zugzwang/zugzwanglaw13.DeadEnds -/
def a4 : AF := ⟨112, [.tmp 0],
 (.seq (.ops [⟨some 0, none, .p (.mv (.k (.s (.bool false))))⟩])
 (.seq (.ops [⟨some 9, none, .h (.mksl 6 1 (.one (.s (.int .i64 0))) [(0, (.k (.s (.int .i64 0)))), (1, (.k (.s (.int .i64 1)))), (2, (.k (.s (.int .i64 9)))), (3, (.k (.s (.int .i64 10)))), (4, (.k (.s (.int .i64 63)))), (5, (.k (.s (.int .i64 62))))])⟩,
 ⟨some 1, none, .p (.mv (.t 9))⟩])
 (.seq (.seq (.ops [⟨some 2, none, .p (.mv (.k (.s (.int .i64 0))))⟩])
 (.block 0 (.loop (.seq (.seq (.ops [⟨some 10, none, .p (.mv (.t 2))⟩,
 ⟨some 11, none, .p (.bin .lss (.t 10) (.k (.s (.int .i64 3600))))⟩])
 (.cond (.t 11)
 .skip
 (.exit 0)))
 (.seq (.block 1 (.seq (.ops [⟨some 14, none, .p (.mv (.t 2))⟩,
 ⟨some 15, none, .p (.bin .rem (.t 14) (.k (.s (.int .i64 10))))⟩,
 ⟨some 16, none, .p (.bin .sub (.t 15) (.k (.s (.int .i64 1))))⟩,
 ⟨some 17, none, .p (.mv (.t 2))⟩,
 ⟨some 18, none, .p (.bin .quo (.t 17) (.k (.s (.int .i64 10))))⟩,
 ⟨some 19, none, .p (.bin .rem (.t 18) (.k (.s (.int .i64 10))))⟩,
 ⟨some 20, none, .p (.bin .sub (.t 19) (.k (.s (.int .i64 1))))⟩,
 ⟨some 21, none, .h (.mksl 2 1 (.one (.s (.int .i64 0))) [(0, (.t 16)), (1, (.t 20))])⟩,
 ⟨some 3, none, .p (.mv (.t 21))⟩])
 (.seq (.ops [⟨some 22, none, .p (.mv (.t 1))⟩,
 ⟨some 23, none, .p (.mv (.t 2))⟩,
 ⟨some 24, none, .p (.bin .quo (.t 23) (.k (.s (.int .i64 100))))⟩,
 ⟨some 25, none, .p (.bin .rem (.t 24) (.k (.s (.int .i64 6))))⟩,
 ⟨some 26, none, .p (.ixs 1 (.t 22) (.t 25))⟩,
 ⟨some 27, none, .h (.load false 1 (.t 26))⟩,
 ⟨some 28, none, .p (.mv (.t 1))⟩,
 ⟨some 29, none, .p (.mv (.t 2))⟩,
 ⟨some 30, none, .p (.bin .quo (.t 29) (.k (.s (.int .i64 600))))⟩,
 ⟨some 31, none, .p (.ixs 1 (.t 28) (.t 30))⟩,
 ⟨some 32, none, .h (.load false 1 (.t 31))⟩,
 ⟨some 33, none, .h (.mksl 2 1 (.one (.s (.int .i64 0))) [(0, (.t 27)), (1, (.t 32))])⟩,
 ⟨some 4, none, .p (.mv (.t 33))⟩])
 (.seq (.ops [⟨some 34, none, .p (.mv (.t 3))⟩,
 ⟨some 35, none, .p (.mv (.t 4))⟩,
 ⟨some 36, none, .h (.call (.k (.fn 28 [])) [(.t 34), (.t 35)])⟩,
 ⟨some 5, none, .h (.alloc (.ints 133))⟩,
 ⟨none, none, .h (.store 133 (.t 5) (.t 36))⟩])
 (.seq (.ops [⟨some 37, none, .h (.load true 133 (.t 5))⟩,
 ⟨some 38, none, .h (.callq (.k (.fn 21 [])) [(.t 37)])⟩,
 ⟨some 39, none, .h (.load true 133 (.t 5))⟩,
 ⟨some 40, none, .h (.call (.k (.fn 22 [])) [(.t 39)])⟩,
 ⟨some 41, none, .h (.call (.k (.fn 20 [])) [(.t 38), (.t 40)])⟩,
 ⟨some 42, none, .p (.un .not (.t 41))⟩,
 ⟨some 43, none, .p (.mv (.t 42))⟩,
 ⟨some 44, some (43, false), .h (.load true 133 (.t 5))⟩,
 ⟨some 45, some (43, false), .h (.callq (.k (.fn 23 [])) [(.t 44)])⟩,
 ⟨some 46, some (43, false), .h (.load true 133 (.t 5))⟩,
 ⟨some 47, some (43, false), .h (.call (.k (.fn 22 [])) [(.t 46)])⟩,
 ⟨some 48, some (43, false), .h (.call (.k (.fn 24 [])) [(.t 47)])⟩,
 ⟨some 49, some (43, false), .p (.eqb true (.t 45) (.t 48))⟩,
 ⟨some 50, none, .p (.pick (.t 43) (.k (.s (.bool true))) (.t 49))⟩,
 ⟨some 51, none, .p (.mv (.t 50))⟩,
 ⟨some 52, some (51, false), .p (.mv (.t 2))⟩,
 ⟨some 53, some (51, false), .p (.bin .rem (.t 52) (.k (.s (.int .i64 37))))⟩,
 ⟨some 54, some (51, false), .p (.bin .eql (.t 53) (.k (.s (.int .i64 0))))⟩,
 ⟨some 55, some (51, false), .p (.mv (.t 54))⟩,
 ⟨some 56, some (55, true), .h (.load true 133 (.t 5))⟩,
 ⟨some 57, some (55, true), .p (.build (.ints 4) [])⟩,
 ⟨some 58, some (55, true), .p (.mv (.t 3))⟩,
 ⟨some 59, some (55, true), .h (.call (.k (.fn 3 [])) [(.t 56), (.t 57), (.t 58)])⟩,
 ⟨some 60, some (55, true), .p (.un .not (.t 59))⟩,
 ⟨some 61, some (51, false), .p (.pick (.t 55) (.t 60) (.k (.s (.bool false))))⟩,
 ⟨some 62, none, .p (.pick (.t 51) (.k (.s (.bool true))) (.t 61))⟩])
 (.cond (.t 62)
 (.seq (.ops [⟨some 0, none, .p (.mv (.k (.s (.bool false))))⟩])
 .ret)
 .skip))))))
 (.ops [⟨some 12, none, .p (.mv (.t 2))⟩,
 ⟨some 13, none, .p (.bin .add (.t 12) (.k (.s (.int .i64 1))))⟩,
 ⟨some 2, none, .p (.mv (.t 13))⟩]))))))
 (.seq (.seq (.ops [⟨some 6, none, .p (.mv (.k (.s (.int .i64 0))))⟩])
 (.block 2 (.loop (.seq (.seq (.ops [⟨some 63, none, .p (.mv (.t 6))⟩,
 ⟨some 64, none, .p (.bin .lss (.t 63) (.k (.s (.int .i64 625))))⟩])
 (.cond (.t 64)
 .skip
 (.exit 2)))
 (.seq (.block 3 (.seq (.ops [⟨some 67, none, .p (.mv (.t 6))⟩,
 ⟨some 68, none, .p (.bin .rem (.t 67) (.k (.s (.int .i64 5))))⟩,
 ⟨some 69, none, .p (.bin .sub (.t 68) (.k (.s (.int .i64 1))))⟩,
 ⟨some 70, none, .p (.mv (.t 6))⟩,
 ⟨some 71, none, .p (.bin .quo (.t 70) (.k (.s (.int .i64 5))))⟩,
 ⟨some 72, none, .p (.bin .rem (.t 71) (.k (.s (.int .i64 5))))⟩,
 ⟨some 73, none, .p (.bin .sub (.t 72) (.k (.s (.int .i64 1))))⟩,
 ⟨some 74, none, .p (.mv (.t 6))⟩,
 ⟨some 75, none, .p (.bin .quo (.t 74) (.k (.s (.int .i64 25))))⟩,
 ⟨some 76, none, .p (.bin .rem (.t 75) (.k (.s (.int .i64 5))))⟩,
 ⟨some 77, none, .p (.bin .sub (.t 76) (.k (.s (.int .i64 1))))⟩,
 ⟨some 78, none, .p (.mv (.t 6))⟩,
 ⟨some 79, none, .p (.bin .quo (.t 78) (.k (.s (.int .i64 125))))⟩,
 ⟨some 80, none, .p (.bin .sub (.t 79) (.k (.s (.int .i64 1))))⟩,
 ⟨some 81, none, .p (.build (.ints 4) [(0, 1, (.t 69)), (1, 1, (.t 73)), (2, 1, (.t 77)), (3, 1, (.t 80))])⟩,
 ⟨some 7, none, .h (.alloc (.ints 4))⟩,
 ⟨none, none, .h (.store 4 (.t 7) (.t 81))⟩])
 (.seq (.ops [⟨some 82, none, .p (.fa 0 1 (.t 7))⟩,
 ⟨some 83, none, .h (.load false 1 (.t 82))⟩,
 ⟨some 84, none, .p (.fa 1 1 (.t 7))⟩,
 ⟨some 85, none, .h (.load false 1 (.t 84))⟩,
 ⟨some 86, none, .p (.fa 2 1 (.t 7))⟩,
 ⟨some 87, none, .h (.load false 1 (.t 86))⟩,
 ⟨some 88, none, .p (.fa 3 1 (.t 7))⟩,
 ⟨some 89, none, .h (.load false 1 (.t 88))⟩,
 ⟨some 90, none, .p (.build (.ints 4) [(0, 1, (.t 83)), (1, 1, (.t 85)), (2, 1, (.t 87)), (3, 1, (.t 89))])⟩,
 ⟨some 8, none, .h (.alloc (.ints 4))⟩,
 ⟨none, none, .h (.store 4 (.t 8) (.t 90))⟩])
 (.seq (.ops [⟨some 91, none, .h (.load true 4 (.t 7))⟩,
 ⟨some 92, none, .h (.callq (.k (.fn 25 [])) [(.t 91)])⟩,
 ⟨some 93, none, .h (.load true 4 (.t 8))⟩,
 ⟨some 94, none, .h (.call (.k (.fn 24 [])) [(.t 93)])⟩,
 ⟨some 95, none, .p (.eqb true (.t 92) (.t 94))⟩,
 ⟨some 96, none, .p (.mv (.t 95))⟩,
 ⟨some 97, some (96, false), .h (.load true 4 (.t 7))⟩,
 ⟨some 98, some (96, false), .h (.mksl 3 1 (.one (.s (.int .i64 0))) [(0, (.k (.s (.int .i64 3)))), (1, (.k (.s (.int .i64 3)))), (2, (.k (.s (.int .i64 2))))])⟩,
 ⟨some 99, some (96, false), .h (.callq (.k (.fn 26 [])) [(.t 97), (.t 98)])⟩,
 ⟨some 100, some (96, false), .h (.load true 4 (.t 8))⟩,
 ⟨some 101, some (96, false), .h (.mksl 3 1 (.one (.s (.int .i64 0))) [(0, (.k (.s (.int .i64 3)))), (1, (.k (.s (.int .i64 3)))), (2, (.k (.s (.int .i64 2))))])⟩,
 ⟨some 102, some (96, false), .h (.call (.k (.fn 27 [])) [(.t 100), (.t 101)])⟩,
 ⟨some 103, some (96, false), .h (.call (.k (.fn 20 [])) [(.t 99), (.t 102)])⟩,
 ⟨some 104, some (96, false), .p (.un .not (.t 103))⟩,
 ⟨some 105, none, .p (.pick (.t 96) (.k (.s (.bool true))) (.t 104))⟩])
 (.cond (.t 105)
 (.seq (.ops [⟨some 0, none, .p (.mv (.k (.s (.bool false))))⟩])
 .ret)
 .skip)))))
 (.ops [⟨some 65, none, .p (.mv (.t 6))⟩,
 ⟨some 66, none, .p (.bin .add (.t 65) (.k (.s (.int .i64 1))))⟩,
 ⟨some 6, none, .p (.mv (.t 66))⟩]))))))
 (.seq (.ops [⟨some 106, none, .h (.call (.k (.fn 29 [])) [])⟩,
 ⟨some 107, none, .p (.build (.ints 4) [])⟩,
 ⟨some 108, none, .h (.call (.k (.fn 3 [])) [(.t 106), (.t 107), (.k .snil)])⟩,
 ⟨some 109, none, .p (.mv (.t 108))⟩,
 ⟨some 110, some (109, true), .h (.call (.k (.fn 19 [])) [])⟩,
 ⟨some 111, none, .p (.pick (.t 109) (.t 110) (.k (.s (.bool false))))⟩,
 ⟨some 0, none, .p (.mv (.t 111))⟩])
 .ret)))))⟩
theorem c4 : compF Try.prog Try.f4 = some a4 := by kernel_rfl
/-- zugzwang/zugzwanglaw13.DeadAdds -/
def a5 : AF := ⟨106, [.tmp 4],
 (.seq (.ops [⟨some 4, none, .p (.mv (.k (.s (.bool false))))⟩])
 (.seq (.seq (.ops [⟨some 8, none, .h (.call (.k (.fn 19 [])) [])⟩,
 ⟨some 9, none, .p (.un .not (.t 8))⟩])
 (.cond (.t 9)
 (.seq (.ops [⟨some 4, none, .p (.mv (.k (.s (.bool false))))⟩])
 .ret)
 .skip))
 (.seq (.seq (.ops [⟨some 10, none, .p (.mv (.t 0))⟩,
 ⟨some 11, none, .p (.len (.t 10))⟩,
 ⟨some 12, none, .p (.bin .gtr (.t 11) (.k (.s (.int .i64 500))))⟩])
 (.cond (.t 12)
 (.seq (.ops [⟨some 4, none, .p (.mv (.k (.s (.bool true))))⟩])
 .ret)
 .skip))
 (.seq (.ops [⟨some 5, none, .h (.alloc (.ints 4))⟩])
 (.seq (.ops [⟨some 13, none, .p (.mv (.t 1))⟩,
 ⟨some 14, none, .p (.mv (.t 0))⟩,
 ⟨some 15, none, .p (.len (.t 14))⟩,
 ⟨some 16, none, .p (.bin .add (.t 15) (.k (.s (.int .i64 1))))⟩,
 ⟨some 17, none, .h (.call (.k (.fn 30 [])) [(.t 13), (.t 16)])⟩,
 ⟨some 6, none, .p (.mv (.t 17))⟩])
 (.seq (.ops [⟨some 18, none, .h (.load true 4 (.t 5))⟩,
 ⟨some 19, none, .p (.mv (.t 0))⟩,
 ⟨some 20, none, .h (.call (.k (.fn 26 [])) [(.t 18), (.t 19)])⟩,
 ⟨some 7, none, .h (.alloc (.ints 4))⟩,
 ⟨none, none, .h (.store 4 (.t 7) (.t 20))⟩])
 (.seq (.seq (.ops [⟨some 21, none, .h (.load true 4 (.t 5))⟩,
 ⟨some 22, none, .p (.mv (.t 0))⟩,
 ⟨some 23, none, .p (.mv (.t 6))⟩,
 ⟨some 24, none, .p (.slV 1 (.t 22) none (some (.t 23)))⟩,
 ⟨some 25, none, .h (.callq (.k (.fn 26 [])) [(.t 21), (.t 24)])⟩,
 ⟨some 26, none, .p (.mv (.t 0))⟩,
 ⟨some 27, none, .p (.mv (.t 6))⟩,
 ⟨some 28, none, .p (.slV 1 (.t 26) (some (.t 27)) none)⟩,
 ⟨some 29, none, .h (.callq (.k (.fn 26 [])) [(.t 25), (.t 28)])⟩,
 ⟨some 30, none, .h (.load true 4 (.t 7))⟩,
 ⟨some 31, none, .p (.eqa true 4 (.t 29) (.t 30))⟩,
 ⟨some 32, none, .p (.mv (.t 31))⟩,
 ⟨some 33, some (32, false), .h (.load true 4 (.t 7))⟩,
 ⟨some 34, some (32, false), .h (.mksl 2 1 (.one (.s (.int .i64 0))) [(0, (.k (.s (.int .i64 6)))), (1, (.k (.s (.int .i64 0))))])⟩,
 ⟨some 35, some (32, false), .h (.callq (.k (.fn 26 [])) [(.t 33), (.t 34)])⟩,
 ⟨some 36, some (32, false), .h (.load true 4 (.t 7))⟩,
 ⟨some 37, some (32, false), .p (.eqa true 4 (.t 35) (.t 36))⟩,
 ⟨some 38, none, .p (.pick (.t 32) (.k (.s (.bool true))) (.t 37))⟩,
 ⟨some 39, none, .p (.mv (.t 38))⟩,
 ⟨some 40, some (39, false), .p (.fa 0 1 (.t 7))⟩,
 ⟨some 41, some (39, false), .h (.load false 1 (.t 40))⟩,
 ⟨some 42, some (39, false), .p (.bin .lss (.t 41) (.k (.s (.int .i64 0))))⟩,
 ⟨some 43, none, .p (.pick (.t 39) (.k (.s (.bool true))) (.t 42))⟩,
 ⟨some 44, none, .p (.mv (.t 43))⟩,
 ⟨some 45, some (44, false), .p (.fa 0 1 (.t 7))⟩,
 ⟨some 46, some (44, false), .h (.load false 1 (.t 45))⟩,
 ⟨some 47, some (44, false), .p (.fa 1 1 (.t 7))⟩,
 ⟨some 48, some (44, false), .h (.load false 1 (.t 47))⟩,
 ⟨some 49, some (44, false), .p (.bin .add (.t 46) (.t 48))⟩,
 ⟨some 50, some (44, false), .p (.fa 2 1 (.t 7))⟩,
 ⟨some 51, some (44, false), .h (.load false 1 (.t 50))⟩,
 ⟨some 52, some (44, false), .p (.bin .add (.t 49) (.t 51))⟩,
 ⟨some 53, some (44, false), .p (.fa 3 1 (.t 7))⟩,
 ⟨some 54, some (44, false), .h (.load false 1 (.t 53))⟩,
 ⟨some 55, some (44, false), .p (.bin .add (.t 52) (.t 54))⟩,
 ⟨some 56, some (44, false), .p (.mv (.t 0))⟩,
 ⟨some 57, some (44, false), .p (.len (.t 56))⟩,
 ⟨some 58, some (44, false), .p (.bin .gtr (.t 55) (.t 57))⟩,
 ⟨some 59, none, .p (.pick (.t 44) (.k (.s (.bool true))) (.t 58))⟩,
 ⟨some 60, none, .p (.mv (.t 59))⟩,
 ⟨some 61, some (60, false), .p (.fa 2 1 (.t 7))⟩,
 ⟨some 62, some (60, false), .h (.load false 1 (.t 61))⟩,
 ⟨some 63, some (60, false), .p (.fa 3 1 (.t 7))⟩,
 ⟨some 64, some (60, false), .h (.load false 1 (.t 63))⟩,
 ⟨some 65, some (60, false), .p (.bin .neq (.t 62) (.t 64))⟩,
 ⟨some 66, some (60, false), .p (.mv (.t 65))⟩,
 ⟨some 67, some (66, true), .p (.fa 2 1 (.t 7))⟩,
 ⟨some 68, some (66, true), .h (.load false 1 (.t 67))⟩,
 ⟨some 69, some (66, true), .p (.fa 3 1 (.t 7))⟩,
 ⟨some 70, some (66, true), .h (.load false 1 (.t 69))⟩,
 ⟨some 71, some (66, true), .p (.bin .add (.t 70) (.k (.s (.int .i64 1))))⟩,
 ⟨some 72, some (66, true), .p (.bin .neq (.t 68) (.t 71))⟩,
 ⟨some 73, some (60, false), .p (.pick (.t 66) (.t 72) (.k (.s (.bool false))))⟩,
 ⟨some 74, none, .p (.pick (.t 60) (.k (.s (.bool true))) (.t 73))⟩])
 (.cond (.t 74)
 (.seq (.ops [⟨some 4, none, .p (.mv (.k (.s (.bool false))))⟩])
 .ret)
 .skip))
 (.seq (.ops [⟨some 75, none, .h (.load true 4 (.t 7))⟩,
 ⟨some 76, none, .h (.mksl 1 1 (.one (.s (.int .i64 0))) [(0, (.k (.s (.int .i64 5))))])⟩,
 ⟨some 77, none, .h (.call (.k (.fn 26 [])) [(.t 75), (.t 76)])⟩,
 ⟨some 78, none, .h (.call (.k (.fn 25 [])) [(.t 77)])⟩,
 ⟨some 79, none, .p (.un .not (.t 78))⟩,
 ⟨some 80, none, .p (.mv (.t 79))⟩,
 ⟨some 81, some (80, true), .h (.load true 4 (.t 7))⟩,
 ⟨some 82, some (80, true), .h (.mksl 1 1 (.one (.s (.int .i64 0))) [(0, (.k (.s (.int .i64 2))))])⟩,
 ⟨some 83, some (80, true), .h (.callq (.k (.fn 26 [])) [(.t 81), (.t 82)])⟩,
 ⟨some 84, some (80, true), .h (.callq (.k (.fn 25 [])) [(.t 83)])⟩,
 ⟨some 85, some (80, true), .h (.load true 4 (.t 7))⟩,
 ⟨some 86, some (80, true), .h (.load true 4 (.t 5))⟩,
 ⟨some 87, some (80, true), .p (.eqa false 4 (.t 85) (.t 86))⟩,
 ⟨some 88, some (80, true), .p (.eqb false (.t 84) (.t 87))⟩,
 ⟨some 89, none, .p (.pick (.t 80) (.t 88) (.k (.s (.bool false))))⟩,
 ⟨some 90, none, .p (.mv (.t 89))⟩,
 ⟨some 91, some (90, true), .h (.load true 4 (.t 7))⟩,
 ⟨some 92, some (90, true), .h (.mksl 2 1 (.one (.s (.int .i64 0))) [(0, (.k (.s (.int .i64 3)))), (1, (.k (.s (.int .i64 3))))])⟩,
 ⟨some 93, some (90, true), .h (.call (.k (.fn 26 [])) [(.t 91), (.t 92)])⟩,
 ⟨some 94, some (90, true), .h (.call (.k (.fn 25 [])) [(.t 93)])⟩,
 ⟨some 95, some (90, true), .p (.un .not (.t 94))⟩,
 ⟨some 96, none, .p (.pick (.t 90) (.t 95) (.k (.s (.bool false))))⟩,
 ⟨some 97, none, .p (.mv (.t 96))⟩,
 ⟨some 98, some (97, true), .h (.load true 4 (.t 7))⟩,
 ⟨some 99, some (97, true), .h (.mksl 2 1 (.one (.s (.int .i64 0))) [(0, (.k (.s (.int .i64 2)))), (1, (.k (.s (.int .i64 4))))])⟩,
 ⟨some 100, some (97, true), .h (.callq (.k (.fn 26 [])) [(.t 98), (.t 99)])⟩,
 ⟨some 101, some (97, true), .h (.load true 4 (.t 7))⟩,
 ⟨some 102, some (97, true), .h (.mksl 2 1 (.one (.s (.int .i64 0))) [(0, (.k (.s (.int .i64 4)))), (1, (.k (.s (.int .i64 2))))])⟩,
 ⟨some 103, some (97, true), .h (.call (.k (.fn 26 [])) [(.t 101), (.t 102)])⟩,
 ⟨some 104, some (97, true), .p (.eqa false 4 (.t 100) (.t 103))⟩,
 ⟨some 105, none, .p (.pick (.t 97) (.t 104) (.k (.s (.bool false))))⟩,
 ⟨some 4, none, .p (.mv (.t 105))⟩])
 .ret))))))))⟩
theorem c5 : compF Try.prog Try.f5 = some a5 := by kernel_rfl
/-- zugzwang/zugzwanglaw05.SquareRays -/
def a6 : AF := ⟨144, [.tmp 6],
 (.seq (.ops [⟨some 6, none, .p (.mv (.k (.s (.bool false))))⟩])
 (.seq (.seq (.ops [⟨some 14, none, .h (.call (.k (.fn 31 [])) [])⟩,
 ⟨some 15, none, .p (.un .not (.t 14))⟩])
 (.cond (.t 15)
 (.seq (.ops [⟨some 6, none, .p (.mv (.k (.s (.bool false))))⟩])
 .ret)
 .skip))
 (.seq (.ops [⟨some 16, none, .p (.mv (.t 0))⟩,
 ⟨some 17, none, .h (.call (.k (.fn 30 [])) [(.t 16), (.k (.s (.int .i64 64)))])⟩,
 ⟨some 7, none, .p (.mv (.t 17))⟩])
 (.seq (.ops [⟨some 18, none, .p (.mv (.t 7))⟩,
 ⟨some 19, none, .p (.mv (.t 1))⟩,
 ⟨some 20, none, .p (.mv (.t 2))⟩,
 ⟨some 21, none, .h (.call (.k (.fn 32 [])) [(.t 18), (.t 19), (.t 20)])⟩,
 ⟨some 8, none, .p (.mv (.t 21))⟩])
 (.seq (.seq (.ops [⟨some 22, none, .p (.mv (.t 8))⟩,
 ⟨some 23, none, .p (.len (.t 22))⟩,
 ⟨some 24, none, .p (.bin .gtr (.t 23) (.k (.s (.int .i64 7))))⟩,
 ⟨some 25, none, .p (.mv (.t 24))⟩,
 ⟨some 26, some (25, false), .p (.mv (.t 1))⟩,
 ⟨some 27, some (25, false), .p (.bin .eql (.t 26) (.k (.s (.int .i64 0))))⟩,
 ⟨some 28, some (25, false), .p (.mv (.t 27))⟩,
 ⟨some 29, some (28, true), .p (.mv (.t 2))⟩,
 ⟨some 30, some (28, true), .p (.bin .eql (.t 29) (.k (.s (.int .i64 0))))⟩,
 ⟨some 31, some (25, false), .p (.pick (.t 28) (.t 30) (.k (.s (.bool false))))⟩,
 ⟨some 32, some (25, false), .p (.mv (.t 31))⟩,
 ⟨some 33, some (32, true), .p (.mv (.t 8))⟩,
 ⟨some 34, some (32, true), .p (.len (.t 33))⟩,
 ⟨some 35, some (32, true), .p (.bin .gtr (.t 34) (.k (.s (.int .i64 0))))⟩,
 ⟨some 36, some (25, false), .p (.pick (.t 32) (.t 35) (.k (.s (.bool false))))⟩,
 ⟨some 37, none, .p (.pick (.t 25) (.k (.s (.bool true))) (.t 36))⟩])
 (.cond (.t 37)
 (.seq (.ops [⟨some 6, none, .p (.mv (.k (.s (.bool false))))⟩])
 .ret)
 .skip))
 (.seq (.ops [⟨some 38, none, .p (.mv (.t 7))⟩,
 ⟨some 9, none, .p (.mv (.t 38))⟩])
 (.seq (.seq (.ops [⟨some 10, none, .p (.mv (.k (.s (.int .i64 0))))⟩])
 (.block 0 (.loop (.seq (.seq (.ops [⟨some 39, none, .p (.mv (.t 10))⟩,
 ⟨some 40, none, .p (.mv (.t 8))⟩,
 ⟨some 41, none, .p (.len (.t 40))⟩,
 ⟨some 42, none, .p (.bin .lss (.t 39) (.t 41))⟩])
 (.cond (.t 42)
 .skip
 (.exit 0)))
 (.seq (.block 1 (.seq (.seq (.ops [⟨some 45, none, .p (.mv (.t 8))⟩,
 ⟨some 46, none, .p (.mv (.t 10))⟩,
 ⟨some 47, none, .p (.ixs 1 (.t 45) (.t 46))⟩,
 ⟨some 48, none, .h (.load false 1 (.t 47))⟩,
 ⟨some 49, none, .p (.mv (.t 7))⟩,
 ⟨some 50, none, .p (.bin .eql (.t 48) (.t 49))⟩,
 ⟨some 51, none, .p (.mv (.t 50))⟩,
 ⟨some 52, some (51, false), .p (.mv (.t 9))⟩,
 ⟨some 53, some (51, false), .p (.mv (.t 1))⟩,
 ⟨some 54, some (51, false), .p (.mv (.t 2))⟩,
 ⟨some 55, some (51, false), .h (.callq (.k (.fn 33 [])) [(.t 52), (.t 53), (.t 54)])⟩,
 ⟨some 56, some (51, false), .p (.mv (.t 8))⟩,
 ⟨some 57, some (51, false), .p (.mv (.t 10))⟩,
 ⟨some 58, some (51, false), .p (.ixs 1 (.t 56) (.t 57))⟩,
 ⟨some 59, some (51, false), .h (.load false 1 (.t 58))⟩,
 ⟨some 60, some (51, false), .p (.bin .neq (.t 55) (.t 59))⟩,
 ⟨some 61, none, .p (.pick (.t 51) (.k (.s (.bool true))) (.t 60))⟩])
 (.cond (.t 61)
 (.seq (.ops [⟨some 6, none, .p (.mv (.k (.s (.bool false))))⟩])
 .ret)
 .skip))
 (.seq (.seq (.ops [⟨some 11, none, .p (.mv (.k (.s (.int .i64 0))))⟩])
 (.block 2 (.loop (.seq (.seq (.ops [⟨some 62, none, .p (.mv (.t 11))⟩,
 ⟨some 63, none, .p (.mv (.t 10))⟩,
 ⟨some 64, none, .p (.bin .lss (.t 62) (.t 63))⟩])
 (.cond (.t 64)
 .skip
 (.exit 2)))
 (.seq (.block 3 (.seq (.ops [⟨some 67, none, .p (.mv (.t 8))⟩,
 ⟨some 68, none, .p (.mv (.t 11))⟩,
 ⟨some 69, none, .p (.ixs 1 (.t 67) (.t 68))⟩,
 ⟨some 70, none, .h (.load false 1 (.t 69))⟩,
 ⟨some 71, none, .p (.mv (.t 8))⟩,
 ⟨some 72, none, .p (.mv (.t 10))⟩,
 ⟨some 73, none, .p (.ixs 1 (.t 71) (.t 72))⟩,
 ⟨some 74, none, .h (.load false 1 (.t 73))⟩,
 ⟨some 75, none, .p (.bin .eql (.t 70) (.t 74))⟩])
 (.cond (.t 75)
 (.seq (.ops [⟨some 6, none, .p (.mv (.k (.s (.bool false))))⟩])
 .ret)
 .skip)))
 (.ops [⟨some 65, none, .p (.mv (.t 11))⟩,
 ⟨some 66, none, .p (.bin .add (.t 65) (.k (.s (.int .i64 1))))⟩,
 ⟨some 11, none, .p (.mv (.t 66))⟩]))))))
 (.ops [⟨some 76, none, .p (.mv (.t 8))⟩,
 ⟨some 77, none, .p (.mv (.t 10))⟩,
 ⟨some 78, none, .p (.ixs 1 (.t 76) (.t 77))⟩,
 ⟨some 79, none, .h (.load false 1 (.t 78))⟩,
 ⟨some 9, none, .p (.mv (.t 79))⟩]))))
 (.ops [⟨some 43, none, .p (.mv (.t 10))⟩,
 ⟨some 44, none, .p (.bin .add (.t 43) (.k (.s (.int .i64 1))))⟩,
 ⟨some 10, none, .p (.mv (.t 44))⟩]))))))
 (.seq (.seq (.ops [⟨some 80, none, .p (.mv (.t 8))⟩,
 ⟨some 81, none, .p (.len (.t 80))⟩,
 ⟨some 82, none, .p (.bin .eql (.t 81) (.k (.s (.int .i64 0))))⟩])
 (.cond (.t 82)
 (.seq (.ops [⟨some 83, none, .p (.mv (.t 1))⟩,
 ⟨some 84, none, .p (.bin .eql (.t 83) (.k (.s (.int .i64 0))))⟩,
 ⟨some 85, none, .p (.mv (.t 84))⟩,
 ⟨some 86, some (85, true), .p (.mv (.t 2))⟩,
 ⟨some 87, some (85, true), .p (.bin .eql (.t 86) (.k (.s (.int .i64 0))))⟩,
 ⟨some 88, none, .p (.pick (.t 85) (.t 87) (.k (.s (.bool false))))⟩,
 ⟨some 89, none, .p (.mv (.t 88))⟩,
 ⟨some 90, some (89, false), .p (.mv (.t 7))⟩,
 ⟨some 91, some (89, false), .p (.mv (.t 1))⟩,
 ⟨some 92, some (89, false), .p (.mv (.t 2))⟩,
 ⟨some 93, some (89, false), .h (.call (.k (.fn 33 [])) [(.t 90), (.t 91), (.t 92)])⟩,
 ⟨some 94, some (89, false), .p (.bin .eql (.t 93) (.k (.s (.int .i64 (-1)))))⟩,
 ⟨some 95, none, .p (.pick (.t 89) (.k (.s (.bool true))) (.t 94))⟩,
 ⟨some 6, none, .p (.mv (.t 95))⟩])
 .ret)
 .skip))
 (.seq (.ops [⟨some 96, none, .p (.mv (.t 9))⟩,
 ⟨some 97, none, .p (.mv (.t 1))⟩,
 ⟨some 98, none, .p (.un .neg (.t 97))⟩,
 ⟨some 99, none, .p (.mv (.t 2))⟩,
 ⟨some 100, none, .p (.un .neg (.t 99))⟩,
 ⟨some 101, none, .h (.call (.k (.fn 32 [])) [(.t 96), (.t 98), (.t 100)])⟩,
 ⟨some 12, none, .p (.mv (.t 101))⟩])
 (.seq (.seq (.ops [⟨some 102, none, .p (.mv (.t 12))⟩,
 ⟨some 103, none, .p (.len (.t 102))⟩,
 ⟨some 104, none, .p (.mv (.t 8))⟩,
 ⟨some 105, none, .p (.len (.t 104))⟩,
 ⟨some 106, none, .p (.bin .lss (.t 103) (.t 105))⟩,
 ⟨some 107, none, .p (.mv (.t 106))⟩,
 ⟨some 108, some (107, false), .p (.mv (.t 12))⟩,
 ⟨some 109, some (107, false), .p (.mv (.t 8))⟩,
 ⟨some 110, some (107, false), .p (.len (.t 109))⟩,
 ⟨some 111, some (107, false), .p (.bin .sub (.t 110) (.k (.s (.int .i64 1))))⟩,
 ⟨some 112, some (107, false), .p (.ixs 1 (.t 108) (.t 111))⟩,
 ⟨some 113, some (107, false), .h (.load false 1 (.t 112))⟩,
 ⟨some 114, some (107, false), .p (.mv (.t 7))⟩,
 ⟨some 115, some (107, false), .p (.bin .neq (.t 113) (.t 114))⟩,
 ⟨some 116, none, .p (.pick (.t 107) (.k (.s (.bool true))) (.t 115))⟩,
 ⟨some 117, none, .p (.mv (.t 116))⟩,
 ⟨some 118, some (117, false), .p (.mv (.t 9))⟩,
 ⟨some 119, some (117, false), .p (.mv (.t 1))⟩,
 ⟨some 120, some (117, false), .p (.mv (.t 2))⟩,
 ⟨some 121, some (117, false), .h (.call (.k (.fn 33 [])) [(.t 118), (.t 119), (.t 120)])⟩,
 ⟨some 122, some (117, false), .p (.bin .neq (.t 121) (.k (.s (.int .i64 (-1)))))⟩,
 ⟨some 123, none, .p (.pick (.t 117) (.k (.s (.bool true))) (.t 122))⟩])
 (.cond (.t 123)
 (.seq (.ops [⟨some 6, none, .p (.mv (.k (.s (.bool false))))⟩])
 .ret)
 .skip))
 (.seq (.seq (.ops [⟨some 13, none, .p (.mv (.k (.s (.int .i64 0))))⟩])
 (.block 4 (.loop (.seq (.seq (.ops [⟨some 124, none, .p (.mv (.t 13))⟩,
 ⟨some 125, none, .p (.bin .add (.t 124) (.k (.s (.int .i64 1))))⟩,
 ⟨some 126, none, .p (.mv (.t 8))⟩,
 ⟨some 127, none, .p (.len (.t 126))⟩,
 ⟨some 128, none, .p (.bin .lss (.t 125) (.t 127))⟩])
 (.cond (.t 128)
 .skip
 (.exit 4)))
 (.seq (.block 5 (.seq (.ops [⟨some 131, none, .p (.mv (.t 12))⟩,
 ⟨some 132, none, .p (.mv (.t 13))⟩,
 ⟨some 133, none, .p (.ixs 1 (.t 131) (.t 132))⟩,
 ⟨some 134, none, .h (.load false 1 (.t 133))⟩,
 ⟨some 135, none, .p (.mv (.t 8))⟩,
 ⟨some 136, none, .p (.mv (.t 8))⟩,
 ⟨some 137, none, .p (.len (.t 136))⟩,
 ⟨some 138, none, .p (.bin .sub (.t 137) (.k (.s (.int .i64 2))))⟩,
 ⟨some 139, none, .p (.mv (.t 13))⟩,
 ⟨some 140, none, .p (.bin .sub (.t 138) (.t 139))⟩,
 ⟨some 141, none, .p (.ixs 1 (.t 135) (.t 140))⟩,
 ⟨some 142, none, .h (.load false 1 (.t 141))⟩,
 ⟨some 143, none, .p (.bin .neq (.t 134) (.t 142))⟩])
 (.cond (.t 143)
 (.seq (.ops [⟨some 6, none, .p (.mv (.k (.s (.bool false))))⟩])
 .ret)
 .skip)))
 (.ops [⟨some 129, none, .p (.mv (.t 13))⟩,
 ⟨some 130, none, .p (.bin .add (.t 129) (.k (.s (.int .i64 1))))⟩,
 ⟨some 13, none, .p (.mv (.t 130))⟩]))))))
 (.seq (.ops [⟨some 6, none, .p (.mv (.k (.s (.bool true))))⟩])
 .ret))))))))))))⟩
theorem c6 : compF Try.prog Try.f6 = some a6 := by kernel_rfl
/-- zugzwang/zugzwanglaw05.SquareBack -/
def a7 : AF := ⟨128, [.tmp 8],
 (.seq (.ops [⟨some 8, none, .p (.mv (.k (.s (.bool false))))⟩])
 (.seq (.seq (.ops [⟨some 17, none, .h (.call (.k (.fn 31 [])) [])⟩,
 ⟨some 18, none, .p (.un .not (.t 17))⟩])
 (.cond (.t 18)
 (.seq (.ops [⟨some 8, none, .p (.mv (.k (.s (.bool false))))⟩])
 .ret)
 .skip))
 (.seq (.ops [⟨some 19, none, .p (.mv (.t 0))⟩,
 ⟨some 20, none, .h (.call (.k (.fn 30 [])) [(.t 19), (.k (.s (.int .i64 64)))])⟩,
 ⟨some 9, none, .p (.mv (.t 20))⟩])
 (.seq (.ops [⟨some 21, none, .p (.mv (.t 1))⟩,
 ⟨some 22, none, .h (.call (.k (.fn 30 [])) [(.t 21), (.k (.s (.int .i64 15)))])⟩,
 ⟨some 23, none, .p (.bin .sub (.t 22) (.k (.s (.int .i64 7))))⟩,
 ⟨some 24, none, .p (.mv (.t 2))⟩,
 ⟨some 25, none, .h (.call (.k (.fn 30 [])) [(.t 24), (.k (.s (.int .i64 15)))])⟩,
 ⟨some 26, none, .p (.bin .sub (.t 25) (.k (.s (.int .i64 7))))⟩,
 ⟨some 10, none, .p (.mv (.t 23))⟩,
 ⟨some 11, none, .p (.mv (.t 26))⟩])
 (.seq (.ops [⟨some 28, none, .p (.mv (.t 9))⟩,
 ⟨some 29, none, .h (.call (.k (.fn 35 [])) [(.t 28)])⟩,
 ⟨some 30, none, .h (.call (.k (.fn 34 [])) [(.t 29)])⟩,
 ⟨some 27, none, .p (.mv (.t 30))⟩,
 ⟨some 31, none, .p (.ext (.t 27) 0)⟩,
 ⟨some 32, none, .p (.ext (.t 27) 1)⟩,
 ⟨some 12, none, .p (.mv (.t 31))⟩,
 ⟨some 13, none, .p (.mv (.t 32))⟩])
 (.seq (.seq (.ops [⟨some 33, none, .p (.mv (.t 13))⟩,
 ⟨some 34, none, .p (.un .not (.t 33))⟩,
 ⟨some 35, none, .p (.mv (.t 34))⟩,
 ⟨some 36, some (35, false), .p (.mv (.t 12))⟩,
 ⟨some 37, some (35, false), .p (.mv (.t 9))⟩,
 ⟨some 38, some (35, false), .p (.bin .neq (.t 36) (.t 37))⟩,
 ⟨some 39, none, .p (.pick (.t 35) (.k (.s (.bool true))) (.t 38))⟩,
 ⟨some 40, none, .p (.mv (.t 39))⟩,
 ⟨some 41, some (40, false), .p (.mv (.t 9))⟩,
 ⟨some 42, some (40, false), .h (.call (.k (.fn 37 [])) [(.t 41)])⟩,
 ⟨some 43, some (40, false), .p (.mv (.t 9))⟩,
 ⟨some 44, some (40, false), .h (.call (.k (.fn 38 [])) [(.t 43)])⟩,
 ⟨some 45, some (40, false), .h (.call (.k (.fn 36 [])) [(.t 42), (.t 44)])⟩,
 ⟨some 46, some (40, false), .p (.mv (.t 9))⟩,
 ⟨some 47, some (40, false), .p (.bin .neq (.t 45) (.t 46))⟩,
 ⟨some 48, none, .p (.pick (.t 40) (.k (.s (.bool true))) (.t 47))⟩])
 (.cond (.t 48)
 (.seq (.ops [⟨some 8, none, .p (.mv (.k (.s (.bool false))))⟩])
 .ret)
 .skip))
 (.seq (.ops [⟨some 49, none, .p (.mv (.t 9))⟩,
 ⟨some 50, none, .p (.mv (.t 10))⟩,
 ⟨some 51, none, .p (.mv (.t 11))⟩,
 ⟨some 52, none, .h (.call (.k (.fn 33 [])) [(.t 49), (.t 50), (.t 51)])⟩,
 ⟨some 14, none, .p (.mv (.t 52))⟩])
 (.seq (.seq (.ops [⟨some 53, none, .p (.mv (.t 14))⟩,
 ⟨some 54, none, .p (.bin .geq (.t 53) (.k (.s (.int .i64 0))))⟩,
 ⟨some 55, none, .p (.mv (.t 14))⟩,
 ⟨some 56, none, .h (.call (.k (.fn 39 [])) [(.t 55)])⟩,
 ⟨some 57, none, .p (.eqb true (.t 54) (.t 56))⟩,
 ⟨some 58, none, .p (.mv (.t 57))⟩,
 ⟨some 59, some (58, false), .p (.mv (.t 14))⟩,
 ⟨some 60, some (58, false), .p (.bin .geq (.t 59) (.k (.s (.int .i64 0))))⟩,
 ⟨some 61, some (58, false), .p (.mv (.t 60))⟩,
 ⟨some 62, some (61, true), .p (.mv (.t 14))⟩,
 ⟨some 63, some (61, true), .p (.mv (.t 10))⟩,
 ⟨some 64, some (61, true), .p (.un .neg (.t 63))⟩,
 ⟨some 65, some (61, true), .p (.mv (.t 11))⟩,
 ⟨some 66, some (61, true), .p (.un .neg (.t 65))⟩,
 ⟨some 67, some (61, true), .h (.call (.k (.fn 33 [])) [(.t 62), (.t 64), (.t 66)])⟩,
 ⟨some 68, some (61, true), .p (.mv (.t 9))⟩,
 ⟨some 69, some (61, true), .p (.bin .neq (.t 67) (.t 68))⟩,
 ⟨some 70, some (61, true), .p (.mv (.t 69))⟩,
 ⟨some 71, some (70, false), .p (.mv (.t 14))⟩,
 ⟨some 72, some (70, false), .h (.call (.k (.fn 40 [])) [(.t 71)])⟩,
 ⟨some 73, some (70, false), .p (.mv (.t 9))⟩,
 ⟨some 74, some (70, false), .h (.call (.k (.fn 40 [])) [(.t 73)])⟩,
 ⟨some 75, some (70, false), .p (.mv (.t 10))⟩,
 ⟨some 76, some (70, false), .p (.mv (.t 11))⟩,
 ⟨some 77, some (70, false), .p (.bin .add (.t 75) (.t 76))⟩,
 ⟨some 78, some (70, false), .p (.bin .add (.t 77) (.k (.s (.int .i64 14))))⟩,
 ⟨some 79, some (70, false), .p (.bin .rem (.t 78) (.k (.s (.int .i64 2))))⟩,
 ⟨some 80, some (70, false), .p (.bin .eql (.t 79) (.k (.s (.int .i64 0))))⟩,
 ⟨some 81, some (70, false), .p (.eqb false (.t 74) (.t 80))⟩,
 ⟨some 82, some (70, false), .p (.eqb true (.t 72) (.t 81))⟩,
 ⟨some 83, some (61, true), .p (.pick (.t 70) (.k (.s (.bool true))) (.t 82))⟩,
 ⟨some 84, some (58, false), .p (.pick (.t 61) (.t 83) (.k (.s (.bool false))))⟩,
 ⟨some 85, none, .p (.pick (.t 58) (.k (.s (.bool true))) (.t 84))⟩])
 (.cond (.t 85)
 (.seq (.ops [⟨some 8, none, .p (.mv (.k (.s (.bool false))))⟩])
 .ret)
 .skip))
 (.seq (.ops [⟨some 86, none, .p (.mv (.t 3))⟩,
 ⟨some 87, none, .h (.call (.k (.fn 30 [])) [(.t 86), (.k (.s (.int .i64 15)))])⟩,
 ⟨some 88, none, .p (.bin .sub (.t 87) (.k (.s (.int .i64 7))))⟩,
 ⟨some 15, none, .p (.mv (.t 88))⟩])
 (.seq (.ops [⟨some 89, none, .p (.mv (.t 14))⟩,
 ⟨some 90, none, .p (.mv (.t 15))⟩,
 ⟨some 91, none, .h (.call (.k (.fn 33 [])) [(.t 89), (.t 90), (.k (.s (.int .i64 0)))])⟩,
 ⟨some 16, none, .p (.mv (.t 91))⟩])
 (.seq (.ops [⟨some 92, none, .p (.mv (.t 14))⟩,
 ⟨some 93, none, .p (.bin .lss (.t 92) (.k (.s (.int .i64 0))))⟩,
 ⟨some 94, none, .p (.mv (.t 93))⟩,
 ⟨some 95, some (94, true), .p (.mv (.t 16))⟩,
 ⟨some 96, some (94, true), .p (.bin .eql (.t 95) (.k (.s (.int .i64 (-1)))))⟩,
 ⟨some 97, none, .p (.pick (.t 94) (.t 96) (.k (.s (.bool false))))⟩,
 ⟨some 98, none, .p (.mv (.t 97))⟩,
 ⟨some 99, some (98, false), .p (.mv (.t 14))⟩,
 ⟨some 100, some (98, false), .p (.bin .geq (.t 99) (.k (.s (.int .i64 0))))⟩,
 ⟨some 101, some (98, false), .p (.mv (.t 100))⟩,
 ⟨some 102, some (101, true), .p (.mv (.t 16))⟩,
 ⟨some 103, some (101, true), .p (.bin .lss (.t 102) (.k (.s (.int .i64 0))))⟩,
 ⟨some 104, some (101, true), .p (.mv (.t 103))⟩,
 ⟨some 105, some (104, false), .p (.mv (.t 10))⟩,
 ⟨some 106, some (104, false), .p (.mv (.t 15))⟩,
 ⟨some 107, some (104, false), .p (.bin .add (.t 105) (.t 106))⟩,
 ⟨some 108, some (104, false), .p (.bin .gtr (.t 107) (.k (.s (.int .i64 7))))⟩,
 ⟨some 109, some (101, true), .p (.pick (.t 104) (.k (.s (.bool true))) (.t 108))⟩,
 ⟨some 110, some (101, true), .p (.mv (.t 109))⟩,
 ⟨some 111, some (110, false), .p (.mv (.t 10))⟩,
 ⟨some 112, some (110, false), .p (.mv (.t 15))⟩,
 ⟨some 113, some (110, false), .p (.bin .add (.t 111) (.t 112))⟩,
 ⟨some 114, some (110, false), .p (.bin .lss (.t 113) (.k (.s (.int .i64 (-7)))))⟩,
 ⟨some 115, some (101, true), .p (.pick (.t 110) (.k (.s (.bool true))) (.t 114))⟩,
 ⟨some 116, some (101, true), .p (.mv (.t 115))⟩,
 ⟨some 117, some (116, false), .p (.mv (.t 9))⟩,
 ⟨some 118, some (116, false), .p (.mv (.t 10))⟩,
 ⟨some 119, some (116, false), .p (.mv (.t 15))⟩,
 ⟨some 120, some (116, false), .p (.bin .add (.t 118) (.t 119))⟩,
 ⟨some 121, some (116, false), .p (.mv (.t 11))⟩,
 ⟨some 122, some (116, false), .h (.call (.k (.fn 33 [])) [(.t 117), (.t 120), (.t 121)])⟩,
 ⟨some 123, some (116, false), .p (.mv (.t 16))⟩,
 ⟨some 124, some (116, false), .p (.bin .eql (.t 122) (.t 123))⟩,
 ⟨some 125, some (101, true), .p (.pick (.t 116) (.k (.s (.bool true))) (.t 124))⟩,
 ⟨some 126, some (98, false), .p (.pick (.t 101) (.t 125) (.k (.s (.bool false))))⟩,
 ⟨some 127, none, .p (.pick (.t 98) (.k (.s (.bool true))) (.t 126))⟩,
 ⟨some 8, none, .p (.mv (.t 127))⟩])
 .ret)))))))))))⟩
theorem c7 : compF Try.prog Try.f7 = some a7 := by kernel_rfl
/-- zugzwang/zugzwanglaw05.SquareTells -/
def a8 : AF := ⟨140, [.tmp 10],
 (.seq (.ops [⟨some 10, none, .p (.mv (.k (.s (.bool false))))⟩])
 (.seq (.seq (.ops [⟨some 18, none, .p (.mv (.t 4))⟩,
 ⟨some 19, none, .p (.len (.t 18))⟩,
 ⟨some 20, none, .p (.bin .gtr (.t 19) (.k (.s (.int .i64 300))))⟩,
 ⟨some 21, none, .p (.mv (.t 20))⟩,
 ⟨some 22, some (21, false), .p (.mv (.t 3))⟩,
 ⟨some 23, some (21, false), .p (.lenS (.t 22))⟩,
 ⟨some 24, some (21, false), .p (.bin .gtr (.t 23) (.k (.s (.int .i64 300))))⟩,
 ⟨some 25, none, .p (.pick (.t 21) (.k (.s (.bool true))) (.t 24))⟩])
 (.cond (.t 25)
 (.seq (.ops [⟨some 26, none, .h (.call (.k (.fn 31 [])) [])⟩,
 ⟨some 10, none, .p (.mv (.t 26))⟩])
 .ret)
 .skip))
 (.seq (.ops [⟨some 28, none, .p (.mv (.t 3))⟩,
 ⟨some 29, none, .h (.call (.k (.fn 34 [])) [(.t 28)])⟩,
 ⟨some 27, none, .p (.mv (.t 29))⟩,
 ⟨some 30, none, .p (.ext (.t 27) 0)⟩,
 ⟨some 31, none, .p (.ext (.t 27) 1)⟩,
 ⟨some 11, none, .p (.mv (.t 30))⟩,
 ⟨some 12, none, .p (.mv (.t 31))⟩])
 (.seq (.ops [⟨some 33, none, .p (.mv (.t 3))⟩,
 ⟨some 34, none, .h (.call (.k (.fn 41 [])) [(.t 33)])⟩,
 ⟨some 32, none, .p (.mv (.t 34))⟩,
 ⟨some 35, none, .p (.ext (.t 32) 0)⟩,
 ⟨some 36, none, .p (.ext (.t 32) 1)⟩,
 ⟨some 13, none, .p (.mv (.t 35))⟩,
 ⟨some 14, none, .p (.mv (.t 36))⟩])
 (.seq (.seq (.ops [⟨some 37, none, .p (.mv (.t 0))⟩,
 ⟨some 38, none, .h (.call (.k (.fn 39 [])) [(.t 37)])⟩,
 ⟨some 39, none, .p (.mv (.t 0))⟩,
 ⟨some 40, none, .h (.call (.k (.fn 42 [])) [(.t 39)])⟩,
 ⟨some 41, none, .p (.eqb true (.t 38) (.t 40))⟩,
 ⟨some 42, none, .p (.mv (.t 41))⟩,
 ⟨some 43, some (42, false), .p (.mv (.t 1))⟩,
 ⟨some 44, some (42, false), .p (.mv (.t 2))⟩,
 ⟨some 45, some (42, false), .h (.call (.k (.fn 36 [])) [(.t 43), (.t 44)])⟩,
 ⟨some 46, some (42, false), .p (.mv (.t 1))⟩,
 ⟨some 47, some (42, false), .p (.mv (.t 2))⟩,
 ⟨some 48, some (42, false), .h (.call (.k (.fn 43 [])) [(.t 46), (.t 47)])⟩,
 ⟨some 49, some (42, false), .p (.bin .neq (.t 45) (.t 48))⟩,
 ⟨some 50, none, .p (.pick (.t 42) (.k (.s (.bool true))) (.t 49))⟩,
 ⟨some 51, none, .p (.mv (.t 50))⟩,
 ⟨some 52, some (51, false), .p (.mv (.t 0))⟩,
 ⟨some 53, some (51, false), .h (.call (.k (.fn 37 [])) [(.t 52)])⟩,
 ⟨some 54, some (51, false), .p (.mv (.t 0))⟩,
 ⟨some 55, some (51, false), .h (.call (.k (.fn 44 [])) [(.t 54)])⟩,
 ⟨some 56, some (51, false), .p (.bin .neq (.t 53) (.t 55))⟩,
 ⟨some 57, none, .p (.pick (.t 51) (.k (.s (.bool true))) (.t 56))⟩,
 ⟨some 58, none, .p (.mv (.t 57))⟩,
 ⟨some 59, some (58, false), .p (.mv (.t 0))⟩,
 ⟨some 60, some (58, false), .h (.call (.k (.fn 38 [])) [(.t 59)])⟩,
 ⟨some 61, some (58, false), .p (.mv (.t 0))⟩,
 ⟨some 62, some (58, false), .h (.call (.k (.fn 45 [])) [(.t 61)])⟩,
 ⟨some 63, some (58, false), .p (.bin .neq (.t 60) (.t 62))⟩,
 ⟨some 64, none, .p (.pick (.t 58) (.k (.s (.bool true))) (.t 63))⟩,
 ⟨some 65, none, .p (.mv (.t 64))⟩,
 ⟨some 66, some (65, false), .p (.mv (.t 0))⟩,
 ⟨some 67, some (65, false), .h (.call (.k (.fn 40 [])) [(.t 66)])⟩,
 ⟨some 68, some (65, false), .p (.mv (.t 0))⟩,
 ⟨some 69, some (65, false), .h (.call (.k (.fn 46 [])) [(.t 68)])⟩,
 ⟨some 70, some (65, false), .p (.eqb true (.t 67) (.t 69))⟩,
 ⟨some 71, none, .p (.pick (.t 65) (.k (.s (.bool true))) (.t 70))⟩,
 ⟨some 72, none, .p (.mv (.t 71))⟩,
 ⟨some 73, some (72, false), .p (.mv (.t 0))⟩,
 ⟨some 74, some (72, false), .h (.call (.k (.fn 35 [])) [(.t 73)])⟩,
 ⟨some 75, some (72, false), .p (.mv (.t 0))⟩,
 ⟨some 76, some (72, false), .h (.call (.k (.fn 47 [])) [(.t 75)])⟩,
 ⟨some 77, some (72, false), .p (.bin .neq (.t 74) (.t 76))⟩,
 ⟨some 78, none, .p (.pick (.t 72) (.k (.s (.bool true))) (.t 77))⟩,
 ⟨some 79, none, .p (.mv (.t 78))⟩,
 ⟨some 80, some (79, false), .p (.mv (.t 11))⟩,
 ⟨some 81, some (79, false), .p (.mv (.t 13))⟩,
 ⟨some 82, some (79, false), .p (.bin .neq (.t 80) (.t 81))⟩,
 ⟨some 83, none, .p (.pick (.t 79) (.k (.s (.bool true))) (.t 82))⟩,
 ⟨some 84, none, .p (.mv (.t 83))⟩,
 ⟨some 85, some (84, false), .p (.mv (.t 12))⟩,
 ⟨some 86, some (84, false), .p (.mv (.t 14))⟩,
 ⟨some 87, some (84, false), .p (.eqb true (.t 85) (.t 86))⟩,
 ⟨some 88, none, .p (.pick (.t 84) (.k (.s (.bool true))) (.t 87))⟩])
 (.cond (.t 88)
 (.seq (.ops [⟨some 10, none, .p (.mv (.k (.s (.bool false))))⟩])
 .ret)
 .skip))
 (.seq (.ops [⟨some 89, none, .h (.mksl 0 2 (.ints 2) [])⟩,
 ⟨some 90, none, .p (.mv (.t 4))⟩,
 ⟨some 91, none, .h (.append 2 16 (.t 89) (.t 90))⟩,
 ⟨some 15, none, .p (.mv (.t 91))⟩])
 (.seq (.ops [⟨some 92, none, .p (.mv (.t 0))⟩,
 ⟨some 93, none, .p (.mv (.t 1))⟩,
 ⟨some 94, none, .p (.mv (.t 2))⟩,
 ⟨some 95, none, .h (.call (.k (.fn 33 [])) [(.t 92), (.t 93), (.t 94)])⟩,
 ⟨some 96, none, .p (.mv (.t 0))⟩,
 ⟨some 97, none, .p (.mv (.t 1))⟩,
 ⟨some 98, none, .p (.mv (.t 2))⟩,
 ⟨some 99, none, .h (.call (.k (.fn 48 [])) [(.t 96), (.t 97), (.t 98)])⟩,
 ⟨some 100, none, .p (.bin .eql (.t 95) (.t 99))⟩,
 ⟨some 101, none, .p (.mv (.t 100))⟩,
 ⟨some 102, some (101, true), .p (.mv (.t 0))⟩,
 ⟨some 103, some (101, true), .p (.mv (.t 1))⟩,
 ⟨some 104, some (101, true), .p (.mv (.t 2))⟩,
 ⟨some 105, some (101, true), .h (.call (.k (.fn 32 [])) [(.t 102), (.t 103), (.t 104)])⟩,
 ⟨some 106, some (101, true), .p (.mv (.t 0))⟩,
 ⟨some 107, some (101, true), .p (.mv (.t 1))⟩,
 ⟨some 108, some (101, true), .p (.mv (.t 2))⟩,
 ⟨some 109, some (101, true), .h (.call (.k (.fn 50 [])) [(.t 106), (.t 107), (.t 108)])⟩,
 ⟨some 110, some (101, true), .h (.call (.k (.fn 49 [])) [(.t 105), (.t 109)])⟩,
 ⟨some 111, none, .p (.pick (.t 101) (.t 110) (.k (.s (.bool false))))⟩,
 ⟨some 112, none, .p (.mv (.t 111))⟩,
 ⟨some 113, some (112, true), .p (.mv (.t 0))⟩,
 ⟨some 114, some (112, true), .p (.mv (.t 15))⟩,
 ⟨some 115, some (112, true), .h (.call (.k (.fn 51 [])) [(.t 113), (.t 114)])⟩,
 ⟨some 116, some (112, true), .p (.mv (.t 0))⟩,
 ⟨some 117, some (112, true), .p (.mv (.t 4))⟩,
 ⟨some 118, some (112, true), .h (.call (.k (.fn 52 [])) [(.t 116), (.t 117)])⟩,
 ⟨some 119, some (112, true), .h (.call (.k (.fn 49 [])) [(.t 115), (.t 118)])⟩,
 ⟨some 120, none, .p (.pick (.t 112) (.t 119) (.k (.s (.bool false))))⟩,
 ⟨some 16, none, .p (.mv (.t 120))⟩])
 (.seq (.seq (.ops [⟨some 17, none, .p (.mv (.k (.s (.int .i64 0))))⟩])
 (.block 0 (.loop (.seq (.seq (.ops [⟨some 121, none, .p (.mv (.t 17))⟩,
 ⟨some 122, none, .p (.mv (.t 4))⟩,
 ⟨some 123, none, .p (.len (.t 122))⟩,
 ⟨some 124, none, .p (.bin .lss (.t 121) (.t 123))⟩])
 (.cond (.t 124)
 .skip
 (.exit 0)))
 (.seq (.block 1 (.seq (.ops [⟨some 127, none, .p (.mv (.t 15))⟩,
 ⟨some 128, none, .p (.mv (.t 17))⟩,
 ⟨some 129, none, .p (.ixs 2 (.t 127) (.t 128))⟩,
 ⟨some 130, none, .h (.load true 2 (.t 129))⟩,
 ⟨some 131, none, .p (.mv (.t 4))⟩,
 ⟨some 132, none, .p (.mv (.t 17))⟩,
 ⟨some 133, none, .p (.ixs 2 (.t 131) (.t 132))⟩,
 ⟨some 134, none, .h (.load true 2 (.t 133))⟩,
 ⟨some 135, none, .p (.eqa true 2 (.t 130) (.t 134))⟩])
 (.cond (.t 135)
 (.seq (.ops [⟨some 10, none, .p (.mv (.k (.s (.bool false))))⟩])
 .ret)
 .skip)))
 (.ops [⟨some 125, none, .p (.mv (.t 17))⟩,
 ⟨some 126, none, .p (.bin .add (.t 125) (.k (.s (.int .i64 1))))⟩,
 ⟨some 17, none, .p (.mv (.t 126))⟩]))))))
 (.seq (.ops [⟨some 136, none, .p (.mv (.t 16))⟩,
 ⟨some 137, none, .p (.mv (.t 136))⟩,
 ⟨some 138, some (137, true), .h (.call (.k (.fn 31 [])) [])⟩,
 ⟨some 139, none, .p (.pick (.t 137) (.t 138) (.k (.s (.bool false))))⟩,
 ⟨some 10, none, .p (.mv (.t 139))⟩])
 .ret)))))))))⟩
theorem c8 : compF Try.prog Try.f8 = some a8 := by kernel_rfl
/-- zugzwang/zugzwanglaw08.PlayFew -/
def a17 : AF := ⟨223, [.tmp 8],
 (.seq (.ops [⟨some 4, none, .h (.box (.t 0))⟩,
 ⟨some 8, none, .p (.mv (.k (.s (.bool false))))⟩])
 (.seq (.seq (.ops [⟨some 20, none, .h (.call (.k (.fn 61 [])) [])⟩,
 ⟨some 21, none, .p (.un .not (.t 20))⟩])
 (.cond (.t 21)
 (.seq (.ops [⟨some 8, none, .p (.mv (.k (.s (.bool false))))⟩])
 .ret)
 .skip))
 (.seq (.seq (.ops [⟨some 22, none, .h (.load true 133 (.t 4))⟩,
 ⟨some 23, none, .h (.call (.k (.fn 56 [])) [(.t 22)])⟩,
 ⟨some 24, none, .p (.un .not (.t 23))⟩])
 (.cond (.t 24)
 (.seq (.ops [⟨some 8, none, .p (.mv (.k (.s (.bool true))))⟩])
 .ret)
 .skip))
 (.seq (.ops [⟨some 25, none, .h (.load true 133 (.t 4))⟩,
 ⟨some 26, none, .p (.mv (.t 1))⟩,
 ⟨some 27, none, .p (.mv (.t 2))⟩,
 ⟨some 28, none, .p (.mv (.t 3))⟩,
 ⟨some 29, none, .h (.call (.k (.fn 79 [])) [(.t 25), (.t 26), (.t 27), (.t 28)])⟩,
 ⟨some 9, none, .h (.alloc (.ints 3))⟩,
 ⟨none, none, .h (.store 3 (.t 9) (.t 29))⟩])
 (.seq (.ops [⟨some 31, none, .h (.load true 133 (.t 4))⟩,
 ⟨some 32, none, .h (.load true 3 (.t 9))⟩,
 ⟨some 33, none, .h (.call (.k (.fn 64 [])) [(.t 31), (.t 32)])⟩,
 ⟨some 30, none, .p (.mv (.t 33))⟩,
 ⟨some 34, none, .p (.ext (.t 30) 0)⟩,
 ⟨some 35, none, .p (.ext (.t 30) 1)⟩,
 ⟨some 10, none, .h (.alloc (.ints 133))⟩,
 ⟨none, none, .h (.store 133 (.t 10) (.t 34))⟩,
 ⟨some 11, none, .p (.mv (.t 35))⟩])
 (.seq (.seq (.ops [⟨some 36, none, .p (.mv (.t 11))⟩,
 ⟨some 37, none, .p (.bin .neq (.t 36) (.k (.s (.int .i64 0))))⟩])
 (.cond (.t 37)
 (.seq (.ops [⟨some 38, none, .p (.mv (.t 11))⟩,
 ⟨some 39, none, .p (.bin .eql (.t 38) (.k (.s (.int .i64 6))))⟩,
 ⟨some 40, none, .p (.mv (.t 39))⟩,
 ⟨some 41, some (40, true), .p (.fa 0 1 (.t 9))⟩,
 ⟨some 42, some (40, true), .h (.load false 1 (.t 41))⟩,
 ⟨some 43, some (40, true), .p (.fa 1 1 (.t 9))⟩,
 ⟨some 44, some (40, true), .h (.load false 1 (.t 43))⟩,
 ⟨some 45, some (40, true), .p (.bin .eql (.t 42) (.t 44))⟩,
 ⟨some 46, none, .p (.pick (.t 40) (.t 45) (.k (.s (.bool false))))⟩,
 ⟨some 47, none, .p (.mv (.t 46))⟩,
 ⟨some 48, some (47, false), .p (.mv (.t 11))⟩,
 ⟨some 49, some (47, false), .p (.bin .eql (.t 48) (.k (.s (.int .i64 8))))⟩,
 ⟨some 50, some (47, false), .p (.mv (.t 49))⟩,
 ⟨some 51, some (50, true), .p (.fa 0 1 (.t 9))⟩,
 ⟨some 52, some (50, true), .h (.load false 1 (.t 51))⟩,
 ⟨some 53, some (50, true), .p (.fa 0 128 (.t 4))⟩,
 ⟨some 54, some (50, true), .p (.ixa 64 2 (.t 53) (.t 52))⟩,
 ⟨some 55, some (50, true), .p (.fa 0 1 (.t 54))⟩,
 ⟨some 56, some (50, true), .h (.load false 1 (.t 55))⟩,
 ⟨some 57, some (50, true), .p (.bin .eql (.t 56) (.k (.s (.int .i64 1))))⟩,
 ⟨some 58, some (47, false), .p (.pick (.t 50) (.t 57) (.k (.s (.bool false))))⟩,
 ⟨some 59, none, .p (.pick (.t 47) (.k (.s (.bool true))) (.t 58))⟩,
 ⟨some 8, none, .p (.mv (.t 59))⟩])
 .ret)
 .skip))
 (.seq (.seq (.ops [⟨some 60, none, .p (.fa 0 1 (.t 9))⟩,
 ⟨some 61, none, .h (.load false 1 (.t 60))⟩,
 ⟨some 62, none, .p (.fa 0 128 (.t 4))⟩,
 ⟨some 63, none, .p (.ixa 64 2 (.t 62) (.t 61))⟩,
 ⟨some 64, none, .p (.fa 0 1 (.t 63))⟩,
 ⟨some 65, none, .h (.load false 1 (.t 64))⟩,
 ⟨some 66, none, .p (.bin .eql (.t 65) (.k (.s (.int .i64 6))))⟩,
 ⟨some 67, none, .p (.mv (.t 66))⟩,
 ⟨some 68, some (67, true), .p (.fa 1 1 (.t 9))⟩,
 ⟨some 69, some (67, true), .h (.load false 1 (.t 68))⟩,
 ⟨some 70, some (67, true), .p (.fa 0 1 (.t 9))⟩,
 ⟨some 71, some (67, true), .h (.load false 1 (.t 70))⟩,
 ⟨some 72, some (67, true), .p (.bin .sub (.t 69) (.t 71))⟩,
 ⟨some 73, some (67, true), .p (.bin .eql (.t 72) (.k (.s (.int .i64 2))))⟩,
 ⟨some 74, some (67, true), .p (.mv (.t 73))⟩,
 ⟨some 75, some (74, false), .p (.fa 0 1 (.t 9))⟩,
 ⟨some 76, some (74, false), .h (.load false 1 (.t 75))⟩,
 ⟨some 77, some (74, false), .p (.fa 1 1 (.t 9))⟩,
 ⟨some 78, some (74, false), .h (.load false 1 (.t 77))⟩,
 ⟨some 79, some (74, false), .p (.bin .sub (.t 76) (.t 78))⟩,
 ⟨some 80, some (74, false), .p (.bin .eql (.t 79) (.k (.s (.int .i64 2))))⟩,
 ⟨some 81, some (67, true), .p (.pick (.t 74) (.k (.s (.bool true))) (.t 80))⟩,
 ⟨some 82, none, .p (.pick (.t 67) (.t 81) (.k (.s (.bool false))))⟩])
 (.cond (.t 82)
 (.seq (.ops [⟨some 8, none, .p (.mv (.k (.s (.bool true))))⟩])
 .ret)
 .skip))
 (.seq (.ops [⟨some 12, none, .p (.mv (.k (.s (.int .i64 0))))⟩,
 ⟨some 13, none, .p (.mv (.k (.s (.int .i64 0))))⟩,
 ⟨some 14, none, .p (.mv (.k (.s (.int .i64 0))))⟩])
 (.seq (.seq (.ops [⟨some 15, none, .p (.mv (.k (.s (.int .i64 0))))⟩])
 (.block 0 (.loop (.seq (.seq (.ops [⟨some 83, none, .p (.mv (.t 15))⟩,
 ⟨some 84, none, .p (.bin .lss (.t 83) (.k (.s (.int .i64 64))))⟩])
 (.cond (.t 84)
 .skip
 (.exit 0)))
 (.seq (.block 1 (.seq (.seq (.ops [⟨some 87, none, .p (.mv (.t 15))⟩,
 ⟨some 88, none, .p (.fa 0 128 (.t 4))⟩,
 ⟨some 89, none, .p (.ixa 64 2 (.t 88) (.t 87))⟩,
 ⟨some 90, none, .h (.load true 2 (.t 89))⟩,
 ⟨some 91, none, .p (.mv (.t 15))⟩,
 ⟨some 92, none, .p (.fa 0 128 (.t 10))⟩,
 ⟨some 93, none, .p (.ixa 64 2 (.t 92) (.t 91))⟩,
 ⟨some 94, none, .h (.load true 2 (.t 93))⟩,
 ⟨some 95, none, .p (.eqa true 2 (.t 90) (.t 94))⟩])
 (.cond (.t 95)
 (.ops [⟨some 96, none, .p (.mv (.t 12))⟩,
 ⟨some 97, none, .p (.bin .add (.t 96) (.k (.s (.int .i64 1))))⟩,
 ⟨some 12, none, .p (.mv (.t 97))⟩])
 .skip))
 (.seq (.seq (.ops [⟨some 98, none, .p (.mv (.t 15))⟩,
 ⟨some 99, none, .p (.fa 0 128 (.t 4))⟩,
 ⟨some 100, none, .p (.ixa 64 2 (.t 99) (.t 98))⟩,
 ⟨some 101, none, .p (.fa 0 1 (.t 100))⟩,
 ⟨some 102, none, .h (.load false 1 (.t 101))⟩,
 ⟨some 103, none, .p (.bin .neq (.t 102) (.k (.s (.int .i64 0))))⟩])
 (.cond (.t 103)
 (.ops [⟨some 104, none, .p (.mv (.t 13))⟩,
 ⟨some 105, none, .p (.bin .add (.t 104) (.k (.s (.int .i64 1))))⟩,
 ⟨some 13, none, .p (.mv (.t 105))⟩])
 .skip))
 (.seq (.ops [⟨some 106, none, .p (.mv (.t 15))⟩,
 ⟨some 107, none, .p (.fa 0 128 (.t 10))⟩,
 ⟨some 108, none, .p (.ixa 64 2 (.t 107) (.t 106))⟩,
 ⟨some 109, none, .p (.fa 0 1 (.t 108))⟩,
 ⟨some 110, none, .h (.load false 1 (.t 109))⟩,
 ⟨some 111, none, .p (.bin .neq (.t 110) (.k (.s (.int .i64 0))))⟩])
 (.cond (.t 111)
 (.ops [⟨some 112, none, .p (.mv (.t 14))⟩,
 ⟨some 113, none, .p (.bin .add (.t 112) (.k (.s (.int .i64 1))))⟩,
 ⟨some 14, none, .p (.mv (.t 113))⟩])
 .skip)))))
 (.ops [⟨some 85, none, .p (.mv (.t 15))⟩,
 ⟨some 86, none, .p (.bin .add (.t 85) (.k (.s (.int .i64 1))))⟩,
 ⟨some 15, none, .p (.mv (.t 86))⟩]))))))
 (.seq (.ops [⟨some 16, none, .p (.mv (.k (.s (.int .i64 0))))⟩])
 (.seq (.seq (.ops [⟨some 114, none, .h (.load true 133 (.t 4))⟩,
 ⟨some 115, none, .h (.load true 3 (.t 9))⟩,
 ⟨some 116, none, .h (.call (.k (.fn 66 [])) [(.t 114), (.t 115)])⟩,
 ⟨some 117, none, .p (.bin .geq (.t 116) (.k (.s (.int .i64 0))))⟩])
 (.cond (.t 117)
 (.ops [⟨some 16, none, .p (.mv (.k (.s (.int .i64 1))))⟩])
 .skip))
 (.seq (.ops [⟨some 118, none, .p (.fa 0 1 (.t 9))⟩,
 ⟨some 119, none, .h (.load false 1 (.t 118))⟩,
 ⟨some 120, none, .p (.fa 0 128 (.t 4))⟩,
 ⟨some 121, none, .p (.ixa 64 2 (.t 120) (.t 119))⟩,
 ⟨some 122, none, .h (.load true 2 (.t 121))⟩,
 ⟨some 123, none, .p (.fa 1 1 (.t 9))⟩,
 ⟨some 124, none, .h (.load false 1 (.t 123))⟩,
 ⟨some 125, none, .p (.fa 0 128 (.t 10))⟩,
 ⟨some 126, none, .p (.ixa 64 2 (.t 125) (.t 124))⟩,
 ⟨some 127, none, .h (.load true 2 (.t 126))⟩,
 ⟨some 17, none, .h (.allocd 2)⟩,
 ⟨some 18, none, .h (.allocd 2)⟩,
 ⟨none, none, .h (.init0 2 (.t 17) (.t 122))⟩,
 ⟨none, none, .h (.init0 2 (.t 18) (.t 127))⟩,
 ⟨none, none, .h (.revive 2 (.t 17) (.t 122))⟩,
 ⟨none, none, .h (.revive 2 (.t 18) (.t 127))⟩])
 (.seq (.ops [⟨some 128, none, .p (.fa 132 1 (.t 4))⟩,
 ⟨some 129, none, .h (.load false 1 (.t 128))⟩,
 ⟨some 19, none, .p (.mv (.t 129))⟩])
 (.seq (.seq (.ops [⟨some 130, none, .p (.fa 128 1 (.t 4))⟩,
 ⟨some 131, none, .h (.load false 1 (.t 130))⟩,
 ⟨some 132, none, .p (.bin .eql (.t 131) (.k (.s (.int .i64 1))))⟩,
 ⟨some 133, none, .p (.mv (.t 132))⟩,
 ⟨some 134, some (133, true), .p (.mv (.t 19))⟩,
 ⟨some 135, some (133, true), .p (.bin .lss (.t 134) (.k (.s (.int .i64 16384))))⟩,
 ⟨some 136, none, .p (.pick (.t 133) (.t 135) (.k (.s (.bool false))))⟩])
 (.cond (.t 136)
 (.ops [⟨some 137, none, .p (.mv (.t 19))⟩,
 ⟨some 138, none, .p (.bin .add (.t 137) (.k (.s (.int .i64 1))))⟩,
 ⟨some 19, none, .p (.mv (.t 138))⟩])
 .skip))
 (.seq (.seq (.ops [⟨some 139, none, .p (.mv (.t 12))⟩,
 ⟨some 140, none, .p (.bin .gtr (.t 139) (.k (.s (.int .i64 3))))⟩,
 ⟨some 141, none, .p (.mv (.t 140))⟩,
 ⟨some 142, some (141, false), .p (.mv (.t 12))⟩,
 ⟨some 143, some (141, false), .p (.bin .eql (.t 142) (.k (.s (.int .i64 3))))⟩,
 ⟨some 144, some (141, false), .p (.mv (.t 143))⟩,
 ⟨some 145, some (144, true), .p (.fa 0 1 (.t 17))⟩,
 ⟨some 146, some (144, true), .h (.load false 1 (.t 145))⟩,
 ⟨some 147, some (144, true), .p (.bin .neq (.t 146) (.k (.s (.int .i64 1))))⟩,
 ⟨some 148, some (141, false), .p (.pick (.t 144) (.t 147) (.k (.s (.bool false))))⟩,
 ⟨some 149, none, .p (.pick (.t 141) (.k (.s (.bool true))) (.t 148))⟩,
 ⟨some 150, none, .p (.mv (.t 149))⟩,
 ⟨some 151, some (150, false), .p (.mv (.t 12))⟩,
 ⟨some 152, some (150, false), .p (.bin .lss (.t 151) (.k (.s (.int .i64 1))))⟩,
 ⟨some 153, none, .p (.pick (.t 150) (.k (.s (.bool true))) (.t 152))⟩,
 ⟨some 154, none, .p (.mv (.t 153))⟩,
 ⟨some 155, some (154, false), .p (.mv (.t 14))⟩,
 ⟨some 156, some (154, false), .p (.mv (.t 13))⟩,
 ⟨some 157, some (154, false), .p (.mv (.t 16))⟩,
 ⟨some 158, some (154, false), .p (.bin .sub (.t 156) (.t 157))⟩,
 ⟨some 159, some (154, false), .p (.bin .neq (.t 155) (.t 158))⟩,
 ⟨some 160, none, .p (.pick (.t 154) (.k (.s (.bool true))) (.t 159))⟩,
 ⟨some 161, none, .p (.mv (.t 160))⟩,
 ⟨some 162, some (161, false), .p (.fa 0 1 (.t 9))⟩,
 ⟨some 163, some (161, false), .h (.load false 1 (.t 162))⟩,
 ⟨some 164, some (161, false), .p (.fa 0 128 (.t 10))⟩,
 ⟨some 165, some (161, false), .p (.ixa 64 2 (.t 164) (.t 163))⟩,
 ⟨some 166, some (161, false), .h (.load true 2 (.t 165))⟩,
 ⟨some 167, some (161, false), .p (.build (.ints 2) [])⟩,
 ⟨some 168, some (161, false), .p (.eqa true 2 (.t 166) (.t 167))⟩,
 ⟨some 169, none, .p (.pick (.t 161) (.k (.s (.bool true))) (.t 168))⟩,
 ⟨some 170, none, .p (.mv (.t 169))⟩,
 ⟨some 171, some (170, false), .p (.fa 1 1 (.t 18))⟩,
 ⟨some 172, some (170, false), .h (.load false 1 (.t 171))⟩,
 ⟨some 173, some (170, false), .p (.fa 1 1 (.t 17))⟩,
 ⟨some 174, some (170, false), .h (.load false 1 (.t 173))⟩,
 ⟨some 175, some (170, false), .p (.bin .neq (.t 172) (.t 174))⟩,
 ⟨some 176, none, .p (.pick (.t 170) (.k (.s (.bool true))) (.t 175))⟩,
 ⟨some 177, none, .p (.mv (.t 176))⟩,
 ⟨some 178, some (177, false), .p (.fa 0 1 (.t 18))⟩,
 ⟨some 179, some (177, false), .h (.load false 1 (.t 178))⟩,
 ⟨some 180, some (177, false), .p (.fa 0 1 (.t 17))⟩,
 ⟨some 181, some (177, false), .h (.load false 1 (.t 180))⟩,
 ⟨some 182, some (177, false), .p (.bin .neq (.t 179) (.t 181))⟩,
 ⟨some 183, some (177, false), .p (.fa 2 1 (.t 9))⟩,
 ⟨some 184, some (177, false), .h (.load false 1 (.t 183))⟩,
 ⟨some 185, some (177, false), .p (.bin .neq (.t 184) (.k (.s (.int .i64 0))))⟩,
 ⟨some 186, some (177, false), .p (.eqb true (.t 182) (.t 185))⟩,
 ⟨some 187, none, .p (.pick (.t 177) (.k (.s (.bool true))) (.t 186))⟩])
 (.cond (.t 187)
 (.seq (.ops [⟨some 8, none, .p (.mv (.k (.s (.bool false))))⟩])
 .ret)
 .skip))
 (.seq (.ops [⟨some 188, none, .p (.fa 129 1 (.t 10))⟩,
 ⟨some 189, none, .h (.load false 1 (.t 188))⟩,
 ⟨some 190, none, .p (.fa 129 1 (.t 4))⟩,
 ⟨some 191, none, .h (.load false 1 (.t 190))⟩,
 ⟨some 192, none, .p (.bin .andNot (.t 189) (.t 191))⟩,
 ⟨some 193, none, .p (.bin .eql (.t 192) (.k (.s (.int .i64 0))))⟩,
 ⟨some 194, none, .p (.mv (.t 193))⟩,
 ⟨some 195, some (194, true), .p (.fa 132 1 (.t 10))⟩,
 ⟨some 196, some (194, true), .h (.load false 1 (.t 195))⟩,
 ⟨some 197, some (194, true), .p (.mv (.t 19))⟩,
 ⟨some 198, some (194, true), .p (.bin .eql (.t 196) (.t 197))⟩,
 ⟨some 199, none, .p (.pick (.t 194) (.t 198) (.k (.s (.bool false))))⟩,
 ⟨some 200, none, .p (.mv (.t 199))⟩,
 ⟨some 201, some (200, true), .p (.fa 131 1 (.t 10))⟩,
 ⟨some 202, some (200, true), .h (.load false 1 (.t 201))⟩,
 ⟨some 203, some (200, true), .p (.bin .eql (.t 202) (.k (.s (.int .i64 0))))⟩,
 ⟨some 204, some (200, true), .p (.mv (.t 16))⟩,
 ⟨some 205, some (200, true), .p (.bin .eql (.t 204) (.k (.s (.int .i64 1))))⟩,
 ⟨some 206, some (200, true), .p (.mv (.t 205))⟩,
 ⟨some 207, some (206, false), .p (.fa 0 1 (.t 17))⟩,
 ⟨some 208, some (206, false), .h (.load false 1 (.t 207))⟩,
 ⟨some 209, some (206, false), .p (.bin .eql (.t 208) (.k (.s (.int .i64 1))))⟩,
 ⟨some 210, some (200, true), .p (.pick (.t 206) (.k (.s (.bool true))) (.t 209))⟩,
 ⟨some 211, some (200, true), .p (.eqb false (.t 203) (.t 210))⟩,
 ⟨some 212, none, .p (.pick (.t 200) (.t 211) (.k (.s (.bool false))))⟩,
 ⟨some 213, none, .p (.mv (.t 212))⟩,
 ⟨some 214, some (213, true), .p (.fa 130 1 (.t 10))⟩,
 ⟨some 215, some (213, true), .h (.load false 1 (.t 214))⟩,
 ⟨some 216, some (213, true), .p (.bin .eql (.t 215) (.k (.s (.int .i64 (-1)))))⟩,
 ⟨some 217, some (213, true), .p (.mv (.t 216))⟩,
 ⟨some 218, some (217, false), .p (.fa 0 1 (.t 17))⟩,
 ⟨some 219, some (217, false), .h (.load false 1 (.t 218))⟩,
 ⟨some 220, some (217, false), .p (.bin .eql (.t 219) (.k (.s (.int .i64 1))))⟩,
 ⟨some 221, some (213, true), .p (.pick (.t 217) (.k (.s (.bool true))) (.t 220))⟩,
 ⟨some 222, none, .p (.pick (.t 213) (.t 221) (.k (.s (.bool false))))⟩,
 ⟨some 8, none, .p (.mv (.t 222))⟩])
 .ret))))))))))))))))⟩
theorem c17 : compF Try.prog Try.f17 = some a17 := by kernel_rfl
end Go.Proofs.Ytjldefmcnppdoaa
