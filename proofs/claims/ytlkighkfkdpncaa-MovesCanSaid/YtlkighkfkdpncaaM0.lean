/- Texts of this seat, joined. -/
import Derived.Test.YtlkighkfkdpncaaProg
import Derived.KernelRfl
import Derived.Shelf.SlicesG.Cmp
import Derived.Ground.SlgcProg
import Derived.Shelf.Sort.Plain
import Derived.Shelf.Slices.In.SortNone
import Derived.Shelf.SlicesE.DeleteFunc
import Derived.Shelf.SlicesE.IndexFunc
import Derived.Shelf.SlSortCmp.WholeK
import Derived.Shelf.Spec.SlicesGrow
import Derived.Ground.SlgfProg
import Derived.Ground.SlsfProg
import Derived.Ground.Names8Prog
import Derived.Ground.Names2Prog
import Derived.Lib.Builder
import Derived.Deep.QuietTactic
import Derived.BigQuiet
import Derived.StillTailTactics
import Derived.Test.YtlkighkfkdpncaaAm0
import Derived.Test.YtlkighkfkdpncaaAm1
import Derived.Test.YtlkighkfkdpncaaAm2
namespace Go.Proofs.Ytlkighkfkdpncaa
open Go Go.Am
set_option maxRecDepth 100000
noncomputable def a3 : AF := ⟨177, [.tmp 2],
 (.seq (.ops [⟨some 1, none, .h (.box (.t 0))⟩,
 ⟨some 2, none, .p (.mv (.k (.s (.bool false))))⟩])
 (.seq (.seq (.ops [⟨some 17, none, .h (.call (.k (.fn 4 [])) [])⟩,
 ⟨some 18, none, .p (.un .not (.t 17))⟩])
 (.cond (.t 18)
 (.seq (.ops [⟨some 2, none, .p (.mv (.k (.s (.bool false))))⟩])
 .ret)
 .skip))
 (.seq (.ops [⟨some 19, none, .h (.load true 133 (.t 1))⟩,
 ⟨some 20, none, .h (.call (.k (.fn 5 [])) [(.t 19)])⟩,
 ⟨some 3, none, .p (.mv (.t 20))⟩])
 (.seq (.ops [⟨some 4, none, .p (.mv (.k (.s (.int .i64 0))))⟩])
 (.seq (.seq (.ops [⟨some 5, none, .p (.mv (.k (.s (.int .i64 0))))⟩])
 (.block 0 (.loop (.seq (.seq (.ops [⟨some 21, none, .p (.mv (.t 5))⟩,
 ⟨some 22, none, .p (.bin .lss (.t 21) (.k (.s (.int .i64 64))))⟩])
 (.cond (.t 22)
 .skip
 (.exit 0)))
 (.seq (.block 1 (.seq (.ops [⟨some 25, none, .h (.load true 133 (.t 1))⟩,
 ⟨some 26, none, .p (.mv (.t 5))⟩,
 ⟨some 27, none, .h (.call (.k (.fn 6 [])) [(.t 25), (.t 26)])⟩,
 ⟨some 6, none, .p (.mv (.t 27))⟩])
 (.seq (.ops [⟨some 7, none, .p (.mv (.k (.s (.int .i64 0))))⟩])
 (.block 2 (.loop (.seq (.seq (.ops [⟨some 28, none, .p (.mv (.t 7))⟩,
 ⟨some 29, none, .p (.mv (.t 6))⟩,
 ⟨some 30, none, .p (.len (.t 29))⟩,
 ⟨some 31, none, .p (.bin .lss (.t 28) (.t 30))⟩])
 (.cond (.t 31)
 .skip
 (.exit 2)))
 (.seq (.block 3 (.seq (.seq (.par [⟨some 34, none, .p (.mv (.t 4))⟩,
 ⟨some 35, none, .p (.mv (.t 3))⟩,
 ⟨some 36, none, .p (.len (.t 35))⟩,
 ⟨some 37, none, .p (.bin .geq (.t 34) (.t 36))⟩,
 ⟨some 38, none, .p (.mv (.t 37))⟩,
 ⟨some 39, some (38, false), .p (.mv (.t 3))⟩,
 ⟨some 40, some (38, false), .p (.mv (.t 4))⟩,
 ⟨some 41, some (38, false), .p (.ixs 3 (.t 39) (.t 40))⟩,
 ⟨some 42, some (38, false), .h (.load true 3 (.t 41))⟩,
 ⟨some 43, some (38, false), .p (.mv (.t 6))⟩,
 ⟨some 44, some (38, false), .p (.mv (.t 7))⟩,
 ⟨some 45, some (38, false), .p (.ixs 3 (.t 43) (.t 44))⟩,
 ⟨some 46, some (38, false), .h (.load true 3 (.t 45))⟩,
 ⟨some 47, some (38, false), .p (.eqa true 3 (.t 42) (.t 46))⟩,
 ⟨some 48, none, .p (.pick (.t 38) (.k (.s (.bool true))) (.t 47))⟩,
 ⟨some 49, none, .p (.mv (.t 48))⟩,
 ⟨some 50, some (49, false), .p (.mv (.t 6))⟩,
 ⟨some 51, some (49, false), .p (.mv (.t 7))⟩,
 ⟨some 52, some (49, false), .p (.ixs 3 (.t 50) (.t 51))⟩,
 ⟨some 53, some (49, false), .p (.fa 0 1 (.t 52))⟩,
 ⟨some 54, some (49, false), .h (.load false 1 (.t 53))⟩,
 ⟨some 55, some (49, false), .p (.mv (.t 5))⟩,
 ⟨some 56, some (49, false), .p (.bin .neq (.t 54) (.t 55))⟩,
 ⟨some 57, none, .p (.pick (.t 49) (.k (.s (.bool true))) (.t 56))⟩])
 (.cond (.t 57)
 (.seq (.ops [⟨some 2, none, .p (.mv (.k (.s (.bool false))))⟩])
 .ret)
 .skip))
 (.ops [⟨some 58, none, .p (.mv (.t 4))⟩,
 ⟨some 59, none, .p (.bin .add (.t 58) (.k (.s (.int .i64 1))))⟩,
 ⟨some 4, none, .p (.mv (.t 59))⟩])))
 (.ops [⟨some 32, none, .p (.mv (.t 7))⟩,
 ⟨some 33, none, .p (.bin .add (.t 32) (.k (.s (.int .i64 1))))⟩,
 ⟨some 7, none, .p (.mv (.t 33))⟩]))))))))
 (.ops [⟨some 23, none, .p (.mv (.t 5))⟩,
 ⟨some 24, none, .p (.bin .add (.t 23) (.k (.s (.int .i64 1))))⟩,
 ⟨some 5, none, .p (.mv (.t 24))⟩]))))))
 (.seq (.seq (.ops [⟨some 8, none, .p (.mv (.k (.s (.int .i64 0))))⟩])
 (.block 4 (.loop (.seq (.seq (.ops [⟨some 60, none, .p (.mv (.t 8))⟩,
 ⟨some 61, none, .p (.mv (.t 3))⟩,
 ⟨some 62, none, .p (.len (.t 61))⟩,
 ⟨some 63, none, .p (.bin .lss (.t 60) (.t 62))⟩])
 (.cond (.t 63)
 .skip
 (.exit 4)))
 (.seq (.block 5 (.seq (.ops [⟨some 66, none, .p (.mv (.t 3))⟩,
 ⟨some 67, none, .p (.mv (.t 8))⟩,
 ⟨some 68, none, .p (.ixs 3 (.t 66) (.t 67))⟩,
 ⟨some 69, none, .h (.load true 3 (.t 68))⟩,
 ⟨some 9, none, .h (.alloc (.ints 3))⟩,
 ⟨none, none, .h (.store 3 (.t 9) (.t 69))⟩])
 (.seq (.seq (.par [⟨some 70, none, .p (.mv (.t 8))⟩,
 ⟨some 71, none, .p (.bin .gtr (.t 70) (.k (.s (.int .i64 0))))⟩,
 ⟨some 72, none, .p (.mv (.t 71))⟩,
 ⟨some 73, some (72, true), .p (.mv (.t 3))⟩,
 ⟨some 74, some (72, true), .p (.mv (.t 8))⟩,
 ⟨some 75, some (72, true), .p (.bin .sub (.t 74) (.k (.s (.int .i64 1))))⟩,
 ⟨some 76, some (72, true), .p (.ixs 3 (.t 73) (.t 75))⟩,
 ⟨some 77, some (72, true), .h (.load true 3 (.t 76))⟩,
 ⟨some 78, some (72, true), .h (.load true 3 (.t 9))⟩,
 ⟨some 79, some (72, true), .h (.call (.k (.fn 7 [])) [(.t 77), (.t 78)])⟩,
 ⟨some 80, some (72, true), .p (.un .not (.t 79))⟩,
 ⟨some 81, some (72, true), .p (.mv (.t 80))⟩,
 ⟨some 82, some (81, false), .h (.load true 3 (.t 9))⟩,
 ⟨some 83, some (81, false), .p (.mv (.t 3))⟩,
 ⟨some 84, some (81, false), .p (.mv (.t 8))⟩,
 ⟨some 85, some (81, false), .p (.bin .sub (.t 84) (.k (.s (.int .i64 1))))⟩,
 ⟨some 86, some (81, false), .p (.ixs 3 (.t 83) (.t 85))⟩,
 ⟨some 87, some (81, false), .h (.load true 3 (.t 86))⟩,
 ⟨some 88, some (81, false), .h (.call (.k (.fn 7 [])) [(.t 82), (.t 87)])⟩,
 ⟨some 89, some (72, true), .p (.pick (.t 81) (.k (.s (.bool true))) (.t 88))⟩,
 ⟨some 90, none, .p (.pick (.t 72) (.t 89) (.k (.s (.bool false))))⟩,
 ⟨some 91, none, .p (.mv (.t 90))⟩,
 ⟨some 92, some (91, false), .p (.fa 1 1 (.t 9))⟩,
 ⟨some 93, some (91, false), .h (.load false 1 (.t 92))⟩,
 ⟨some 94, some (91, false), .p (.bin .lss (.t 93) (.k (.s (.int .i64 0))))⟩,
 ⟨some 95, none, .p (.pick (.t 91) (.k (.s (.bool true))) (.t 94))⟩,
 ⟨some 96, none, .p (.mv (.t 95))⟩,
 ⟨some 97, some (96, false), .p (.fa 1 1 (.t 9))⟩,
 ⟨some 98, some (96, false), .h (.load false 1 (.t 97))⟩,
 ⟨some 99, some (96, false), .p (.bin .gtr (.t 98) (.k (.s (.int .i64 63))))⟩,
 ⟨some 100, none, .p (.pick (.t 96) (.k (.s (.bool true))) (.t 99))⟩])
 (.cond (.t 100)
 (.seq (.ops [⟨some 2, none, .p (.mv (.k (.s (.bool false))))⟩])
 .ret)
 .skip))
 (.seq (.par [⟨some 101, none, .p (.fa 0 1 (.t 9))⟩,
 ⟨some 102, none, .h (.load false 1 (.t 101))⟩,
 ⟨some 103, none, .p (.fa 0 128 (.t 1))⟩,
 ⟨some 104, none, .p (.ixa 64 2 (.t 103) (.t 102))⟩,
 ⟨some 105, none, .h (.load true 2 (.t 104))⟩,
 ⟨some 106, none, .p (.fa 1 1 (.t 9))⟩,
 ⟨some 107, none, .h (.load false 1 (.t 106))⟩,
 ⟨some 108, none, .p (.fa 0 128 (.t 1))⟩,
 ⟨some 109, none, .p (.ixa 64 2 (.t 108) (.t 107))⟩,
 ⟨some 110, none, .h (.load true 2 (.t 109))⟩,
 ⟨some 10, none, .h (.allocd 2)⟩,
 ⟨some 11, none, .h (.allocd 2)⟩,
 ⟨none, none, .h (.init0 2 (.t 10) (.t 105))⟩,
 ⟨none, none, .h (.init0 2 (.t 11) (.t 110))⟩,
 ⟨none, none, .h (.revive 2 (.t 10) (.t 105))⟩,
 ⟨none, none, .h (.revive 2 (.t 11) (.t 110))⟩])
 (.seq (.ops [⟨some 112, none, .h (.load true 133 (.t 1))⟩,
 ⟨some 113, none, .h (.load true 3 (.t 9))⟩,
 ⟨some 114, none, .h (.call (.k (.fn 8 [])) [(.t 112), (.t 113)])⟩,
 ⟨some 111, none, .p (.mv (.t 114))⟩,
 ⟨some 115, none, .p (.ext (.t 111) 0)⟩,
 ⟨some 116, none, .p (.ext (.t 111) 1)⟩,
 ⟨some 12, none, .h (.alloc (.ints 133))⟩,
 ⟨none, none, .h (.store 133 (.t 12) (.t 115))⟩,
 ⟨some 13, none, .p (.mv (.t 116))⟩])
 (.seq (.seq (.par [⟨some 117, none, .p (.mv (.t 13))⟩,
 ⟨some 118, none, .p (.bin .neq (.t 117) (.k (.s (.int .i64 0))))⟩,
 ⟨some 119, none, .p (.mv (.t 118))⟩,
 ⟨some 120, some (119, false), .p (.fa 128 1 (.t 12))⟩,
 ⟨some 121, some (119, false), .h (.load false 1 (.t 120))⟩,
 ⟨some 122, some (119, false), .p (.fa 128 1 (.t 1))⟩,
 ⟨some 123, some (119, false), .h (.load false 1 (.t 122))⟩,
 ⟨some 124, some (119, false), .h (.callq (.k (.fn 9 [])) [(.t 123)])⟩,
 ⟨some 125, some (119, false), .p (.bin .neq (.t 121) (.t 124))⟩,
 ⟨some 126, none, .p (.pick (.t 119) (.k (.s (.bool true))) (.t 125))⟩,
 ⟨some 127, none, .p (.mv (.t 126))⟩,
 ⟨some 128, some (127, false), .p (.fa 1 1 (.t 10))⟩,
 ⟨some 129, some (127, false), .h (.load false 1 (.t 128))⟩,
 ⟨some 130, some (127, false), .p (.fa 128 1 (.t 1))⟩,
 ⟨some 131, some (127, false), .h (.load false 1 (.t 130))⟩,
 ⟨some 132, some (127, false), .p (.bin .neq (.t 129) (.t 131))⟩,
 ⟨some 133, none, .p (.pick (.t 127) (.k (.s (.bool true))) (.t 132))⟩,
 ⟨some 134, none, .p (.mv (.t 133))⟩,
 ⟨some 135, some (134, false), .h (.load true 2 (.t 11))⟩,
 ⟨some 136, some (134, false), .p (.build (.ints 2) [])⟩,
 ⟨some 137, some (134, false), .p (.eqa true 2 (.t 135) (.t 136))⟩,
 ⟨some 138, some (134, false), .p (.mv (.t 137))⟩,
 ⟨some 139, some (138, true), .p (.fa 1 1 (.t 11))⟩,
 ⟨some 140, some (138, true), .h (.load false 1 (.t 139))⟩,
 ⟨some 141, some (138, true), .p (.fa 1 1 (.t 10))⟩,
 ⟨some 142, some (138, true), .h (.load false 1 (.t 141))⟩,
 ⟨some 143, some (138, true), .p (.bin .eql (.t 140) (.t 142))⟩,
 ⟨some 144, some (134, false), .p (.pick (.t 138) (.t 143) (.k (.s (.bool false))))⟩,
 ⟨some 145, none, .p (.pick (.t 134) (.k (.s (.bool true))) (.t 144))⟩])
 (.cond (.t 145)
 (.seq (.ops [⟨some 2, none, .p (.mv (.k (.s (.bool false))))⟩])
 .ret)
 .skip))
 (.seq (.ops [⟨some 14, none, .p (.mv (.k (.s (.bool false))))⟩])
 (.seq (.ops [⟨some 146, none, .h (.load true 133 (.t 1))⟩,
 ⟨some 147, none, .p (.fa 0 1 (.t 9))⟩,
 ⟨some 148, none, .h (.load false 1 (.t 147))⟩,
 ⟨some 149, none, .h (.call (.k (.fn 10 [])) [(.t 146), (.t 148)])⟩,
 ⟨some 15, none, .p (.mv (.t 149))⟩])
 (.seq (.seq (.ops [⟨some 16, none, .p (.mv (.k (.s (.int .i64 0))))⟩])
 (.block 6 (.loop (.seq (.seq (.ops [⟨some 150, none, .p (.mv (.t 16))⟩,
 ⟨some 151, none, .p (.mv (.t 15))⟩,
 ⟨some 152, none, .p (.len (.t 151))⟩,
 ⟨some 153, none, .p (.bin .lss (.t 150) (.t 152))⟩])
 (.cond (.t 153)
 .skip
 (.exit 6)))
 (.seq (.block 7 (.par [⟨some 156, none, .p (.mv (.t 14))⟩,
 ⟨some 157, none, .p (.mv (.t 156))⟩,
 ⟨some 158, some (157, false), .p (.mv (.t 15))⟩,
 ⟨some 159, some (157, false), .p (.mv (.t 16))⟩,
 ⟨some 160, some (157, false), .p (.ixs 1 (.t 158) (.t 159))⟩,
 ⟨some 161, some (157, false), .h (.load false 1 (.t 160))⟩,
 ⟨some 162, some (157, false), .p (.fa 1 1 (.t 9))⟩,
 ⟨some 163, some (157, false), .h (.load false 1 (.t 162))⟩,
 ⟨some 164, some (157, false), .p (.bin .eql (.t 161) (.t 163))⟩,
 ⟨some 165, none, .p (.pick (.t 157) (.k (.s (.bool true))) (.t 164))⟩,
 ⟨some 14, none, .p (.mv (.t 165))⟩]))
 (.ops [⟨some 154, none, .p (.mv (.t 16))⟩,
 ⟨some 155, none, .p (.bin .add (.t 154) (.k (.s (.int .i64 1))))⟩,
 ⟨some 16, none, .p (.mv (.t 155))⟩]))))))
 (.seq (.ops [⟨some 166, none, .h (.load true 2 (.t 11))⟩,
 ⟨some 167, none, .p (.build (.ints 2) [])⟩,
 ⟨some 168, none, .p (.eqa true 2 (.t 166) (.t 167))⟩,
 ⟨some 169, none, .p (.mv (.t 168))⟩,
 ⟨some 170, some (169, true), .p (.mv (.t 14))⟩,
 ⟨some 171, some (169, true), .p (.un .not (.t 170))⟩,
 ⟨some 172, none, .p (.pick (.t 169) (.t 171) (.k (.s (.bool false))))⟩])
 (.cond (.t 172)
 (.seq (.ops [⟨some 2, none, .p (.mv (.k (.s (.bool false))))⟩])
 .ret)
 .skip)))))))))))
 (.ops [⟨some 64, none, .p (.mv (.t 8))⟩,
 ⟨some 65, none, .p (.bin .add (.t 64) (.k (.s (.int .i64 1))))⟩,
 ⟨some 8, none, .p (.mv (.t 65))⟩]))))))
 (.seq (.ops [⟨some 173, none, .p (.mv (.t 4))⟩,
 ⟨some 174, none, .p (.mv (.t 3))⟩,
 ⟨some 175, none, .p (.len (.t 174))⟩,
 ⟨some 176, none, .p (.bin .eql (.t 173) (.t 175))⟩,
 ⟨some 2, none, .p (.mv (.t 176))⟩])
 .ret)))))))⟩
theorem c3 : compF Try.prog false Try.f3 = some a3 := by kernel_rfl
noncomputable def a4 : AF := ⟨21, [.tmp 0],
 (.seq (.ops [⟨some 0, none, .p (.mv (.k (.s (.bool false))))⟩])
 (.seq (.ops [⟨some 2, none, .h (.call (.k (.fn 11 [])) [])⟩,
 ⟨some 3, none, .h (.call (.k (.fn 5 [])) [(.t 2)])⟩,
 ⟨some 1, none, .p (.mv (.t 3))⟩])
 (.seq (.ops [⟨some 4, none, .p (.mv (.t 1))⟩,
 ⟨some 5, none, .p (.len (.t 4))⟩,
 ⟨some 6, none, .p (.bin .eql (.t 5) (.k (.s (.int .i64 20))))⟩,
 ⟨some 7, none, .p (.mv (.t 6))⟩,
 ⟨some 8, some (7, true), .p (.mv (.t 1))⟩,
 ⟨some 9, some (7, true), .p (.ixs 3 (.t 8) (.k (.s (.int .i64 0))))⟩,
 ⟨some 10, some (7, true), .h (.load true 3 (.t 9))⟩,
 ⟨some 11, some (7, true), .p (.build (.ints 3) [(0, 1, (.k (.s (.int .i64 1)))), (1, 1, (.k (.s (.int .i64 16))))])⟩,
 ⟨some 12, some (7, true), .p (.eqa false 3 (.t 10) (.t 11))⟩,
 ⟨some 13, none, .p (.pick (.t 7) (.t 12) (.k (.s (.bool false))))⟩,
 ⟨some 14, none, .p (.mv (.t 13))⟩,
 ⟨some 15, some (14, true), .p (.mv (.t 1))⟩,
 ⟨some 16, some (14, true), .p (.ixs 3 (.t 15) (.k (.s (.int .i64 19))))⟩,
 ⟨some 17, some (14, true), .h (.load true 3 (.t 16))⟩,
 ⟨some 18, some (14, true), .p (.build (.ints 3) [(0, 1, (.k (.s (.int .i64 15)))), (1, 1, (.k (.s (.int .i64 31))))])⟩,
 ⟨some 19, some (14, true), .p (.eqa false 3 (.t 17) (.t 18))⟩,
 ⟨some 20, none, .p (.pick (.t 14) (.t 19) (.k (.s (.bool false))))⟩,
 ⟨some 0, none, .p (.mv (.t 20))⟩])
 .ret)))⟩
theorem c4 : compF Try.prog false Try.f4 = some a4 := by kernel_rfl
noncomputable def rd5 : RD := rdOf Try.f5
noncomputable def g5 : AC := (.ops [⟨some 3, none, .h (.alloc (.ints 136))⟩,
 ⟨none, none, .h (.store 136 (.t 3) (.t 6))⟩])
noncomputable def b5 : AC := (.block 1 (.par [⟨some 7, none, .h (.load false 1 (.t 2))⟩,
 ⟨some 8, none, .h (.load true 136 (.t 3))⟩,
 ⟨some 9, none, .h (.load true 136 (.t 3))⟩,
 ⟨some 10, none, .h (.callq (.k (.fn 14 [])) [(.t 9)])⟩,
 ⟨some 11, none, .h (.callq (.k (.fn 13 [])) [(.t 8), (.t 10)])⟩,
 ⟨some 12, none, .h (.append 3 24 (.t 7) (.t 11))⟩,
 ⟨none, none, .h (.store 1 (.t 2) (.t 12))⟩]))
noncomputable def a5 : AF := ⟨16, [.cell 2 false 1],
 (.seq (.ops [⟨some 1, none, .h (.box (.t 0))⟩,
 ⟨some 2, none, .h (.alloc (.one .snil))⟩])
 (.seq (.seq (.ops [⟨some 4, none, .h (.load true 133 (.t 1))⟩,
 ⟨some 5, none, .h (.call (.k (.fn 12 [])) [(.t 4)])⟩])
 (.block 0 (.rfn (.t 5) 6 rd5)))
 (.seq (.ops [⟨some 13, none, .h (.load false 1 (.t 2))⟩,
 ⟨some 14, none, .h (.call (.k (.fn 15 [])) [(.t 13), (.k (.fn 16 []))])⟩])
 (.seq (.ops [⟨some 15, none, .h (.load false 1 (.t 2))⟩,
 ⟨none, none, .h (.store 1 (.t 2) (.t 15))⟩])
 .ret))))⟩
theorem c5 : compF Try.prog false Try.f5 = some a5 := by kernel_rfl
noncomputable def rd6 : RD := rdOf Try.f6
noncomputable def g6 : AC := (.ops [⟨some 5, none, .h (.alloc (.ints 136))⟩,
 ⟨none, none, .h (.store 136 (.t 5) (.t 9))⟩])
noncomputable def b6 : AC := (.block 1 (.seq (.ops [⟨some 10, none, .p (.fa 133 1 (.t 5))⟩,
 ⟨some 11, none, .h (.load false 1 (.t 10))⟩,
 ⟨some 12, none, .h (.load false 1 (.t 3))⟩,
 ⟨some 13, none, .p (.bin .eql (.t 11) (.t 12))⟩])
 (.cond (.t 13)
 (.seq (.par [⟨some 14, none, .h (.load true 136 (.t 5))⟩,
 ⟨some 15, none, .h (.load true 136 (.t 5))⟩,
 ⟨some 16, none, .h (.callq (.k (.fn 14 [])) [(.t 15)])⟩,
 ⟨some 17, none, .h (.call (.k (.fn 13 [])) [(.t 14), (.t 16)])⟩,
 ⟨some 6, none, .p (.mv (.t 17))⟩])
 (.seq (.ops [⟨some 18, none, .p (.mv (.t 6))⟩,
 ⟨some 19, none, .h (.call (.k (.fn 15 [])) [(.t 18), (.k (.fn 16 []))])⟩])
 (.seq (.ops [⟨some 20, none, .p (.mv (.t 6))⟩,
 ⟨none, none, .h (.store 1 (.t 4) (.t 20))⟩])
 .ret)))
 .skip)))
noncomputable def a6 : AF := ⟨21, [.cell 4 false 1],
 (.seq (.ops [⟨some 2, none, .h (.box (.t 0))⟩,
 ⟨some 3, none, .h (.box (.t 1))⟩,
 ⟨some 4, none, .h (.alloc (.one .snil))⟩])
 (.seq (.seq (.ops [⟨some 7, none, .h (.load true 133 (.t 2))⟩,
 ⟨some 8, none, .h (.call (.k (.fn 12 [])) [(.t 7)])⟩])
 (.block 0 (.rfn (.t 8) 9 rd6)))
 (.seq (.ops [⟨none, none, .h (.store 1 (.t 4) (.k .snil))⟩])
 .ret)))⟩
theorem c6 : compF Try.prog false Try.f6 = some a6 := by kernel_rfl
noncomputable def a7 : AF := ⟨9, [.tmp 4],
 (.seq (.ops [⟨some 2, none, .h (.box (.t 0))⟩,
 ⟨some 3, none, .h (.box (.t 1))⟩,
 ⟨some 4, none, .p (.mv (.k (.s (.bool false))))⟩])
 (.seq (.ops [⟨some 5, none, .h (.load true 3 (.t 2))⟩,
 ⟨some 6, none, .h (.load true 3 (.t 3))⟩,
 ⟨some 7, none, .h (.call (.k (.fn 16 [])) [(.t 5), (.t 6)])⟩,
 ⟨some 8, none, .p (.bin .lss (.t 7) (.k (.s (.int .i64 0))))⟩,
 ⟨some 4, none, .p (.mv (.t 8))⟩])
 .ret))⟩
theorem c7 : compF Try.prog false Try.f7 = some a7 := by kernel_rfl
noncomputable def a8 : AF := ⟨20, [.cell 4 true 133, .tmp 5],
 (.seq (.ops [⟨some 2, none, .h (.box (.t 0))⟩,
 ⟨some 3, none, .h (.box (.t 1))⟩,
 ⟨some 4, none, .h (.alloc (.ints 133))⟩,
 ⟨some 5, none, .p (.mv (.k (.s (.int .i64 0))))⟩])
 (.seq (.ops [⟨some 9, none, .h (.load true 133 (.t 2))⟩,
 ⟨some 10, none, .h (.load true 3 (.t 3))⟩,
 ⟨some 11, none, .h (.call (.k (.fn 17 [])) [(.t 9), (.t 10)])⟩,
 ⟨some 8, none, .p (.mv (.t 11))⟩,
 ⟨some 12, none, .p (.ext (.t 8) 0)⟩,
 ⟨some 13, none, .p (.ext (.t 8) 1)⟩,
 ⟨some 6, none, .p (.mv (.t 12))⟩,
 ⟨some 7, none, .p (.mv (.t 13))⟩])
 (.seq (.seq (.ops [⟨some 14, none, .p (.mv (.t 7))⟩,
 ⟨some 15, none, .p (.bin .neq (.t 14) (.k (.s (.int .i64 0))))⟩])
 (.cond (.t 15)
 (.seq (.ops [⟨some 16, none, .p (.build (.ints 133) [])⟩,
 ⟨some 17, none, .p (.mv (.t 7))⟩,
 ⟨none, none, .h (.store 133 (.t 4) (.t 16))⟩,
 ⟨some 5, none, .p (.mv (.t 17))⟩])
 .ret)
 .skip))
 (.seq (.ops [⟨some 18, none, .p (.mv (.t 6))⟩,
 ⟨some 19, none, .h (.call (.k (.fn 18 [])) [(.t 18)])⟩,
 ⟨none, none, .h (.store 133 (.t 4) (.t 19))⟩,
 ⟨some 5, none, .p (.mv (.k (.s (.int .i64 0))))⟩])
 .ret))))⟩
theorem c8 : compF Try.prog false Try.f8 = some a8 := by kernel_rfl
noncomputable def a9 : AF := ⟨5, [.tmp 2],
 (.seq (.ops [⟨some 2, none, .p (.mv (.k (.s (.int .i64 0))))⟩])
 (.seq (.seq (.ops [⟨some 3, none, .p (.mv (.t 0))⟩,
 ⟨some 4, none, .p (.bin .eql (.t 3) (.k (.s (.int .i64 0))))⟩])
 (.cond (.t 4)
 (.seq (.ops [⟨some 2, none, .p (.mv (.k (.s (.int .i64 1))))⟩])
 .ret)
 .skip))
 (.seq (.ops [⟨some 2, none, .p (.mv (.k (.s (.int .i64 0))))⟩])
 .ret)))⟩
theorem c9 : compF Try.prog false Try.f9 = some a9 := by kernel_rfl
noncomputable def a10 : AF := ⟨16, [.tmp 4],
 (.seq (.ops [⟨some 2, none, .h (.box (.t 0))⟩,
 ⟨some 4, none, .p (.mv (.k .snil))⟩])
 (.seq (.seq (.ops [⟨some 6, none, .p (.mv (.t 1))⟩,
 ⟨some 7, none, .h (.call (.k (.fn 19 [])) [(.t 6)])⟩,
 ⟨some 8, none, .p (.un .not (.t 7))⟩])
 (.cond (.t 8)
 (.seq (.ops [⟨some 4, none, .p (.mv (.k .snil))⟩])
 .ret)
 .skip))
 (.seq (.ops [⟨some 9, none, .h (.load true 133 (.t 2))⟩,
 ⟨some 10, none, .p (.build (.ints 133) [(0, 133, (.t 9))])⟩,
 ⟨some 11, none, .p (.mv (.t 1))⟩,
 ⟨some 12, none, .h (.call (.k (.fn 20 [])) [(.t 10), (.t 11)])⟩,
 ⟨some 5, none, .p (.mv (.t 12))⟩])
 (.seq (.ops [⟨some 13, none, .p (.mv (.t 5))⟩,
 ⟨some 14, none, .h (.call (.k (.fn 21 [])) [(.t 13)])⟩])
 (.seq (.ops [⟨some 15, none, .p (.mv (.t 5))⟩,
 ⟨some 4, none, .p (.mv (.t 15))⟩])
 .ret)))))⟩
theorem c10 : compF Try.prog false Try.f10 = some a10 := by kernel_rfl
noncomputable def a11 : AF := ⟨39, [.cell 0 true 133],
 (.seq (.ops [⟨some 0, none, .h (.alloc (.ints 133))⟩])
 (.seq (.ops [⟨some 4, none, .h (.call (.k (.fn 22 [])) [])⟩,
 ⟨some 1, none, .h (.alloc (.ints 133))⟩,
 ⟨none, none, .h (.store 133 (.t 1) (.t 4))⟩])
 (.seq (.ops [⟨some 5, none, .h (.mksl 8 1 (.one (.s (.int .i64 0))) [(0, (.k (.s (.int .i64 4)))), (1, (.k (.s (.int .i64 2)))), (2, (.k (.s (.int .i64 3)))), (3, (.k (.s (.int .i64 5)))), (4, (.k (.s (.int .i64 6)))), (5, (.k (.s (.int .i64 3)))), (6, (.k (.s (.int .i64 2)))), (7, (.k (.s (.int .i64 4))))])⟩,
 ⟨some 2, none, .p (.mv (.t 5))⟩])
 (.seq (.seq (.ops [⟨some 3, none, .p (.mv (.k (.s (.int .i64 0))))⟩])
 (.block 0 (.loop (.seq (.seq (.ops [⟨some 6, none, .p (.mv (.t 3))⟩,
 ⟨some 7, none, .p (.bin .lss (.t 6) (.k (.s (.int .i64 8))))⟩])
 (.cond (.t 7)
 .skip
 (.exit 0)))
 (.seq (.block 1 (.seq (.ops [⟨some 10, none, .p (.mv (.t 3))⟩,
 ⟨some 11, none, .p (.mv (.t 2))⟩,
 ⟨some 12, none, .p (.mv (.t 3))⟩,
 ⟨some 13, none, .p (.ixs 1 (.t 11) (.t 12))⟩,
 ⟨some 14, none, .h (.load false 1 (.t 13))⟩,
 ⟨some 15, none, .p (.build (.ints 2) [(0, 1, (.t 14)), (1, 1, (.k (.s (.int .i64 0))))])⟩,
 ⟨some 16, none, .p (.fa 0 128 (.t 1))⟩,
 ⟨some 17, none, .p (.ixa 64 2 (.t 16) (.t 10))⟩,
 ⟨none, none, .h (.store 2 (.t 17) (.t 15))⟩])
 (.seq (.ops [⟨some 18, none, .p (.mv (.t 3))⟩,
 ⟨some 19, none, .p (.bin .add (.k (.s (.int .i64 8))) (.t 18))⟩,
 ⟨some 20, none, .p (.build (.ints 2) [(0, 1, (.k (.s (.int .i64 1)))), (1, 1, (.k (.s (.int .i64 0))))])⟩,
 ⟨some 21, none, .p (.fa 0 128 (.t 1))⟩,
 ⟨some 22, none, .p (.ixa 64 2 (.t 21) (.t 19))⟩,
 ⟨none, none, .h (.store 2 (.t 22) (.t 20))⟩])
 (.seq (.ops [⟨some 23, none, .p (.mv (.t 3))⟩,
 ⟨some 24, none, .p (.bin .add (.k (.s (.int .i64 48))) (.t 23))⟩,
 ⟨some 25, none, .p (.build (.ints 2) [(0, 1, (.k (.s (.int .i64 1)))), (1, 1, (.k (.s (.int .i64 1))))])⟩,
 ⟨some 26, none, .p (.fa 0 128 (.t 1))⟩,
 ⟨some 27, none, .p (.ixa 64 2 (.t 26) (.t 24))⟩,
 ⟨none, none, .h (.store 2 (.t 27) (.t 25))⟩])
 (.ops [⟨some 28, none, .p (.mv (.t 3))⟩,
 ⟨some 29, none, .p (.bin .add (.k (.s (.int .i64 56))) (.t 28))⟩,
 ⟨some 30, none, .p (.mv (.t 2))⟩,
 ⟨some 31, none, .p (.mv (.t 3))⟩,
 ⟨some 32, none, .p (.ixs 1 (.t 30) (.t 31))⟩,
 ⟨some 33, none, .h (.load false 1 (.t 32))⟩,
 ⟨some 34, none, .p (.build (.ints 2) [(0, 1, (.t 33)), (1, 1, (.k (.s (.int .i64 1))))])⟩,
 ⟨some 35, none, .p (.fa 0 128 (.t 1))⟩,
 ⟨some 36, none, .p (.ixa 64 2 (.t 35) (.t 29))⟩,
 ⟨none, none, .h (.store 2 (.t 36) (.t 34))⟩])))))
 (.ops [⟨some 8, none, .p (.mv (.t 3))⟩,
 ⟨some 9, none, .p (.bin .add (.t 8) (.k (.s (.int .i64 1))))⟩,
 ⟨some 3, none, .p (.mv (.t 9))⟩]))))))
 (.seq (.ops [⟨some 37, none, .p (.fa 129 1 (.t 1))⟩,
 ⟨none, none, .h (.store 1 (.t 37) (.k (.s (.int .i64 15))))⟩])
 (.seq (.ops [⟨some 38, none, .h (.load true 133 (.t 1))⟩,
 ⟨none, none, .h (.store 133 (.t 0) (.t 38))⟩])
 .ret))))))⟩
theorem c11 : compF Try.prog false Try.f11 = some a11 := by kernel_rfl
noncomputable def a12 : AF := ⟨4, [.tmp 2],
 (.seq (.ops [⟨some 1, none, .h (.box (.t 0))⟩,
 ⟨some 2, none, .p (.mv (.k .fnil))⟩])
 (.seq (.ops [⟨some 3, none, .p (.mkfn 23 [(.t 1)])⟩,
 ⟨some 2, none, .p (.mv (.t 3))⟩])
 .ret))⟩
theorem c12 : compF Try.prog false Try.f12 = some a12 := by kernel_rfl
noncomputable def a13 : AF := ⟨49, [.tmp 4],
 (.seq (.ops [⟨some 2, none, .h (.box (.t 0))⟩,
 ⟨some 4, none, .p (.mv (.k .snil))⟩])
 (.seq (.seq (.ops [⟨some 8, none, .p (.mv (.t 1))⟩,
 ⟨some 9, none, .p (.len (.t 8))⟩,
 ⟨some 10, none, .p (.mv (.k (.s (.int .i64 0))))⟩])
 (.block 0 (.loop (.seq (.ops [⟨some 11, none, .p (.bin .lss (.t 10) (.t 9))⟩])
 (.seq (.cond (.t 11)
 .skip
 (.exit 0))
 (.seq (.block 1 (.seq (.ops [⟨some 12, none, .p (.ixs 1 (.t 8) (.t 10))⟩,
 ⟨some 13, none, .h (.load false 1 (.t 12))⟩,
 ⟨some 6, none, .p (.mv (.t 13))⟩])
 (.seq (.seq (.par [⟨some 14, none, .p (.fa 134 2 (.t 2))⟩,
 ⟨some 15, none, .p (.fa 0 1 (.t 14))⟩,
 ⟨some 16, none, .h (.load false 1 (.t 15))⟩,
 ⟨some 17, none, .p (.bin .neq (.t 16) (.k (.s (.int .i64 1))))⟩,
 ⟨some 18, none, .p (.mv (.t 17))⟩,
 ⟨some 19, some (18, false), .p (.mv (.t 6))⟩,
 ⟨some 20, some (18, false), .h (.callq (.k (.fn 24 [])) [(.t 19)])⟩,
 ⟨some 21, some (18, false), .p (.fa 134 2 (.t 2))⟩,
 ⟨some 22, some (18, false), .p (.fa 1 1 (.t 21))⟩,
 ⟨some 23, some (18, false), .h (.load false 1 (.t 22))⟩,
 ⟨some 24, some (18, false), .p (.bin .sub (.k (.s (.int .i64 1))) (.t 23))⟩,
 ⟨some 25, some (18, false), .p (.bin .mul (.k (.s (.int .i64 7))) (.t 24))⟩,
 ⟨some 26, some (18, false), .p (.bin .neq (.t 20) (.t 25))⟩,
 ⟨some 27, none, .p (.pick (.t 18) (.k (.s (.bool true))) (.t 26))⟩])
 (.cond (.t 27)
 (.seq (.ops [⟨some 28, none, .p (.mv (.t 4))⟩,
 ⟨some 29, none, .p (.fa 133 1 (.t 2))⟩,
 ⟨some 30, none, .h (.load false 1 (.t 29))⟩,
 ⟨some 31, none, .p (.mv (.t 6))⟩,
 ⟨some 32, none, .p (.build (.ints 3) [(0, 1, (.t 30)), (1, 1, (.t 31))])⟩,
 ⟨some 33, none, .h (.mksl 1 3 (.ints 3) [(0, (.t 32))])⟩,
 ⟨some 34, none, .h (.append 3 24 (.t 28) (.t 33))⟩,
 ⟨some 4, none, .p (.mv (.t 34))⟩])
 (.exit 1))
 .skip))
 (.seq (.ops [⟨some 7, none, .p (.mv (.k (.s (.int .i64 2))))⟩])
 (.block 2 (.loop (.seq (.seq (.ops [⟨some 35, none, .p (.mv (.t 7))⟩,
 ⟨some 36, none, .p (.bin .leq (.t 35) (.k (.s (.int .i64 5))))⟩])
 (.cond (.t 36)
 .skip
 (.exit 2)))
 (.seq (.block 3 (.ops [⟨some 39, none, .p (.mv (.t 4))⟩,
 ⟨some 40, none, .p (.fa 133 1 (.t 2))⟩,
 ⟨some 41, none, .h (.load false 1 (.t 40))⟩,
 ⟨some 42, none, .p (.mv (.t 6))⟩,
 ⟨some 43, none, .p (.mv (.t 7))⟩,
 ⟨some 44, none, .p (.build (.ints 3) [(0, 1, (.t 41)), (1, 1, (.t 42)), (2, 1, (.t 43))])⟩,
 ⟨some 45, none, .h (.mksl 1 3 (.ints 3) [(0, (.t 44))])⟩,
 ⟨some 46, none, .h (.append 3 24 (.t 39) (.t 45))⟩,
 ⟨some 4, none, .p (.mv (.t 46))⟩]))
 (.ops [⟨some 37, none, .p (.mv (.t 7))⟩,
 ⟨some 38, none, .p (.bin .add (.t 37) (.k (.s (.int .i64 1))))⟩,
 ⟨some 7, none, .p (.mv (.t 38))⟩])))))))))
 (.ops [⟨some 47, none, .p (.bin .add (.t 10) (.k (.s (.int .i64 1))))⟩,
 ⟨some 10, none, .p (.mv (.t 47))⟩])))))))
 (.seq (.ops [⟨some 48, none, .p (.mv (.t 4))⟩,
 ⟨some 4, none, .p (.mv (.t 48))⟩])
 .ret)))⟩
theorem c13 : compF Try.prog false Try.f13 = some a13 := by kernel_rfl
noncomputable def a14 : AF := ⟨21, [.tmp 2],
 (.seq (.ops [⟨some 1, none, .h (.box (.t 0))⟩,
 ⟨some 2, none, .p (.mv (.k .snil))⟩])
 (.seq (.seq (.ops [⟨some 4, none, .p (.fa 134 2 (.t 1))⟩,
 ⟨some 5, none, .p (.fa 0 1 (.t 4))⟩,
 ⟨some 6, none, .h (.load false 1 (.t 5))⟩,
 ⟨some 7, none, .p (.bin .eql (.t 6) (.k (.s (.int .i64 1))))⟩])
 (.cond (.t 7)
 (.seq (.ops [⟨some 8, none, .h (.load true 136 (.t 1))⟩,
 ⟨some 9, none, .h (.call (.k (.fn 25 [])) [(.t 8)])⟩,
 ⟨some 2, none, .p (.mv (.t 9))⟩])
 .ret)
 .skip))
 (.seq (.ops [⟨some 10, none, .p (.mkfn 26 [(.t 1)])⟩,
 ⟨some 3, none, .p (.mv (.t 10))⟩])
 (.seq (.parc [[0, 1, 2, 3, 4, 5, 6, 7, 8, 9, 10], [0, 1, 2, 3, 4, 5, 7, 6, 8, 9, 10], [0, 1, 2, 3, 4, 7, 5, 6, 8, 9, 10], [0, 1, 2, 3, 5, 4, 6, 7, 8, 9, 10], [0, 1, 2, 3, 5, 4, 7, 6, 8, 9, 10], [0, 1, 2, 3, 5, 7, 4, 6, 8, 9, 10], [0, 1, 2, 3, 7, 4, 5, 6, 8, 9, 10], [0, 1, 2, 3, 7, 5, 4, 6, 8, 9, 10], [0, 1, 2, 5, 3, 4, 6, 7, 8, 9, 10], [0, 1, 2, 5, 3, 4, 7, 6, 8, 9, 10], [0, 1, 2, 5, 3, 7, 4, 6, 8, 9, 10], [0, 1, 2, 5, 7, 3, 4, 6, 8, 9, 10], [0, 1, 2, 7, 3, 4, 5, 6, 8, 9, 10], [0, 1, 2, 7, 3, 5, 4, 6, 8, 9, 10], [0, 1, 2, 7, 5, 3, 4, 6, 8, 9, 10], [0, 1, 5, 2, 3, 4, 6, 7, 8, 9, 10], [0, 1, 5, 2, 3, 4, 7, 6, 8, 9, 10], [0, 1, 5, 2, 3, 7, 4, 6, 8, 9, 10], [0, 1, 5, 2, 7, 3, 4, 6, 8, 9, 10], [0, 1, 5, 7, 2, 3, 4, 6, 8, 9, 10], [0, 1, 7, 2, 3, 4, 5, 6, 8, 9, 10], [0, 1, 7, 2, 3, 5, 4, 6, 8, 9, 10], [0, 1, 7, 2, 5, 3, 4, 6, 8, 9, 10], [0, 1, 7, 5, 2, 3, 4, 6, 8, 9, 10], [0, 2, 1, 3, 4, 5, 6, 7, 8, 9, 10], [0, 2, 1, 3, 4, 5, 7, 6, 8, 9, 10], [0, 2, 1, 3, 4, 7, 5, 6, 8, 9, 10], [0, 2, 1, 3, 5, 4, 6, 7, 8, 9, 10], [0, 2, 1, 3, 5, 4, 7, 6, 8, 9, 10], [0, 2, 1, 3, 5, 7, 4, 6, 8, 9, 10], [0, 2, 1, 3, 7, 4, 5, 6, 8, 9, 10], [0, 2, 1, 3, 7, 5, 4, 6, 8, 9, 10], [0, 2, 1, 5, 3, 4, 6, 7, 8, 9, 10], [0, 2, 1, 5, 3, 4, 7, 6, 8, 9, 10], [0, 2, 1, 5, 3, 7, 4, 6, 8, 9, 10], [0, 2, 1, 5, 7, 3, 4, 6, 8, 9, 10], [0, 2, 1, 7, 3, 4, 5, 6, 8, 9, 10], [0, 2, 1, 7, 3, 5, 4, 6, 8, 9, 10], [0, 2, 1, 7, 5, 3, 4, 6, 8, 9, 10], [0, 2, 3, 1, 4, 5, 6, 7, 8, 9, 10], [0, 2, 3, 1, 4, 5, 7, 6, 8, 9, 10], [0, 2, 3, 1, 4, 7, 5, 6, 8, 9, 10], [0, 2, 3, 1, 5, 4, 6, 7, 8, 9, 10], [0, 2, 3, 1, 5, 4, 7, 6, 8, 9, 10], [0, 2, 3, 1, 5, 7, 4, 6, 8, 9, 10], [0, 2, 3, 1, 7, 4, 5, 6, 8, 9, 10], [0, 2, 3, 1, 7, 5, 4, 6, 8, 9, 10], [0, 2, 3, 5, 1, 4, 6, 7, 8, 9, 10], [0, 2, 3, 5, 1, 4, 7, 6, 8, 9, 10], [0, 2, 3, 5, 1, 7, 4, 6, 8, 9, 10], [0, 2, 3, 5, 7, 1, 4, 6, 8, 9, 10], [0, 2, 3, 7, 1, 4, 5, 6, 8, 9, 10], [0, 2, 3, 7, 1, 5, 4, 6, 8, 9, 10], [0, 2, 3, 7, 5, 1, 4, 6, 8, 9, 10], [0, 2, 5, 1, 3, 4, 6, 7, 8, 9, 10], [0, 2, 5, 1, 3, 4, 7, 6, 8, 9, 10], [0, 2, 5, 1, 3, 7, 4, 6, 8, 9, 10], [0, 2, 5, 1, 7, 3, 4, 6, 8, 9, 10], [0, 2, 5, 3, 1, 4, 6, 7, 8, 9, 10], [0, 2, 5, 3, 1, 4, 7, 6, 8, 9, 10], [0, 2, 5, 3, 1, 7, 4, 6, 8, 9, 10], [0, 2, 5, 3, 7, 1, 4, 6, 8, 9, 10], [0, 2, 5, 7, 1, 3, 4, 6, 8, 9, 10], [0, 2, 5, 7, 3, 1, 4, 6, 8, 9, 10], [0, 2, 7, 1, 3, 4, 5, 6, 8, 9, 10], [0, 2, 7, 1, 3, 5, 4, 6, 8, 9, 10], [0, 2, 7, 1, 5, 3, 4, 6, 8, 9, 10], [0, 2, 7, 3, 1, 4, 5, 6, 8, 9, 10], [0, 2, 7, 3, 1, 5, 4, 6, 8, 9, 10], [0, 2, 7, 3, 5, 1, 4, 6, 8, 9, 10], [0, 2, 7, 5, 1, 3, 4, 6, 8, 9, 10], [0, 2, 7, 5, 3, 1, 4, 6, 8, 9, 10], [0, 5, 1, 2, 3, 4, 6, 7, 8, 9, 10], [0, 5, 1, 2, 3, 4, 7, 6, 8, 9, 10], [0, 5, 1, 2, 3, 7, 4, 6, 8, 9, 10], [0, 5, 1, 2, 7, 3, 4, 6, 8, 9, 10], [0, 5, 1, 7, 2, 3, 4, 6, 8, 9, 10], [0, 5, 2, 1, 3, 4, 6, 7, 8, 9, 10], [0, 5, 2, 1, 3, 4, 7, 6, 8, 9, 10], [0, 5, 2, 1, 3, 7, 4, 6, 8, 9, 10], [0, 5, 2, 1, 7, 3, 4, 6, 8, 9, 10], [0, 5, 2, 3, 1, 4, 6, 7, 8, 9, 10], [0, 5, 2, 3, 1, 4, 7, 6, 8, 9, 10], [0, 5, 2, 3, 1, 7, 4, 6, 8, 9, 10], [0, 5, 2, 3, 7, 1, 4, 6, 8, 9, 10], [0, 5, 2, 7, 1, 3, 4, 6, 8, 9, 10], [0, 5, 2, 7, 3, 1, 4, 6, 8, 9, 10], [0, 5, 7, 1, 2, 3, 4, 6, 8, 9, 10], [0, 5, 7, 2, 1, 3, 4, 6, 8, 9, 10], [0, 5, 7, 2, 3, 1, 4, 6, 8, 9, 10], [0, 7, 1, 2, 3, 4, 5, 6, 8, 9, 10], [0, 7, 1, 2, 3, 5, 4, 6, 8, 9, 10], [0, 7, 1, 2, 5, 3, 4, 6, 8, 9, 10], [0, 7, 1, 5, 2, 3, 4, 6, 8, 9, 10], [0, 7, 2, 1, 3, 4, 5, 6, 8, 9, 10], [0, 7, 2, 1, 3, 5, 4, 6, 8, 9, 10], [0, 7, 2, 1, 5, 3, 4, 6, 8, 9, 10], [0, 7, 2, 3, 1, 4, 5, 6, 8, 9, 10], [0, 7, 2, 3, 1, 5, 4, 6, 8, 9, 10], [0, 7, 2, 3, 5, 1, 4, 6, 8, 9, 10], [0, 7, 2, 5, 1, 3, 4, 6, 8, 9, 10], [0, 7, 2, 5, 3, 1, 4, 6, 8, 9, 10], [0, 7, 5, 1, 2, 3, 4, 6, 8, 9, 10], [0, 7, 5, 2, 1, 3, 4, 6, 8, 9, 10], [0, 7, 5, 2, 3, 1, 4, 6, 8, 9, 10], [2, 0, 1, 3, 4, 5, 6, 7, 8, 9, 10], [2, 0, 1, 3, 4, 5, 7, 6, 8, 9, 10], [2, 0, 1, 3, 4, 7, 5, 6, 8, 9, 10], [2, 0, 1, 3, 5, 4, 6, 7, 8, 9, 10], [2, 0, 1, 3, 5, 4, 7, 6, 8, 9, 10], [2, 0, 1, 3, 5, 7, 4, 6, 8, 9, 10], [2, 0, 1, 3, 7, 4, 5, 6, 8, 9, 10], [2, 0, 1, 3, 7, 5, 4, 6, 8, 9, 10], [2, 0, 1, 5, 3, 4, 6, 7, 8, 9, 10], [2, 0, 1, 5, 3, 4, 7, 6, 8, 9, 10], [2, 0, 1, 5, 3, 7, 4, 6, 8, 9, 10], [2, 0, 1, 5, 7, 3, 4, 6, 8, 9, 10], [2, 0, 1, 7, 3, 4, 5, 6, 8, 9, 10], [2, 0, 1, 7, 3, 5, 4, 6, 8, 9, 10], [2, 0, 1, 7, 5, 3, 4, 6, 8, 9, 10], [2, 0, 3, 1, 4, 5, 6, 7, 8, 9, 10], [2, 0, 3, 1, 4, 5, 7, 6, 8, 9, 10], [2, 0, 3, 1, 4, 7, 5, 6, 8, 9, 10], [2, 0, 3, 1, 5, 4, 6, 7, 8, 9, 10], [2, 0, 3, 1, 5, 4, 7, 6, 8, 9, 10], [2, 0, 3, 1, 5, 7, 4, 6, 8, 9, 10], [2, 0, 3, 1, 7, 4, 5, 6, 8, 9, 10], [2, 0, 3, 1, 7, 5, 4, 6, 8, 9, 10], [2, 0, 3, 5, 1, 4, 6, 7, 8, 9, 10], [2, 0, 3, 5, 1, 4, 7, 6, 8, 9, 10], [2, 0, 3, 5, 1, 7, 4, 6, 8, 9, 10], [2, 0, 3, 5, 7, 1, 4, 6, 8, 9, 10], [2, 0, 3, 7, 1, 4, 5, 6, 8, 9, 10], [2, 0, 3, 7, 1, 5, 4, 6, 8, 9, 10], [2, 0, 3, 7, 5, 1, 4, 6, 8, 9, 10], [2, 0, 5, 1, 3, 4, 6, 7, 8, 9, 10], [2, 0, 5, 1, 3, 4, 7, 6, 8, 9, 10], [2, 0, 5, 1, 3, 7, 4, 6, 8, 9, 10], [2, 0, 5, 1, 7, 3, 4, 6, 8, 9, 10], [2, 0, 5, 3, 1, 4, 6, 7, 8, 9, 10], [2, 0, 5, 3, 1, 4, 7, 6, 8, 9, 10], [2, 0, 5, 3, 1, 7, 4, 6, 8, 9, 10], [2, 0, 5, 3, 7, 1, 4, 6, 8, 9, 10], [2, 0, 5, 7, 1, 3, 4, 6, 8, 9, 10], [2, 0, 5, 7, 3, 1, 4, 6, 8, 9, 10], [2, 0, 7, 1, 3, 4, 5, 6, 8, 9, 10], [2, 0, 7, 1, 3, 5, 4, 6, 8, 9, 10], [2, 0, 7, 1, 5, 3, 4, 6, 8, 9, 10], [2, 0, 7, 3, 1, 4, 5, 6, 8, 9, 10], [2, 0, 7, 3, 1, 5, 4, 6, 8, 9, 10], [2, 0, 7, 3, 5, 1, 4, 6, 8, 9, 10], [2, 0, 7, 5, 1, 3, 4, 6, 8, 9, 10], [2, 0, 7, 5, 3, 1, 4, 6, 8, 9, 10], [2, 3, 0, 1, 4, 5, 6, 7, 8, 9, 10], [2, 3, 0, 1, 4, 5, 7, 6, 8, 9, 10], [2, 3, 0, 1, 4, 7, 5, 6, 8, 9, 10], [2, 3, 0, 1, 5, 4, 6, 7, 8, 9, 10], [2, 3, 0, 1, 5, 4, 7, 6, 8, 9, 10], [2, 3, 0, 1, 5, 7, 4, 6, 8, 9, 10], [2, 3, 0, 1, 7, 4, 5, 6, 8, 9, 10], [2, 3, 0, 1, 7, 5, 4, 6, 8, 9, 10], [2, 3, 0, 5, 1, 4, 6, 7, 8, 9, 10], [2, 3, 0, 5, 1, 4, 7, 6, 8, 9, 10], [2, 3, 0, 5, 1, 7, 4, 6, 8, 9, 10], [2, 3, 0, 5, 7, 1, 4, 6, 8, 9, 10], [2, 3, 0, 7, 1, 4, 5, 6, 8, 9, 10], [2, 3, 0, 7, 1, 5, 4, 6, 8, 9, 10], [2, 3, 0, 7, 5, 1, 4, 6, 8, 9, 10], [2, 3, 5, 0, 1, 4, 6, 7, 8, 9, 10], [2, 3, 5, 0, 1, 4, 7, 6, 8, 9, 10], [2, 3, 5, 0, 1, 7, 4, 6, 8, 9, 10], [2, 3, 5, 0, 7, 1, 4, 6, 8, 9, 10], [2, 3, 5, 7, 0, 1, 4, 6, 8, 9, 10], [2, 3, 7, 0, 1, 4, 5, 6, 8, 9, 10], [2, 3, 7, 0, 1, 5, 4, 6, 8, 9, 10], [2, 3, 7, 0, 5, 1, 4, 6, 8, 9, 10], [2, 3, 7, 5, 0, 1, 4, 6, 8, 9, 10], [2, 5, 0, 1, 3, 4, 6, 7, 8, 9, 10], [2, 5, 0, 1, 3, 4, 7, 6, 8, 9, 10], [2, 5, 0, 1, 3, 7, 4, 6, 8, 9, 10], [2, 5, 0, 1, 7, 3, 4, 6, 8, 9, 10], [2, 5, 0, 3, 1, 4, 6, 7, 8, 9, 10], [2, 5, 0, 3, 1, 4, 7, 6, 8, 9, 10], [2, 5, 0, 3, 1, 7, 4, 6, 8, 9, 10], [2, 5, 0, 3, 7, 1, 4, 6, 8, 9, 10], [2, 5, 0, 7, 1, 3, 4, 6, 8, 9, 10], [2, 5, 0, 7, 3, 1, 4, 6, 8, 9, 10], [2, 5, 3, 0, 1, 4, 6, 7, 8, 9, 10], [2, 5, 3, 0, 1, 4, 7, 6, 8, 9, 10], [2, 5, 3, 0, 1, 7, 4, 6, 8, 9, 10], [2, 5, 3, 0, 7, 1, 4, 6, 8, 9, 10], [2, 5, 3, 7, 0, 1, 4, 6, 8, 9, 10], [2, 5, 7, 0, 1, 3, 4, 6, 8, 9, 10], [2, 5, 7, 0, 3, 1, 4, 6, 8, 9, 10], [2, 5, 7, 3, 0, 1, 4, 6, 8, 9, 10], [2, 7, 0, 1, 3, 4, 5, 6, 8, 9, 10], [2, 7, 0, 1, 3, 5, 4, 6, 8, 9, 10], [2, 7, 0, 1, 5, 3, 4, 6, 8, 9, 10], [2, 7, 0, 3, 1, 4, 5, 6, 8, 9, 10], [2, 7, 0, 3, 1, 5, 4, 6, 8, 9, 10], [2, 7, 0, 3, 5, 1, 4, 6, 8, 9, 10], [2, 7, 0, 5, 1, 3, 4, 6, 8, 9, 10], [2, 7, 0, 5, 3, 1, 4, 6, 8, 9, 10], [2, 7, 3, 0, 1, 4, 5, 6, 8, 9, 10], [2, 7, 3, 0, 1, 5, 4, 6, 8, 9, 10], [2, 7, 3, 0, 5, 1, 4, 6, 8, 9, 10], [2, 7, 3, 5, 0, 1, 4, 6, 8, 9, 10], [2, 7, 5, 0, 1, 3, 4, 6, 8, 9, 10], [2, 7, 5, 0, 3, 1, 4, 6, 8, 9, 10], [2, 7, 5, 3, 0, 1, 4, 6, 8, 9, 10], [5, 0, 1, 2, 3, 4, 6, 7, 8, 9, 10], [5, 0, 1, 2, 3, 4, 7, 6, 8, 9, 10], [5, 0, 1, 2, 3, 7, 4, 6, 8, 9, 10], [5, 0, 1, 2, 7, 3, 4, 6, 8, 9, 10], [5, 0, 1, 7, 2, 3, 4, 6, 8, 9, 10], [5, 0, 2, 1, 3, 4, 6, 7, 8, 9, 10], [5, 0, 2, 1, 3, 4, 7, 6, 8, 9, 10], [5, 0, 2, 1, 3, 7, 4, 6, 8, 9, 10], [5, 0, 2, 1, 7, 3, 4, 6, 8, 9, 10], [5, 0, 2, 3, 1, 4, 6, 7, 8, 9, 10], [5, 0, 2, 3, 1, 4, 7, 6, 8, 9, 10], [5, 0, 2, 3, 1, 7, 4, 6, 8, 9, 10], [5, 0, 2, 3, 7, 1, 4, 6, 8, 9, 10], [5, 0, 2, 7, 1, 3, 4, 6, 8, 9, 10], [5, 0, 2, 7, 3, 1, 4, 6, 8, 9, 10], [5, 0, 7, 1, 2, 3, 4, 6, 8, 9, 10], [5, 0, 7, 2, 1, 3, 4, 6, 8, 9, 10], [5, 0, 7, 2, 3, 1, 4, 6, 8, 9, 10], [5, 2, 0, 1, 3, 4, 6, 7, 8, 9, 10], [5, 2, 0, 1, 3, 4, 7, 6, 8, 9, 10], [5, 2, 0, 1, 3, 7, 4, 6, 8, 9, 10], [5, 2, 0, 1, 7, 3, 4, 6, 8, 9, 10], [5, 2, 0, 3, 1, 4, 6, 7, 8, 9, 10], [5, 2, 0, 3, 1, 4, 7, 6, 8, 9, 10], [5, 2, 0, 3, 1, 7, 4, 6, 8, 9, 10], [5, 2, 0, 3, 7, 1, 4, 6, 8, 9, 10], [5, 2, 0, 7, 1, 3, 4, 6, 8, 9, 10], [5, 2, 0, 7, 3, 1, 4, 6, 8, 9, 10], [5, 2, 3, 0, 1, 4, 6, 7, 8, 9, 10], [5, 2, 3, 0, 1, 4, 7, 6, 8, 9, 10], [5, 2, 3, 0, 1, 7, 4, 6, 8, 9, 10], [5, 2, 3, 0, 7, 1, 4, 6, 8, 9, 10], [5, 2, 3, 7, 0, 1, 4, 6, 8, 9, 10], [5, 2, 7, 0, 1, 3, 4, 6, 8, 9, 10], [5, 2, 7, 0, 3, 1, 4, 6, 8, 9, 10], [5, 2, 7, 3, 0, 1, 4, 6, 8, 9, 10], [5, 7, 0, 1, 2, 3, 4, 6, 8, 9, 10], [5, 7, 0, 2, 1, 3, 4, 6, 8, 9, 10], [5, 7, 0, 2, 3, 1, 4, 6, 8, 9, 10], [5, 7, 2, 0, 1, 3, 4, 6, 8, 9, 10], [5, 7, 2, 0, 3, 1, 4, 6, 8, 9, 10], [5, 7, 2, 3, 0, 1, 4, 6, 8, 9, 10], [7, 0, 1, 2, 3, 4, 5, 6, 8, 9, 10], [7, 0, 1, 2, 3, 5, 4, 6, 8, 9, 10], [7, 0, 1, 2, 5, 3, 4, 6, 8, 9, 10], [7, 0, 1, 5, 2, 3, 4, 6, 8, 9, 10], [7, 0, 2, 1, 3, 4, 5, 6, 8, 9, 10], [7, 0, 2, 1, 3, 5, 4, 6, 8, 9, 10], [7, 0, 2, 1, 5, 3, 4, 6, 8, 9, 10], [7, 0, 2, 3, 1, 4, 5, 6, 8, 9, 10], [7, 0, 2, 3, 1, 5, 4, 6, 8, 9, 10], [7, 0, 2, 3, 5, 1, 4, 6, 8, 9, 10], [7, 0, 2, 5, 1, 3, 4, 6, 8, 9, 10], [7, 0, 2, 5, 3, 1, 4, 6, 8, 9, 10], [7, 0, 5, 1, 2, 3, 4, 6, 8, 9, 10], [7, 0, 5, 2, 1, 3, 4, 6, 8, 9, 10], [7, 0, 5, 2, 3, 1, 4, 6, 8, 9, 10], [7, 2, 0, 1, 3, 4, 5, 6, 8, 9, 10], [7, 2, 0, 1, 3, 5, 4, 6, 8, 9, 10], [7, 2, 0, 1, 5, 3, 4, 6, 8, 9, 10], [7, 2, 0, 3, 1, 4, 5, 6, 8, 9, 10], [7, 2, 0, 3, 1, 5, 4, 6, 8, 9, 10], [7, 2, 0, 3, 5, 1, 4, 6, 8, 9, 10], [7, 2, 0, 5, 1, 3, 4, 6, 8, 9, 10], [7, 2, 0, 5, 3, 1, 4, 6, 8, 9, 10], [7, 2, 3, 0, 1, 4, 5, 6, 8, 9, 10], [7, 2, 3, 0, 1, 5, 4, 6, 8, 9, 10], [7, 2, 3, 0, 5, 1, 4, 6, 8, 9, 10], [7, 2, 3, 5, 0, 1, 4, 6, 8, 9, 10], [7, 2, 5, 0, 1, 3, 4, 6, 8, 9, 10], [7, 2, 5, 0, 3, 1, 4, 6, 8, 9, 10], [7, 2, 5, 3, 0, 1, 4, 6, 8, 9, 10], [7, 5, 0, 1, 2, 3, 4, 6, 8, 9, 10], [7, 5, 0, 2, 1, 3, 4, 6, 8, 9, 10], [7, 5, 0, 2, 3, 1, 4, 6, 8, 9, 10], [7, 5, 2, 0, 1, 3, 4, 6, 8, 9, 10], [7, 5, 2, 0, 3, 1, 4, 6, 8, 9, 10], [7, 5, 2, 3, 0, 1, 4, 6, 8, 9, 10]] [⟨some 11, none, .p (.fa 0 133 (.t 1))⟩,
 ⟨some 12, none, .h (.load true 133 (.t 11))⟩,
 ⟨some 13, none, .p (.fa 133 1 (.t 1))⟩,
 ⟨some 14, none, .h (.load false 1 (.t 13))⟩,
 ⟨some 15, none, .h (.call (.k (.fn 10 [])) [(.t 12), (.t 14)])⟩,
 ⟨some 16, none, .p (.mv (.t 3))⟩,
 ⟨some 17, none, .h (.call (.k (.fn 27 [])) [(.t 15), (.t 16)])⟩,
 ⟨some 18, none, .h (.load true 136 (.t 1))⟩,
 ⟨some 19, none, .h (.call (.k (.fn 28 [])) [(.t 18)])⟩,
 ⟨some 20, none, .h (.append 1 8 (.t 17) (.t 19))⟩,
 ⟨some 2, none, .p (.mv (.t 20))⟩])
 .ret))))⟩
theorem c14 : compF Try.prog true Try.f14 = some a14 := by kernel_rfl
noncomputable def a16 : AF := ⟨22, [.tmp 4],
 (.seq (.ops [⟨some 2, none, .h (.box (.t 0))⟩,
 ⟨some 3, none, .h (.box (.t 1))⟩,
 ⟨some 4, none, .p (.mv (.k (.s (.int .i64 0))))⟩])
 (.seq (.par [⟨some 5, none, .p (.fa 0 1 (.t 2))⟩,
 ⟨some 6, none, .h (.load false 1 (.t 5))⟩,
 ⟨some 7, none, .p (.fa 0 1 (.t 3))⟩,
 ⟨some 8, none, .h (.load false 1 (.t 7))⟩,
 ⟨some 9, none, .h (.callq (.k (.fn 32 [])) [(.t 6), (.t 8)])⟩,
 ⟨some 10, none, .p (.fa 1 1 (.t 2))⟩,
 ⟨some 11, none, .h (.load false 1 (.t 10))⟩,
 ⟨some 12, none, .p (.fa 1 1 (.t 3))⟩,
 ⟨some 13, none, .h (.load false 1 (.t 12))⟩,
 ⟨some 14, none, .h (.callq (.k (.fn 32 [])) [(.t 11), (.t 13)])⟩,
 ⟨some 15, none, .p (.fa 2 1 (.t 2))⟩,
 ⟨some 16, none, .h (.load false 1 (.t 15))⟩,
 ⟨some 17, none, .p (.fa 2 1 (.t 3))⟩,
 ⟨some 18, none, .h (.load false 1 (.t 17))⟩,
 ⟨some 19, none, .h (.call (.k (.fn 33 [])) [(.t 16), (.t 18)])⟩,
 ⟨some 20, none, .h (.mksl 3 1 (.one (.s (.int .i64 0))) [(0, (.t 9)), (1, (.t 14)), (2, (.t 19))])⟩,
 ⟨some 21, none, .h (.call (.k (.fn 31 [])) [(.t 20)])⟩,
 ⟨some 4, none, .p (.mv (.t 21))⟩])
 .ret))⟩
theorem c16 : compF Try.prog false Try.f16 = some a16 := by kernel_rfl
noncomputable def a17 : AF := ⟨116, [.tmp 4, .tmp 5],
 (.seq (.ops [⟨some 2, none, .h (.box (.t 0))⟩,
 ⟨some 3, none, .h (.box (.t 1))⟩,
 ⟨some 4, none, .p (.mv (.k .pnil))⟩,
 ⟨some 5, none, .p (.mv (.k (.s (.int .i64 0))))⟩])
 (.seq (.seq (.ops [⟨some 9, none, .p (.fa 0 1 (.t 3))⟩,
 ⟨some 10, none, .h (.load false 1 (.t 9))⟩,
 ⟨some 11, none, .h (.call (.k (.fn 19 [])) [(.t 10)])⟩,
 ⟨some 12, none, .p (.un .not (.t 11))⟩,
 ⟨some 13, none, .p (.mv (.t 12))⟩,
 ⟨some 14, some (13, false), .p (.fa 1 1 (.t 3))⟩,
 ⟨some 15, some (13, false), .h (.load false 1 (.t 14))⟩,
 ⟨some 16, some (13, false), .h (.call (.k (.fn 19 [])) [(.t 15)])⟩,
 ⟨some 17, some (13, false), .p (.un .not (.t 16))⟩,
 ⟨some 18, none, .p (.pick (.t 13) (.k (.s (.bool true))) (.t 17))⟩,
 ⟨some 19, none, .p (.mv (.t 18))⟩,
 ⟨some 20, some (19, false), .p (.fa 0 1 (.t 3))⟩,
 ⟨some 21, some (19, false), .h (.load false 1 (.t 20))⟩,
 ⟨some 22, some (19, false), .p (.fa 1 1 (.t 3))⟩,
 ⟨some 23, some (19, false), .h (.load false 1 (.t 22))⟩,
 ⟨some 24, some (19, false), .p (.bin .eql (.t 21) (.t 23))⟩,
 ⟨some 25, none, .p (.pick (.t 19) (.k (.s (.bool true))) (.t 24))⟩])
 (.cond (.t 25)
 (.seq (.ops [⟨some 4, none, .p (.mv (.k .pnil))⟩,
 ⟨some 5, none, .p (.mv (.k (.s (.int .i64 6))))⟩])
 .ret)
 .skip))
 (.seq (.par [⟨some 26, none, .h (.load true 133 (.t 2))⟩,
 ⟨some 27, none, .h (.load true 3 (.t 3))⟩,
 ⟨some 28, none, .p (.fa 0 1 (.t 3))⟩,
 ⟨some 29, none, .h (.load false 1 (.t 28))⟩,
 ⟨some 30, none, .p (.fa 0 128 (.t 2))⟩,
 ⟨some 31, none, .p (.ixa 64 2 (.t 30) (.t 29))⟩,
 ⟨some 32, none, .h (.load true 2 (.t 31))⟩,
 ⟨some 33, none, .p (.build (.ints 138) [(0, 133, (.t 26)), (133, 3, (.t 27)), (136, 2, (.t 32))])⟩,
 ⟨some 34, none, .h (.box (.t 33))⟩,
 ⟨some 6, none, .p (.mv (.t 34))⟩])
 (.seq (.seq (.ops [⟨some 35, none, .p (.mv (.t 6))⟩,
 ⟨some 36, none, .p (.nilck (.t 35))⟩,
 ⟨some 37, none, .p (.fa 0 133 (.t 36))⟩,
 ⟨some 38, none, .p (.fa 129 1 (.t 37))⟩,
 ⟨some 39, none, .h (.load false 1 (.t 38))⟩,
 ⟨some 40, none, .p (.bin .lss (.t 39) (.k (.s (.int .i64 0))))⟩,
 ⟨some 41, none, .p (.mv (.t 40))⟩,
 ⟨some 42, some (41, false), .p (.mv (.t 6))⟩,
 ⟨some 43, some (41, false), .p (.nilck (.t 42))⟩,
 ⟨some 44, some (41, false), .p (.fa 0 133 (.t 43))⟩,
 ⟨some 45, some (41, false), .p (.fa 129 1 (.t 44))⟩,
 ⟨some 46, some (41, false), .h (.load false 1 (.t 45))⟩,
 ⟨some 47, some (41, false), .p (.bin .gtr (.t 46) (.k (.s (.int .i64 15))))⟩,
 ⟨some 48, none, .p (.pick (.t 41) (.k (.s (.bool true))) (.t 47))⟩])
 (.cond (.t 48)
 (.ops [⟨some 49, none, .p (.mv (.t 6))⟩,
 ⟨some 50, none, .p (.nilck (.t 49))⟩,
 ⟨some 51, none, .p (.fa 0 133 (.t 50))⟩,
 ⟨some 52, none, .p (.fa 129 1 (.t 51))⟩,
 ⟨none, none, .h (.store 1 (.t 52) (.k (.s (.int .i64 0))))⟩])
 .skip))
 (.seq (.ops [⟨some 53, none, .p (.mv (.t 6))⟩,
 ⟨some 54, none, .p (.nilck (.t 53))⟩,
 ⟨some 55, none, .p (.fa 136 2 (.t 54))⟩,
 ⟨some 56, none, .h (.load true 2 (.t 55))⟩,
 ⟨some 7, none, .h (.alloc (.ints 2))⟩,
 ⟨none, none, .h (.store 2 (.t 7) (.t 56))⟩])
 (.seq (.seq (.ops [⟨some 57, none, .p (.fa 0 1 (.t 7))⟩,
 ⟨some 58, none, .h (.load false 1 (.t 57))⟩,
 ⟨some 59, none, .p (.bin .lss (.t 58) (.k (.s (.int .i64 1))))⟩,
 ⟨some 60, none, .p (.mv (.t 59))⟩,
 ⟨some 61, some (60, false), .p (.fa 0 1 (.t 7))⟩,
 ⟨some 62, some (60, false), .h (.load false 1 (.t 61))⟩,
 ⟨some 63, some (60, false), .p (.bin .gtr (.t 62) (.k (.s (.int .i64 6))))⟩,
 ⟨some 64, none, .p (.pick (.t 60) (.k (.s (.bool true))) (.t 63))⟩,
 ⟨some 65, none, .p (.mv (.t 64))⟩,
 ⟨some 66, some (65, false), .p (.fa 1 1 (.t 7))⟩,
 ⟨some 67, some (65, false), .h (.load false 1 (.t 66))⟩,
 ⟨some 68, some (65, false), .p (.fa 128 1 (.t 2))⟩,
 ⟨some 69, some (65, false), .h (.load false 1 (.t 68))⟩,
 ⟨some 70, some (65, false), .p (.bin .neq (.t 67) (.t 69))⟩,
 ⟨some 71, none, .p (.pick (.t 65) (.k (.s (.bool true))) (.t 70))⟩,
 ⟨some 72, none, .p (.mv (.t 71))⟩,
 ⟨some 73, some (72, false), .p (.fa 1 1 (.t 7))⟩,
 ⟨some 74, some (72, false), .h (.load false 1 (.t 73))⟩,
 ⟨some 75, some (72, false), .p (.bin .neq (.t 74) (.k (.s (.int .i64 0))))⟩,
 ⟨some 76, some (72, false), .p (.mv (.t 75))⟩,
 ⟨some 77, some (76, true), .p (.fa 1 1 (.t 7))⟩,
 ⟨some 78, some (76, true), .h (.load false 1 (.t 77))⟩,
 ⟨some 79, some (76, true), .p (.bin .neq (.t 78) (.k (.s (.int .i64 1))))⟩,
 ⟨some 80, some (72, false), .p (.pick (.t 76) (.t 79) (.k (.s (.bool false))))⟩,
 ⟨some 81, none, .p (.pick (.t 72) (.k (.s (.bool true))) (.t 80))⟩])
 (.cond (.t 81)
 (.seq (.ops [⟨some 4, none, .p (.mv (.k .pnil))⟩,
 ⟨some 5, none, .p (.mv (.k (.s (.int .i64 8))))⟩])
 .ret)
 .skip))
 (.seq (.par [⟨some 82, none, .p (.fa 0 1 (.t 7))⟩,
 ⟨some 83, none, .h (.load false 1 (.t 82))⟩,
 ⟨some 84, none, .p (.bin .eql (.t 83) (.k (.s (.int .i64 1))))⟩,
 ⟨some 85, none, .p (.mv (.t 84))⟩,
 ⟨some 86, some (85, true), .p (.fa 1 1 (.t 3))⟩,
 ⟨some 87, some (85, true), .h (.load false 1 (.t 86))⟩,
 ⟨some 88, some (85, true), .h (.callq (.k (.fn 24 [])) [(.t 87)])⟩,
 ⟨some 89, some (85, true), .p (.fa 1 1 (.t 7))⟩,
 ⟨some 90, some (85, true), .h (.load false 1 (.t 89))⟩,
 ⟨some 91, some (85, true), .p (.bin .sub (.k (.s (.int .i64 1))) (.t 90))⟩,
 ⟨some 92, some (85, true), .p (.bin .mul (.k (.s (.int .i64 7))) (.t 91))⟩,
 ⟨some 93, some (85, true), .p (.bin .eql (.t 88) (.t 92))⟩,
 ⟨some 94, none, .p (.pick (.t 85) (.t 93) (.k (.s (.bool false))))⟩,
 ⟨some 8, none, .p (.mv (.t 94))⟩])
 (.seq (.seq (.ops [⟨some 95, none, .p (.mv (.t 8))⟩,
 ⟨some 96, none, .p (.mv (.t 95))⟩,
 ⟨some 97, some (96, true), .p (.fa 2 1 (.t 3))⟩,
 ⟨some 98, some (96, true), .h (.load false 1 (.t 97))⟩,
 ⟨some 99, some (96, true), .p (.bin .lss (.t 98) (.k (.s (.int .i64 2))))⟩,
 ⟨some 100, some (96, true), .p (.mv (.t 99))⟩,
 ⟨some 101, some (100, false), .p (.fa 2 1 (.t 3))⟩,
 ⟨some 102, some (100, false), .h (.load false 1 (.t 101))⟩,
 ⟨some 103, some (100, false), .p (.bin .gtr (.t 102) (.k (.s (.int .i64 5))))⟩,
 ⟨some 104, some (96, true), .p (.pick (.t 100) (.k (.s (.bool true))) (.t 103))⟩,
 ⟨some 105, none, .p (.pick (.t 96) (.t 104) (.k (.s (.bool false))))⟩,
 ⟨some 106, none, .p (.mv (.t 105))⟩,
 ⟨some 107, some (106, false), .p (.mv (.t 8))⟩,
 ⟨some 108, some (106, false), .p (.un .not (.t 107))⟩,
 ⟨some 109, some (106, false), .p (.mv (.t 108))⟩,
 ⟨some 110, some (109, true), .p (.fa 2 1 (.t 3))⟩,
 ⟨some 111, some (109, true), .h (.load false 1 (.t 110))⟩,
 ⟨some 112, some (109, true), .p (.bin .neq (.t 111) (.k (.s (.int .i64 0))))⟩,
 ⟨some 113, some (106, false), .p (.pick (.t 109) (.t 112) (.k (.s (.bool false))))⟩,
 ⟨some 114, none, .p (.pick (.t 106) (.k (.s (.bool true))) (.t 113))⟩])
 (.cond (.t 114)
 (.seq (.ops [⟨some 4, none, .p (.mv (.k .pnil))⟩,
 ⟨some 5, none, .p (.mv (.k (.s (.int .i64 8))))⟩])
 .ret)
 .skip))
 (.seq (.ops [⟨some 115, none, .p (.mv (.t 6))⟩,
 ⟨some 4, none, .p (.mv (.t 115))⟩,
 ⟨some 5, none, .p (.mv (.k (.s (.int .i64 0))))⟩])
 .ret)))))))))⟩
theorem c17 : compF Try.prog false Try.f17 = some a17 := by kernel_rfl
noncomputable def a18 : AF := ⟨161, [.cell 2 true 133],
 (.seq (.ops [⟨some 2, none, .h (.alloc (.ints 133))⟩])
 (.seq (.ops [⟨some 9, none, .p (.mv (.t 0))⟩,
 ⟨some 10, none, .h (.call (.k (.fn 34 [])) [(.t 9)])⟩,
 ⟨some 3, none, .p (.mv (.t 10))⟩])
 (.seq (.ops [⟨some 12, none, .p (.mv (.t 0))⟩,
 ⟨some 13, none, .h (.call (.k (.fn 35 [])) [(.t 12)])⟩,
 ⟨some 11, none, .p (.mv (.t 13))⟩,
 ⟨some 14, none, .p (.ext (.t 11) 0)⟩,
 ⟨some 15, none, .p (.ext (.t 11) 1)⟩,
 ⟨some 16, none, .p (.ext (.t 11) 2)⟩,
 ⟨some 4, none, .p (.mv (.t 14))⟩,
 ⟨some 5, none, .p (.mv (.t 15))⟩,
 ⟨some 6, none, .p (.mv (.t 16))⟩])
 (.seq (.ops [⟨some 7, none, .p (.mv (.k (.s (.int .i64 (-1)))))⟩])
 (.seq (.seq (.ops [⟨some 17, none, .p (.mv (.t 0))⟩,
 ⟨some 18, none, .h (.call (.k (.fn 36 [])) [(.t 17)])⟩])
 (.cond (.t 18)
 (.par [⟨some 19, none, .p (.mv (.t 0))⟩,
 ⟨some 20, none, .p (.nilck (.t 19))⟩,
 ⟨some 21, none, .p (.fa 133 3 (.t 20))⟩,
 ⟨some 22, none, .p (.fa 0 1 (.t 21))⟩,
 ⟨some 23, none, .h (.load false 1 (.t 22))⟩,
 ⟨some 24, none, .p (.mv (.t 0))⟩,
 ⟨some 25, none, .p (.nilck (.t 24))⟩,
 ⟨some 26, none, .p (.fa 133 3 (.t 25))⟩,
 ⟨some 27, none, .p (.fa 1 1 (.t 26))⟩,
 ⟨some 28, none, .h (.load false 1 (.t 27))⟩,
 ⟨some 29, none, .p (.bin .add (.t 23) (.t 28))⟩,
 ⟨some 30, none, .p (.bin .quo (.t 29) (.k (.s (.int .i64 2))))⟩,
 ⟨some 7, none, .p (.mv (.t 30))⟩])
 .skip))
 (.seq (.ops [⟨some 31, none, .p (.mv (.t 0))⟩,
 ⟨some 32, none, .p (.nilck (.t 31))⟩,
 ⟨some 33, none, .p (.fa 136 2 (.t 32))⟩,
 ⟨some 34, none, .h (.load true 2 (.t 33))⟩,
 ⟨some 8, none, .h (.alloc (.ints 2))⟩,
 ⟨none, none, .h (.store 2 (.t 8) (.t 34))⟩])
 (.seq (.seq (.ops [⟨some 35, none, .p (.mv (.t 0))⟩,
 ⟨some 36, none, .p (.nilck (.t 35))⟩,
 ⟨some 37, none, .p (.fa 133 3 (.t 36))⟩,
 ⟨some 38, none, .p (.fa 2 1 (.t 37))⟩,
 ⟨some 39, none, .h (.load false 1 (.t 38))⟩,
 ⟨some 40, none, .p (.bin .neq (.t 39) (.k (.s (.int .i64 0))))⟩])
 (.cond (.t 40)
 (.ops [⟨some 41, none, .p (.mv (.t 0))⟩,
 ⟨some 42, none, .p (.nilck (.t 41))⟩,
 ⟨some 43, none, .p (.fa 133 3 (.t 42))⟩,
 ⟨some 44, none, .p (.fa 2 1 (.t 43))⟩,
 ⟨some 45, none, .h (.load false 1 (.t 44))⟩,
 ⟨some 46, none, .p (.fa 0 1 (.t 8))⟩,
 ⟨none, none, .h (.store 1 (.t 46) (.t 45))⟩])
 .skip))
 (.seq (.ops [⟨some 47, none, .p (.mv (.t 0))⟩,
 ⟨some 48, none, .p (.build (.ints 2) [])⟩,
 ⟨some 49, none, .p (.mv (.t 3))⟩,
 ⟨some 50, none, .p (.mv (.t 0))⟩,
 ⟨some 51, none, .p (.nilck (.t 50))⟩,
 ⟨some 52, none, .p (.fa 133 3 (.t 51))⟩,
 ⟨some 53, none, .p (.fa 0 1 (.t 52))⟩,
 ⟨some 54, none, .h (.load false 1 (.t 53))⟩,
 ⟨some 55, none, .h (.mksl 2 1 (.one (.s (.int .i64 0))) [(0, (.t 49)), (1, (.t 54))])⟩,
 ⟨some 56, none, .h (.call (.k (.fn 37 [])) [(.t 47), (.t 48), (.t 55)])⟩])
 (.seq (.par [⟨some 57, none, .p (.mv (.t 0))⟩,
 ⟨some 58, none, .h (.load true 2 (.t 8))⟩,
 ⟨some 59, none, .p (.mv (.t 0))⟩,
 ⟨some 60, none, .p (.nilck (.t 59))⟩,
 ⟨some 61, none, .p (.fa 133 3 (.t 60))⟩,
 ⟨some 62, none, .p (.fa 1 1 (.t 61))⟩,
 ⟨some 63, none, .h (.load false 1 (.t 62))⟩,
 ⟨some 64, none, .h (.mksl 1 1 (.one (.s (.int .i64 0))) [(0, (.t 63))])⟩,
 ⟨some 65, none, .h (.call (.k (.fn 37 [])) [(.t 57), (.t 58), (.t 64)])⟩])
 (.seq (.seq (.ops [⟨some 66, none, .p (.mv (.t 6))⟩])
 (.cond (.t 66)
 (.seq (.ops [⟨some 67, none, .p (.mv (.t 0))⟩,
 ⟨some 68, none, .p (.build (.ints 2) [])⟩,
 ⟨some 69, none, .p (.mv (.t 4))⟩,
 ⟨some 70, none, .h (.mksl 1 1 (.one (.s (.int .i64 0))) [(0, (.t 69))])⟩,
 ⟨some 71, none, .h (.call (.k (.fn 37 [])) [(.t 67), (.t 68), (.t 70)])⟩])
 (.ops [⟨some 72, none, .p (.mv (.t 0))⟩,
 ⟨some 73, none, .p (.fa 1 1 (.t 8))⟩,
 ⟨some 74, none, .h (.load false 1 (.t 73))⟩,
 ⟨some 75, none, .p (.build (.ints 2) [(0, 1, (.k (.s (.int .i64 4)))), (1, 1, (.t 74))])⟩,
 ⟨some 76, none, .p (.mv (.t 5))⟩,
 ⟨some 77, none, .h (.mksl 1 1 (.one (.s (.int .i64 0))) [(0, (.t 76))])⟩,
 ⟨some 78, none, .h (.call (.k (.fn 37 [])) [(.t 72), (.t 75), (.t 77)])⟩]))
 .skip))
 (.seq (.ops [⟨some 79, none, .p (.mv (.t 0))⟩,
 ⟨some 80, none, .p (.mv (.t 7))⟩,
 ⟨some 81, none, .p (.nilck (.t 79))⟩,
 ⟨some 82, none, .p (.fa 0 133 (.t 81))⟩,
 ⟨some 83, none, .p (.fa 130 1 (.t 82))⟩,
 ⟨none, none, .h (.store 1 (.t 83) (.t 80))⟩])
 (.seq (.par [⟨some 84, none, .p (.mv (.t 0))⟩,
 ⟨some 85, none, .p (.nilck (.t 84))⟩,
 ⟨some 86, none, .p (.fa 0 133 (.t 85))⟩,
 ⟨some 87, none, .p (.fa 129 1 (.t 86))⟩,
 ⟨some 88, none, .h (.load false 1 (.t 87))⟩,
 ⟨some 89, none, .p (.mv (.t 0))⟩,
 ⟨some 90, none, .p (.nilck (.t 89))⟩,
 ⟨some 91, none, .p (.fa 133 3 (.t 90))⟩,
 ⟨some 92, none, .p (.fa 0 1 (.t 91))⟩,
 ⟨some 93, none, .h (.load false 1 (.t 92))⟩,
 ⟨some 94, none, .p (.mv (.t 0))⟩,
 ⟨some 95, none, .p (.nilck (.t 94))⟩,
 ⟨some 96, none, .p (.fa 133 3 (.t 95))⟩,
 ⟨some 97, none, .p (.fa 1 1 (.t 96))⟩,
 ⟨some 98, none, .h (.load false 1 (.t 97))⟩,
 ⟨some 99, none, .h (.mksl 2 1 (.one (.s (.int .i64 0))) [(0, (.t 93)), (1, (.t 98))])⟩,
 ⟨some 100, none, .h (.callq (.k (.fn 38 [])) [(.t 99)])⟩,
 ⟨some 101, none, .p (.bin .andNot (.t 88) (.t 100))⟩,
 ⟨some 102, none, .p (.nilck (.t 84))⟩,
 ⟨some 103, none, .p (.fa 0 133 (.t 102))⟩,
 ⟨some 104, none, .p (.fa 129 1 (.t 103))⟩,
 ⟨none, none, .h (.store 1 (.t 104) (.t 101))⟩])
 (.seq (.ops [⟨some 105, none, .p (.mv (.t 0))⟩,
 ⟨some 106, none, .p (.mv (.t 0))⟩,
 ⟨some 107, none, .p (.nilck (.t 106))⟩,
 ⟨some 108, none, .p (.fa 0 133 (.t 107))⟩,
 ⟨some 109, none, .p (.fa 131 1 (.t 108))⟩,
 ⟨some 110, none, .h (.load false 1 (.t 109))⟩,
 ⟨some 111, none, .p (.mn [(.t 110), (.k (.s (.int .i64 1023)))])⟩,
 ⟨some 112, none, .p (.bin .add (.t 111) (.k (.s (.int .i64 1))))⟩,
 ⟨some 113, none, .p (.nilck (.t 105))⟩,
 ⟨some 114, none, .p (.fa 0 133 (.t 113))⟩,
 ⟨some 115, none, .p (.fa 131 1 (.t 114))⟩,
 ⟨none, none, .h (.store 1 (.t 115) (.t 112))⟩])
 (.seq (.seq (.ops [⟨some 116, none, .p (.mv (.t 3))⟩,
 ⟨some 117, none, .p (.bin .neq (.t 116) (.k (.s (.int .i64 (-1)))))⟩,
 ⟨some 118, none, .p (.mv (.t 117))⟩,
 ⟨some 119, some (118, false), .p (.mv (.t 0))⟩,
 ⟨some 120, some (118, false), .p (.nilck (.t 119))⟩,
 ⟨some 121, some (118, false), .p (.fa 136 2 (.t 120))⟩,
 ⟨some 122, some (118, false), .p (.fa 0 1 (.t 121))⟩,
 ⟨some 123, some (118, false), .h (.load false 1 (.t 122))⟩,
 ⟨some 124, some (118, false), .p (.bin .eql (.t 123) (.k (.s (.int .i64 1))))⟩,
 ⟨some 125, none, .p (.pick (.t 118) (.k (.s (.bool true))) (.t 124))⟩])
 (.cond (.t 125)
 (.ops [⟨some 126, none, .p (.mv (.t 0))⟩,
 ⟨some 127, none, .p (.nilck (.t 126))⟩,
 ⟨some 128, none, .p (.fa 0 133 (.t 127))⟩,
 ⟨some 129, none, .p (.fa 131 1 (.t 128))⟩,
 ⟨none, none, .h (.store 1 (.t 129) (.k (.s (.int .i64 0))))⟩])
 .skip))
 (.seq (.seq (.ops [⟨some 130, none, .p (.mv (.t 0))⟩,
 ⟨some 131, none, .p (.nilck (.t 130))⟩,
 ⟨some 132, none, .p (.fa 0 133 (.t 131))⟩,
 ⟨some 133, none, .p (.fa 128 1 (.t 132))⟩,
 ⟨some 134, none, .h (.load false 1 (.t 133))⟩,
 ⟨some 135, none, .p (.bin .eql (.t 134) (.k (.s (.int .i64 1))))⟩])
 (.cond (.t 135)
 (.ops [⟨some 136, none, .p (.mv (.t 0))⟩,
 ⟨some 137, none, .p (.mv (.t 0))⟩,
 ⟨some 138, none, .p (.nilck (.t 137))⟩,
 ⟨some 139, none, .p (.fa 0 133 (.t 138))⟩,
 ⟨some 140, none, .p (.fa 132 1 (.t 139))⟩,
 ⟨some 141, none, .h (.load false 1 (.t 140))⟩,
 ⟨some 142, none, .p (.mn [(.t 141), (.k (.s (.int .i64 16383)))])⟩,
 ⟨some 143, none, .p (.bin .add (.t 142) (.k (.s (.int .i64 1))))⟩,
 ⟨some 144, none, .p (.nilck (.t 136))⟩,
 ⟨some 145, none, .p (.fa 0 133 (.t 144))⟩,
 ⟨some 146, none, .p (.fa 132 1 (.t 145))⟩,
 ⟨none, none, .h (.store 1 (.t 146) (.t 143))⟩])
 .skip))
 (.seq (.ops [⟨some 147, none, .p (.mv (.t 0))⟩,
 ⟨some 148, none, .p (.mv (.t 0))⟩,
 ⟨some 149, none, .p (.nilck (.t 148))⟩,
 ⟨some 150, none, .p (.fa 0 133 (.t 149))⟩,
 ⟨some 151, none, .p (.fa 128 1 (.t 150))⟩,
 ⟨some 152, none, .h (.load false 1 (.t 151))⟩,
 ⟨some 153, none, .h (.call (.k (.fn 9 [])) [(.t 152)])⟩,
 ⟨some 154, none, .p (.nilck (.t 147))⟩,
 ⟨some 155, none, .p (.fa 0 133 (.t 154))⟩,
 ⟨some 156, none, .p (.fa 128 1 (.t 155))⟩,
 ⟨none, none, .h (.store 1 (.t 156) (.t 153))⟩])
 (.seq (.ops [⟨some 157, none, .p (.mv (.t 0))⟩,
 ⟨some 158, none, .p (.nilck (.t 157))⟩,
 ⟨some 159, none, .p (.fa 0 133 (.t 158))⟩,
 ⟨some 160, none, .h (.load true 133 (.t 159))⟩,
 ⟨none, none, .h (.store 133 (.t 2) (.t 160))⟩])
 .ret)))))))))))))))))⟩
theorem c18 : compF Try.prog false Try.f18 = some a18 := by kernel_rfl
noncomputable def a19 : AF := ⟨6, [.tmp 2],
 (.seq (.ops [⟨some 2, none, .p (.mv (.k (.s (.bool false))))⟩])
 (.seq (.ops [⟨some 3, none, .p (.mv (.t 0))⟩,
 ⟨some 4, none, .h (.call (.k (.fn 39 [])) [(.t 3)])⟩,
 ⟨some 5, none, .p (.fld false 2 1 (.t 4))⟩,
 ⟨some 2, none, .p (.mv (.t 5))⟩])
 .ret))⟩
theorem c19 : compF Try.prog false Try.f19 = some a19 := by kernel_rfl
noncomputable def a20 : AF := ⟨69, [.tmp 4],
 (.seq (.ops [⟨some 2, none, .h (.box (.t 0))⟩,
 ⟨some 4, none, .p (.mv (.k .snil))⟩])
 (.seq (.ops [⟨some 10, none, .p (.mv (.t 1))⟩,
 ⟨some 11, none, .p (.fa 0 133 (.t 2))⟩,
 ⟨some 12, none, .p (.fa 0 128 (.t 11))⟩,
 ⟨some 13, none, .p (.ixa 64 2 (.t 12) (.t 10))⟩,
 ⟨some 14, none, .h (.load true 2 (.t 13))⟩,
 ⟨some 5, none, .h (.alloc (.ints 2))⟩,
 ⟨none, none, .h (.store 2 (.t 5) (.t 14))⟩])
 (.seq (.ops [⟨some 6, none, .p (.mv (.k (.s (.int .i64 1))))⟩])
 (.seq (.seq (.ops [⟨some 15, none, .p (.fa 1 1 (.t 5))⟩,
 ⟨some 16, none, .h (.load false 1 (.t 15))⟩])
 (.block 0 (.seq (.ops [⟨some 18, none, .p (.bin .eql (.t 16) (.k (.s (.int .i64 1))))⟩,
 ⟨some 17, none, .p (.mv (.t 18))⟩])
 (.cond (.t 17)
 (.ops [⟨some 6, none, .p (.mv (.k (.s (.int .i64 (-1)))))⟩])
 (.seq (.ops [⟨some 20, none, .p (.bin .eql (.t 16) (.k (.s (.int .i64 0))))⟩,
 ⟨some 19, none, .p (.mv (.t 20))⟩])
 (.cond (.t 19)
 .skip
 (.seq (.ops [⟨some 4, none, .p (.mv (.k .snil))⟩])
 .ret)))))))
 (.seq (.ops [⟨some 21, none, .h (.call (.k (.fn 40 [])) [])⟩,
 ⟨some 22, none, .h (.call (.k (.fn 41 [])) [])⟩,
 ⟨some 7, none, .h (.alloc (.ints 8))⟩,
 ⟨some 8, none, .h (.alloc (.ints 8))⟩,
 ⟨none, none, .h (.store 8 (.t 7) (.t 21))⟩,
 ⟨none, none, .h (.store 8 (.t 8) (.t 22))⟩])
 (.seq (.seq (.ops [⟨some 23, none, .p (.fa 0 1 (.t 5))⟩,
 ⟨some 24, none, .h (.load false 1 (.t 23))⟩])
 (.block 1 (.seq (.ops [⟨some 26, none, .p (.bin .eql (.t 24) (.k (.s (.int .i64 1))))⟩,
 ⟨some 25, none, .p (.mv (.t 26))⟩])
 (.cond (.t 25)
 (.seq (.ops [⟨some 27, none, .p (.mv (.t 1))⟩,
 ⟨some 28, none, .p (.mv (.t 6))⟩,
 ⟨some 29, none, .p (.build (.ints 2) [(0, 1, (.k (.s (.int .i64 (-1))))), (1, 1, (.t 28))])⟩,
 ⟨some 30, none, .p (.mv (.t 6))⟩,
 ⟨some 31, none, .p (.build (.ints 2) [(0, 1, (.k (.s (.int .i64 1)))), (1, 1, (.t 30))])⟩,
 ⟨some 32, none, .h (.mksl 2 2 (.ints 2) [(0, (.t 29)), (1, (.t 31))])⟩,
 ⟨some 33, none, .h (.call (.k (.fn 42 [])) [(.t 27), (.t 32)])⟩,
 ⟨some 4, none, .p (.mv (.t 33))⟩])
 .ret)
 (.seq (.ops [⟨some 35, none, .p (.bin .eql (.t 24) (.k (.s (.int .i64 2))))⟩,
 ⟨some 34, none, .p (.mv (.t 35))⟩])
 (.cond (.t 34)
 (.seq (.ops [⟨some 36, none, .h (.call (.k (.fn 43 [])) [])⟩,
 ⟨some 9, none, .h (.alloc (.ints 16))⟩,
 ⟨none, none, .h (.store 16 (.t 9) (.t 36))⟩])
 (.seq (.ops [⟨some 37, none, .p (.mv (.t 1))⟩,
 ⟨some 38, none, .p (.slA 8 2 (.t 9) none none)⟩,
 ⟨some 39, none, .h (.call (.k (.fn 42 [])) [(.t 37), (.t 38)])⟩,
 ⟨some 4, none, .p (.mv (.t 39))⟩])
 .ret))
 (.seq (.ops [⟨some 41, none, .p (.bin .eql (.t 24) (.k (.s (.int .i64 6))))⟩,
 ⟨some 40, none, .p (.mv (.t 41))⟩])
 (.cond (.t 40)
 (.seq (.par [⟨some 42, none, .p (.mv (.t 1))⟩,
 ⟨some 43, none, .p (.slA 4 2 (.t 7) none none)⟩,
 ⟨some 44, none, .p (.slA 4 2 (.t 8) none none)⟩,
 ⟨some 45, none, .h (.mksl 2 1 (.one .snil) [(0, (.t 43)), (1, (.t 44))])⟩,
 ⟨some 46, none, .h (.call (.k (.fn 44 [])) [(.t 45)])⟩,
 ⟨some 47, none, .h (.call (.k (.fn 42 [])) [(.t 42), (.t 46)])⟩,
 ⟨some 4, none, .p (.mv (.t 47))⟩])
 .ret)
 (.seq (.ops [⟨some 49, none, .p (.bin .eql (.t 24) (.k (.s (.int .i64 4))))⟩,
 ⟨some 48, none, .p (.mv (.t 49))⟩])
 (.cond (.t 48)
 (.seq (.par [⟨some 50, none, .h (.load true 133 (.t 2))⟩,
 ⟨some 51, none, .p (.mv (.t 1))⟩,
 ⟨some 52, none, .p (.slA 4 2 (.t 7) none none)⟩,
 ⟨some 53, none, .h (.call (.k (.fn 45 [])) [(.t 50), (.t 51), (.t 52)])⟩,
 ⟨some 4, none, .p (.mv (.t 53))⟩])
 .ret)
 (.seq (.ops [⟨some 55, none, .p (.bin .eql (.t 24) (.k (.s (.int .i64 3))))⟩,
 ⟨some 54, none, .p (.mv (.t 55))⟩])
 (.cond (.t 54)
 (.seq (.par [⟨some 56, none, .h (.load true 133 (.t 2))⟩,
 ⟨some 57, none, .p (.mv (.t 1))⟩,
 ⟨some 58, none, .p (.slA 4 2 (.t 8) none none)⟩,
 ⟨some 59, none, .h (.call (.k (.fn 45 [])) [(.t 56), (.t 57), (.t 58)])⟩,
 ⟨some 4, none, .p (.mv (.t 59))⟩])
 .ret)
 (.seq (.ops [⟨some 61, none, .p (.bin .eql (.t 24) (.k (.s (.int .i64 5))))⟩,
 ⟨some 60, none, .p (.mv (.t 61))⟩])
 (.cond (.t 60)
 (.seq (.par [⟨some 62, none, .h (.load true 133 (.t 2))⟩,
 ⟨some 63, none, .p (.mv (.t 1))⟩,
 ⟨some 64, none, .p (.slA 4 2 (.t 7) none none)⟩,
 ⟨some 65, none, .p (.slA 4 2 (.t 8) none none)⟩,
 ⟨some 66, none, .h (.mksl 2 1 (.one .snil) [(0, (.t 64)), (1, (.t 65))])⟩,
 ⟨some 67, none, .h (.callq (.k (.fn 44 [])) [(.t 66)])⟩,
 ⟨some 68, none, .h (.call (.k (.fn 45 [])) [(.t 62), (.t 63), (.t 67)])⟩,
 ⟨some 4, none, .p (.mv (.t 68))⟩])
 .ret)
 .skip))))))))))))))
 (.seq (.ops [⟨some 4, none, .p (.mv (.k .snil))⟩])
 .ret)))))))⟩
theorem c20 : compF Try.prog false Try.f20 = some a20 := by kernel_rfl
noncomputable def a22 : AF := ⟨2, [.cell 0 true 133],
 (.seq (.ops [⟨some 0, none, .h (.alloc (.ints 133))⟩])
 (.seq (.ops [⟨some 1, none, .p (.build (.ints 133) [(130, 1, (.k (.s (.int .i64 (-1))))), (132, 1, (.k (.s (.int .i64 1))))])⟩,
 ⟨none, none, .h (.store 133 (.t 0) (.t 1))⟩])
 .ret))⟩
theorem c22 : compF Try.prog false Try.f22 = some a22 := by kernel_rfl
noncomputable def a23 : AF := ⟨48, [],
 (.seq (.ops [⟨some 6, none, .p (.fa 0 128 (.t 1))⟩,
 ⟨some 7, none, .h (.load true 128 (.t 6))⟩,
 ⟨some 8, none, .p (.mv (.k (.s (.int .i64 0))))⟩])
 (.block 0 (.loop (.seq (.ops [⟨some 9, none, .p (.bin .lss (.t 8) (.k (.s (.int .i64 64))))⟩])
 (.seq (.cond (.t 9)
 .skip
 (.exit 0))
 (.seq (.block 1 (.seq (.ops [⟨some 10, none, .p (.mv (.t 8))⟩,
 ⟨some 11, none, .p (.ix 64 2 true (.t 7) (.t 8))⟩,
 ⟨some 4, none, .h (.alloc (.ints 2))⟩,
 ⟨some 3, none, .p (.mv (.t 10))⟩,
 ⟨none, none, .h (.store 2 (.t 4) (.t 11))⟩])
 (.seq (.ops [⟨some 12, none, .p (.fa 0 1 (.t 4))⟩,
 ⟨some 13, none, .h (.load false 1 (.t 12))⟩,
 ⟨some 14, none, .p (.bin .geq (.t 13) (.k (.s (.int .i64 1))))⟩,
 ⟨some 15, none, .p (.mv (.t 14))⟩,
 ⟨some 16, some (15, true), .p (.fa 0 1 (.t 4))⟩,
 ⟨some 17, some (15, true), .h (.load false 1 (.t 16))⟩,
 ⟨some 18, some (15, true), .p (.bin .leq (.t 17) (.k (.s (.int .i64 6))))⟩,
 ⟨some 19, none, .p (.pick (.t 15) (.t 18) (.k (.s (.bool false))))⟩,
 ⟨some 20, none, .p (.mv (.t 19))⟩,
 ⟨some 21, some (20, true), .p (.fa 1 1 (.t 4))⟩,
 ⟨some 22, some (20, true), .h (.load false 1 (.t 21))⟩,
 ⟨some 23, some (20, true), .p (.bin .eql (.t 22) (.k (.s (.int .i64 0))))⟩,
 ⟨some 24, some (20, true), .p (.mv (.t 23))⟩,
 ⟨some 25, some (24, false), .p (.fa 1 1 (.t 4))⟩,
 ⟨some 26, some (24, false), .h (.load false 1 (.t 25))⟩,
 ⟨some 27, some (24, false), .p (.bin .eql (.t 26) (.k (.s (.int .i64 1))))⟩,
 ⟨some 28, some (20, true), .p (.pick (.t 24) (.k (.s (.bool true))) (.t 27))⟩,
 ⟨some 29, none, .p (.pick (.t 20) (.t 28) (.k (.s (.bool false))))⟩,
 ⟨some 5, none, .p (.mv (.t 29))⟩])
 (.seq (.ops [⟨some 30, none, .p (.mv (.t 5))⟩,
 ⟨some 31, none, .p (.mv (.t 30))⟩,
 ⟨some 32, some (31, true), .p (.fa 1 1 (.t 4))⟩,
 ⟨some 33, some (31, true), .h (.load false 1 (.t 32))⟩,
 ⟨some 34, some (31, true), .p (.fa 128 1 (.t 1))⟩,
 ⟨some 35, some (31, true), .h (.load false 1 (.t 34))⟩,
 ⟨some 36, some (31, true), .p (.bin .eql (.t 33) (.t 35))⟩,
 ⟨some 37, none, .p (.pick (.t 31) (.t 36) (.k (.s (.bool false))))⟩,
 ⟨some 38, none, .p (.mv (.t 37))⟩,
 ⟨some 39, some (38, true), .p (.mv (.t 0))⟩,
 ⟨some 40, some (38, true), .h (.load true 133 (.t 1))⟩,
 ⟨some 41, some (38, true), .p (.mv (.t 3))⟩,
 ⟨some 42, some (38, true), .h (.load true 2 (.t 4))⟩,
 ⟨some 43, some (38, true), .p (.build (.ints 136) [(0, 133, (.t 40)), (133, 1, (.t 41)), (134, 2, (.t 42))])⟩,
 ⟨some 44, some (38, true), .h (.call (.t 39) [(.t 43)])⟩,
 ⟨some 45, some (38, true), .p (.un .not (.t 44))⟩,
 ⟨some 46, none, .p (.pick (.t 38) (.t 45) (.k (.s (.bool false))))⟩])
 (.cond (.t 46)
 .ret
 .skip)))))
 (.ops [⟨some 47, none, .p (.bin .add (.t 8) (.k (.s (.int .i64 1))))⟩,
 ⟨some 8, none, .p (.mv (.t 47))⟩])))))))⟩
theorem c23 : compF Try.prog false Try.f23 = some a23 := by kernel_rfl
noncomputable def a24 : AF := ⟨7, [.tmp 2],
 (.seq (.ops [⟨some 2, none, .p (.mv (.k (.s (.int .i64 0))))⟩])
 (.seq (.ops [⟨some 3, none, .p (.mv (.t 0))⟩,
 ⟨some 4, none, .h (.call (.k (.fn 39 [])) [(.t 3)])⟩,
 ⟨some 5, none, .p (.fld true 0 2 (.t 4))⟩,
 ⟨some 6, none, .p (.fld false 1 1 (.t 5))⟩,
 ⟨some 2, none, .p (.mv (.t 6))⟩])
 .ret))⟩
theorem c24 : compF Try.prog false Try.f24 = some a24 := by kernel_rfl
noncomputable def a25 : AF := ⟨97, [.tmp 2],
 (.seq (.ops [⟨some 1, none, .h (.box (.t 0))⟩,
 ⟨some 2, none, .p (.mv (.k .snil))⟩])
 (.seq (.ops [⟨some 9, none, .p (.fa 134 2 (.t 1))⟩,
 ⟨some 10, none, .p (.fa 1 1 (.t 9))⟩,
 ⟨some 11, none, .h (.load false 1 (.t 10))⟩,
 ⟨some 12, none, .p (.bin .mul (.k (.s (.int .i64 2))) (.t 11))⟩,
 ⟨some 13, none, .p (.bin .sub (.k (.s (.int .i64 1))) (.t 12))⟩,
 ⟨some 3, none, .p (.mv (.t 13))⟩])
 (.seq (.par [⟨some 14, none, .p (.fa 133 1 (.t 1))⟩,
 ⟨some 15, none, .h (.load false 1 (.t 14))⟩,
 ⟨some 16, none, .p (.mv (.t 3))⟩,
 ⟨some 17, none, .h (.callq (.k (.fn 47 [])) [(.t 15), (.k (.s (.int .i64 0))), (.t 16)])⟩,
 ⟨some 18, none, .p (.fa 133 1 (.t 1))⟩,
 ⟨some 19, none, .h (.load false 1 (.t 18))⟩,
 ⟨some 20, none, .p (.mv (.t 3))⟩,
 ⟨some 21, none, .p (.bin .mul (.k (.s (.int .i64 2))) (.t 20))⟩,
 ⟨some 22, none, .h (.call (.k (.fn 47 [])) [(.t 19), (.k (.s (.int .i64 0))), (.t 21)])⟩,
 ⟨some 4, none, .p (.mv (.t 17))⟩,
 ⟨some 5, none, .p (.mv (.t 22))⟩])
 (.seq (.seq (.ops [⟨some 23, none, .h (.load true 136 (.t 1))⟩,
 ⟨some 24, none, .p (.mv (.t 4))⟩,
 ⟨some 25, none, .h (.mksl 1 1 (.one (.s (.int .i64 0))) [(0, (.t 24))])⟩,
 ⟨some 26, none, .h (.call (.k (.fn 48 [])) [(.t 23), (.t 25)])⟩])
 (.cond (.t 26)
 (.ops [⟨some 27, none, .p (.mv (.t 2))⟩,
 ⟨some 28, none, .p (.mv (.t 4))⟩,
 ⟨some 29, none, .h (.mksl 1 1 (.one (.s (.int .i64 0))) [(0, (.t 28))])⟩,
 ⟨some 30, none, .h (.append 1 8 (.t 27) (.t 29))⟩,
 ⟨some 2, none, .p (.mv (.t 30))⟩])
 .skip))
 (.seq (.seq (.par [⟨some 31, none, .p (.fa 133 1 (.t 1))⟩,
 ⟨some 32, none, .h (.load false 1 (.t 31))⟩,
 ⟨some 33, none, .h (.callq (.k (.fn 24 [])) [(.t 32)])⟩,
 ⟨some 34, none, .p (.fa 134 2 (.t 1))⟩,
 ⟨some 35, none, .p (.fa 1 1 (.t 34))⟩,
 ⟨some 36, none, .h (.load false 1 (.t 35))⟩,
 ⟨some 37, none, .p (.bin .mul (.k (.s (.int .i64 5))) (.t 36))⟩,
 ⟨some 38, none, .p (.bin .add (.k (.s (.int .i64 1))) (.t 37))⟩,
 ⟨some 39, none, .p (.bin .eql (.t 33) (.t 38))⟩,
 ⟨some 40, none, .p (.mv (.t 39))⟩,
 ⟨some 41, some (40, true), .h (.load true 136 (.t 1))⟩,
 ⟨some 42, some (40, true), .p (.mv (.t 4))⟩,
 ⟨some 43, some (40, true), .p (.mv (.t 5))⟩,
 ⟨some 44, some (40, true), .h (.mksl 2 1 (.one (.s (.int .i64 0))) [(0, (.t 42)), (1, (.t 43))])⟩,
 ⟨some 45, some (40, true), .h (.call (.k (.fn 48 [])) [(.t 41), (.t 44)])⟩,
 ⟨some 46, none, .p (.pick (.t 40) (.t 45) (.k (.s (.bool false))))⟩])
 (.cond (.t 46)
 (.ops [⟨some 47, none, .p (.mv (.t 2))⟩,
 ⟨some 48, none, .p (.mv (.t 5))⟩,
 ⟨some 49, none, .h (.mksl 1 1 (.one (.s (.int .i64 0))) [(0, (.t 48))])⟩,
 ⟨some 50, none, .h (.append 1 8 (.t 47) (.t 49))⟩,
 ⟨some 2, none, .p (.mv (.t 50))⟩])
 .skip))
 (.seq (.seq (.ops [⟨some 51, none, .p (.fa 0 133 (.t 1))⟩,
 ⟨some 52, none, .h (.load true 133 (.t 51))⟩,
 ⟨some 53, none, .p (.fa 133 1 (.t 1))⟩,
 ⟨some 54, none, .h (.load false 1 (.t 53))⟩,
 ⟨some 55, none, .h (.call (.k (.fn 10 [])) [(.t 52), (.t 54)])⟩,
 ⟨some 56, none, .p (.len (.t 55))⟩,
 ⟨some 57, none, .p (.mv (.k (.s (.int .i64 0))))⟩])
 (.block 0 (.loop (.seq (.ops [⟨some 58, none, .p (.bin .lss (.t 57) (.t 56))⟩])
 (.seq (.cond (.t 58)
 .skip
 (.exit 0))
 (.seq (.block 1 (.seq (.ops [⟨some 59, none, .p (.ixs 1 (.t 55) (.t 57))⟩,
 ⟨some 60, none, .h (.load false 1 (.t 59))⟩,
 ⟨some 7, none, .p (.mv (.t 60))⟩])
 (.seq (.ops [⟨some 61, none, .p (.mv (.t 7))⟩,
 ⟨some 62, none, .p (.fa 0 133 (.t 1))⟩,
 ⟨some 63, none, .p (.fa 0 128 (.t 62))⟩,
 ⟨some 64, none, .p (.ixa 64 2 (.t 63) (.t 61))⟩,
 ⟨some 65, none, .h (.load true 2 (.t 64))⟩,
 ⟨some 8, none, .h (.alloc (.ints 2))⟩,
 ⟨none, none, .h (.store 2 (.t 8) (.t 65))⟩])
 (.seq (.par [⟨some 66, none, .h (.load true 2 (.t 8))⟩,
 ⟨some 67, none, .p (.build (.ints 2) [])⟩,
 ⟨some 68, none, .p (.eqa true 2 (.t 66) (.t 67))⟩,
 ⟨some 69, none, .p (.mv (.t 68))⟩,
 ⟨some 70, some (69, true), .p (.fa 1 1 (.t 8))⟩,
 ⟨some 71, some (69, true), .h (.load false 1 (.t 70))⟩,
 ⟨some 72, some (69, true), .p (.fa 134 2 (.t 1))⟩,
 ⟨some 73, some (69, true), .p (.fa 1 1 (.t 72))⟩,
 ⟨some 74, some (69, true), .h (.load false 1 (.t 73))⟩,
 ⟨some 75, some (69, true), .h (.callq (.k (.fn 9 [])) [(.t 74)])⟩,
 ⟨some 76, some (69, true), .p (.bin .eql (.t 71) (.t 75))⟩,
 ⟨some 77, none, .p (.pick (.t 69) (.t 76) (.k (.s (.bool false))))⟩,
 ⟨some 78, none, .p (.mv (.t 77))⟩,
 ⟨some 79, some (78, false), .h (.load true 136 (.t 1))⟩,
 ⟨some 80, some (78, false), .p (.mv (.t 7))⟩,
 ⟨some 81, some (78, false), .h (.mksl 1 1 (.one (.s (.int .i64 0))) [(0, (.t 80))])⟩,
 ⟨some 82, some (78, false), .h (.call (.k (.fn 48 [])) [(.t 79), (.t 81)])⟩,
 ⟨some 83, some (78, false), .p (.mv (.t 82))⟩,
 ⟨some 84, some (83, true), .p (.mv (.t 7))⟩,
 ⟨some 85, some (83, true), .p (.fa 0 133 (.t 1))⟩,
 ⟨some 86, some (83, true), .p (.fa 130 1 (.t 85))⟩,
 ⟨some 87, some (83, true), .h (.load false 1 (.t 86))⟩,
 ⟨some 88, some (83, true), .p (.bin .eql (.t 84) (.t 87))⟩,
 ⟨some 89, some (78, false), .p (.pick (.t 83) (.t 88) (.k (.s (.bool false))))⟩,
 ⟨some 90, none, .p (.pick (.t 78) (.k (.s (.bool true))) (.t 89))⟩])
 (.cond (.t 90)
 (.ops [⟨some 91, none, .p (.mv (.t 2))⟩,
 ⟨some 92, none, .p (.mv (.t 7))⟩,
 ⟨some 93, none, .h (.mksl 1 1 (.one (.s (.int .i64 0))) [(0, (.t 92))])⟩,
 ⟨some 94, none, .h (.append 1 8 (.t 91) (.t 93))⟩,
 ⟨some 2, none, .p (.mv (.t 94))⟩])
 .skip)))))
 (.ops [⟨some 95, none, .p (.bin .add (.t 57) (.k (.s (.int .i64 1))))⟩,
 ⟨some 57, none, .p (.mv (.t 95))⟩])))))))
 (.seq (.ops [⟨some 96, none, .p (.mv (.t 2))⟩,
 ⟨some 2, none, .p (.mv (.t 96))⟩])
 .ret)))))))⟩
theorem c25 : compF Try.prog false Try.f25 = some a25 := by kernel_rfl
noncomputable def a28 : AF := ⟨102, [.tmp 2],
 (.seq (.ops [⟨some 1, none, .h (.box (.t 0))⟩,
 ⟨some 2, none, .p (.mv (.k .snil))⟩])
 (.seq (.ops [⟨some 6, none, .p (.fa 134 2 (.t 1))⟩,
 ⟨some 7, none, .p (.fa 1 1 (.t 6))⟩,
 ⟨some 8, none, .h (.load false 1 (.t 7))⟩,
 ⟨some 9, none, .p (.bin .mul (.k (.s (.int .i64 56))) (.t 8))⟩,
 ⟨some 10, none, .p (.bin .add (.t 9) (.k (.s (.int .i64 4))))⟩,
 ⟨some 3, none, .p (.mv (.t 10))⟩])
 (.seq (.seq (.ops [⟨some 11, none, .p (.fa 134 2 (.t 1))⟩,
 ⟨some 12, none, .p (.fa 0 1 (.t 11))⟩,
 ⟨some 13, none, .h (.load false 1 (.t 12))⟩,
 ⟨some 14, none, .p (.bin .neq (.t 13) (.k (.s (.int .i64 6))))⟩,
 ⟨some 15, none, .p (.mv (.t 14))⟩,
 ⟨some 16, some (15, false), .p (.fa 133 1 (.t 1))⟩,
 ⟨some 17, some (15, false), .h (.load false 1 (.t 16))⟩,
 ⟨some 18, some (15, false), .p (.mv (.t 3))⟩,
 ⟨some 19, some (15, false), .p (.bin .neq (.t 17) (.t 18))⟩,
 ⟨some 20, none, .p (.pick (.t 15) (.k (.s (.bool true))) (.t 19))⟩,
 ⟨some 21, none, .p (.mv (.t 20))⟩,
 ⟨some 22, some (21, false), .p (.fa 0 133 (.t 1))⟩,
 ⟨some 23, some (21, false), .p (.fa 129 1 (.t 22))⟩,
 ⟨some 24, some (21, false), .h (.load false 1 (.t 23))⟩,
 ⟨some 25, some (21, false), .p (.bin .lss (.t 24) (.k (.s (.int .i64 0))))⟩,
 ⟨some 26, none, .p (.pick (.t 21) (.k (.s (.bool true))) (.t 25))⟩,
 ⟨some 27, none, .p (.mv (.t 26))⟩,
 ⟨some 28, some (27, false), .p (.fa 0 133 (.t 1))⟩,
 ⟨some 29, some (27, false), .p (.fa 129 1 (.t 28))⟩,
 ⟨some 30, some (27, false), .h (.load false 1 (.t 29))⟩,
 ⟨some 31, some (27, false), .p (.bin .gtr (.t 30) (.k (.s (.int .i64 15))))⟩,
 ⟨some 32, none, .p (.pick (.t 27) (.k (.s (.bool true))) (.t 31))⟩])
 (.cond (.t 32)
 (.seq (.ops [⟨some 2, none, .p (.mv (.k .snil))⟩])
 .ret)
 .skip))
 (.seq (.ops [⟨some 33, none, .p (.fa 134 2 (.t 1))⟩,
 ⟨some 34, none, .p (.fa 1 1 (.t 33))⟩,
 ⟨some 35, none, .h (.load false 1 (.t 34))⟩,
 ⟨some 36, none, .p (.build (.ints 2) [(0, 1, (.k (.s (.int .i64 4)))), (1, 1, (.t 35))])⟩,
 ⟨some 4, none, .h (.alloc (.ints 2))⟩,
 ⟨none, none, .h (.store 2 (.t 4) (.t 36))⟩])
 (.seq (.ops [⟨some 37, none, .p (.fa 0 133 (.t 1))⟩,
 ⟨some 38, none, .p (.fa 129 1 (.t 37))⟩,
 ⟨some 39, none, .h (.load false 1 (.t 38))⟩,
 ⟨some 40, none, .p (.fa 134 2 (.t 1))⟩,
 ⟨some 41, none, .p (.fa 1 1 (.t 40))⟩,
 ⟨some 42, none, .h (.load false 1 (.t 41))⟩,
 ⟨some 43, none, .p (.bin .mul (.k (.s (.int .i64 2))) (.t 42))⟩,
 ⟨some 44, none, .p (.bin .shr (.t 39) (.t 43))⟩,
 ⟨some 5, none, .p (.mv (.t 44))⟩])
 (.seq (.seq (.par [⟨some 45, none, .p (.mv (.t 5))⟩,
 ⟨some 46, none, .p (.bin .and (.t 45) (.k (.s (.int .i64 1))))⟩,
 ⟨some 47, none, .p (.bin .neq (.t 46) (.k (.s (.int .i64 0))))⟩,
 ⟨some 48, none, .p (.mv (.t 47))⟩,
 ⟨some 49, some (48, true), .p (.mv (.t 3))⟩,
 ⟨some 50, some (48, true), .p (.bin .add (.t 49) (.k (.s (.int .i64 3))))⟩,
 ⟨some 51, some (48, true), .p (.fa 0 133 (.t 1))⟩,
 ⟨some 52, some (48, true), .p (.fa 0 128 (.t 51))⟩,
 ⟨some 53, some (48, true), .p (.ixa 64 2 (.t 52) (.t 50))⟩,
 ⟨some 54, some (48, true), .h (.load true 2 (.t 53))⟩,
 ⟨some 55, some (48, true), .h (.load true 2 (.t 4))⟩,
 ⟨some 56, some (48, true), .p (.eqa false 2 (.t 54) (.t 55))⟩,
 ⟨some 57, none, .p (.pick (.t 48) (.t 56) (.k (.s (.bool false))))⟩,
 ⟨some 58, none, .p (.mv (.t 57))⟩,
 ⟨some 59, some (58, true), .h (.load true 136 (.t 1))⟩,
 ⟨some 60, some (58, true), .p (.mv (.t 3))⟩,
 ⟨some 61, some (58, true), .p (.bin .add (.t 60) (.k (.s (.int .i64 1))))⟩,
 ⟨some 62, some (58, true), .p (.mv (.t 3))⟩,
 ⟨some 63, some (58, true), .p (.bin .add (.t 62) (.k (.s (.int .i64 2))))⟩,
 ⟨some 64, some (58, true), .h (.mksl 2 1 (.one (.s (.int .i64 0))) [(0, (.t 61)), (1, (.t 63))])⟩,
 ⟨some 65, some (58, true), .h (.call (.k (.fn 48 [])) [(.t 59), (.t 64)])⟩,
 ⟨some 66, none, .p (.pick (.t 58) (.t 65) (.k (.s (.bool false))))⟩])
 (.cond (.t 66)
 (.ops [⟨some 67, none, .p (.mv (.t 2))⟩,
 ⟨some 68, none, .p (.mv (.t 3))⟩,
 ⟨some 69, none, .p (.bin .add (.t 68) (.k (.s (.int .i64 2))))⟩,
 ⟨some 70, none, .h (.mksl 1 1 (.one (.s (.int .i64 0))) [(0, (.t 69))])⟩,
 ⟨some 71, none, .h (.append 1 8 (.t 67) (.t 70))⟩,
 ⟨some 2, none, .p (.mv (.t 71))⟩])
 .skip))
 (.seq (.seq (.par [⟨some 72, none, .p (.mv (.t 5))⟩,
 ⟨some 73, none, .p (.bin .and (.t 72) (.k (.s (.int .i64 2))))⟩,
 ⟨some 74, none, .p (.bin .neq (.t 73) (.k (.s (.int .i64 0))))⟩,
 ⟨some 75, none, .p (.mv (.t 74))⟩,
 ⟨some 76, some (75, true), .p (.mv (.t 3))⟩,
 ⟨some 77, some (75, true), .p (.bin .sub (.t 76) (.k (.s (.int .i64 4))))⟩,
 ⟨some 78, some (75, true), .p (.fa 0 133 (.t 1))⟩,
 ⟨some 79, some (75, true), .p (.fa 0 128 (.t 78))⟩,
 ⟨some 80, some (75, true), .p (.ixa 64 2 (.t 79) (.t 77))⟩,
 ⟨some 81, some (75, true), .h (.load true 2 (.t 80))⟩,
 ⟨some 82, some (75, true), .h (.load true 2 (.t 4))⟩,
 ⟨some 83, some (75, true), .p (.eqa false 2 (.t 81) (.t 82))⟩,
 ⟨some 84, none, .p (.pick (.t 75) (.t 83) (.k (.s (.bool false))))⟩,
 ⟨some 85, none, .p (.mv (.t 84))⟩,
 ⟨some 86, some (85, true), .h (.load true 136 (.t 1))⟩,
 ⟨some 87, some (85, true), .p (.mv (.t 3))⟩,
 ⟨some 88, some (85, true), .p (.bin .sub (.t 87) (.k (.s (.int .i64 1))))⟩,
 ⟨some 89, some (85, true), .p (.mv (.t 3))⟩,
 ⟨some 90, some (85, true), .p (.bin .sub (.t 89) (.k (.s (.int .i64 2))))⟩,
 ⟨some 91, some (85, true), .p (.mv (.t 3))⟩,
 ⟨some 92, some (85, true), .p (.bin .sub (.t 91) (.k (.s (.int .i64 3))))⟩,
 ⟨some 93, some (85, true), .h (.mksl 3 1 (.one (.s (.int .i64 0))) [(0, (.t 88)), (1, (.t 90)), (2, (.t 92))])⟩,
 ⟨some 94, some (85, true), .h (.call (.k (.fn 48 [])) [(.t 86), (.t 93)])⟩,
 ⟨some 95, none, .p (.pick (.t 85) (.t 94) (.k (.s (.bool false))))⟩])
 (.cond (.t 95)
 (.ops [⟨some 96, none, .p (.mv (.t 2))⟩,
 ⟨some 97, none, .p (.mv (.t 3))⟩,
 ⟨some 98, none, .p (.bin .sub (.t 97) (.k (.s (.int .i64 2))))⟩,
 ⟨some 99, none, .h (.mksl 1 1 (.one (.s (.int .i64 0))) [(0, (.t 98))])⟩,
 ⟨some 100, none, .h (.append 1 8 (.t 96) (.t 99))⟩,
 ⟨some 2, none, .p (.mv (.t 100))⟩])
 .skip))
 (.seq (.ops [⟨some 101, none, .p (.mv (.t 2))⟩,
 ⟨some 2, none, .p (.mv (.t 101))⟩])
 .ret))))))))⟩
theorem c28 : compF Try.prog false Try.f28 = some a28 := by kernel_rfl
noncomputable def a31 : AF := ⟨18, [.tmp 2],
 (.seq (.ops [⟨some 2, none, .p (.mv (.k (.s (.int .i64 0))))⟩])
 (.seq (.ops [⟨some 3, none, .p (.mv (.k (.s (.int .i64 0))))⟩])
 (.seq (.seq (.ops [⟨some 6, none, .p (.mv (.t 0))⟩,
 ⟨some 7, none, .p (.len (.t 6))⟩,
 ⟨some 8, none, .p (.mv (.k (.s (.int .i64 0))))⟩])
 (.block 0 (.loop (.seq (.ops [⟨some 9, none, .p (.bin .lss (.t 8) (.t 7))⟩])
 (.seq (.cond (.t 9)
 .skip
 (.exit 0))
 (.seq (.block 1 (.seq (.ops [⟨some 10, none, .p (.ixs 1 (.t 6) (.t 8))⟩,
 ⟨some 11, none, .h (.load false 1 (.t 10))⟩,
 ⟨some 5, none, .p (.mv (.t 11))⟩])
 (.seq (.ops [⟨some 12, none, .p (.mv (.t 5))⟩,
 ⟨some 13, none, .p (.mv (.t 3))⟩,
 ⟨some 14, none, .p (.bin .neq (.t 12) (.t 13))⟩])
 (.cond (.t 14)
 (.seq (.ops [⟨some 15, none, .p (.mv (.t 5))⟩,
 ⟨some 2, none, .p (.mv (.t 15))⟩])
 .ret)
 .skip))))
 (.ops [⟨some 16, none, .p (.bin .add (.t 8) (.k (.s (.int .i64 1))))⟩,
 ⟨some 8, none, .p (.mv (.t 16))⟩])))))))
 (.seq (.ops [⟨some 17, none, .p (.mv (.t 3))⟩,
 ⟨some 2, none, .p (.mv (.t 17))⟩])
 .ret))))⟩
theorem c31 : compF Try.prog false Try.f31 = some a31 := by kernel_rfl
noncomputable def a32 : AF := ⟨20, [.tmp 4],
 (.seq (.ops [⟨some 4, none, .p (.mv (.k (.s (.int .i64 0))))⟩])
 (.seq (.ops [⟨some 7, none, .p (.mv (.t 0))⟩,
 ⟨some 8, none, .h (.call (.k (.fn 60 [])) [(.t 7)])⟩,
 ⟨some 5, none, .p (.mv (.t 8))⟩])
 (.seq (.ops [⟨some 9, none, .p (.mv (.t 1))⟩,
 ⟨some 10, none, .h (.call (.k (.fn 60 [])) [(.t 9)])⟩,
 ⟨some 6, none, .p (.mv (.t 10))⟩])
 (.seq (.seq (.ops [⟨some 11, none, .p (.mv (.t 5))⟩])
 (.cond (.t 11)
 (.seq (.seq (.ops [⟨some 12, none, .p (.mv (.t 6))⟩])
 (.cond (.t 12)
 (.seq (.ops [⟨some 4, none, .p (.mv (.k (.s (.int .i64 0))))⟩])
 .ret)
 .skip))
 (.seq (.ops [⟨some 4, none, .p (.mv (.k (.s (.int .i64 (-1)))))⟩])
 .ret))
 .skip))
 (.seq (.seq (.ops [⟨some 13, none, .p (.mv (.t 6))⟩])
 (.cond (.t 13)
 (.seq (.ops [⟨some 4, none, .p (.mv (.k (.s (.int .i64 1))))⟩])
 .ret)
 .skip))
 (.seq (.seq (.ops [⟨some 14, none, .p (.mv (.t 0))⟩,
 ⟨some 15, none, .p (.mv (.t 1))⟩,
 ⟨some 16, none, .p (.bin .lss (.t 14) (.t 15))⟩])
 (.cond (.t 16)
 (.seq (.ops [⟨some 4, none, .p (.mv (.k (.s (.int .i64 (-1)))))⟩])
 .ret)
 .skip))
 (.seq (.seq (.ops [⟨some 17, none, .p (.mv (.t 0))⟩,
 ⟨some 18, none, .p (.mv (.t 1))⟩,
 ⟨some 19, none, .p (.bin .gtr (.t 17) (.t 18))⟩])
 (.cond (.t 19)
 (.seq (.ops [⟨some 4, none, .p (.mv (.k (.s (.int .i64 1))))⟩])
 .ret)
 .skip))
 (.seq (.ops [⟨some 4, none, .p (.mv (.k (.s (.int .i64 0))))⟩])
 .ret))))))))⟩
theorem c32 : compF Try.prog false Try.f32 = some a32 := by kernel_rfl
noncomputable def a33 : AF := ⟨20, [.tmp 4],
 (.seq (.ops [⟨some 4, none, .p (.mv (.k (.s (.int .i64 0))))⟩])
 (.seq (.ops [⟨some 7, none, .p (.mv (.t 0))⟩,
 ⟨some 8, none, .h (.call (.k (.fn 61 [])) [(.t 7)])⟩,
 ⟨some 5, none, .p (.mv (.t 8))⟩])
 (.seq (.ops [⟨some 9, none, .p (.mv (.t 1))⟩,
 ⟨some 10, none, .h (.call (.k (.fn 61 [])) [(.t 9)])⟩,
 ⟨some 6, none, .p (.mv (.t 10))⟩])
 (.seq (.seq (.ops [⟨some 11, none, .p (.mv (.t 5))⟩])
 (.cond (.t 11)
 (.seq (.seq (.ops [⟨some 12, none, .p (.mv (.t 6))⟩])
 (.cond (.t 12)
 (.seq (.ops [⟨some 4, none, .p (.mv (.k (.s (.int .i64 0))))⟩])
 .ret)
 .skip))
 (.seq (.ops [⟨some 4, none, .p (.mv (.k (.s (.int .i64 (-1)))))⟩])
 .ret))
 .skip))
 (.seq (.seq (.ops [⟨some 13, none, .p (.mv (.t 6))⟩])
 (.cond (.t 13)
 (.seq (.ops [⟨some 4, none, .p (.mv (.k (.s (.int .i64 1))))⟩])
 .ret)
 .skip))
 (.seq (.seq (.ops [⟨some 14, none, .p (.mv (.t 0))⟩,
 ⟨some 15, none, .p (.mv (.t 1))⟩,
 ⟨some 16, none, .p (.bin .lss (.t 14) (.t 15))⟩])
 (.cond (.t 16)
 (.seq (.ops [⟨some 4, none, .p (.mv (.k (.s (.int .i64 (-1)))))⟩])
 .ret)
 .skip))
 (.seq (.seq (.ops [⟨some 17, none, .p (.mv (.t 0))⟩,
 ⟨some 18, none, .p (.mv (.t 1))⟩,
 ⟨some 19, none, .p (.bin .gtr (.t 17) (.t 18))⟩])
 (.cond (.t 19)
 (.seq (.ops [⟨some 4, none, .p (.mv (.k (.s (.int .i64 1))))⟩])
 .ret)
 .skip))
 (.seq (.ops [⟨some 4, none, .p (.mv (.k (.s (.int .i64 0))))⟩])
 .ret))))))))⟩
theorem c33 : compF Try.prog false Try.f33 = some a33 := by kernel_rfl
noncomputable def a34 : AF := ⟨59, [.tmp 2],
 (.seq (.ops [⟨some 2, none, .p (.mv (.k (.s (.int .i64 0))))⟩])
 (.seq (.ops [⟨some 4, none, .p (.mv (.t 0))⟩,
 ⟨some 5, none, .p (.nilck (.t 4))⟩,
 ⟨some 6, none, .p (.fa 133 3 (.t 5))⟩,
 ⟨some 7, none, .p (.fa 1 1 (.t 6))⟩,
 ⟨some 8, none, .h (.load false 1 (.t 7))⟩,
 ⟨some 3, none, .p (.mv (.t 8))⟩])
 (.seq (.seq (.ops [⟨some 9, none, .p (.mv (.t 0))⟩,
 ⟨some 10, none, .p (.nilck (.t 9))⟩,
 ⟨some 11, none, .p (.fa 136 2 (.t 10))⟩,
 ⟨some 12, none, .p (.fa 0 1 (.t 11))⟩,
 ⟨some 13, none, .h (.load false 1 (.t 12))⟩,
 ⟨some 14, none, .p (.bin .eql (.t 13) (.k (.s (.int .i64 1))))⟩,
 ⟨some 15, none, .p (.mv (.t 14))⟩,
 ⟨some 16, some (15, true), .p (.mv (.t 0))⟩,
 ⟨some 17, some (15, true), .h (.call (.k (.fn 62 [])) [(.t 16)])⟩,
 ⟨some 18, some (15, true), .p (.bin .neq (.t 17) (.k (.s (.int .i64 0))))⟩,
 ⟨some 19, none, .p (.pick (.t 15) (.t 18) (.k (.s (.bool false))))⟩,
 ⟨some 20, none, .p (.mv (.t 19))⟩,
 ⟨some 21, some (20, true), .p (.mv (.t 3))⟩,
 ⟨some 22, some (20, true), .p (.mv (.t 0))⟩,
 ⟨some 23, some (20, true), .p (.nilck (.t 22))⟩,
 ⟨some 24, some (20, true), .p (.fa 0 133 (.t 23))⟩,
 ⟨some 25, some (20, true), .p (.fa 130 1 (.t 24))⟩,
 ⟨some 26, some (20, true), .h (.load false 1 (.t 25))⟩,
 ⟨some 27, some (20, true), .p (.bin .eql (.t 21) (.t 26))⟩,
 ⟨some 28, none, .p (.pick (.t 20) (.t 27) (.k (.s (.bool false))))⟩,
 ⟨some 29, none, .p (.mv (.t 28))⟩,
 ⟨some 30, some (29, true), .p (.mv (.t 0))⟩,
 ⟨some 31, some (29, true), .p (.mv (.t 3))⟩,
 ⟨some 32, some (29, true), .p (.nilck (.t 30))⟩,
 ⟨some 33, some (29, true), .p (.fa 0 133 (.t 32))⟩,
 ⟨some 34, some (29, true), .p (.fa 0 128 (.t 33))⟩,
 ⟨some 35, some (29, true), .p (.ixa 64 2 (.t 34) (.t 31))⟩,
 ⟨some 36, some (29, true), .h (.load true 2 (.t 35))⟩,
 ⟨some 37, some (29, true), .p (.build (.ints 2) [])⟩,
 ⟨some 38, some (29, true), .p (.eqa false 2 (.t 36) (.t 37))⟩,
 ⟨some 39, none, .p (.pick (.t 29) (.t 38) (.k (.s (.bool false))))⟩])
 (.cond (.t 39)
 (.par [⟨some 40, none, .p (.mv (.t 3))⟩,
 ⟨some 41, none, .h (.callq (.k (.fn 64 [])) [(.t 40)])⟩,
 ⟨some 42, none, .p (.mv (.t 0))⟩,
 ⟨some 43, none, .p (.nilck (.t 42))⟩,
 ⟨some 44, none, .p (.fa 133 3 (.t 43))⟩,
 ⟨some 45, none, .p (.fa 0 1 (.t 44))⟩,
 ⟨some 46, none, .h (.load false 1 (.t 45))⟩,
 ⟨some 47, none, .h (.call (.k (.fn 24 [])) [(.t 46)])⟩,
 ⟨some 48, none, .h (.call (.k (.fn 63 [])) [(.t 41), (.t 47)])⟩,
 ⟨some 3, none, .p (.mv (.t 48))⟩])
 .skip))
 (.seq (.seq (.ops [⟨some 49, none, .p (.mv (.t 0))⟩,
 ⟨some 50, none, .p (.mv (.t 3))⟩,
 ⟨some 51, none, .p (.nilck (.t 49))⟩,
 ⟨some 52, none, .p (.fa 0 133 (.t 51))⟩,
 ⟨some 53, none, .p (.fa 0 128 (.t 52))⟩,
 ⟨some 54, none, .p (.ixa 64 2 (.t 53) (.t 50))⟩,
 ⟨some 55, none, .h (.load true 2 (.t 54))⟩,
 ⟨some 56, none, .p (.build (.ints 2) [])⟩,
 ⟨some 57, none, .p (.eqa false 2 (.t 55) (.t 56))⟩])
 (.cond (.t 57)
 (.seq (.ops [⟨some 2, none, .p (.mv (.k (.s (.int .i64 (-1)))))⟩])
 .ret)
 .skip))
 (.seq (.ops [⟨some 58, none, .p (.mv (.t 3))⟩,
 ⟨some 2, none, .p (.mv (.t 58))⟩])
 .ret)))))⟩
theorem c34 : compF Try.prog false Try.f34 = some a34 := by kernel_rfl
noncomputable def a35 : AF := ⟨80, [.tmp 2, .tmp 3, .tmp 4],
 (.seq (.ops [⟨some 2, none, .p (.mv (.k (.s (.int .i64 0))))⟩,
 ⟨some 3, none, .p (.mv (.k (.s (.int .i64 0))))⟩,
 ⟨some 4, none, .p (.mv (.k (.s (.bool false))))⟩])
 (.seq (.ops [⟨some 7, none, .p (.mv (.t 0))⟩,
 ⟨some 8, none, .p (.nilck (.t 7))⟩,
 ⟨some 9, none, .p (.fa 136 2 (.t 8))⟩,
 ⟨some 10, none, .p (.fa 1 1 (.t 9))⟩,
 ⟨some 11, none, .h (.load false 1 (.t 10))⟩,
 ⟨some 12, none, .p (.bin .mul (.k (.s (.int .i64 56))) (.t 11))⟩,
 ⟨some 13, none, .p (.bin .add (.t 12) (.k (.s (.int .i64 4))))⟩,
 ⟨some 5, none, .p (.mv (.t 13))⟩])
 (.seq (.ops [⟨some 14, none, .p (.mv (.t 0))⟩,
 ⟨some 15, none, .p (.nilck (.t 14))⟩,
 ⟨some 16, none, .p (.fa 136 2 (.t 15))⟩,
 ⟨some 17, none, .p (.fa 1 1 (.t 16))⟩,
 ⟨some 18, none, .h (.load false 1 (.t 17))⟩,
 ⟨some 19, none, .p (.bin .mul (.k (.s (.int .i64 2))) (.t 18))⟩,
 ⟨some 20, none, .p (.bin .shl (.k (.s (.int .i64 1))) (.t 19))⟩,
 ⟨some 6, none, .p (.mv (.t 20))⟩])
 (.seq (.block 0 (.seq (.ops [⟨some 22, none, .p (.mv (.t 0))⟩,
 ⟨some 23, none, .p (.nilck (.t 22))⟩,
 ⟨some 24, none, .p (.fa 136 2 (.t 23))⟩,
 ⟨some 25, none, .p (.fa 0 1 (.t 24))⟩,
 ⟨some 26, none, .h (.load false 1 (.t 25))⟩,
 ⟨some 27, none, .p (.bin .neq (.t 26) (.k (.s (.int .i64 6))))⟩,
 ⟨some 28, none, .p (.mv (.t 27))⟩,
 ⟨some 29, some (28, false), .p (.mv (.t 0))⟩,
 ⟨some 30, some (28, false), .p (.nilck (.t 29))⟩,
 ⟨some 31, some (28, false), .p (.fa 133 3 (.t 30))⟩,
 ⟨some 32, some (28, false), .p (.fa 0 1 (.t 31))⟩,
 ⟨some 33, some (28, false), .h (.load false 1 (.t 32))⟩,
 ⟨some 34, some (28, false), .p (.mv (.t 5))⟩,
 ⟨some 35, some (28, false), .p (.bin .neq (.t 33) (.t 34))⟩,
 ⟨some 36, none, .p (.pick (.t 28) (.k (.s (.bool true))) (.t 35))⟩,
 ⟨some 21, none, .p (.mv (.t 36))⟩])
 (.cond (.t 21)
 (.seq (.ops [⟨some 2, none, .p (.mv (.k (.s (.int .i64 0))))⟩,
 ⟨some 3, none, .p (.mv (.k (.s (.int .i64 0))))⟩,
 ⟨some 4, none, .p (.mv (.k (.s (.bool false))))⟩])
 .ret)
 (.seq (.ops [⟨some 38, none, .p (.mv (.t 0))⟩,
 ⟨some 39, none, .p (.nilck (.t 38))⟩,
 ⟨some 40, none, .p (.fa 133 3 (.t 39))⟩,
 ⟨some 41, none, .p (.fa 1 1 (.t 40))⟩,
 ⟨some 42, none, .h (.load false 1 (.t 41))⟩,
 ⟨some 43, none, .p (.mv (.t 5))⟩,
 ⟨some 44, none, .p (.bin .add (.t 43) (.k (.s (.int .i64 2))))⟩,
 ⟨some 45, none, .p (.bin .eql (.t 42) (.t 44))⟩,
 ⟨some 37, none, .p (.mv (.t 45))⟩])
 (.cond (.t 37)
 (.seq (.par [⟨some 46, none, .p (.mv (.t 5))⟩,
 ⟨some 47, none, .p (.bin .add (.t 46) (.k (.s (.int .i64 3))))⟩,
 ⟨some 48, none, .p (.mv (.t 5))⟩,
 ⟨some 49, none, .p (.bin .add (.t 48) (.k (.s (.int .i64 1))))⟩,
 ⟨some 50, none, .p (.mv (.t 0))⟩,
 ⟨some 51, none, .p (.nilck (.t 50))⟩,
 ⟨some 52, none, .p (.fa 0 133 (.t 51))⟩,
 ⟨some 53, none, .p (.fa 129 1 (.t 52))⟩,
 ⟨some 54, none, .h (.load false 1 (.t 53))⟩,
 ⟨some 55, none, .p (.mv (.t 6))⟩,
 ⟨some 56, none, .p (.bin .and (.t 54) (.t 55))⟩,
 ⟨some 57, none, .p (.bin .neq (.t 56) (.k (.s (.int .i64 0))))⟩,
 ⟨some 2, none, .p (.mv (.t 47))⟩,
 ⟨some 3, none, .p (.mv (.t 49))⟩,
 ⟨some 4, none, .p (.mv (.t 57))⟩])
 .ret)
 (.seq (.ops [⟨some 59, none, .p (.mv (.t 0))⟩,
 ⟨some 60, none, .p (.nilck (.t 59))⟩,
 ⟨some 61, none, .p (.fa 133 3 (.t 60))⟩,
 ⟨some 62, none, .p (.fa 1 1 (.t 61))⟩,
 ⟨some 63, none, .h (.load false 1 (.t 62))⟩,
 ⟨some 64, none, .p (.mv (.t 5))⟩,
 ⟨some 65, none, .p (.bin .sub (.t 64) (.k (.s (.int .i64 2))))⟩,
 ⟨some 66, none, .p (.bin .eql (.t 63) (.t 65))⟩,
 ⟨some 58, none, .p (.mv (.t 66))⟩])
 (.cond (.t 58)
 (.seq (.par [⟨some 67, none, .p (.mv (.t 5))⟩,
 ⟨some 68, none, .p (.bin .sub (.t 67) (.k (.s (.int .i64 4))))⟩,
 ⟨some 69, none, .p (.mv (.t 5))⟩,
 ⟨some 70, none, .p (.bin .sub (.t 69) (.k (.s (.int .i64 1))))⟩,
 ⟨some 71, none, .p (.mv (.t 0))⟩,
 ⟨some 72, none, .p (.nilck (.t 71))⟩,
 ⟨some 73, none, .p (.fa 0 133 (.t 72))⟩,
 ⟨some 74, none, .p (.fa 129 1 (.t 73))⟩,
 ⟨some 75, none, .h (.load false 1 (.t 74))⟩,
 ⟨some 76, none, .p (.mv (.t 6))⟩,
 ⟨some 77, none, .p (.bin .shl (.t 76) (.k (.s (.int .u64 1))))⟩,
 ⟨some 78, none, .p (.bin .and (.t 75) (.t 77))⟩,
 ⟨some 79, none, .p (.bin .neq (.t 78) (.k (.s (.int .i64 0))))⟩,
 ⟨some 2, none, .p (.mv (.t 68))⟩,
 ⟨some 3, none, .p (.mv (.t 70))⟩,
 ⟨some 4, none, .p (.mv (.t 79))⟩])
 .ret)
 .skip)))))))
 (.seq (.ops [⟨some 2, none, .p (.mv (.k (.s (.int .i64 0))))⟩,
 ⟨some 3, none, .p (.mv (.k (.s (.int .i64 0))))⟩,
 ⟨some 4, none, .p (.mv (.k (.s (.bool false))))⟩])
 .ret)))))⟩
theorem c35 : compF Try.prog false Try.f35 = some a35 := by kernel_rfl
noncomputable def a36 : AF := ⟨55, [.tmp 2],
 (.seq (.ops [⟨some 2, none, .p (.mv (.k (.s (.bool false))))⟩])
 (.seq (.ops [⟨some 6, none, .p (.mv (.t 0))⟩,
 ⟨some 7, none, .p (.nilck (.t 6))⟩,
 ⟨some 8, none, .p (.fa 136 2 (.t 7))⟩,
 ⟨some 9, none, .p (.fa 1 1 (.t 8))⟩,
 ⟨some 10, none, .h (.load false 1 (.t 9))⟩,
 ⟨some 11, none, .p (.bin .mul (.k (.s (.int .i64 2))) (.t 10))⟩,
 ⟨some 12, none, .p (.bin .sub (.k (.s (.int .i64 1))) (.t 11))⟩,
 ⟨some 3, none, .p (.mv (.t 12))⟩])
 (.seq (.par [⟨some 13, none, .p (.mv (.t 0))⟩,
 ⟨some 14, none, .p (.nilck (.t 13))⟩,
 ⟨some 15, none, .p (.fa 133 3 (.t 14))⟩,
 ⟨some 16, none, .p (.fa 0 1 (.t 15))⟩,
 ⟨some 17, none, .h (.load false 1 (.t 16))⟩,
 ⟨some 18, none, .h (.callq (.k (.fn 24 [])) [(.t 17)])⟩,
 ⟨some 19, none, .p (.mv (.t 0))⟩,
 ⟨some 20, none, .p (.nilck (.t 19))⟩,
 ⟨some 21, none, .p (.fa 133 3 (.t 20))⟩,
 ⟨some 22, none, .p (.fa 1 1 (.t 21))⟩,
 ⟨some 23, none, .h (.load false 1 (.t 22))⟩,
 ⟨some 24, none, .h (.call (.k (.fn 24 [])) [(.t 23)])⟩,
 ⟨some 4, none, .p (.mv (.t 18))⟩,
 ⟨some 5, none, .p (.mv (.t 24))⟩])
 (.seq (.ops [⟨some 25, none, .p (.mv (.t 0))⟩,
 ⟨some 26, none, .p (.nilck (.t 25))⟩,
 ⟨some 27, none, .p (.fa 136 2 (.t 26))⟩,
 ⟨some 28, none, .p (.fa 0 1 (.t 27))⟩,
 ⟨some 29, none, .h (.load false 1 (.t 28))⟩,
 ⟨some 30, none, .p (.bin .eql (.t 29) (.k (.s (.int .i64 1))))⟩,
 ⟨some 31, none, .p (.mv (.t 30))⟩,
 ⟨some 32, some (31, true), .p (.mv (.t 0))⟩,
 ⟨some 33, some (31, true), .h (.call (.k (.fn 62 [])) [(.t 32)])⟩,
 ⟨some 34, some (31, true), .p (.bin .eql (.t 33) (.k (.s (.int .i64 0))))⟩,
 ⟨some 35, none, .p (.pick (.t 31) (.t 34) (.k (.s (.bool false))))⟩,
 ⟨some 36, none, .p (.mv (.t 35))⟩,
 ⟨some 37, some (36, true), .p (.mv (.t 4))⟩,
 ⟨some 38, some (36, true), .p (.mv (.t 0))⟩,
 ⟨some 39, some (36, true), .p (.nilck (.t 38))⟩,
 ⟨some 40, some (36, true), .p (.fa 136 2 (.t 39))⟩,
 ⟨some 41, some (36, true), .p (.fa 1 1 (.t 40))⟩,
 ⟨some 42, some (36, true), .h (.load false 1 (.t 41))⟩,
 ⟨some 43, some (36, true), .p (.bin .mul (.k (.s (.int .i64 5))) (.t 42))⟩,
 ⟨some 44, some (36, true), .p (.bin .add (.k (.s (.int .i64 1))) (.t 43))⟩,
 ⟨some 45, some (36, true), .p (.bin .eql (.t 37) (.t 44))⟩,
 ⟨some 46, none, .p (.pick (.t 36) (.t 45) (.k (.s (.bool false))))⟩,
 ⟨some 47, none, .p (.mv (.t 46))⟩,
 ⟨some 48, some (47, true), .p (.mv (.t 5))⟩,
 ⟨some 49, some (47, true), .p (.mv (.t 4))⟩,
 ⟨some 50, some (47, true), .p (.mv (.t 3))⟩,
 ⟨some 51, some (47, true), .p (.bin .mul (.k (.s (.int .i64 2))) (.t 50))⟩,
 ⟨some 52, some (47, true), .p (.bin .add (.t 49) (.t 51))⟩,
 ⟨some 53, some (47, true), .p (.bin .eql (.t 48) (.t 52))⟩,
 ⟨some 54, none, .p (.pick (.t 47) (.t 53) (.k (.s (.bool false))))⟩,
 ⟨some 2, none, .p (.mv (.t 54))⟩])
 .ret))))⟩
theorem c36 : compF Try.prog false Try.f36 = some a36 := by kernel_rfl
noncomputable def a37 : AF := ⟨24, [],
 (.seq (.ops [⟨some 4, none, .h (.box (.t 1))⟩])
 (.seq (.ops [⟨some 8, none, .p (.mv (.t 2))⟩,
 ⟨some 9, none, .p (.len (.t 8))⟩,
 ⟨some 10, none, .p (.mv (.k (.s (.int .i64 0))))⟩])
 (.block 0 (.loop (.seq (.ops [⟨some 11, none, .p (.bin .lss (.t 10) (.t 9))⟩])
 (.seq (.cond (.t 11)
 .skip
 (.exit 0))
 (.seq (.block 1 (.seq (.ops [⟨some 12, none, .p (.ixs 1 (.t 8) (.t 10))⟩,
 ⟨some 13, none, .h (.load false 1 (.t 12))⟩,
 ⟨some 7, none, .p (.mv (.t 13))⟩])
 (.seq (.ops [⟨some 14, none, .p (.mv (.t 7))⟩,
 ⟨some 15, none, .h (.call (.k (.fn 19 [])) [(.t 14)])⟩])
 (.cond (.t 15)
 (.par [⟨some 16, none, .p (.mv (.t 0))⟩,
 ⟨some 17, none, .p (.mv (.t 7))⟩,
 ⟨some 18, none, .h (.load true 2 (.t 4))⟩,
 ⟨some 19, none, .p (.nilck (.t 16))⟩,
 ⟨some 20, none, .p (.fa 0 133 (.t 19))⟩,
 ⟨some 21, none, .p (.fa 0 128 (.t 20))⟩,
 ⟨some 22, none, .p (.ixa 64 2 (.t 21) (.t 17))⟩,
 ⟨none, none, .h (.store 2 (.t 22) (.t 18))⟩])
 .skip))))
 (.ops [⟨some 23, none, .p (.bin .add (.t 10) (.k (.s (.int .i64 1))))⟩,
 ⟨some 10, none, .p (.mv (.t 23))⟩]))))))))⟩
theorem c37 : compF Try.prog false Try.f37 = some a37 := by kernel_rfl
noncomputable def a38 : AF := ⟨21, [.tmp 2],
 (.seq (.ops [⟨some 2, none, .p (.mv (.k (.s (.int .i64 0))))⟩])
 (.seq (.ops [⟨some 6, none, .h (.mkmap)⟩,
 ⟨none, none, .h (.mput (.t 6) (.k (.s (.int .i64 4))) (.k (.s (.int .i64 3))))⟩,
 ⟨none, none, .h (.mput (.t 6) (.k (.s (.int .i64 7))) (.k (.s (.int .i64 1))))⟩,
 ⟨none, none, .h (.mput (.t 6) (.k (.s (.int .i64 0))) (.k (.s (.int .i64 2))))⟩,
 ⟨none, none, .h (.mput (.t 6) (.k (.s (.int .i64 60))) (.k (.s (.int .i64 12))))⟩,
 ⟨none, none, .h (.mput (.t 6) (.k (.s (.int .i64 63))) (.k (.s (.int .i64 4))))⟩,
 ⟨none, none, .h (.mput (.t 6) (.k (.s (.int .i64 56))) (.k (.s (.int .i64 8))))⟩,
 ⟨some 7, none, .p (.mv (.t 6))⟩,
 ⟨some 3, none, .p (.mv (.t 7))⟩])
 (.seq (.seq (.ops [⟨some 8, none, .p (.mv (.t 0))⟩,
 ⟨some 9, none, .p (.len (.t 8))⟩,
 ⟨some 10, none, .p (.mv (.k (.s (.int .i64 0))))⟩])
 (.block 0 (.loop (.seq (.ops [⟨some 11, none, .p (.bin .lss (.t 10) (.t 9))⟩])
 (.seq (.cond (.t 11)
 .skip
 (.exit 0))
 (.seq (.block 1 (.seq (.ops [⟨some 12, none, .p (.ixs 1 (.t 8) (.t 10))⟩,
 ⟨some 13, none, .h (.load false 1 (.t 12))⟩,
 ⟨some 5, none, .p (.mv (.t 13))⟩])
 (.ops [⟨some 14, none, .p (.mv (.t 2))⟩,
 ⟨some 15, none, .p (.mv (.t 3))⟩,
 ⟨some 16, none, .p (.mv (.t 5))⟩,
 ⟨some 17, none, .h (.mget (.one (.s (.int .i64 0))) false (.t 15) (.t 16))⟩,
 ⟨some 18, none, .p (.bin .or (.t 14) (.t 17))⟩,
 ⟨some 2, none, .p (.mv (.t 18))⟩])))
 (.ops [⟨some 19, none, .p (.bin .add (.t 10) (.k (.s (.int .i64 1))))⟩,
 ⟨some 10, none, .p (.mv (.t 19))⟩])))))))
 (.seq (.ops [⟨some 20, none, .p (.mv (.t 2))⟩,
 ⟨some 2, none, .p (.mv (.t 20))⟩])
 .ret))))⟩
theorem c38 : compF Try.prog false Try.f38 = some a38 := by kernel_rfl
noncomputable def a39 : AF := ⟨17, [.cell 2 true 3],
 (.seq (.ops [⟨some 2, none, .h (.alloc (.scl [(.int .i64 0), (.int .i64 0), (.bool false)]))⟩])
 (.seq (.seq (.ops [⟨some 3, none, .p (.mv (.t 0))⟩,
 ⟨some 4, none, .p (.bin .lss (.t 3) (.k (.s (.int .i64 0))))⟩,
 ⟨some 5, none, .p (.mv (.t 4))⟩,
 ⟨some 6, some (5, false), .p (.mv (.t 0))⟩,
 ⟨some 7, some (5, false), .p (.bin .geq (.t 6) (.k (.s (.int .i64 64))))⟩,
 ⟨some 8, none, .p (.pick (.t 5) (.k (.s (.bool true))) (.t 7))⟩])
 (.cond (.t 8)
 (.seq (.ops [⟨some 9, none, .p (.build (.ints 2) [(0, 1, (.k (.s (.int .i64 (-1))))), (1, 1, (.k (.s (.int .i64 (-1)))))])⟩,
 ⟨some 10, none, .p (.build (.scl [(.int .i64 0), (.int .i64 0), (.bool false)]) [(0, 2, (.t 9))])⟩,
 ⟨none, none, .h (.store 3 (.t 2) (.t 10))⟩])
 .ret)
 .skip))
 (.seq (.ops [⟨some 11, none, .p (.mv (.t 0))⟩,
 ⟨some 12, none, .p (.bin .rem (.t 11) (.k (.s (.int .i64 8))))⟩,
 ⟨some 13, none, .p (.mv (.t 0))⟩,
 ⟨some 14, none, .p (.bin .quo (.t 13) (.k (.s (.int .i64 8))))⟩,
 ⟨some 15, none, .p (.build (.ints 2) [(0, 1, (.t 12)), (1, 1, (.t 14))])⟩,
 ⟨some 16, none, .p (.build (.scl [(.int .i64 0), (.int .i64 0), (.bool false)]) [(0, 2, (.t 15)), (2, 1, (.k (.s (.bool true))))])⟩,
 ⟨none, none, .h (.store 3 (.t 2) (.t 16))⟩])
 .ret)))⟩
theorem c39 : compF Try.prog false Try.f39 = some a39 := by kernel_rfl
noncomputable def a40 : AF := ⟨6, [.cell 0 true 8],
 (.seq (.ops [⟨some 0, none, .h (.alloc (.ints 8))⟩])
 (.seq (.ops [⟨some 1, none, .p (.build (.ints 2) [(0, 1, (.k (.s (.int .i64 1)))), (1, 1, (.k (.s (.int .i64 0))))])⟩,
 ⟨some 2, none, .p (.build (.ints 2) [(0, 1, (.k (.s (.int .i64 (-1))))), (1, 1, (.k (.s (.int .i64 0))))])⟩,
 ⟨some 3, none, .p (.build (.ints 2) [(0, 1, (.k (.s (.int .i64 0)))), (1, 1, (.k (.s (.int .i64 1))))])⟩,
 ⟨some 4, none, .p (.build (.ints 2) [(0, 1, (.k (.s (.int .i64 0)))), (1, 1, (.k (.s (.int .i64 (-1)))))])⟩,
 ⟨some 5, none, .p (.build (.ints 8) [(0, 2, (.t 1)), (2, 2, (.t 2)), (4, 2, (.t 3)), (6, 2, (.t 4))])⟩,
 ⟨none, none, .h (.store 8 (.t 0) (.t 5))⟩])
 .ret))⟩
theorem c40 : compF Try.prog false Try.f40 = some a40 := by kernel_rfl
noncomputable def a41 : AF := ⟨6, [.cell 0 true 8],
 (.seq (.ops [⟨some 0, none, .h (.alloc (.ints 8))⟩])
 (.seq (.ops [⟨some 1, none, .p (.build (.ints 2) [(0, 1, (.k (.s (.int .i64 1)))), (1, 1, (.k (.s (.int .i64 1))))])⟩,
 ⟨some 2, none, .p (.build (.ints 2) [(0, 1, (.k (.s (.int .i64 1)))), (1, 1, (.k (.s (.int .i64 (-1)))))])⟩,
 ⟨some 3, none, .p (.build (.ints 2) [(0, 1, (.k (.s (.int .i64 (-1))))), (1, 1, (.k (.s (.int .i64 1))))])⟩,
 ⟨some 4, none, .p (.build (.ints 2) [(0, 1, (.k (.s (.int .i64 (-1))))), (1, 1, (.k (.s (.int .i64 (-1)))))])⟩,
 ⟨some 5, none, .p (.build (.ints 8) [(0, 2, (.t 1)), (2, 2, (.t 2)), (4, 2, (.t 3)), (6, 2, (.t 4))])⟩,
 ⟨none, none, .h (.store 8 (.t 0) (.t 5))⟩])
 .ret))⟩
theorem c41 : compF Try.prog false Try.f41 = some a41 := by kernel_rfl
noncomputable def a42 : AF := ⟨28, [.tmp 4],
 (.seq (.ops [⟨some 4, none, .p (.mv (.k .snil))⟩])
 (.seq (.seq (.ops [⟨some 8, none, .p (.mv (.t 1))⟩,
 ⟨some 9, none, .p (.len (.t 8))⟩,
 ⟨some 10, none, .p (.mv (.k (.s (.int .i64 0))))⟩])
 (.block 0 (.loop (.seq (.ops [⟨some 11, none, .p (.bin .lss (.t 10) (.t 9))⟩])
 (.seq (.cond (.t 11)
 .skip
 (.exit 0))
 (.seq (.block 1 (.seq (.ops [⟨some 12, none, .p (.ixs 2 (.t 8) (.t 10))⟩,
 ⟨some 13, none, .h (.load true 2 (.t 12))⟩,
 ⟨some 6, none, .h (.alloc (.ints 2))⟩,
 ⟨none, none, .h (.store 2 (.t 6) (.t 13))⟩])
 (.seq (.ops [⟨some 14, none, .p (.mv (.t 0))⟩,
 ⟨some 15, none, .p (.ixa 2 1 (.t 6) (.k (.s (.int .i64 0))))⟩,
 ⟨some 16, none, .h (.load false 1 (.t 15))⟩,
 ⟨some 17, none, .p (.ixa 2 1 (.t 6) (.k (.s (.int .i64 1))))⟩,
 ⟨some 18, none, .h (.load false 1 (.t 17))⟩,
 ⟨some 19, none, .h (.call (.k (.fn 47 [])) [(.t 14), (.t 16), (.t 18)])⟩,
 ⟨some 7, none, .p (.mv (.t 19))⟩])
 (.seq (.ops [⟨some 20, none, .p (.mv (.t 7))⟩,
 ⟨some 21, none, .p (.bin .neq (.t 20) (.k (.s (.int .i64 (-1)))))⟩])
 (.cond (.t 21)
 (.ops [⟨some 22, none, .p (.mv (.t 4))⟩,
 ⟨some 23, none, .p (.mv (.t 7))⟩,
 ⟨some 24, none, .h (.mksl 1 1 (.one (.s (.int .i64 0))) [(0, (.t 23))])⟩,
 ⟨some 25, none, .h (.append 1 8 (.t 22) (.t 24))⟩,
 ⟨some 4, none, .p (.mv (.t 25))⟩])
 .skip)))))
 (.ops [⟨some 26, none, .p (.bin .add (.t 10) (.k (.s (.int .i64 1))))⟩,
 ⟨some 10, none, .p (.mv (.t 26))⟩])))))))
 (.seq (.ops [⟨some 27, none, .p (.mv (.t 4))⟩,
 ⟨some 4, none, .p (.mv (.t 27))⟩])
 .ret)))⟩
theorem c42 : compF Try.prog false Try.f42 = some a42 := by kernel_rfl
noncomputable def a43 : AF := ⟨10, [.cell 0 true 16],
 (.seq (.ops [⟨some 0, none, .h (.alloc (.ints 16))⟩])
 (.seq (.ops [⟨some 1, none, .p (.build (.ints 2) [(0, 1, (.k (.s (.int .i64 1)))), (1, 1, (.k (.s (.int .i64 2))))])⟩,
 ⟨some 2, none, .p (.build (.ints 2) [(0, 1, (.k (.s (.int .i64 2)))), (1, 1, (.k (.s (.int .i64 1))))])⟩,
 ⟨some 3, none, .p (.build (.ints 2) [(0, 1, (.k (.s (.int .i64 2)))), (1, 1, (.k (.s (.int .i64 (-1)))))])⟩,
 ⟨some 4, none, .p (.build (.ints 2) [(0, 1, (.k (.s (.int .i64 1)))), (1, 1, (.k (.s (.int .i64 (-2)))))])⟩,
 ⟨some 5, none, .p (.build (.ints 2) [(0, 1, (.k (.s (.int .i64 (-1))))), (1, 1, (.k (.s (.int .i64 (-2)))))])⟩,
 ⟨some 6, none, .p (.build (.ints 2) [(0, 1, (.k (.s (.int .i64 (-2))))), (1, 1, (.k (.s (.int .i64 (-1)))))])⟩,
 ⟨some 7, none, .p (.build (.ints 2) [(0, 1, (.k (.s (.int .i64 (-2))))), (1, 1, (.k (.s (.int .i64 1))))])⟩,
 ⟨some 8, none, .p (.build (.ints 2) [(0, 1, (.k (.s (.int .i64 (-1))))), (1, 1, (.k (.s (.int .i64 2))))])⟩,
 ⟨some 9, none, .p (.build (.ints 16) [(0, 2, (.t 1)), (2, 2, (.t 2)), (4, 2, (.t 3)), (6, 2, (.t 4)), (8, 2, (.t 5)), (10, 2, (.t 6)), (12, 2, (.t 7)), (14, 2, (.t 8))])⟩,
 ⟨none, none, .h (.store 16 (.t 0) (.t 9))⟩])
 .ret))⟩
theorem c43 : compF Try.prog false Try.f43 = some a43 := by kernel_rfl
noncomputable def a44 : AF := ⟨36, [.tmp 2],
 (.seq (.ops [⟨some 2, none, .p (.mv (.k .snil))⟩])
 (.seq (.ops [⟨some 3, none, .p (.mv (.k (.s (.int .i64 0))))⟩])
 (.seq (.seq (.ops [⟨some 9, none, .p (.mv (.t 0))⟩,
 ⟨some 10, none, .p (.len (.t 9))⟩,
 ⟨some 11, none, .p (.mv (.k (.s (.int .i64 0))))⟩])
 (.block 0 (.loop (.seq (.ops [⟨some 12, none, .p (.bin .lss (.t 11) (.t 10))⟩])
 (.seq (.cond (.t 12)
 .skip
 (.exit 0))
 (.seq (.block 1 (.seq (.ops [⟨some 13, none, .p (.ixs 1 (.t 9) (.t 11))⟩,
 ⟨some 14, none, .h (.load false 1 (.t 13))⟩,
 ⟨some 5, none, .p (.mv (.t 14))⟩])
 (.seq (.ops [⟨some 15, none, .p (.mv (.t 3))⟩,
 ⟨some 16, none, .p (.mv (.t 5))⟩,
 ⟨some 17, none, .p (.len (.t 16))⟩,
 ⟨some 18, none, .p (.bin .add (.t 15) (.t 17))⟩,
 ⟨some 3, none, .p (.mv (.t 18))⟩])
 (.seq (.ops [⟨some 19, none, .p (.mv (.t 3))⟩,
 ⟨some 20, none, .p (.bin .lss (.t 19) (.k (.s (.int .i64 0))))⟩])
 (.cond (.t 20)
 (.ops [⟨some 21, none, .p (.mkif 9 (.k (.s (.str ⟨#[108, 101, 110, 32, 111, 117, 116, 32, 111, 102, 32, 114, 97, 110, 103, 101]⟩))))⟩,
 ⟨none, none, .h (.pnc (.t 21))⟩])
 .skip)))))
 (.ops [⟨some 22, none, .p (.bin .add (.t 11) (.k (.s (.int .i64 1))))⟩,
 ⟨some 11, none, .p (.mv (.t 22))⟩])))))))
 (.seq (.ops [⟨some 23, none, .p (.mv (.t 3))⟩,
 ⟨some 24, none, .h (.call (.k (.fn 65 [])) [(.k .snil), (.t 23)])⟩,
 ⟨some 6, none, .p (.mv (.t 24))⟩])
 (.seq (.seq (.ops [⟨some 25, none, .p (.mv (.t 0))⟩,
 ⟨some 26, none, .p (.len (.t 25))⟩,
 ⟨some 27, none, .p (.mv (.k (.s (.int .i64 0))))⟩])
 (.block 2 (.loop (.seq (.ops [⟨some 28, none, .p (.bin .lss (.t 27) (.t 26))⟩])
 (.seq (.cond (.t 28)
 .skip
 (.exit 2))
 (.seq (.block 3 (.seq (.ops [⟨some 29, none, .p (.ixs 1 (.t 25) (.t 27))⟩,
 ⟨some 30, none, .h (.load false 1 (.t 29))⟩,
 ⟨some 8, none, .p (.mv (.t 30))⟩])
 (.ops [⟨some 31, none, .p (.mv (.t 6))⟩,
 ⟨some 32, none, .p (.mv (.t 8))⟩,
 ⟨some 33, none, .h (.append 2 16 (.t 31) (.t 32))⟩,
 ⟨some 6, none, .p (.mv (.t 33))⟩])))
 (.ops [⟨some 34, none, .p (.bin .add (.t 27) (.k (.s (.int .i64 1))))⟩,
 ⟨some 27, none, .p (.mv (.t 34))⟩])))))))
 (.seq (.ops [⟨some 35, none, .p (.mv (.t 6))⟩,
 ⟨some 2, none, .p (.mv (.t 35))⟩])
 .ret))))))⟩
theorem c44 : compF Try.prog false Try.f44 = some a44 := by kernel_rfl
noncomputable def a45 : AF := ⟨42, [.tmp 6],
 (.seq (.ops [⟨some 3, none, .h (.box (.t 0))⟩,
 ⟨some 6, none, .p (.mv (.k .snil))⟩])
 (.seq (.seq (.ops [⟨some 11, none, .p (.mv (.t 2))⟩,
 ⟨some 12, none, .p (.len (.t 11))⟩,
 ⟨some 13, none, .p (.mv (.k (.s (.int .i64 0))))⟩])
 (.block 0 (.loop (.seq (.ops [⟨some 14, none, .p (.bin .lss (.t 13) (.t 12))⟩])
 (.seq (.cond (.t 14)
 .skip
 (.exit 0))
 (.seq (.block 1 (.seq (.ops [⟨some 15, none, .p (.ixs 2 (.t 11) (.t 13))⟩,
 ⟨some 16, none, .h (.load true 2 (.t 15))⟩,
 ⟨some 8, none, .h (.alloc (.ints 2))⟩,
 ⟨none, none, .h (.store 2 (.t 8) (.t 16))⟩])
 (.seq (.ops [⟨some 17, none, .p (.mv (.t 1))⟩,
 ⟨some 18, none, .p (.ixa 2 1 (.t 8) (.k (.s (.int .i64 0))))⟩,
 ⟨some 19, none, .h (.load false 1 (.t 18))⟩,
 ⟨some 20, none, .p (.ixa 2 1 (.t 8) (.k (.s (.int .i64 1))))⟩,
 ⟨some 21, none, .h (.load false 1 (.t 20))⟩,
 ⟨some 22, none, .h (.call (.k (.fn 66 [])) [(.t 17), (.t 19), (.t 21)])⟩,
 ⟨some 23, none, .p (.len (.t 22))⟩,
 ⟨some 24, none, .p (.mv (.k (.s (.int .i64 0))))⟩])
 (.block 2 (.loop (.seq (.ops [⟨some 25, none, .p (.bin .lss (.t 24) (.t 23))⟩])
 (.seq (.cond (.t 25)
 .skip
 (.exit 2))
 (.seq (.block 3 (.seq (.ops [⟨some 26, none, .p (.ixs 1 (.t 22) (.t 24))⟩,
 ⟨some 27, none, .h (.load false 1 (.t 26))⟩,
 ⟨some 10, none, .p (.mv (.t 27))⟩])
 (.seq (.ops [⟨some 28, none, .p (.mv (.t 6))⟩,
 ⟨some 29, none, .p (.mv (.t 10))⟩,
 ⟨some 30, none, .h (.mksl 1 1 (.one (.s (.int .i64 0))) [(0, (.t 29))])⟩,
 ⟨some 31, none, .h (.append 1 8 (.t 28) (.t 30))⟩,
 ⟨some 6, none, .p (.mv (.t 31))⟩])
 (.seq (.ops [⟨some 32, none, .p (.mv (.t 10))⟩,
 ⟨some 33, none, .p (.fa 0 133 (.t 3))⟩,
 ⟨some 34, none, .p (.fa 0 128 (.t 33))⟩,
 ⟨some 35, none, .p (.ixa 64 2 (.t 34) (.t 32))⟩,
 ⟨some 36, none, .h (.load true 2 (.t 35))⟩,
 ⟨some 37, none, .p (.build (.ints 2) [])⟩,
 ⟨some 38, none, .p (.eqa true 2 (.t 36) (.t 37))⟩])
 (.cond (.t 38)
 (.exit 2)
 .skip)))))
 (.ops [⟨some 39, none, .p (.bin .add (.t 24) (.k (.s (.int .i64 1))))⟩,
 ⟨some 24, none, .p (.mv (.t 39))⟩])))))))))
 (.ops [⟨some 40, none, .p (.bin .add (.t 13) (.k (.s (.int .i64 1))))⟩,
 ⟨some 13, none, .p (.mv (.t 40))⟩])))))))
 (.seq (.ops [⟨some 41, none, .p (.mv (.t 6))⟩,
 ⟨some 6, none, .p (.mv (.t 41))⟩])
 .ret)))⟩
theorem c45 : compF Try.prog false Try.f45 = some a45 := by kernel_rfl
noncomputable def a47 : AF := ⟨13, [.tmp 6],
 (.seq (.ops [⟨some 6, none, .p (.mv (.k (.s (.int .i64 0))))⟩])
 (.seq (.ops [⟨some 7, none, .p (.mv (.t 0))⟩,
 ⟨some 8, none, .h (.call (.k (.fn 39 [])) [(.t 7)])⟩,
 ⟨some 9, none, .p (.mv (.t 1))⟩,
 ⟨some 10, none, .p (.mv (.t 2))⟩,
 ⟨some 11, none, .h (.call (.k (.fn 76 [])) [(.t 8), (.t 9), (.t 10)])⟩,
 ⟨some 12, none, .h (.call (.k (.fn 77 [])) [(.t 11)])⟩,
 ⟨some 6, none, .p (.mv (.t 12))⟩])
 .ret))⟩
theorem c47 : compF Try.prog false Try.f47 = some a47 := by kernel_rfl
noncomputable def a48 : AF := ⟨9, [.tmp 4],
 (.seq (.ops [⟨some 2, none, .h (.box (.t 0))⟩,
 ⟨some 4, none, .p (.mv (.k (.s (.bool false))))⟩])
 (.seq (.ops [⟨some 5, none, .p (.mv (.t 1))⟩,
 ⟨some 6, none, .p (.mkfn 79 [(.t 2)])⟩,
 ⟨some 7, none, .h (.call (.k (.fn 78 [])) [(.t 5), (.t 6)])⟩,
 ⟨some 8, none, .p (.un .not (.t 7))⟩,
 ⟨some 4, none, .p (.mv (.t 8))⟩])
 .ret))⟩
theorem c48 : compF Try.prog false Try.f48 = some a48 := by kernel_rfl
noncomputable def a49 : AF := ⟨19, [.tmp 4],
 (.seq (.ops [⟨some 4, none, .p (.mv (.k (.s (.int .i64 0))))⟩])
 (.seq (.seq (.ops [⟨some 6, none, .p (.mv (.t 0))⟩,
 ⟨some 7, none, .p (.len (.t 6))⟩,
 ⟨some 8, none, .p (.mv (.k (.s (.int .i64 0))))⟩])
 (.block 0 (.loop (.seq (.ops [⟨some 9, none, .p (.bin .lss (.t 8) (.t 7))⟩])
 (.seq (.cond (.t 9)
 .skip
 (.exit 0))
 (.seq (.block 1 (.seq (.ops [⟨some 10, none, .p (.mv (.t 8))⟩,
 ⟨some 5, none, .p (.mv (.t 10))⟩])
 (.seq (.ops [⟨some 11, none, .p (.mv (.t 1))⟩,
 ⟨some 12, none, .p (.mv (.t 0))⟩,
 ⟨some 13, none, .p (.mv (.t 5))⟩,
 ⟨some 14, none, .p (.ixs 1 (.t 12) (.t 13))⟩,
 ⟨some 15, none, .h (.load false 1 (.t 14))⟩,
 ⟨some 16, none, .h (.call (.t 11) [(.t 15)])⟩])
 (.cond (.t 16)
 (.seq (.ops [⟨some 17, none, .p (.mv (.t 5))⟩,
 ⟨some 4, none, .p (.mv (.t 17))⟩])
 .ret)
 .skip))))
 (.ops [⟨some 18, none, .p (.bin .add (.t 8) (.k (.s (.int .i64 1))))⟩,
 ⟨some 8, none, .p (.mv (.t 18))⟩])))))))
 (.seq (.ops [⟨some 4, none, .p (.mv (.k (.s (.int .i64 (-1)))))⟩])
 .ret)))⟩
theorem c49 : compF Try.prog false Try.f49 = some a49 := by kernel_rfl
noncomputable def a60 : AF := ⟨6, [.tmp 2],
 (.seq (.ops [⟨some 2, none, .p (.mv (.k (.s (.bool false))))⟩])
 (.seq (.ops [⟨some 3, none, .p (.mv (.t 0))⟩,
 ⟨some 4, none, .p (.mv (.t 0))⟩,
 ⟨some 5, none, .p (.bin .neq (.t 3) (.t 4))⟩,
 ⟨some 2, none, .p (.mv (.t 5))⟩])
 .ret))⟩
theorem c60 : compF Try.prog false Try.f60 = some a60 := by kernel_rfl
noncomputable def a61 : AF := ⟨6, [.tmp 2],
 (.seq (.ops [⟨some 2, none, .p (.mv (.k (.s (.bool false))))⟩])
 (.seq (.ops [⟨some 3, none, .p (.mv (.t 0))⟩,
 ⟨some 4, none, .p (.mv (.t 0))⟩,
 ⟨some 5, none, .p (.bin .neq (.t 3) (.t 4))⟩,
 ⟨some 2, none, .p (.mv (.t 5))⟩])
 .ret))⟩
theorem c61 : compF Try.prog false Try.f61 = some a61 := by kernel_rfl
noncomputable def a62 : AF := ⟨16, [.tmp 2],
 (.seq (.ops [⟨some 2, none, .p (.mv (.k (.s (.int .i64 0))))⟩])
 (.seq (.par [⟨some 3, none, .p (.mv (.t 0))⟩,
 ⟨some 4, none, .p (.nilck (.t 3))⟩,
 ⟨some 5, none, .p (.fa 133 3 (.t 4))⟩,
 ⟨some 6, none, .p (.fa 1 1 (.t 5))⟩,
 ⟨some 7, none, .h (.load false 1 (.t 6))⟩,
 ⟨some 8, none, .h (.callq (.k (.fn 64 [])) [(.t 7)])⟩,
 ⟨some 9, none, .p (.mv (.t 0))⟩,
 ⟨some 10, none, .p (.nilck (.t 9))⟩,
 ⟨some 11, none, .p (.fa 133 3 (.t 10))⟩,
 ⟨some 12, none, .p (.fa 0 1 (.t 11))⟩,
 ⟨some 13, none, .h (.load false 1 (.t 12))⟩,
 ⟨some 14, none, .h (.call (.k (.fn 64 [])) [(.t 13)])⟩,
 ⟨some 15, none, .p (.bin .sub (.t 8) (.t 14))⟩,
 ⟨some 2, none, .p (.mv (.t 15))⟩])
 .ret))⟩
theorem c62 : compF Try.prog false Try.f62 = some a62 := by kernel_rfl
noncomputable def a63 : AF := ⟨9, [.tmp 4],
 (.seq (.ops [⟨some 4, none, .p (.mv (.k (.s (.int .i64 0))))⟩])
 (.seq (.ops [⟨some 5, none, .p (.mv (.t 0))⟩,
 ⟨some 6, none, .p (.mv (.t 1))⟩,
 ⟨some 7, none, .p (.build (.ints 2) [(0, 1, (.t 5)), (1, 1, (.t 6))])⟩,
 ⟨some 8, none, .h (.call (.k (.fn 77 [])) [(.t 7)])⟩,
 ⟨some 4, none, .p (.mv (.t 8))⟩])
 .ret))⟩
theorem c63 : compF Try.prog false Try.f63 = some a63 := by kernel_rfl
noncomputable def a64 : AF := ⟨7, [.tmp 2],
 (.seq (.ops [⟨some 2, none, .p (.mv (.k (.s (.int .i64 0))))⟩])
 (.seq (.ops [⟨some 3, none, .p (.mv (.t 0))⟩,
 ⟨some 4, none, .h (.call (.k (.fn 39 [])) [(.t 3)])⟩,
 ⟨some 5, none, .p (.fld true 0 2 (.t 4))⟩,
 ⟨some 6, none, .p (.fld false 0 1 (.t 5))⟩,
 ⟨some 2, none, .p (.mv (.t 6))⟩])
 .ret))⟩
theorem c64 : compF Try.prog false Try.f64 = some a64 := by kernel_rfl
noncomputable def a66 : AF := ⟨28, [.tmp 6],
 (.seq (.ops [⟨some 6, none, .p (.mv (.k .snil))⟩])
 (.seq (.seq (.ops [⟨some 7, none, .p (.mv (.t 1))⟩,
 ⟨some 8, none, .p (.bin .eql (.t 7) (.k (.s (.int .i64 0))))⟩,
 ⟨some 9, none, .p (.mv (.t 8))⟩,
 ⟨some 10, some (9, true), .p (.mv (.t 2))⟩,
 ⟨some 11, some (9, true), .p (.bin .eql (.t 10) (.k (.s (.int .i64 0))))⟩,
 ⟨some 12, none, .p (.pick (.t 9) (.t 11) (.k (.s (.bool false))))⟩])
 (.cond (.t 12)
 (.seq (.ops [⟨some 6, none, .p (.mv (.k .snil))⟩])
 .ret)
 .skip))
 (.seq (.seq (.ops [⟨some 13, none, .p (.mv (.t 0))⟩,
 ⟨some 14, none, .p (.mv (.t 1))⟩,
 ⟨some 15, none, .p (.mv (.t 2))⟩,
 ⟨some 16, none, .h (.call (.k (.fn 47 [])) [(.t 13), (.t 14), (.t 15)])⟩,
 ⟨some 0, none, .p (.mv (.t 16))⟩])
 (.block 0 (.loop (.seq (.seq (.ops [⟨some 17, none, .p (.mv (.t 0))⟩,
 ⟨some 18, none, .p (.bin .neq (.t 17) (.k (.s (.int .i64 (-1)))))⟩])
 (.cond (.t 18)
 .skip
 (.exit 0)))
 (.seq (.block 1 (.ops [⟨some 23, none, .p (.mv (.t 6))⟩,
 ⟨some 24, none, .p (.mv (.t 0))⟩,
 ⟨some 25, none, .h (.mksl 1 1 (.one (.s (.int .i64 0))) [(0, (.t 24))])⟩,
 ⟨some 26, none, .h (.append 1 8 (.t 23) (.t 25))⟩,
 ⟨some 6, none, .p (.mv (.t 26))⟩]))
 (.ops [⟨some 19, none, .p (.mv (.t 0))⟩,
 ⟨some 20, none, .p (.mv (.t 1))⟩,
 ⟨some 21, none, .p (.mv (.t 2))⟩,
 ⟨some 22, none, .h (.call (.k (.fn 47 [])) [(.t 19), (.t 20), (.t 21)])⟩,
 ⟨some 0, none, .p (.mv (.t 22))⟩]))))))
 (.seq (.ops [⟨some 27, none, .p (.mv (.t 6))⟩,
 ⟨some 6, none, .p (.mv (.t 27))⟩])
 .ret))))⟩
theorem c66 : compF Try.prog false Try.f66 = some a66 := by kernel_rfl
noncomputable def a76 : AF := ⟨34, [.cell 6 true 2],
 (.seq (.ops [⟨some 3, none, .h (.box (.t 0))⟩,
 ⟨some 6, none, .h (.alloc (.ints 2))⟩])
 (.seq (.seq (.ops [⟨some 7, none, .p (.fa 2 1 (.t 3))⟩,
 ⟨some 8, none, .h (.load false 1 (.t 7))⟩,
 ⟨some 9, none, .p (.un .not (.t 8))⟩,
 ⟨some 10, none, .p (.mv (.t 9))⟩,
 ⟨some 11, some (10, false), .p (.mv (.t 1))⟩,
 ⟨some 12, some (10, false), .p (.mv (.t 2))⟩,
 ⟨some 13, some (10, false), .p (.mx [(.t 11), (.t 12)])⟩,
 ⟨some 14, some (10, false), .p (.bin .geq (.t 13) (.k (.s (.int .i64 8))))⟩,
 ⟨some 15, none, .p (.pick (.t 10) (.k (.s (.bool true))) (.t 14))⟩,
 ⟨some 16, none, .p (.mv (.t 15))⟩,
 ⟨some 17, some (16, false), .p (.mv (.t 1))⟩,
 ⟨some 18, some (16, false), .p (.mv (.t 2))⟩,
 ⟨some 19, some (16, false), .p (.mn [(.t 17), (.t 18)])⟩,
 ⟨some 20, some (16, false), .p (.bin .leq (.t 19) (.k (.s (.int .i64 (-8)))))⟩,
 ⟨some 21, none, .p (.pick (.t 16) (.k (.s (.bool true))) (.t 20))⟩])
 (.cond (.t 21)
 (.seq (.ops [⟨some 22, none, .p (.build (.ints 2) [(0, 1, (.k (.s (.int .i64 (-1))))), (1, 1, (.k (.s (.int .i64 (-1)))))])⟩,
 ⟨none, none, .h (.store 2 (.t 6) (.t 22))⟩])
 .ret)
 .skip))
 (.seq (.ops [⟨some 23, none, .p (.fa 0 2 (.t 3))⟩,
 ⟨some 24, none, .p (.fa 0 1 (.t 23))⟩,
 ⟨some 25, none, .h (.load false 1 (.t 24))⟩,
 ⟨some 26, none, .p (.mv (.t 1))⟩,
 ⟨some 27, none, .p (.bin .add (.t 25) (.t 26))⟩,
 ⟨some 28, none, .p (.fa 0 2 (.t 3))⟩,
 ⟨some 29, none, .p (.fa 1 1 (.t 28))⟩,
 ⟨some 30, none, .h (.load false 1 (.t 29))⟩,
 ⟨some 31, none, .p (.mv (.t 2))⟩,
 ⟨some 32, none, .p (.bin .add (.t 30) (.t 31))⟩,
 ⟨some 33, none, .p (.build (.ints 2) [(0, 1, (.t 27)), (1, 1, (.t 32))])⟩,
 ⟨none, none, .h (.store 2 (.t 6) (.t 33))⟩])
 .ret)))⟩
theorem c76 : compF Try.prog false Try.f76 = some a76 := by kernel_rfl
noncomputable def a77 : AF := ⟨12, [.tmp 2],
 (.seq (.ops [⟨some 1, none, .h (.box (.t 0))⟩,
 ⟨some 2, none, .p (.mv (.k (.s (.int .i64 0))))⟩])
 (.seq (.seq (.ops [⟨some 3, none, .h (.load true 2 (.t 1))⟩,
 ⟨some 4, none, .h (.call (.k (.fn 88 [])) [(.t 3)])⟩,
 ⟨some 5, none, .p (.un .not (.t 4))⟩])
 (.cond (.t 5)
 (.seq (.ops [⟨some 2, none, .p (.mv (.k (.s (.int .i64 (-1)))))⟩])
 .ret)
 .skip))
 (.seq (.ops [⟨some 6, none, .p (.fa 1 1 (.t 1))⟩,
 ⟨some 7, none, .h (.load false 1 (.t 6))⟩,
 ⟨some 8, none, .p (.bin .mul (.t 7) (.k (.s (.int .i64 8))))⟩,
 ⟨some 9, none, .p (.fa 0 1 (.t 1))⟩,
 ⟨some 10, none, .h (.load false 1 (.t 9))⟩,
 ⟨some 11, none, .p (.bin .add (.t 8) (.t 10))⟩,
 ⟨some 2, none, .p (.mv (.t 11))⟩])
 .ret)))⟩
theorem c77 : compF Try.prog false Try.f77 = some a77 := by kernel_rfl
noncomputable def a78 : AF := ⟨9, [.tmp 4],
 (.seq (.ops [⟨some 4, none, .p (.mv (.k (.s (.bool false))))⟩])
 (.seq (.ops [⟨some 5, none, .p (.mv (.t 0))⟩,
 ⟨some 6, none, .p (.mv (.t 1))⟩,
 ⟨some 7, none, .h (.call (.k (.fn 49 [])) [(.t 5), (.t 6)])⟩,
 ⟨some 8, none, .p (.bin .geq (.t 7) (.k (.s (.int .i64 0))))⟩,
 ⟨some 4, none, .p (.mv (.t 8))⟩])
 .ret))⟩
theorem c78 : compF Try.prog false Try.f78 = some a78 := by kernel_rfl
noncomputable def a79 : AF := ⟨16, [.tmp 3],
 (.seq (.ops [⟨some 3, none, .p (.mv (.k (.s (.bool false))))⟩])
 (.seq (.ops [⟨some 4, none, .p (.mv (.t 0))⟩,
 ⟨some 5, none, .h (.call (.k (.fn 19 [])) [(.t 4)])⟩,
 ⟨some 6, none, .p (.un .not (.t 5))⟩,
 ⟨some 7, none, .p (.mv (.t 6))⟩,
 ⟨some 8, some (7, false), .p (.mv (.t 0))⟩,
 ⟨some 9, some (7, false), .p (.fa 0 133 (.t 1))⟩,
 ⟨some 10, some (7, false), .p (.fa 0 128 (.t 9))⟩,
 ⟨some 11, some (7, false), .p (.ixa 64 2 (.t 10) (.t 8))⟩,
 ⟨some 12, some (7, false), .h (.load true 2 (.t 11))⟩,
 ⟨some 13, some (7, false), .p (.build (.ints 2) [])⟩,
 ⟨some 14, some (7, false), .p (.eqa true 2 (.t 12) (.t 13))⟩,
 ⟨some 15, none, .p (.pick (.t 7) (.k (.s (.bool true))) (.t 14))⟩,
 ⟨some 3, none, .p (.mv (.t 15))⟩])
 .ret))⟩
theorem c79 : compF Try.prog false Try.f79 = some a79 := by kernel_rfl
noncomputable def a88 : AF := ⟨13, [.tmp 2],
 (.seq (.ops [⟨some 1, none, .h (.box (.t 0))⟩,
 ⟨some 2, none, .p (.mv (.k (.s (.bool false))))⟩])
 (.seq (.ops [⟨some 3, none, .p (.fa 0 1 (.t 1))⟩,
 ⟨some 4, none, .h (.load false 1 (.t 3))⟩,
 ⟨some 5, none, .p (.conv .u64 (.t 4))⟩,
 ⟨some 6, none, .p (.bin .lss (.t 5) (.k (.s (.int .u64 8))))⟩,
 ⟨some 7, none, .p (.mv (.t 6))⟩,
 ⟨some 8, some (7, true), .p (.fa 1 1 (.t 1))⟩,
 ⟨some 9, some (7, true), .h (.load false 1 (.t 8))⟩,
 ⟨some 10, some (7, true), .p (.conv .u64 (.t 9))⟩,
 ⟨some 11, some (7, true), .p (.bin .lss (.t 10) (.k (.s (.int .u64 8))))⟩,
 ⟨some 12, none, .p (.pick (.t 7) (.t 11) (.k (.s (.bool false))))⟩,
 ⟨some 2, none, .p (.mv (.t 12))⟩])
 .ret))⟩
theorem c88 : compF Try.prog false Try.f88 = some a88 := by kernel_rfl
end Go.Proofs.Ytlkighkfkdpncaa
set_option linter.unusedVariables false
namespace Go.Am
open Go
theorem rise_uniq : ∀ {l1 l2 : List Int}, l1.Pairwise (· < ·) → l2.Pairwise (· < ·) → (∀ x, x ∈ l1 ↔ x ∈ l2) → l1 = l2
 | [], [], _, _, _ => rfl
 | [], y :: l2, _, _, h => by have := (h y).2 (.head _); cases this
 | x :: l1, [], _, _, h => by have := (h x).1 (.head _); cases this
 | x :: l1, y :: l2, h1, h2, h => by
  rw [List.pairwise_cons] at h1 h2
  have e : x = y := by
   have hx := (h x).1 (.head _)
   have hy := (h y).2 (.head _)
   rcases List.mem_cons.1 hx with e | hx
   ·exact e
   ·rcases List.mem_cons.1 hy with e | hy
    ·exact e.symm
    ·have := h2.1 x hx; have := h1.1 y hy; omega
  subst e
  refine congrArg (x :: ·) (rise_uniq h1.2 h2.2 fun z => ?_)
  constructor
  ·intro hz
   rcases List.mem_cons.1 ((h z).1 (.tail _ hz)) with e | hz'
   ·subst e; have := h1.1 z hz; omega
   ·exact hz'
  ·intro hz
   rcases List.mem_cons.1 ((h z).2 (.tail _ hz)) with e | hz'
   ·subst e; have := h2.1 z hz; omega
   ·exact hz'
def srtM (l : List Int) : List Int := l.mergeSort fun x y => decide (x ≤ y)
theorem srtM_perm (l : List Int) : (srtM l).Perm l := List.mergeSort_perm _ _
theorem srtM_mem {l : List Int} {x : Int} : x ∈ srtM l ↔ x ∈ l := (srtM_perm l).mem_iff
theorem srtM_le (l : List Int) : (srtM l).Pairwise (· ≤ ·) := by
 have h := List.pairwise_mergeSort (le := fun x y : Int => decide (x ≤ y)) (by intro a b c h1 h2; simp at *; omega) (by intro a b; simp; omega) l
 exact h.imp (fun h => by simpa using h)
theorem lt_of_le_nodup : ∀ {l : List Int}, l.Pairwise (· ≤ ·) → l.Nodup → l.Pairwise (· < ·)
 | [], _, _ => .nil
 | x :: l, h1, h2 => by
  rw [List.pairwise_cons] at h1
  rw [List.nodup_cons] at h2
  rw [List.pairwise_cons]
  refine ⟨fun y hy => ?_, lt_of_le_nodup h1.2 h2.2⟩
  have := h1.1 y hy
  have : x ≠ y := fun e => h2.1 (by rw [e]; exact hy)
  omega
theorem srtM_lt {l : List Int} (h : l.Nodup) : (srtM l).Pairwise (· < ·) := lt_of_le_nodup (srtM_le l) ((srtM_perm l).nodup_iff.2 h)
theorem srtM_is {l r : List Int} (h : l.Nodup) (hr : r.Pairwise (· < ·)) (hm : ∀ x, x ∈ l ↔ x ∈ r) : srtM l = r := rise_uniq (srtM_lt h) hr fun x => srtM_mem.trans (hm x)
theorem rise_uniq3 {α : Type} {r : α → α → Prop} (asy : ∀ x y, r x y → ¬ r y x) : ∀ {l1 l2 : List α}, l1.Pairwise r → l2.Pairwise r → (∀ x, x ∈ l1 ↔ x ∈ l2) → l1 = l2
 | [], [], _, _, _ => rfl
 | [], y :: l2, _, _, h => by have := (h y).2 (.head _); cases this
 | x :: l1, [], _, _, h => by have := (h x).1 (.head _); cases this
 | x :: l1, y :: l2, h1, h2, h => by
  rw [List.pairwise_cons] at h1 h2
  have irr : ∀ x, ¬ r x x := fun x h => asy x x h h
  have e : x = y := by
   have hx := (h x).1 (.head _)
   have hy := (h y).2 (.head _)
   rcases List.mem_cons.1 hx with e | hx
   ·exact e
   ·rcases List.mem_cons.1 hy with e | hy
    ·exact e.symm
    ·exact absurd (h2.1 x hx) (asy _ _ (h1.1 y hy))
  subst e
  refine congrArg (x :: ·) (rise_uniq3 asy h1.2 h2.2 fun z => ?_)
  constructor
  ·intro hz
   rcases List.mem_cons.1 ((h z).1 (.tail _ hz)) with e | hz'
   ·subst e; exact absurd (h1.1 z hz) (irr _)
   ·exact hz'
  ·intro hz
   rcases List.mem_cons.1 ((h z).2 (.tail _ hz)) with e | hz'
   ·subst e; exact absurd (h2.1 z hz) (irr _)
   ·exact hz'
abbrev Mv := Int × Int × Int
def lt3 (a b : Mv) : Prop := a.1 < b.1 ∨ a.1 = b.1 ∧ (a.2.1 < b.2.1 ∨ a.2.1 = b.2.1 ∧ a.2.2 < b.2.2)
instance (a b : Mv) : Decidable (lt3 a b) := by unfold lt3; infer_instance
theorem lt3_asy (x y : Mv) (h : lt3 x y) : ¬ lt3 y x := by unfold lt3 at *; omega
theorem lt3_tr (a b c : Mv) (h1 : (!decide (lt3 b a)) = true) (h2 : (!decide (lt3 c b)) = true) : (!decide (lt3 c a)) = true := by
 simp only [Bool.not_eq_true', decide_eq_false_iff_not] at h1 h2 ⊢
 unfold lt3 at *
 omega
theorem lt3_tot (a b : Mv) : ((!decide (lt3 b a)) || !decide (lt3 a b)) = true := by
 simp only [Bool.or_eq_true, Bool.not_eq_true', decide_eq_false_iff_not]
 unfold lt3
 omega
def srt3 (l : List Mv) : List Mv := l.mergeSort fun x y => !decide (lt3 y x)
theorem srt3_perm (l : List Mv) : (srt3 l).Perm l := List.mergeSort_perm _ _
theorem srt3_le (l : List Mv) : (srt3 l).Pairwise (fun x y => ¬ lt3 y x) := by
 have h := List.pairwise_mergeSort (le := fun x y : Mv => !decide (lt3 y x)) lt3_tr lt3_tot l
 exact h.imp (fun h => by simpa using h)
theorem lt3_of : ∀ {l : List Mv}, l.Pairwise (fun x y => ¬ lt3 y x) → l.Nodup → l.Pairwise lt3
 | [], _, _ => .nil
 | x :: l, h1, h2 => by
  rw [List.pairwise_cons] at h1
  rw [List.nodup_cons] at h2
  rw [List.pairwise_cons]
  refine ⟨fun y hy => ?_, lt3_of h1.2 h2.2⟩
  have h3 := h1.1 y hy
  have hne : x ≠ y := fun e => h2.1 (by rw [e]; exact hy)
  obtain ⟨x1, x2, x3⟩ := x
  obtain ⟨y1, y2, y3⟩ := y
  have : ¬ (x1 = y1 ∧ x2 = y2 ∧ x3 = y3) := fun ⟨a, b, c⟩ => hne (by rw [a, b, c])
  unfold lt3 at *
  simp only at *
  omega
theorem srt3_is {l r : List Mv} (h : l.Nodup) (hr : r.Pairwise lt3) (hm : ∀ x, x ∈ l ↔ x ∈ r) : srt3 l = r :=
 rise_uniq3 lt3_asy (lt3_of (srt3_le l) ((srt3_perm l).nodup_iff.2 h)) hr fun x => (srt3_perm l).mem_iff.trans (hm x)
theorem sorted_uniq {α : Type} {r : α → α → Prop} (anti : ∀ x y, r x y → r y x → x = y) : ∀ {l1 l2 : List α}, l1.Perm l2 → l1.Pairwise r → l2.Pairwise r → l1 = l2
 | [], l2, h, _, _ => (List.Perm.nil_eq h)
 | x :: l1, [], h, _, _ => absurd h.length_eq (by simp)
 | x :: l1, y :: l2, h, h1, h2 => by
  rw [List.pairwise_cons] at h1 h2
  have e : x = y := by
   have hx := h.mem_iff.1 List.mem_cons_self
   have hy := h.mem_iff.2 List.mem_cons_self
   rcases List.mem_cons.1 hx with e | hx
   ·exact e
   ·rcases List.mem_cons.1 hy with e | hy
    ·exact e.symm
    ·exact anti _ _ (h1.1 y hy) (h2.1 x hx)
  subst e
  exact congrArg (x :: ·) (sorted_uniq anti (List.Perm.cons_inv h) h1.2 h2.2)
theorem srt3_uniq {l r : List Mv} (h : r.Perm l) (hs : r.Pairwise (fun x y => ¬ lt3 y x)) : r = srt3 l :=
 sorted_uniq (fun x y h1 h2 => by
  obtain ⟨x1, x2, x3⟩ := x
  obtain ⟨y1, y2, y3⟩ := y
  unfold lt3 at h1 h2
  simp only at h1 h2
  have e1 : x1 = y1 := by omega
  have e2 : x2 = y2 := by omega
  have e3 : x3 = y3 := by omega
  rw [e1, e2, e3]) (h.trans (srt3_perm l).symm) hs (srt3_le l)
def flat3 (l : List Mv) : List Int := l.flatMap fun m => [m.1, m.2.1, m.2.2]
theorem flat3_len : ∀ l : List Mv, (flat3 l).length = l.length * 3
 | [] => rfl
 | m :: l => by
  have := flat3_len l
  unfold flat3 at *
  rw [List.flatMap_cons, List.length_append, this]
  simp only [List.length_cons, List.length_nil]
  omega
end Go.Am
set_option linter.unusedVariables false
namespace Go.Am
open Go
def isI64 : S → Bool
 | .int .i64 _ => true
 | _ => false
def numOf : S → Int
 | .int _ n => n
 | _ => 0
def numsOf (g : Nat → S) (m : Nat) : List Int := (List.range m).map fun i => numOf (g i)
def layS (l : List Int) (g : Nat → S) : Nat → S := fun i => bif Nat.blt i l.length then .int .i64 (l.getD i 0) else g i
def srtPrim : List V → Heap → Option (V × Heap)
 | [.snil], σ => some (.tup [], σ)
 | [.sl b 0 m 1 .whole], σ => match σ[b]? with
  | some (.sc .grow q g) => bif allB m (fun i => isI64 (g i)) && Nat.blt m 4611686018427387904 then some (.tup [], σ.set b (.sc .grow q (layS (srtM (numsOf g m)) g))) else none
  | _ => none
 | _, _ => none
def mvOf (g : Nat → S) (m : Nat) : List Mv := (List.range m).map fun i => (numOf (g (3 * i)), numOf (g (3 * i + 1)), numOf (g (3 * i + 2)))
def srt3Prim (cmp : FuncId) : List V → Heap → Option (V × Heap)
 | [.snil, .fn f []], σ => if f = cmp then some (.tup [], σ) else none
 | [.sl b 0 m 3 .whole, .fn f []], σ => match σ[b]? with
  | some (.sc .grow q g) => bif decide (f = cmp) && (allB (m * 3) (fun i => isI64 (g i)) && Nat.blt m 4611686018427387904) then some (.tup [], σ.set b (.sc .grow q (layS (flat3 (srt3 (mvOf g m))) g))) else none
  | _ => none
 | _, _ => none
def ownS (h : Nat → S) (t : Int) : Bool := !(decide (numOf (h (t.toNat * 2)) = 0) && decide (numOf (h (t.toNat * 2 + 1)) = 0)) && decide (numOf (h (t.toNat * 2 + 1)) = numOf (h 135))
def delPrim (own : FuncId) : List V → Heap → Option (V × Heap)
 | [.snil, .fn f [.ptr c 0 136]], σ => if f = own then (match σ[c]? with
  | some (.sc _ 136 _) => some (.snil, σ)
  | _ => none) else none
 | [.sl b 0 m 1 .whole, .fn f [.ptr c 0 136]], σ => match σ[b]?, σ[c]? with
  | some (.sc .grow q g), some (.sc _ 136 h) => bif decide (f = own) && (decide (b ≠ c) && (allB m (fun i => isI64 (g i) && (decide (0 ≤ numOf (g i)) && decide (numOf (g i) < 64))) && (allB 136 (fun i => isI64 (h i)) && Nat.ble m 4611686018427387904))) then
   some (.sl σ.length 0 ((numsOf g m).filter fun t => !ownS h t).length 1 .whole, kill σ b ++ [.sc .grow ((numsOf g m).filter fun t => !ownS h t).length fun i => .int .i64 (((numsOf g m).filter fun t => !ownS h t).getD i 0)]) else none
  | _, _ => none
 | _, _ => none
def grwPrim : List V → Heap → Option (V × Heap)
 | [.snil, .s (.int .i64 n)], σ => if 0 < n ∧ n ≤ 1000000 then some (.sl σ.length 0 0 2 .whole, σ ++ [.sc .grow 0 fun _ => S.zero]) else none
 | _, _ => none
end Go.Am
namespace Go.Am
open Go
def primL : List (FuncId × (List V → Heap → Option (V × Heap))) := [(21, srtPrim), (15, (srt3Prim 16)), (27, (delPrim 26)), (65, grwPrim)]
def lookP (f : FuncId) : List (FuncId × (List V → Heap → Option (V × Heap))) → Option (List V → Heap → Option (V × Heap))
 | [] => none
 | (g, p) :: l => bif Nat.beq f g then some p else lookP f l
def primF (f : FuncId) : Option (List V → Heap → Option (V × Heap)) := lookP f primL
end Go.Am
namespace Go.Proofs.Ytlkighkfkdpncaa
open Go Go.Am
set_option maxRecDepth 100000
noncomputable def fnsL : List (FuncId × AF) := [(3, a3), (4, a4), (5, a5), (6, a6), (7, a7), (8, a8), (9, a9), (10, a10), (11, a11), (12, a12), (13, a13), (14, a14), (16, a16), (17, a17), (18, a18), (19, a19), (20, a20), (22, a22), (23, a23), (24, a24), (25, a25), (28, a28), (31, a31), (32, a32), (33, a33), (34, a34), (35, a35), (36, a36), (37, a37), (38, a38), (39, a39), (40, a40), (41, a41), (42, a42), (43, a43), (44, a44), (45, a45), (47, a47), (48, a48), (49, a49), (60, a60), (61, a61), (62, a62), (63, a63), (64, a64), (66, a66), (76, a76), (77, a77), (78, a78), (79, a79), (88, a88)]
theorem goodL : GoodL Try.prog fnsL := ⟨⟨_, _, Try.func3, c3⟩, ⟨_, _, Try.func4, c4⟩, ⟨_, _, Try.func5, c5⟩, ⟨_, _, Try.func6, c6⟩, ⟨_, _, Try.func7, c7⟩, ⟨_, _, Try.func8, c8⟩, ⟨_, _, Try.func9, c9⟩, ⟨_, _, Try.func10, c10⟩, ⟨_, _, Try.func11, c11⟩, ⟨_, _, Try.func12, c12⟩, ⟨_, _, Try.func13, c13⟩, ⟨_, _, Try.func14, c14⟩, ⟨_, _, Try.func16, c16⟩, ⟨_, _, Try.func17, c17⟩, ⟨_, _, Try.func18, c18⟩, ⟨_, _, Try.func19, c19⟩, ⟨_, _, Try.func20, c20⟩, ⟨_, _, Try.func22, c22⟩, ⟨_, _, Try.func23, c23⟩, ⟨_, _, Try.func24, c24⟩, ⟨_, _, Try.func25, c25⟩, ⟨_, _, Try.func28, c28⟩, ⟨_, _, Try.func31, c31⟩, ⟨_, _, Try.func32, c32⟩, ⟨_, _, Try.func33, c33⟩, ⟨_, _, Try.func34, c34⟩, ⟨_, _, Try.func35, c35⟩, ⟨_, _, Try.func36, c36⟩, ⟨_, _, Try.func37, c37⟩, ⟨_, _, Try.func38, c38⟩, ⟨_, _, Try.func39, c39⟩, ⟨_, _, Try.func40, c40⟩, ⟨_, _, Try.func41, c41⟩, ⟨_, _, Try.func42, c42⟩, ⟨_, _, Try.func43, c43⟩, ⟨_, _, Try.func44, c44⟩, ⟨_, _, Try.func45, c45⟩, ⟨_, _, Try.func47, c47⟩, ⟨_, _, Try.func48, c48⟩, ⟨_, _, Try.func49, c49⟩, ⟨_, _, Try.func60, c60⟩, ⟨_, _, Try.func61, c61⟩, ⟨_, _, Try.func62, c62⟩, ⟨_, _, Try.func63, c63⟩, ⟨_, _, Try.func64, c64⟩, ⟨_, _, Try.func66, c66⟩, ⟨_, _, Try.func76, c76⟩, ⟨_, _, Try.func77, c77⟩, ⟨_, _, Try.func78, c78⟩, ⟨_, _, Try.func79, c79⟩, ⟨_, _, Try.func88, c88⟩, trivial⟩
noncomputable def B5 : BF := ⟨rd5, [6], g5, b5⟩
noncomputable def B6 : BF := ⟨rd6, [9], g6, b6⟩
noncomputable def bodF (k : Nat) : Option BF := bif Nat.beq k 6 then some B5 else bif Nat.beq k 9 then some B6 else none
noncomputable def AM : AP := { fns := fun f => lookF f fnsL, prims := primF, bods := bodF }
theorem bod5 : B5.rd.ps.toList = B5.ps ∧ compC Try.prog false B5.rd.asg = some B5.asg ∧ compC Try.prog false B5.rd.body = some B5.body ∧ nodef B5.rd.asg = true ∧ nodef B5.rd.body = true ∧ norf B5.rd.asg = true ∧ norf B5.rd.body = true := ⟨by kernel_rfl, by kernel_rfl, by kernel_rfl, by kernel_rfl, by kernel_rfl, by kernel_rfl, by kernel_rfl⟩
theorem bod6 : B6.rd.ps.toList = B6.ps ∧ compC Try.prog false B6.rd.asg = some B6.asg ∧ compC Try.prog false B6.rd.body = some B6.body ∧ nodef B6.rd.asg = true ∧ nodef B6.rd.body = true ∧ norf B6.rd.asg = true ∧ norf B6.rd.body = true := ⟨by kernel_rfl, by kernel_rfl, by kernel_rfl, by kernel_rfl, by kernel_rfl, by kernel_rfl, by kernel_rfl⟩
theorem bodsOK : BodsOK Try.prog AM := fun k B h => by
 have h : bodF k = some B := h
 unfold bodF at h
 cases h0 : Nat.beq k 6 with
 | true => rw [h0, cond_true] at h; injection h with h; subst h; exact bod5
 | false =>
 rw [h0, cond_false] at h
 cases h0 : Nat.beq k 9 with
 | true => rw [h0, cond_true] at h; injection h with h; subst h; exact bod6
 | false =>
 rw [h0, cond_false] at h
 cases h
theorem fnsOK : FnsOK Try.prog AM := fun _ _ h => goodL_look goodL h
end Go.Proofs.Ytlkighkfkdpncaa
namespace Go.Proofs
open Go.Shelf
def Try.lays189_ren : Go.Shelf.Ren := ⟨fun | 189 => 21 | 125 => 30 | 257 => 46 | 128 => 58 | 129 => 59 | 294 => 67 | 295 => 68 | 296 => 69 | 297 => 70 | 298 => 71 | 299 => 72 | 216 => 73 | 300 => 74 | 301 => 75 | 328 => 85 | 329 => 81 | 330 => 82 | 331 => 86 | 332 => 87 | 215 => 60 | 343 => 90 | n => n, fun | 28 => 41 | 3 => 3 | 46 => 68 | 0 => 0 | 51 => 105 | 53 => 107 | 4 => 4 | 183 => 98 | 182 => 97 | 131 => 102 | 5 => 5 | 9 => 9 | 218 => 121 | 222 => 125 | 228 => 129 | 229 => 130 | n => n, fun | n => n⟩
theorem Try.lays189 : Go.Proofs.Lays.n189 Try.prog Try.lays189_ren := {
 mixed := by kernel_rfl
 f125 := Try.func30.trans (congrArg some (by kernel_rfl))
 f128 := Try.func58.trans (congrArg some (by kernel_rfl))
 f129 := Try.func59.trans (congrArg some (by kernel_rfl))
 f189 := Try.func21.trans (congrArg some (by kernel_rfl))
 f215 := Try.func60.trans (congrArg some (by kernel_rfl))
 f216 := Try.func73.trans (congrArg some (by kernel_rfl))
 f257 := Try.func46.trans (congrArg some (by kernel_rfl))
 f294 := Try.func67.trans (congrArg some (by kernel_rfl))
 f295 := Try.func68.trans (congrArg some (by kernel_rfl))
 f296 := Try.func69.trans (congrArg some (by kernel_rfl))
 f297 := Try.func70.trans (congrArg some (by kernel_rfl))
 f298 := Try.func71.trans (congrArg some (by kernel_rfl))
 f299 := Try.func72.trans (congrArg some (by kernel_rfl))
 f300 := Try.func74.trans (congrArg some (by kernel_rfl))
 f301 := Try.func75.trans (congrArg some (by kernel_rfl))
 f328 := Try.func85.trans (congrArg some (by kernel_rfl))
 f329 := Try.func81.trans (congrArg some (by kernel_rfl))
 f330 := Try.func82.trans (congrArg some (by kernel_rfl))
 f331 := Try.func86.trans (congrArg some (by kernel_rfl))
 f332 := Try.func87.trans (congrArg some (by kernel_rfl))
 f343 := Try.func90.trans (congrArg some (by kernel_rfl))
 t0 := Try.underlying0
 a0 := Try.isAgg0
 z0 := Try.sizeOf0
 v0 := Try.zeroValue0
 t3 := Try.underlying3
 a3 := Try.isAgg3
 z3 := Try.sizeOf3
 v3 := Try.zeroValue3
 t4 := Try.underlying4
 a4 := Try.isAgg4
 z4 := Try.sizeOf4
 v4 := Try.zeroValue4
 t5 := Try.underlying5
 a5 := Try.isAgg5
 z5 := Try.sizeOf5
 v5 := Try.zeroValue5
 t9 := Try.underlying9
 a9 := Try.isAgg9
 z9 := Try.sizeOf9
 v9 := Try.zeroValue9
 t28 := Try.underlying41
 a28 := Try.isAgg41
 z28 := Try.sizeOf41
 v28 := Try.zeroValue41
 t46 := Try.underlying68
 a46 := Try.isAgg68
 z46 := Try.sizeOf68
 v46 := Try.zeroValue68
 t51 := Try.underlying105
 a51 := Try.isAgg105
 z51 := Try.sizeOf105
 v51 := Try.zeroValue105
 t53 := Try.underlying107
 a53 := Try.isAgg107
 z53 := Try.sizeOf107
 v53 := Try.zeroValue107
 t131 := Try.underlying102
 a131 := Try.isAgg102
 z131 := Try.sizeOf102
 v131 := Try.zeroValue102
 t182 := Try.underlying97
 a182 := Try.isAgg97
 z182 := Try.sizeOf97
 v182 := Try.zeroValue97
 t183 := Try.underlying98
 a183 := Try.isAgg98
 z183 := Try.sizeOf98
 v183 := Try.zeroValue98
 t218 := Try.underlying121
 a218 := Try.isAgg121
 z218 := Try.sizeOf121
 v218 := Try.zeroValue121
 t222 := Try.underlying125
 a222 := Try.isAgg125
 z222 := Try.sizeOf125
 v222 := Try.zeroValue125
 t228 := Try.underlying129
 a228 := Try.isAgg129
 z228 := Try.sizeOf129
 v228 := Try.zeroValue129
 t229 := Try.underlying130
 a229 := Try.isAgg130
 z229 := Try.sizeOf130
 v229 := Try.zeroValue130 }
open Go.Sort Go.RowKit in
theorem Try.slices_Sort_int (blk off cap : Nat) (zs : List Int) (w : World) (hH : Holds (Value.int .i64) w blk off zs.toArray) (hblk : blk < w.heap.size) (hsz : zs.length < 4611686018427387904) :
 Calls Try.prog 21 #[.slice (some ⟨blk, off, none⟩) zs.length cap] w fun e w' =>
  e = .returned (.tuple #[]) ∧ ∃ n os, w' = grow (putRow (Value.int .i64) (Sort.ahead w n) blk off (zs.mergeSort fun x y => decide (x ≤ y)).toArray) os := Any.slices_Sort_int Try.lays189 blk off cap zs w hH hblk hsz
open Go.RowKit Go.Sort in
theorem Try.slices_Sort_int_none (p : Option Addr) (cap : Nat) (w : World) :
 Calls Try.prog 21 #[.slice p 0 cap] w fun e w' => e = .returned (.tuple #[]) ∧ w' = w := Any.slices_Sort_int_none Try.lays189 p cap w
def Try.laysSlH6_f49_ren : Go.Shelf.Ren := ⟨fun | 6 => 49 | n => n, fun | 22 => 41 | 23 => 3 | 25 => 57 | 3 => 3 | 0 => 0 | 4 => 4 | n => n, fun | n => n⟩
theorem Try.laysSlH6_f49 : Go.Proofs.SlLaysH.n6 Try.prog Try.laysSlH6_f49_ren := {
 mixed := by kernel_rfl
 f6 := ⟨Try.f49.name, by decide, Try.func49.trans (congrArg some (by kernel_rfl))⟩
 t0 := Try.underlying0
 a0 := Try.isAgg0
 z0 := Try.sizeOf0
 v0 := Try.zeroValue0
 t3 := Try.underlying3
 a3 := Try.isAgg3
 z3 := Try.sizeOf3
 v3 := Try.zeroValue3
 t4 := Try.underlying4
 a4 := Try.isAgg4
 z4 := Try.sizeOf4
 v4 := Try.zeroValue4
 t22 := Try.underlying41
 a22 := Try.isAgg41
 z22 := Try.sizeOf41
 v22 := Try.zeroValue41
 a23 := Try.isAgg3
 z23 := Try.sizeOf3
 t25 := Try.underlying57
 a25 := Try.isAgg57
 z25 := Try.sizeOf57
 v25 := Try.zeroValue57 }
open Go.RowKit Go.Lib in
theorem Try.slices_IndexFunc_empty {α : Type} [Inhabited α] (a : Option Addr) (c : Nat) (fv : Value) (w : World) :
 Calls Try.prog 49 #[.slice a 0 c, fv] w fun e w' => e = .returned (.int .i64 (-1)) ∧ w' = w := AnyE.slices_IndexFunc_empty Try.laysSlH6_f49 a c fv w
def Try.laysSlH10_f27_ren : Go.Shelf.Ren := ⟨fun | 10 => 27 | 6 => 49 | n => n, fun | 22 => 41 | 23 => 3 | 25 => 57 | 3 => 3 | 4 => 4 | 0 => 0 | n => n, fun | n => n⟩
theorem Try.laysSlH10_f27 : Go.Proofs.SlLaysH.n10 Try.prog Try.laysSlH10_f27_ren := {
 mixed := by kernel_rfl
 f6 := ⟨Try.f49.name, by decide, Try.func49.trans (congrArg some (by kernel_rfl))⟩
 f10 := ⟨Try.f27.name, by decide, Try.func27.trans (congrArg some (by kernel_rfl))⟩
 t0 := Try.underlying0
 a0 := Try.isAgg0
 z0 := Try.sizeOf0
 v0 := Try.zeroValue0
 t3 := Try.underlying3
 a3 := Try.isAgg3
 z3 := Try.sizeOf3
 v3 := Try.zeroValue3
 t4 := Try.underlying4
 a4 := Try.isAgg4
 z4 := Try.sizeOf4
 v4 := Try.zeroValue4
 t22 := Try.underlying41
 a22 := Try.isAgg41
 z22 := Try.sizeOf41
 v22 := Try.zeroValue41
 a23 := Try.isAgg3
 z23 := Try.sizeOf3
 t25 := Try.underlying57
 a25 := Try.isAgg57
 z25 := Try.sizeOf57
 v25 := Try.zeroValue57 }
open Go.RowKit Go.Lib Go.Sort in
theorem Try.slices_DeleteFunc {α : Type} [Inhabited α] (enc : α → Value) (hO : OneCell enc) (p : α → Bool) (g : Nat) (lb : Array Value) (eg : ∀ args w, (callFunc g args).run Try.prog w = .ok (.enter g args) w) (zr : α) (v23 : ∀ w, (zeroValue 3).run Try.prog w = .ok (enc zr) w) (blk off cap : Nat) (d : Array α) (w : World) (hp : PredAt Try.prog g lb enc p w) (hpo : PredOver Try.prog g lb enc p blk off d.size w) (hH : Holds enc w blk off d) (hsz : d.size ≤ 9223372036854775807) (hcap : d.size ≤ cap) :
 Calls Try.prog 27 #[.slice (some ⟨blk, off, none⟩) d.size cap, .func (.func g) #[] lb] w fun e w' => e = .returned (.slice (some ⟨blk, off, none⟩) (d.toList.filter fun x => !p x).length cap) ∧ ∃ q, w' = putRow enc (Sort.ahead w q) blk off ((d.toList.filter fun x => !p x) ++ List.replicate (d.size - (d.toList.filter fun x => !p x).length) zr).toArray := AnyE.slices_DeleteFunc Try.laysSlH10_f27 enc hO p g lb eg zr v23 blk off cap d w hp hpo hH hsz hcap
def Try.laysSF_ren : Go.Shelf.Ren := ⟨fun | 6 => 15 | 15 => 30 | 14 => 29 | 28 => 58 | 29 => 59 | 20 => 50 | 21 => 51 | 22 => 52 | 23 => 53 | 24 => 54 | 25 => 55 | 26 => 56 | 27 => 57 | 46 => 80 | 47 => 81 | 48 => 82 | 49 => 83 | 50 => 84 | 57 => 89 | n => n, fun | 22 => 31 | 24 => 35 | 25 => 53 | 3 => 3 | 39 => 68 | 0 => 0 | 53 => 105 | 55 => 107 | 4 => 4 | 46 => 98 | 45 => 97 | 50 => 102 | 5 => 5 | 9 => 9 | 66 => 121 | 70 => 125 | 76 => 129 | 77 => 130 | n => n, fun | n => n⟩
theorem Try.laysSF : Go.Proofs.SlLaysF0.n6 Try.prog Try.laysSF_ren := {
 mixed := by kernel_rfl
 f6 := ⟨Try.f15.name, by decide, Try.func15.trans (congrArg some (by kernel_rfl))⟩
 f14 := ⟨Try.f29.name, by decide, Try.func29.trans (congrArg some (by kernel_rfl))⟩
 f15 := Try.func30.trans (congrArg some (by kernel_rfl))
 f20 := ⟨Try.f50.name, by decide, Try.func50.trans (congrArg some (by kernel_rfl))⟩
 f21 := ⟨Try.f51.name, by decide, Try.func51.trans (congrArg some (by kernel_rfl))⟩
 f22 := ⟨Try.f52.name, by decide, Try.func52.trans (congrArg some (by kernel_rfl))⟩
 f23 := ⟨Try.f53.name, by decide, Try.func53.trans (congrArg some (by kernel_rfl))⟩
 f24 := ⟨Try.f54.name, by decide, Try.func54.trans (congrArg some (by kernel_rfl))⟩
 f25 := ⟨Try.f55.name, by decide, Try.func55.trans (congrArg some (by kernel_rfl))⟩
 f26 := ⟨Try.f56.name, by decide, Try.func56.trans (congrArg some (by kernel_rfl))⟩
 f27 := ⟨Try.f57.name, by decide, Try.func57.trans (congrArg some (by kernel_rfl))⟩
 f28 := Try.func58.trans (congrArg some (by kernel_rfl))
 f29 := Try.func59.trans (congrArg some (by kernel_rfl))
 f46 := ⟨Try.f80.name, by decide, Try.func80.trans (congrArg some (by kernel_rfl))⟩
 f47 := Try.func81.trans (congrArg some (by kernel_rfl))
 f48 := Try.func82.trans (congrArg some (by kernel_rfl))
 f49 := ⟨Try.f83.name, by decide, Try.func83.trans (congrArg some (by kernel_rfl))⟩
 f50 := ⟨Try.f84.name, by decide, Try.func84.trans (congrArg some (by kernel_rfl))⟩
 f57 := ⟨Try.f89.name, by decide, Try.func89.trans (congrArg some (by kernel_rfl))⟩
 t0 := Try.underlying0
 a0 := Try.isAgg0
 z0 := Try.sizeOf0
 v0 := Try.zeroValue0
 t3 := Try.underlying3
 a3 := Try.isAgg3
 z3 := Try.sizeOf3
 v3 := Try.zeroValue3
 t4 := Try.underlying4
 a4 := Try.isAgg4
 z4 := Try.sizeOf4
 v4 := Try.zeroValue4
 t5 := Try.underlying5
 a5 := Try.isAgg5
 z5 := Try.sizeOf5
 v5 := Try.zeroValue5
 t9 := Try.underlying9
 a9 := Try.isAgg9
 z9 := Try.sizeOf9
 v9 := Try.zeroValue9
 t22 := Try.underlying31
 a22 := Try.isAgg31
 z22 := Try.sizeOf31
 v22 := Try.zeroValue31
 t25 := Try.underlying53
 a25 := Try.isAgg53
 z25 := Try.sizeOf53
 v25 := Try.zeroValue53
 t39 := Try.underlying68
 a39 := Try.isAgg68
 z39 := Try.sizeOf68
 v39 := Try.zeroValue68
 t45 := Try.underlying97
 a45 := Try.isAgg97
 z45 := Try.sizeOf97
 v45 := Try.zeroValue97
 t46 := Try.underlying98
 a46 := Try.isAgg98
 z46 := Try.sizeOf98
 v46 := Try.zeroValue98
 t50 := Try.underlying102
 a50 := Try.isAgg102
 z50 := Try.sizeOf102
 v50 := Try.zeroValue102
 t53 := Try.underlying105
 a53 := Try.isAgg105
 z53 := Try.sizeOf105
 v53 := Try.zeroValue105
 t55 := Try.underlying107
 a55 := Try.isAgg107
 z55 := Try.sizeOf107
 v55 := Try.zeroValue107
 t66 := Try.underlying121
 a66 := Try.isAgg121
 z66 := Try.sizeOf121
 v66 := Try.zeroValue121
 t70 := Try.underlying125
 a70 := Try.isAgg125
 z70 := Try.sizeOf125
 v70 := Try.zeroValue125
 t76 := Try.underlying129
 a76 := Try.isAgg129
 z76 := Try.sizeOf129
 v76 := Try.zeroValue129
 t77 := Try.underlying130
 a77 := Try.isAgg130
 z77 := Try.sizeOf130
 v77 := Try.zeroValue130 }
def Try.laysGrow_ren : Go.Shelf.Ren := ⟨fun | 4 => 65 | n => n, fun | 22 => 90 | 25 => 84 | 3 => 3 | 4 => 4 | 9 => 9 | 20 => 20 | 0 => 0 | n => n, fun | n => n⟩
theorem Try.laysGrow : Go.Proofs.Lays8.n4 Try.prog Try.laysGrow_ren := {
 mixed := by kernel_rfl
 f4 := ⟨Try.f65.name, by decide, Try.func65.trans (congrArg some (by kernel_rfl))⟩
 t0 := Try.underlying0
 a0 := Try.isAgg0
 z0 := Try.sizeOf0
 v0 := Try.zeroValue0
 t3 := Try.underlying3
 a3 := Try.isAgg3
 z3 := Try.sizeOf3
 v3 := Try.zeroValue3
 t4 := Try.underlying4
 a4 := Try.isAgg4
 z4 := Try.sizeOf4
 v4 := Try.zeroValue4
 t9 := Try.underlying9
 a9 := Try.isAgg9
 z9 := Try.sizeOf9
 v9 := Try.zeroValue9
 t20 := Try.underlying20
 a20 := Try.isAgg20
 z20 := Try.sizeOf20
 v20 := Try.zeroValue20
 t22 := Try.underlying90
 a22 := Try.isAgg90
 z22 := Try.sizeOf90
 v22 := Try.zeroValue90 }
def Try.laysCmp_ren : Go.Shelf.Ren := ⟨fun | 5 => 32 | 7 => 60 | n => n, fun | 22 => 3 | 3 => 3 | 4 => 4 | n => n, fun | n => n⟩
theorem Try.laysCmp : Go.Proofs.SlLaysC2.n5 Try.prog Try.laysCmp_ren := {
 mixed := by kernel_rfl
 f5 := ⟨Try.f32.name, by decide, Try.func32.trans (congrArg some (by kernel_rfl))⟩
 f7 := ⟨Try.f60.name, by decide, Try.func60.trans (congrArg some (by kernel_rfl))⟩
 t3 := Try.underlying3
 a3 := Try.isAgg3
 z3 := Try.sizeOf3
 v3 := Try.zeroValue3
 t4 := Try.underlying4
 a4 := Try.isAgg4
 z4 := Try.sizeOf4
 v4 := Try.zeroValue4
 t22 := Try.underlying3
 a22 := Try.isAgg3
 z22 := Try.sizeOf3
 v22 := Try.zeroValue3 }
def Try.laysCmpK_ren : Go.Shelf.Ren := ⟨fun | 5 => 33 | 7 => 61 | n => n, fun | 22 => 22 | 3 => 3 | 4 => 4 | n => n, fun | n => n⟩
theorem Try.laysCmpK : Go.Proofs.SlLaysC2.n5 Try.prog Try.laysCmpK_ren := {
 mixed := by kernel_rfl
 f5 := ⟨Try.f33.name, by decide, Try.func33.trans (congrArg some (by kernel_rfl))⟩
 f7 := ⟨Try.f61.name, by decide, Try.func61.trans (congrArg some (by kernel_rfl))⟩
 t3 := Try.underlying3
 a3 := Try.isAgg3
 z3 := Try.sizeOf3
 v3 := Try.zeroValue3
 t4 := Try.underlying4
 a4 := Try.isAgg4
 z4 := Try.sizeOf4
 v4 := Try.zeroValue4
 t22 := Try.underlying22
 a22 := Try.isAgg22
 z22 := Try.sizeOf22
 v22 := Try.zeroValue22 }
end Go.Proofs
set_option linter.unusedVariables false
namespace Go.Proofs.Ytlkighkfkdpncaa
open Go Go.Am Go.RowKit
theorem eff_setG [Bas] {ι : Inj} {σ : Heap} {W W' : World} (hR : RelW ι σ W) {b : Nat} {p : Am.Place} {x x' : Blk} (hp : ι b = some p) (hb : σ[b]? = some x) (hm : x.mut = true)
  (hs : Same W W') (hh : ∀ c, c < W.heap.size → c ≠ p.c → W'.heap[c]? = W.heap[c]?) (hx : BlkR ι W' x' p) : Post ι σ W ι (σ.set b x') W' := by
 have hlt : b < σ.length := by
  rcases Nat.lt_or_ge b σ.length with h | h
  ·exact h
  ·rw [List.getElem?_eq_none h] at hb; simp at hb
 have hmut : ∀ c, mutb (σ.set b x') c → mutb σ c := by
  rintro c ⟨y, hy, hym⟩
  by_cases e : b = c
  ·subst e; exact ⟨x, hb, hm⟩
  ·rw [List.getElem?_set_ne e] at hy; exact ⟨y, hy, hym⟩
 have hlive : ∀ c, liveb (σ.set b x') c → liveb σ c := by
  rintro c ⟨y, hy, hym⟩
  by_cases e : b = c
  ·subst e; exact ⟨x, hb, mut_cases hm⟩
  ·rw [List.getElem?_set_ne e] at hy; exact ⟨y, hy, hym⟩
 refine ⟨hs, .refl ι, ⟨fun c q hq => Nat.lt_of_lt_of_le (hR.lt c q hq) hs.size, fun c q y hq hy => ?_, fun c c' q q' hq hq' hne h1 h2 => hR.sep c c' q q' hq hq' hne (hmut c h1) (hlive c' h2), fun c q hq h => hR.gap c q hq (hmut c h), Nat.le_trans hR.bsz hs.size, fun c hc => (hh c (Nat.lt_of_lt_of_le hc hR.bsz) (by have := hR.gap b p hp ⟨x, hb, hm⟩; omega)).trans (hR.bas c hc)⟩, by simp, fun c hc1 hc => ?_, fun c q hq hn => by simp [hq] at hn, fun c _ h => hmut c h, fun c _ h => hlive c h⟩
 ·by_cases e : b = c
  ·subst e
   rw [hp] at hq
   injection hq with hq
   subst hq
   rw [List.getElem?_set_self hlt] at hy
   injection hy with hy
   subst hy
   exact hx
  ·rw [List.getElem?_set_ne e] at hy
   have hold := hR.blk c q y hq hy
   cases hyl : y.live with
   | true => exact hold.keep (.refl ι) (hh _ (hR.lt c q hq) (fun hc => hR.sep b c p q hp hq e ⟨x, hb, hm⟩ ⟨y, hy, hyl⟩ hc.symm))
   | false => cases y <;> simp [Blk.live] at hyl; trivial
 ·exact hh c hc1 (fun e => hc b p hp ⟨x, hb, hm⟩ e.symm)
theorem row_put {α : Type} [Inhabited α] {ι : Inj} {W : World} {q : Nat} {g : Nat → S} {p : Am.Place} (hB : BlkR ι W (.sc .grow q g) p) (enc : α → Value) (d : Array α) (l : List Int) (hl : d.size = l.length) (hq : l.length ≤ q) (hd : ∀ i, i < l.length → enc d[i]! = .int .i64 (l.getD i 0)) (n : Nat) (os : Array Obj) (hlt : p.c < W.heap.size) :
  BlkR ι (Sort.grow (Sort.putRow enc (Sort.ahead W n) p.c p.base d) os) (.sc .grow q (layS l g)) p ∧ (∀ c, c < W.heap.size → c ≠ p.c → (Sort.grow (Sort.putRow enc (Sort.ahead W n) p.c p.base d) os).heap[c]? = W.heap[c]?) := by
 obtain ⟨h1, h2, h3⟩ := hB
 obtain ⟨hb0, hle, cs, T, hc, hs, hT⟩ := h3 rfl
 have hH : (Sort.putRow enc (Sort.ahead W n) p.c p.base d).heap = W.heap.modify p.c (Sort.onCells (Sort.putCells enc p.base d)) := rfl
 have hsz : (Sort.putRow enc (Sort.ahead W n) p.c p.base d).heap.size = W.heap.size := by rw [hH]; simp
 have hg : (Sort.grow (Sort.putRow enc (Sort.ahead W n) p.c p.base d) os).heap[p.c]? = some (.cells (Sort.putCells enc p.base d cs) T (0, 0)) := by
  rw [Sort.heap_grow_old _ _ (by rw [hsz]; exact hlt), hH, Array.getElem?_modify, if_pos rfl, hc]; rfl
 have hcell : ∀ i, (Sort.grow (Sort.putRow enc (Sort.ahead W n) p.c p.base d) os).cell? ⟨p.c, p.base + i, none⟩ = (Sort.putCells enc p.base d cs)[p.base + i]? := fun i => Lib.cell_of_heap hg _
 refine ⟨⟨h1, fun i hi => ?_, fun _ => ⟨hb0, hle, _, T, hg, ?_, hT⟩⟩, fun c hc1 hc2 => ?_⟩
 ·rw [hcell]
  have h0 := h2 i hi
  rw [Lib.cell_of_heap hc] at h0
  unfold Sort.putCells layS
  rw [Array.getElem?_mapIdx, h0, Option.map_some]
  by_cases hil : i < l.length
  ·rw [if_pos (by omega), show Nat.blt i l.length = true from Nat.ble_eq_true_of_le hil, cond_true, Nat.add_sub_cancel_left, hd i hil]; rfl
  ·have hbf : Nat.blt i l.length = false := by
    cases h : Nat.blt i l.length with
    | false => rfl
    | true => exact absurd (Nat.le_of_ble_eq_true h) (by omega)
   rw [if_neg (by omega), hbf, cond_false]
 ·unfold Sort.putCells
  rw [Array.size_mapIdx]; exact hs
 ·rw [Sort.heap_grow_old _ _ (by rw [hsz]; exact hc1), hH, Array.getElem?_modify, if_neg (fun e => hc2 e.symm)]
theorem isI64_val {x : S} (h : isI64 x = true) : x.val = .int .i64 (numOf x) := by
 cases x with
 | int k n => cases k <;> first | rfl | cases h
 | _ => cases h
theorem allB_get {p : Nat → Bool} : ∀ {n : Nat}, allB n p = true → ∀ i, i < n → p i = true
 | n + 1, h, i, hi => by
  have h : (allB n p && p n) = true := h
  rw [Bool.and_eq_true] at h
  by_cases e : i = n
  ·subst e; exact h.2
  ·exact allB_get h.1 i (by omega)
theorem numsOf_len (g : Nat → S) (m : Nat) : (numsOf g m).length = m := by simp [numsOf]
theorem numsOf_get (g : Nat → S) {m i : Nat} (hi : i < m) : (numsOf g m).getD i 0 = numOf (g i) := by
 unfold numsOf
 rw [List.getD_eq_getElem?_getD, List.getElem?_map, List.getElem?_range hi]; rfl
theorem arr_get (l : List Int) {i : Nat} (hi : i < l.length) : l.toArray[i]! = l.getD i 0 := by
 rw [List.getD_eq_getElem?_getD, List.getElem?_eq_getElem hi, getElem!_pos l.toArray i (by simpa using hi)]; simp
theorem row_holds {ι : Inj} {W : World} {q m : Nat} {g : Nat → S} {p : Am.Place} (hB : BlkR ι W (.sc .grow q g) p) (hm : m ≤ q) (hg : ∀ i, i < m → isI64 (g i) = true) : Sort.Holds (Value.int .i64) W p.c p.base (numsOf g m).toArray := by
 obtain ⟨h1, h2, h3⟩ := hB
 obtain ⟨hb0, hle, cs, T, hc, hs, hT⟩ := h3 rfl
 intro j hj
 have hj : j < m := by simpa [numsOf] using hj
 refine ⟨?_, Lib.frozen_of_heap hc _⟩
 rw [h2 j (by omega), isI64_val (hg j hj), arr_get _ (by rw [numsOf_len]; exact hj), numsOf_get g hj]
section
variable {σ σ' : Heap} {args : List V} {v : V} {ι : Inj} {W : World} {av : List Value}
theorem srt_ok [Bas] (h : srtPrim args σ = some (v, σ')) (hR : RelW ι σ W) (hD : Dom ι σ) (hv : VRL ι args av) :
  Calls Try.prog 21 av.toArray W fun e W' => ∃ ι' v', e = .returned v' ∧ VR ι' v v' ∧ Post ι σ W ι' σ' W' := by
 unfold srtPrim at h
 split at h
 ·injection h with h
  injection h with h1 h2
  subst h1; subst h2
  simp only [VRL, VR] at hv
  obtain ⟨_, _, rfl, rfl, rfl⟩ := hv
  refine (Try.slices_Sort_int_none none 0 W).mono ?_
  rintro e W' ⟨rfl, rfl⟩
  exact ⟨ι, _, rfl, ⟨[], rfl, rfl⟩, (QPost.refl hR).post⟩
 ·rename_i b m
  split at h
  ·rename_i q g hb
   cases hc : (allB m (fun i => isI64 (g i)) && Nat.blt m 4611686018427387904) with
   | false => rw [hc] at h; cases h
   | true =>
    rw [hc, cond_true] at h
    rw [Bool.and_eq_true] at hc
    injection h with h
    injection h with h1 h2
    subst h1; subst h2
    simp only [VRL, VR] at hv
    obtain ⟨_, _, rfl, ⟨p, c, hp, hle, rfl, hcap⟩, rfl⟩ := hv
    have hB := hR.blk b p _ hp hb
    have hlt := hR.lt b p hp
    have hmq : m ≤ q := by have := hB.1; omega
    have hm : m < 4611686018427387904 := Nat.le_of_ble_eq_true hc.2
    have hcon := Try.slices_Sort_int p.c p.base c (numsOf g m) W (row_holds hB hmq (allB_get hc.1)) hlt (by rw [numsOf_len]; exact hm)
    rw [numsOf_len] at hcon
    refine hcon.mono ?_
    rintro e W' ⟨rfl, n, os, rfl⟩
    have hsl : (srtM (numsOf g m)).length = m := by rw [(srtM_perm _).length_eq, numsOf_len]
    obtain ⟨r1, r2⟩ := row_put hB (Value.int .i64) (srtM (numsOf g m)).toArray (srtM (numsOf g m)) (by simp) (by omega) (fun i hi => congrArg (Value.int .i64) (arr_get _ hi)) n os hlt
    refine ⟨ι, _, rfl, ⟨[], rfl, rfl⟩, eff_setG hR hp hb rfl ⟨rfl, rfl, rfl, ?_⟩ r2 r1⟩
    simp [Sort.grow, Sort.putRow, Sort.mapBlock, Sort.ahead]
  ·cases h
 ·cases h
end
end Go.Proofs.Ytlkighkfkdpncaa
set_option linter.unusedVariables false
set_option linter.unusedSimpArgs false
namespace Go.Proofs.Ytlkighkfkdpncaa
open Go Go.Am Go.RowKit Go.Sort Go.Lib
set_option maxHeartbeats 4000000 in
theorem own_gives (H : Nat → Int) (t : Int) (ht : 0 ≤ t ∧ t < 64) (B o : Nat) (W : World) (hc : ∀ i, i < 136 → W.cell? ⟨B, o + i, none⟩ = some (.int .i64 (H i))) :
  FnGives Try.prog 26 #[.pointer (some ⟨B, o, none⟩)] #[.int .i64 t] (.bool (ownS (ia H) t)) W := by
 show Calls Try.prog 26 #[.int .i64 t, .pointer (some ⟨B, o, none⟩)] W _
 have h1 := hc (t.toNat * 2) (by omega)
 have h2 := hc (t.toNat * 2 + 1) (by omega)
 have h3 := hc 135 (by omega)
 have hr : ownS (ia H) t = (!(decide (H (t.toNat * 2) = 0) && decide (H (t.toNat * 2 + 1) = 0)) && decide (H (t.toNat * 2 + 1) = H 135)) := rfl
 rw [hr]
 clear hr hc
 obtain ⟨h0, h64⟩ := ht
 generalize H (t.toNat * 2) = a at *
 generalize H (t.toNat * 2 + 1) = b at *
 generalize H 135 = c at *
 have g2 : W.cell? ⟨B, o + t.toNat * 2 + 1, none⟩ = some (.int .i64 b) := h2
 have g3 : W.cell? ⟨B, o + 134 + 1, none⟩ = some (.int .i64 c) := h3
 by_cases e1 : a = 0 <;> by_cases e2 : b = 0 <;> by_cases e3 : b = c
 all_goals
  go_enter Try.func26, Try.ntmps26
  go_wp2
  go_quiet ((fail))
  go_wp2
  all_goals (go_ret; exact ⟨(by simp [*] <;> first | omega | (rw [Bool.eq_iff_iff]; simp <;> omega)), _, rfl⟩)
def enc64 (x : Fin 64) : Value := .int .i64 (x.val : Int)
theorem list64 : ∀ {l : List Int}, (∀ t ∈ l, 0 ≤ t ∧ t < 64) → ∃ d : List (Fin 64), d.map (fun x => (x.val : Int)) = l
 | [], _ => ⟨[], rfl⟩
 | t :: l, h => by
  obtain ⟨d, hd⟩ := list64 fun u hu => h u (.tail _ hu)
  have := h t (.head _)
  exact ⟨⟨t.toNat, by omega⟩ :: d, by rw [List.map_cons, hd]; simp; omega⟩
theorem filter64 {p : Int → Bool} (d : List (Fin 64)) : (d.map (fun x => (x.val : Int))).filter p = (d.filter fun x => p (x.val : Int)).map fun x => (x.val : Int) := by
 rw [List.filter_map]; rfl
theorem arr64 (D : List (Fin 64)) {i : Nat} (hi : i < D.length) : enc64 D.toArray[i]! = .int .i64 ((D.map fun x => (x.val : Int)).getD i 0) := by
 rw [List.getD_eq_getElem?_getD, List.getElem?_map, List.getElem?_eq_getElem hi, getElem!_pos D.toArray i (by simpa using hi)]
 simp [enc64]
theorem grow_none (w : World) : Sort.grow w #[] = w := by
 cases w; simp [Sort.grow]
theorem del_none (fv : Value) (W : World) : Calls Try.prog 27 #[.slice none 0 0, fv] W fun e w' => e = .returned (.slice none 0 0) ∧ w' = W := by
 go_enter Try.func27, Try.ntmps27
 go_wp2_with (go_at_call 49; refine (Try.slices_IndexFunc_empty (α := Int) none 0 fv W).mono ?_; rintro e w' ⟨rfl, rfl⟩)
 go_ret
 exact ⟨rfl, rfl⟩
section
variable {σ σ' : Heap} {args : List V} {v : V} {ι : Inj} {W : World} {av : List Value}
theorem del_ok [Bas] (h : delPrim 26 args σ = some (v, σ')) (hR : RelW ι σ W) (hD : Dom ι σ) (hv : VRL ι args av) :
  Calls Try.prog 27 av.toArray W fun e W' => ∃ ι' v', e = .returned v' ∧ VR ι' v v' ∧ Post ι σ W ι' σ' W' := by
 have eg : ∀ args w, (callFunc 26 args).run Try.prog w = .ok (.enter 26 args) w := enters_of Try.func26 (by kernel_rfl) rfl
 unfold delPrim at h
 split at h
 ·rename_i f c
  split at h
  ·rename_i hf
   subst hf
   split at h
   ·rename_i md hcell hc
    injection h with h
    injection h with h1 h2
    subst h1; subst h2
    simp only [VRL, VR] at hv
    obtain ⟨_, _, rfl, rfl, _, _, rfl, ⟨cs, rfl, _⟩, rfl⟩ := hv
    refine (del_none _ W).mono ?_
    rintro e W' ⟨rfl, rfl⟩
    exact ⟨ι, _, rfl, rfl, (QPost.refl hR).post⟩
   ·cases h
  ·cases h
 ·rename_i b m f c
  split at h
  ·rename_i q g md hh hb hc
   cases hcond : (decide (f = 26) && (decide (b ≠ c) && (allB m (fun i => isI64 (g i) && (decide (0 ≤ numOf (g i)) && decide (numOf (g i) < 64))) && (allB 136 (fun i => isI64 (hh i)) && Nat.ble m 4611686018427387904)))) with
   | false => rw [hcond] at h; cases h
   | true =>
    rw [hcond, cond_true] at h
    injection h with h
    injection h with h1 h2
    subst h1; subst h2
    simp only [Bool.and_eq_true, decide_eq_true_eq] at hcond
    obtain ⟨rfl, hne, hg, hh64, hm⟩ := hcond
    have hm := Nat.le_of_ble_eq_true hm
    have hg1 : ∀ i, i < m → isI64 (g i) = true ∧ 0 ≤ numOf (g i) ∧ numOf (g i) < 64 := fun i hi => by
     have := allB_get hg i hi
     simpa only [Bool.and_eq_true, decide_eq_true_eq] using this
    simp only [VRL, VR] at hv
    obtain ⟨_, _, rfl, ⟨p, cap, hp, hle, rfl, hcap⟩, _, _, rfl, ⟨cs, rfl, _, _, rfl, ⟨pc, hpc, hle2, rfl⟩, rfl⟩, rfl⟩ := hv
    obtain ⟨_, hb0, hcp, hmc, hsz, hmn⟩ := hcap
    have hB := hR.blk b p _ hp hb
    have hC := hR.blk c pc _ hpc hc
    have hlt := hR.lt b p hp
    have hltc := hR.lt c pc hpc
    have hpne : p.c ≠ pc.c := hR.sep b c p pc hp hpc hne ⟨_, hb, rfl⟩ ⟨_, hc, rfl⟩
    have hq : q = m := by have := hB.1; omega
    obtain ⟨d, hd⟩ := list64 (l := numsOf g m) (fun t ht => by
     unfold numsOf at ht
     obtain ⟨i, hi, rfl⟩ := List.mem_map.1 ht
     exact (hg1 i (List.mem_range.1 hi)).2)
    have hdl : d.length = m := by rw [← numsOf_len g m, ← hd, List.length_map]
    have hcell : ∀ i, i < 136 → W.cell? ⟨pc.c, pc.base + 0 + i, none⟩ = some (.int .i64 (numOf (hh i))) := fun i hi => by
     rw [Nat.add_zero, hC.2.1 i hi, isI64_val (allB_get hh64 i hi)]
    have hH : Sort.Holds enc64 W p.c (p.base + 0) d.toArray := fun j hj => by
     have hj : j < m := by simpa [hdl] using hj
     have h0 := row_holds (m := m) hB (by omega) (fun i hi => (hg1 i hi).1) j (by simpa [numsOf] using hj)
     refine ⟨?_, h0.2⟩
     rw [Nat.add_zero, h0.1, arr_get _ (by rw [numsOf_len]; exact hj)]
     have e : (numsOf g m).getD j 0 = ((d.toArray[j]!).val : Int) := by
      rw [← hd, List.getD_eq_getElem?_getD, List.getElem?_map, List.getElem?_eq_getElem (by omega), getElem!_pos d.toArray j (by simpa [hdl] using hj)]; simp
     rw [e]; rfl
    have hcon := Try.slices_DeleteFunc enc64 (fun _ => rfl) (fun x => ownS hh (x.val : Int)) 26 #[.pointer (some ⟨pc.c, pc.base + 0, none⟩)] eg 0 Try.zeroValue3 p.c (p.base + 0) cap d.toArray W
     (fun W' x hb' => own_gives (fun i => numOf (hh i)) (x.val : Int) (by omega) pc.c (pc.base + 0) W' (fun i hi => (hb'.cell (p := ⟨pc.c, pc.base + 0 + i, none⟩) hltc).trans (hcell i hi)))
     (fun n os dk x _ => own_gives (fun i => numOf (hh i)) (x.val : Int) (by omega) pc.c (pc.base + 0) _ (fun i hi => by
      unfold sortWorld
      rw [cell?_grow _ _ _ (by show pc.c < (putRow _ _ _ _ _).heap.size; rw [size_putRow]; exact hltc), cell?_putRow_other _ _ p.c (p.base + 0) _ _ (Or.inl (fun e => hpne e.symm))]
      exact hcell i hi)) hH (by simp [hdl]; omega) (by simp [hdl]; omega)
    rw [show d.toArray.size = m by simp [hdl]] at hcon
    rw [show d.toArray.toList = d from rfl] at hcon
    have hL : (d.filter fun x => !ownS hh (x.val : Int)).map (fun x => (x.val : Int)) = (numsOf g m).filter fun t => !ownS hh t := by
     rw [← hd, filter64 (p := fun t => !ownS hh t)]
    have hDm : (d.filter fun x => !ownS hh (x.val : Int)).length ≤ m := by rw [← hdl]; exact List.length_filter_le _ _
    generalize (d.filter fun x => !ownS hh (x.val : Int)) = D at hcon hL hDm
    generalize ((numsOf g m).filter fun t => !ownS hh t) = l at hL ⊢
    refine hcon.mono ?_
    rintro e W' ⟨rfl, n, rfl⟩
    have hlen : l.length = D.length := by rw [← hL, List.length_map]
    have hfull : (D ++ List.replicate (m - D.length) (0 : Fin 64)).map (fun x => (x.val : Int)) = l ++ List.replicate (m - D.length) 0 := by
     rw [List.map_append, hL, List.map_replicate]; rfl
    have hrp := row_put hB enc64 (D ++ List.replicate (m - D.length) (0 : Fin 64)).toArray (l ++ List.replicate (m - D.length) 0) (by simp [hlen]) (by simp [hlen]; omega)
     (fun i hi => by rw [← hfull]; exact arr64 _ (by rw [← hfull, List.length_map] at hi; exact hi)) n #[] hlt
    rw [grow_none] at hrp
    obtain ⟨⟨r1, r2, r3⟩, r4⟩ := hrp
    have hlt' : p.c < (putRow enc64 (Sort.ahead W n) p.c p.base (D ++ List.replicate (m - D.length) (0 : Fin 64)).toArray).heap.size := by rw [size_putRow]; exact hlt
    refine ⟨ι.put σ.length ⟨p.c, p.base, l.length, p.cap, p.sz⟩, _, rfl, ⟨⟨p.c, p.base, l.length, p.cap, p.sz⟩, cap, Inj.put_same _ _ _, by simp, by rw [hlen], rfl, hb0, hcp, by omega, hsz, by simp⟩, ?_⟩
    change Post _ _ _ _ _ (putRow enc64 (Sort.ahead W n) p.c p.base (D ++ List.replicate (m - D.length) (0 : Fin 64)).toArray)
    refine eff_new hR hD hp hb rfl ⟨rfl, rfl, rfl, by rw [size_putRow]; exact Nat.le_refl _⟩ r4 (.inl rfl) hlt' ⟨rfl, fun i hi => ?_, fun _ => ?_⟩
    ·have h0 := r2 i (by omega)
     rw [h0]
     have hi' : i < l.length := hi
     unfold layS
     rw [show Nat.blt i (l ++ List.replicate (m - D.length) (0 : Int)).length = true from Nat.ble_eq_true_of_le (by simp; omega), cond_true, List.getD_eq_getElem?_getD, List.getElem?_append_left hi', ← List.getD_eq_getElem?_getD]
    ·obtain ⟨x1, x2, x3⟩ := r3 rfl
     exact ⟨x1, by show l.length ≤ p.sz; omega, x3⟩
  ·cases h
 ·cases h
end
end Go.Proofs.Ytlkighkfkdpncaa
set_option linter.unusedVariables false
namespace Go.Proofs.Ytlkighkfkdpncaa
open Go Go.Am Go.RowKit Go.Sort Go.Lib
section
variable {σ σ' : Heap} {args : List V} {v : V} {ι : Inj} {W : World} {av : List Value}
theorem grw_ok [Bas] (h : grwPrim args σ = some (v, σ')) (hR : RelW ι σ W) (hD : Dom ι σ) (hv : VRL ι args av) :
  Calls Try.prog 65 av.toArray W fun e W' => ∃ ι' v', e = .returned v' ∧ VR ι' v v' ∧ Post ι σ W ι' σ' W' := by
 unfold grwPrim at h
 split at h
 ·rename_i n
  split at h
  ·rename_i hn
   injection h with h
   injection h with h1 h2
   subst h1; subst h2
   simp only [VRL, VR, S.val] at hv
   obtain ⟨_, _, rfl, rfl, _, _, rfl, rfl, rfl⟩ := hv
   obtain ⟨m, rfl⟩ : ∃ m : Nat, n = m := ⟨n.toNat, by omega⟩
   have h169 : (Try.laysGrow_ren).t 25 = 84 := rfl
   obtain ⟨i, zv, hi, hisz, hiby, hizero, hzv⟩ := info_of (P := Try.prog) (e := 84) (n := 2) (bytes := 16) (z := .ints 2) (by kernel_rfl) (by kernel_rfl) (by kernel_rfl)
   have hzc : zv.cells.size = 2 := by rw [← zeroZ_size hzv]; rfl
   have hcon := Any8.slices_Grow_grow Try.laysGrow i zv hi hizero (by omega) none 0 0 m [] W (Nat.le_refl _) (by omega) (by rw [hiby]; omega) (by omega) (by simp) (fun _ => rfl) (fun a e => by cases e)
   refine Calls.mono hcon ?_
   rintro e W' ⟨rfl, rfl⟩
   have hge := grownCap_ge W (0 + m) 0 84
   refine ⟨ι.put σ.length ⟨W.heap.size, 0, 0, grownCap W (0 + m) 0 84, grownCap W (0 + m) 0 84 * 2⟩, _, rfl, ⟨⟨W.heap.size, 0, 0, grownCap W (0 + m) 0 84, grownCap W (0 + m) 0 84 * 2⟩, _, Inj.put_same _ _ _, by simp, rfl, rfl, rfl, rfl, by omega, rfl, by simp⟩, ?_⟩
   refine grow_q hR hD _ _ _ _ rfl (fun W' hw => ⟨rfl, fun i hi => absurd hi (by simp), fun _ => ⟨rfl, Nat.zero_le _, _, _, hw, ?_, trivial⟩⟩)
   have hge' : m ≤ grownCap W m 0 84 := by simpa using hge
   simp [size_zeroCells, hzc, h169]
   omega
  ·cases h
 ·cases h
end
end Go.Proofs.Ytlkighkfkdpncaa
namespace Go.Proofs.Ytlkighkfkdpncaa
open Go Go.Am Go.RowKit Go.Sort Go.Lib
def or3M (a b c : Int) : Int := if a ≠ 0 then a else if b ≠ 0 then b else c
set_option maxHeartbeats 4000000 in
theorem or3 (a b c : Int) (B : Nat) (W : World) (h0 : W.cell? ⟨B, 0, none⟩ = some (.int .i64 a)) (h1 : W.cell? ⟨B, 0 + 1, none⟩ = some (.int .i64 b)) (h2 : W.cell? ⟨B, 0 + 2, none⟩ = some (.int .i64 c)) :
  Calls Try.prog 31 #[.slice (some ⟨B, 0, none⟩) 3 3] W fun e w' => e = .returned (.int .i64 (or3M a b c)) ∧ w' = W := by
 unfold or3M
 go_enter Try.func31, Try.ntmps31
 go_wp2
 go_loop [8] (fun i => ∃ k : Nat, k ≤ 3 ∧ i = .int .i64 k ∧ (0 < k → a = 0) ∧ (1 < k → b = 0) ∧ (2 < k → c = 0)) (fun i => 3 - (intOf i).toNat)
 case atStart => exact ⟨0, by omega, rfl, by omega, by omega, by omega⟩
 case round =>
  obtain ⟨k, hk, rfl, k0, k1, k2⟩ := hrel
  obtain rfl | rfl | rfl | rfl : k = 0 ∨ k = 1 ∨ k = 2 ∨ k = 3 := by omega
  ·by_cases e : a = 0
   ·go_wp2
    all_goals exact ⟨⟨1, by omega, rfl, fun _ => e, by omega, by omega⟩, by simp [intOf]⟩
   ·go_wp2
    all_goals (go_ret; exact ⟨by simp [*], rfl⟩)
  ·have k0 := k0 (by omega)
   subst k0
   by_cases e : b = 0
   ·go_wp2
    all_goals exact ⟨⟨2, by omega, rfl, by simp, fun _ => e, by omega⟩, by simp [intOf]⟩
   ·go_wp2
    all_goals (go_ret; exact ⟨by simp [*], rfl⟩)
  ·have k0 := k0 (by omega)
   have k1 := k1 (by omega)
   subst k0; subst k1
   by_cases e : c = 0
   ·go_wp2
    all_goals exact ⟨⟨3, by omega, rfl, by simp, by simp, fun _ => e⟩, by simp [intOf]⟩
   ·go_wp2
    all_goals (go_ret; exact ⟨by simp [*], rfl⟩)
  ·have k0 := k0 (by omega)
   have k1 := k1 (by omega)
   have k2 := k2 (by omega)
   subst k0; subst k1; subst k2
   go_wp2
   all_goals (go_ret; exact ⟨rfl, rfl⟩)
end Go.Proofs.Ytlkighkfkdpncaa
namespace Go.Proofs.Ytlkighkfkdpncaa
open Go Go.Am Go.RowKit Go.Sort Go.Lib
theorem still_tail_at {P : Program} {id : Nat} {Q : Exit → Act → World → Prop} {a : Act} {w W3 : World} {l : List Oper} (n : Nat) (hm : P.follows .mixedOrders = true) (hB : Region.lexTailB .any l.toArray n = true) (hw : W3 = w.drew)
  (h : wpStill P l.toArray W3 (fun a' => wpList P l.toArray Q (l.drop n) a' W3) (l.take n) a) : (Code.region id l.toArray true).wp P Q a w := by
 subst hw
 exact wp_region_still_tail n hm hB h
def enc3 (m : Mv) : List Value := [.int .i64 m.1, .int .i64 m.2.1, .int .i64 m.2.2]
def cmp3 (x y : Mv) : Int := or3M (Lib.compareInt x.1 y.1) (Lib.compareInt x.2.1 y.2.1) (Lib.compareInt x.2.2 y.2.2)
set_option maxRecDepth 100000 in
set_option maxHeartbeats 1000000 in
theorem cmp_gives (x y : Mv) (W : World) : Calls Try.prog 16 #[.agg (enc3 x).toArray, .agg (enc3 y).toArray] W fun e w' => e = .returned (.int .i64 (cmp3 x y)) ∧ ∃ q os', w' = grow (W.drewN q) os' := by
 obtain ⟨a, b, c⟩ := x
 obtain ⟨a', b', c'⟩ := y
 have hc := fun (x y : Int) (W' : World) => AnyG.cmp_Compare_int Try.laysCmp x y W'
 have hk := fun (x y : Int) (W' : World) => AnyG.cmp_Compare_int Try.laysCmpK x y W'
 change ∀ x y W', Calls Try.prog 32 _ _ _ at hc
 change ∀ x y W', Calls Try.prog 33 _ _ _ at hk
 show Calls _ _ #[.agg #[.int .i64 a, .int .i64 b, .int .i64 c], .agg #[.int .i64 a', .int .i64 b', .int .i64 c']] _ _
 unfold cmp3
 go_enter Try.func16, Try.ntmps16
 go_wp2
 obtain ⟨W3, hW3⟩ : ∃ W3, W3 = ((W.alloc (Obj.cells #[Value.int IntKind.i64 a, Value.int IntKind.i64 b, Value.int IntKind.i64 c] 35)).alloc (Obj.cells #[Value.int IntKind.i64 a', Value.int IntKind.i64 b', Value.int IntKind.i64 c'] 35)).drew := ⟨_, rfl⟩
 have c0 : W3.cell? ⟨W.heap.size, 0, none⟩ = some (.int .i64 a) := by subst hW3; simp
 have c1 : W3.cell? ⟨W.heap.size, 1, none⟩ = some (.int .i64 b) := by subst hW3; simp
 have c2 : W3.cell? ⟨W.heap.size, 2, none⟩ = some (.int .i64 c) := by subst hW3; simp
 have d0 : W3.cell? ⟨W.heap.size + 1, 0, none⟩ = some (.int .i64 a') := by subst hW3; simp
 have d1 : W3.cell? ⟨W.heap.size + 1, 1, none⟩ = some (.int .i64 b') := by subst hW3; simp
 have d2 : W3.cell? ⟨W.heap.size + 1, 2, none⟩ = some (.int .i64 c') := by subst hW3; simp
 refine still_tail_at 15 (by kernel_rfl) (by kernel_rfl) hW3 ?_
 simp only [List.take_succ_cons, List.take_zero, List.drop_succ_cons, List.drop_zero]
 repeat still_step
 still_call (hc _ _ _)
 repeat still_step
 still_call (hc _ _ _)
 repeat still_step
 still_call (hk _ _ _)
 repeat still_step
 refine wpStill_nil ?_
 clear hc hk c0 c1 c2 d0 d1 d2
 have hsz : W3.heap.size = W.heap.size + 2 := by subst hW3; simp
 have HW : Hid (W3 = ((W.alloc (Obj.cells #[Value.int IntKind.i64 a, Value.int IntKind.i64 b, Value.int IntKind.i64 c] 35)).alloc (Obj.cells #[Value.int IntKind.i64 a', Value.int IntKind.i64 b', Value.int IntKind.i64 c'] 35)).drew) := hW3
 clear hW3 hsz
 generalize hp : Lib.compareInt a a' = p
 generalize hq : Lib.compareInt b b' = q
 generalize hr : Lib.compareInt c c' = r
 go_wp2_with (go_at_call 31; refine (or3 p q r W3.heap.size (W3.alloc (Obj.cells #[Value.int IntKind.i64 p, Value.int IntKind.i64 q, Value.int IntKind.i64 r] 3)) (by simp) (by simp) (by simp)).mono ?_; rintro e w' ⟨rfl, rfl⟩)
 go_ret
 subst hp; subst hq; subst hr
 refine ⟨rfl, 1, #[Obj.cells #[Value.int IntKind.i64 a, Value.int IntKind.i64 b, Value.int IntKind.i64 c] 35, Obj.cells #[Value.int IntKind.i64 a', Value.int IntKind.i64 b', Value.int IntKind.i64 c'] 35, Obj.cells #[Value.int IntKind.i64 (Lib.compareInt a a'), Value.int IntKind.i64 (Lib.compareInt b b'), Value.int IntKind.i64 (Lib.compareInt c c')] 3], ?_⟩
 rw [HW.out, alloc_eq_grow, alloc_eq_grow, alloc_eq_grow, grow_grow, drew_grow, grow_grow]
 rfl
end Go.Proofs.Ytlkighkfkdpncaa
set_option linter.unusedVariables false
namespace Go.Proofs.Ytlkighkfkdpncaa
open Go Go.Am Go.RowKit Go.Sort Go.Lib Go.Shelf
set_option maxHeartbeats 2000000 in
theorem ins_nil (fv : Value) (W : World) : Calls Try.prog 50 #[.slice none 0 0, .int .i64 0, .int .i64 0, fv] W fun e w' => e = .returned (.tuple #[]) ∧ w' = W := by
 go_enter Try.func50, Try.ntmps50
 go_wp2
 refine wp_loop_rounds 1 ?_
 rw [rounds_succ]
 go_wp2
 go_end0
 exact ⟨rfl, rfl⟩
set_option maxHeartbeats 2000000 in
theorem pdq_nil (lim : Int) (fv : Value) (W : World) : Calls Try.prog 29 #[.slice none 0 0, .int .i64 0, .int .i64 0, .int .i64 lim, fv] W fun e w' => e = .returned (.tuple #[]) ∧ w' = W := by
 have hi := fun W => ins_nil fv W
 go_enter Try.func29, Try.ntmps29
 go_wp2
 refine wp_loop_rounds 1 ?_
 rw [rounds_succ]
 go_wp2_with (go_at_call 50; refine (hi _).mono ?_; rintro e w' ⟨rfl, rfl⟩)
 (try simp only [Exit.inBlock, Exit.then]); refine bodyPost_ret (results_none rfl _ _ _) rfl ?_
 exact ⟨rfl, rfl⟩
set_option maxHeartbeats 2000000 in
theorem sort_nil (fv : Value) (W : World) : Calls Try.prog 15 #[.slice none 0 0, fv] W fun e w' => e = .returned (.tuple #[]) ∧ w' = W := by
 have hp := fun lim W => pdq_nil lim fv W
 have hl : ∀ W, Calls Try.prog 30 #[.int .u64 0] W fun e w' => e = .returned (.int .i64 (Lib.bitLen 0 : Nat)) ∧ w' = W := fun W => by
  have h := Any.bits_Len (SlLaysF0.n15.bits (P := Try.prog) (ρ := Try.laysSF_ren) { Try.laysSF with }) 0 W (by omega) (by omega)
  exact h
 go_enter Try.func15, Try.ntmps15
 go_wp2_with (first | (go_at_call 30; refine (hl _).mono ?_; rintro e w' ⟨rfl, rfl⟩) | (go_at_call 29; refine (hp _ _).mono ?_; rintro e w' ⟨rfl, rfl⟩))
 go_end0
 exact ⟨rfl, rfl⟩
end Go.Proofs.Ytlkighkfkdpncaa
namespace Go.Proofs.Ytlkighkfkdpncaa
open Go Go.Am
set_option linter.unusedSimpArgs false
set_option linter.unusedVariables false
def ofL (x : Int) : List S := if 0 ≤ x ∧ x < 64 then [.int .i64 (x % 8), .int .i64 (x / 8), .bool true] else [.int .i64 (-1), .int .i64 (-1), .bool false]
theorem of_run (x : Int) : WR AM 39 [.s (.int .i64 x)] [] (fun v _ _ => v = .agg 3 (lc (ofL x))) := by
 refine WR_fn (a := a39) rfl rfl (entryF _) (entry_E (Nat.le_of_ble_eq_true rfl)) (m := 0) rfl ?_
 refine WP_seq ?_
 refine WP_ops ?_
 refine WO_allocL rfl ?_
 refine WO_nil ?_
 refine WP_seq ?_
 refine WP_seq ?_
 refine WP_ops ?_
 refine WO_mv (v := .s (.int _ _)) rfl ?_
 refine WO_bin (r := .bool _) rfl rfl rfl ?_
 refine WO_mv (v := .s (.bool _)) rfl ?_
 refine WO_case (t := 5) rfl (fun h1 => ?_) (fun h1 => ?_)
 ·try simp only [NM] at h1
  refine WO_gf rfl rfl ?_
  refine WO_gf rfl rfl ?_
  refine WO_pick (v := .s (.bool _)) rfl rfl ?_
  refine WO_nil ?_
  refine WP_cond rfl (fun _ => ?_) (fun h => nomatch h)
  refine WP_seq ?_
  refine WP_ops ?_
  refine WO_buildI rfl (.one rfl (.one rfl .nil)) ?_
  refine WO_buildL rfl rfl (.part (v := .agg _ _) (ys := [_, _, _]) rfl rfl rfl rfl .nil) ?_
  refine WO_st (v := .agg _ _) rfl rfl rfl rfl rfl (over_spl (ys := [_, _, _]) rfl rfl) .here ?_
  refine WO_nil ?_
  refine WP_ret ?_
  refine ⟨_, RS_cell rfl rfl (.head _) (RS_nil), ?_⟩
  first | (rw [show ofL x = [.int .i64 (-1), .int .i64 (-1), .bool false] from if_neg (by omega)]; rfl) | (rw [show ofL x = [.int .i64 (x % 8), .int .i64 (x / 8), .bool true] from if_pos (by omega)]; rfl)
 ·try simp only [NM] at h1
  refine WO_gt rfl ?_
  refine WO_mv (v := .s (.int _ _)) rfl ?_
  refine WO_gt rfl ?_
  refine WO_bin (r := .bool _) rfl rfl rfl ?_
  refine WO_pick (v := .s (.bool _)) rfl rfl ?_
  refine WO_nil ?_
  refine WP_cond rfl (fun h2 => ?_) (fun h2 => ?_)
  ·try simp only [NM] at h2
   refine WP_seq ?_
   refine WP_ops ?_
   refine WO_buildI rfl (.one rfl (.one rfl .nil)) ?_
   refine WO_buildL rfl rfl (.part (v := .agg _ _) (ys := [_, _, _]) rfl rfl rfl rfl .nil) ?_
   refine WO_st (v := .agg _ _) rfl rfl rfl rfl rfl (over_spl (ys := [_, _, _]) rfl rfl) .here ?_
   refine WO_nil ?_
   refine WP_ret ?_
   refine ⟨_, RS_cell rfl rfl (.head _) (RS_nil), ?_⟩
   first | (rw [show ofL x = [.int .i64 (-1), .int .i64 (-1), .bool false] from if_neg (by omega)]; rfl) | (rw [show ofL x = [.int .i64 (x % 8), .int .i64 (x / 8), .bool true] from if_pos (by omega)]; rfl)
  ·try simp only [NM] at h2
   refine WP_skip ?_
   refine WP_seq ?_
   refine WP_ops ?_
   refine WO_mv (v := .s (.int _ _)) rfl ?_
   refine WO_rem rfl rfl (by omega) ?_
   refine WO_mv (v := .s (.int _ _)) rfl ?_
   refine WO_quo rfl rfl (by omega) ?_
   refine WO_buildI rfl (.one rfl (.one rfl .nil)) ?_
   refine WO_buildL rfl rfl (.part (v := .agg _ _) (ys := [_, _, _]) rfl rfl rfl rfl (.part (v := .s (.bool _)) (ys := [_, _, _]) rfl rfl rfl rfl .nil)) ?_
   refine WO_st (v := .agg _ _) rfl rfl rfl rfl rfl (over_spl (ys := [_, _, _]) rfl rfl) .here ?_
   refine WO_nil ?_
   refine WP_ret ?_
   refine ⟨_, RS_cell rfl rfl (.head _) (RS_nil), ?_⟩
   first | (rw [show ofL x = [.int .i64 (-1), .int .i64 (-1), .bool false] from if_neg (by omega)]; rfl) | (rw [show ofL x = [.int .i64 (x % 8), .int .i64 (x / 8), .bool true] from if_pos (by omega)]; rfl)
theorem of_in (x : Int) (h : 0 ≤ x ∧ x < 64) : RF AM 39 [.s (.int .i64 x)] (.agg 3 (lc [.int .i64 (x % 8), .int .i64 (x / 8), .bool true])) := by
 have := RF_of (of_run x)
 rw [ofL, if_pos h] at this
 exact this
end Go.Proofs.Ytlkighkfkdpncaa
namespace Go.Proofs.Ytlkighkfkdpncaa
open Go Go.Am
set_option linter.unusedSimpArgs false
set_option linter.unusedVariables false
theorem of_out (x : Int) (h : ¬ (0 ≤ x ∧ x < 64)) : RF AM 39 [.s (.int .i64 x)] (.agg 3 (lc [.int .i64 (-1), .int .i64 (-1), .bool false])) := by
 have := RF_of (of_run x)
 rw [ofL, if_neg h] at this
 exact this
def fileM (x : Int) : Int := if 0 ≤ x ∧ x < 64 then x % 8 else -1
def rankM (x : Int) : Int := if 0 ≤ x ∧ x < 64 then x / 8 else -1
def isM (x : Int) : Bool := decide (0 ≤ x ∧ x < 64)
def atM (a b : Int) : Int := if 0 ≤ a ∧ a < 8 ∧ 0 ≤ b ∧ b < 8 then b * 8 + a else -1
theorem File_in (x : Int) (h : 0 ≤ x ∧ x < 64) : WR AM 64 [.s (.int .i64 x)] [] (fun v _ _ => v = .s (.int .i64 (fileM x))) := by
 refine WR_fn (a := a64) rfl rfl (entryF _) (entry_E (Nat.le_of_ble_eq_true rfl)) (m := 0) rfl ?_
 refine WP_seq ?_
 refine WP_ops ?_
 refine WO_mv rfl ?_
 refine WO_nil ?_
 refine WP_seq ?_
 refine WP_ops ?_
 refine WO_mv (v := .s (.int _ _)) rfl ?_
 refine WO_call0 rfl (of_in _ h) rfl rfl rfl ?_
 refine WO_fldA rfl rfl ?_
 refine WO_fldS (a := .int _ _) rfl rfl rfl ?_
 first | refine WO_mv (v := .s (.int _ _)) rfl ?_ | refine WO_mv (v := .s _) rfl ?_
 refine WO_nil ?_
 refine WP_ret ?_
 refine ⟨_, RS_tmp (v := _) rfl (RS_nil), ?_⟩
 rw [fileM, if_pos h]; rfl
theorem File_out (x : Int) (h : ¬ (0 ≤ x ∧ x < 64)) : WR AM 64 [.s (.int .i64 x)] [] (fun v _ _ => v = .s (.int .i64 (fileM x))) := by
 refine WR_fn (a := a64) rfl rfl (entryF _) (entry_E (Nat.le_of_ble_eq_true rfl)) (m := 0) rfl ?_
 refine WP_seq ?_
 refine WP_ops ?_
 refine WO_mv rfl ?_
 refine WO_nil ?_
 refine WP_seq ?_
 refine WP_ops ?_
 refine WO_mv (v := .s (.int _ _)) rfl ?_
 refine WO_call0 rfl (of_out _ h) rfl rfl rfl ?_
 refine WO_fldA rfl rfl ?_
 refine WO_fldS (a := .int _ _) rfl rfl rfl ?_
 first | refine WO_mv (v := .s (.int _ _)) rfl ?_ | refine WO_mv (v := .s _) rfl ?_
 refine WO_nil ?_
 refine WP_ret ?_
 refine ⟨_, RS_tmp (v := _) rfl (RS_nil), ?_⟩
 rw [fileM, if_neg h]; rfl
theorem File_run (x : Int) : RF AM 64 [.s (.int .i64 x)] (.s (.int .i64 (fileM x))) := by
 by_cases h : 0 ≤ x ∧ x < 64
 ·exact RF_of (File_in x h)
 ·exact RF_of (File_out x h)
theorem Rank_in (x : Int) (h : 0 ≤ x ∧ x < 64) : WR AM 24 [.s (.int .i64 x)] [] (fun v _ _ => v = .s (.int .i64 (rankM x))) := by
 refine WR_fn (a := a24) rfl rfl (entryF _) (entry_E (Nat.le_of_ble_eq_true rfl)) (m := 0) rfl ?_
 refine WP_seq ?_
 refine WP_ops ?_
 refine WO_mv rfl ?_
 refine WO_nil ?_
 refine WP_seq ?_
 refine WP_ops ?_
 refine WO_mv (v := .s (.int _ _)) rfl ?_
 refine WO_call0 rfl (of_in _ h) rfl rfl rfl ?_
 refine WO_fldA rfl rfl ?_
 refine WO_fldS (a := .int _ _) rfl rfl rfl ?_
 first | refine WO_mv (v := .s (.int _ _)) rfl ?_ | refine WO_mv (v := .s _) rfl ?_
 refine WO_nil ?_
 refine WP_ret ?_
 refine ⟨_, RS_tmp (v := _) rfl (RS_nil), ?_⟩
 rw [rankM, if_pos h]; rfl
theorem Rank_out (x : Int) (h : ¬ (0 ≤ x ∧ x < 64)) : WR AM 24 [.s (.int .i64 x)] [] (fun v _ _ => v = .s (.int .i64 (rankM x))) := by
 refine WR_fn (a := a24) rfl rfl (entryF _) (entry_E (Nat.le_of_ble_eq_true rfl)) (m := 0) rfl ?_
 refine WP_seq ?_
 refine WP_ops ?_
 refine WO_mv rfl ?_
 refine WO_nil ?_
 refine WP_seq ?_
 refine WP_ops ?_
 refine WO_mv (v := .s (.int _ _)) rfl ?_
 refine WO_call0 rfl (of_out _ h) rfl rfl rfl ?_
 refine WO_fldA rfl rfl ?_
 refine WO_fldS (a := .int _ _) rfl rfl rfl ?_
 first | refine WO_mv (v := .s (.int _ _)) rfl ?_ | refine WO_mv (v := .s _) rfl ?_
 refine WO_nil ?_
 refine WP_ret ?_
 refine ⟨_, RS_tmp (v := _) rfl (RS_nil), ?_⟩
 rw [rankM, if_neg h]; rfl
theorem Rank_run (x : Int) : RF AM 24 [.s (.int .i64 x)] (.s (.int .i64 (rankM x))) := by
 by_cases h : 0 ≤ x ∧ x < 64
 ·exact RF_of (Rank_in x h)
 ·exact RF_of (Rank_out x h)
theorem Is_in (x : Int) (h : 0 ≤ x ∧ x < 64) : WR AM 19 [.s (.int .i64 x)] [] (fun v _ _ => v = .s (.bool (isM x))) := by
 refine WR_fn (a := a19) rfl rfl (entryF _) (entry_E (Nat.le_of_ble_eq_true rfl)) (m := 0) rfl ?_
 refine WP_seq ?_
 refine WP_ops ?_
 refine WO_mv rfl ?_
 refine WO_nil ?_
 refine WP_seq ?_
 refine WP_ops ?_
 refine WO_mv (v := .s (.int _ _)) rfl ?_
 refine WO_call0 rfl (of_in _ h) rfl rfl rfl ?_
 refine WO_fldS (a := .bool _) rfl rfl rfl ?_
 first | refine WO_mv (v := .s (.int _ _)) rfl ?_ | refine WO_mv (v := .s _) rfl ?_
 refine WO_nil ?_
 refine WP_ret ?_
 refine ⟨_, RS_tmp (v := _) rfl (RS_nil), ?_⟩
 rw [isM, decide_eq_true h]; rfl
theorem Is_out (x : Int) (h : ¬ (0 ≤ x ∧ x < 64)) : WR AM 19 [.s (.int .i64 x)] [] (fun v _ _ => v = .s (.bool (isM x))) := by
 refine WR_fn (a := a19) rfl rfl (entryF _) (entry_E (Nat.le_of_ble_eq_true rfl)) (m := 0) rfl ?_
 refine WP_seq ?_
 refine WP_ops ?_
 refine WO_mv rfl ?_
 refine WO_nil ?_
 refine WP_seq ?_
 refine WP_ops ?_
 refine WO_mv (v := .s (.int _ _)) rfl ?_
 refine WO_call0 rfl (of_out _ h) rfl rfl rfl ?_
 refine WO_fldS (a := .bool _) rfl rfl rfl ?_
 first | refine WO_mv (v := .s (.int _ _)) rfl ?_ | refine WO_mv (v := .s _) rfl ?_
 refine WO_nil ?_
 refine WP_ret ?_
 refine ⟨_, RS_tmp (v := _) rfl (RS_nil), ?_⟩
 rw [isM, decide_eq_false h]; rfl
theorem SqIs_run (x : Int) : RF AM 19 [.s (.int .i64 x)] (.s (.bool (isM x))) := by
 by_cases h : 0 ≤ x ∧ x < 64
 ·exact RF_of (Is_in x h)
 ·exact RF_of (Is_out x h)
theorem WO_convW {A : AP} {N : Nat} {f : FE} {n : Nat} {L : HA} {K : KN} {Zp : V → KN} {l : List I} {d : Nat} {kd kd' : IntKind} {x : O} {a : Int} (hx : x.fv N f = .s (.int kd' a)) (k : WO A N l (upd f d (.s (.int kd (kd.wrap a)))) n L K Zp) : WO A N (⟨some d, none, .p (.conv kd x)⟩ :: l) f n L K Zp :=
 WO_p (v := .s (.int kd (kd.wrap a))) (by simp only [pureV, ev_E, hx]) k
theorem u64_lt8 {a : Int} (h : -9223372036854775808 ≤ a ∧ a ≤ 9223372036854775807) : IntKind.u64.wrap a < 8 ↔ 0 ≤ a ∧ a < 8 := by
 rw [IntKind.wrap_u64]
 omega
theorem atM_bd (a b : Int) : -1 ≤ atM a b ∧ atM a b < 64 := by
 unfold atM
 split <;> omega
theorem within_run (P : Nat → Int) (ha : -9223372036854775808 ≤ P 0 ∧ P 0 ≤ 9223372036854775807) (hb : -9223372036854775808 ≤ P 1 ∧ P 1 ≤ 9223372036854775807) : WR AM 88 [.agg 2 (ia P)] [] (fun v _ _ => v = .s (.bool (decide (0 ≤ P 0 ∧ P 0 < 8 ∧ 0 ≤ P 1 ∧ P 1 < 8)))) := by
 refine WR_fn (a := a88) rfl rfl (entryF _) (entry_E (Nat.le_of_ble_eq_true rfl)) (m := 0) rfl ?_
 refine WP_seq ?_
 refine WP_ops ?_
 refine WO_boxA rfl ?_
 refine WO_mv rfl ?_
 refine WO_nil ?_
 refine WP_seq ?_
 refine WP_ops ?_
 refine WO_fa (o' := 0) rfl rfl rfl ?_
 refine WO_ldI rfl rfl (.head _) rfl ?_
 refine WO_convW rfl ?_
 refine WO_bin (r := .bool _) rfl rfl rfl ?_
 refine WO_mv (v := .s (.bool _)) rfl ?_
 refine WO_case (t := 7) rfl (fun h1 => ?_) (fun h1 => ?_)
 ·try simp only [NM] at h1
  refine WO_gt rfl ?_
  refine WO_fa (o' := 1) rfl rfl rfl ?_
  refine WO_gt rfl ?_
  refine WO_ldI rfl rfl (.head _) rfl ?_
  refine WO_gt rfl ?_
  refine WO_convW rfl ?_
  refine WO_gt rfl ?_
  refine WO_bin (r := .bool _) rfl rfl rfl ?_
  refine WO_pick (v := .s (.bool _)) rfl rfl ?_
  refine WO_mv (v := .s (.bool _)) rfl ?_
  refine WO_nil ?_
  refine WP_ret ?_
  refine ⟨_, RS_tmp (v := .s (.bool _)) rfl (RS_nil), ?_⟩
  refine congrArg (fun b => V.s (S.bool b)) ?_
  have e0 := u64_lt8 ha
  have e1 := u64_lt8 hb
  rw [Bool.eq_iff_iff]
  simp only [decide_eq_true_eq, Bool.false_eq_true, false_iff]
  omega
 ·try simp only [NM] at h1
  refine WO_gf rfl rfl ?_
  refine WO_gf rfl rfl ?_
  refine WO_gf rfl rfl ?_
  refine WO_gf rfl rfl ?_
  refine WO_pick (v := .s (.bool _)) rfl rfl ?_
  refine WO_mv (v := .s (.bool _)) rfl ?_
  refine WO_nil ?_
  refine WP_ret ?_
  refine ⟨_, RS_tmp (v := .s (.bool _)) rfl (RS_nil), ?_⟩
  refine congrArg (fun b => V.s (S.bool b)) ?_
  have e0 := u64_lt8 ha
  have e1 := u64_lt8 hb
  rw [Bool.eq_iff_iff]
  simp only [decide_eq_true_eq, Bool.false_eq_true, false_iff]
  omega
theorem number_run (P : Nat → Int) (ha : -9223372036854775808 ≤ P 0 ∧ P 0 ≤ 9223372036854775807) (hb : -9223372036854775808 ≤ P 1 ∧ P 1 ≤ 9223372036854775807) : WR AM 77 [.agg 2 (ia P)] [] (fun v _ _ => v = .s (.int .i64 (atM (P 0) (P 1)))) := by
 refine WR_fn (a := a77) rfl rfl (entryF _) (entry_E (Nat.le_of_ble_eq_true rfl)) (m := 0) rfl ?_
 refine WP_seq ?_
 refine WP_ops ?_
 refine WO_boxA rfl ?_
 refine WO_mv rfl ?_
 refine WO_nil ?_
 refine WP_seq ?_
 refine WP_seq ?_
 refine WP_ops ?_
 first | refine WO_ldA0 rfl rfl (.head _) ?_ | refine WO_ldAI rfl rfl (.head _) ?_
 refine WO_call0 rfl (RF_of (within_run _ ha hb)) rfl rfl rfl ?_
 refine WO_un (r := .bool _) rfl rfl ?_
 refine WO_nil ?_
 refine WP_cond rfl (fun h2 => ?_) (fun h2 => ?_)
 ·try simp only [NM] at h2
  refine WP_seq ?_
  refine WP_ops ?_
  refine WO_mv rfl ?_
  refine WO_nil ?_
  refine WP_ret ?_
  refine ⟨_, RS_tmp (v := .s (.int _ _)) rfl (RS_nil), ?_⟩
  refine congrArg (fun b => V.s (S.int .i64 b)) ?_
  unfold atM
  split <;> omega
 ·try simp only [NM] at h2
  refine WP_skip ?_
  refine WP_seq ?_
  refine WP_ops ?_
  refine WO_fa (o' := 1) rfl rfl rfl ?_
  refine WO_ldI rfl rfl (.head _) rfl ?_
  refine WO_mul rfl rfl (by omega) ?_
  refine WO_fa (o' := 0) rfl rfl rfl ?_
  refine WO_ldI rfl rfl (.head _) rfl ?_
  refine WO_add rfl rfl (by omega) ?_
  refine WO_mv (v := .s (.int _ _)) rfl ?_
  refine WO_nil ?_
  refine WP_ret ?_
  refine ⟨_, RS_tmp (v := .s (.int _ _)) rfl (RS_nil), ?_⟩
  refine congrArg (fun b => V.s (S.int .i64 b)) ?_
  unfold atM
  split <;> omega
theorem At_run (a b : Int) (ha : -9223372036854775808 ≤ a ∧ a ≤ 9223372036854775807) (hb : -9223372036854775808 ≤ b ∧ b ≤ 9223372036854775807) : WR AM 63 [.s (.int .i64 a), .s (.int .i64 b)] [] (fun v _ _ => v = .s (.int .i64 (atM a b))) := by
 refine WR_fn (a := a63) rfl rfl (entryF _) (entry_E (Nat.le_of_ble_eq_true rfl)) (m := 0) rfl ?_
 refine WP_seq ?_
 refine WP_ops ?_
 refine WO_mv rfl ?_
 refine WO_nil ?_
 refine WP_seq ?_
 refine WP_ops ?_
 refine WO_mv (v := .s (.int _ _)) rfl ?_
 refine WO_mv (v := .s (.int _ _)) rfl ?_
 refine WO_buildI rfl (.one rfl (.one rfl .nil)) ?_
 refine WO_call0 rfl (RF_of (number_run _ ha hb)) rfl rfl rfl ?_
 refine WO_mv (v := .s (.int _ _)) rfl ?_
 refine WO_nil ?_
 refine WP_ret ?_
 refine ⟨_, RS_tmp (v := .s (.int _ _)) rfl (RS_nil), ?_⟩
 rfl
def otherM (s : Int) : Int := if s = 0 then 1 else 0
def mayM (k s : Int) : Bool := decide (1 ≤ k ∧ k ≤ 6 ∧ (s = 0 ∨ s = 1))
def acrossM (x : Int) : Int := (7 - x / 8) * 8 + x % 8
def sideT (k s : Int) : Int := if mayM k s = true then otherM s else s
theorem ovA_out {P : Nat → Int} {o m : Nat} {Q : Nat → Int} {i : Nat} (h : i < o ∨ o + m ≤ i) : ovA P o m Q i = P i := by
 have e : (Nat.ble o i && Nat.blt i (o + m)) = false := by
  cases h1 : Nat.ble o i with
  | false => rfl
  | true =>
   cases h2 : Nat.blt i (o + m) with
   | false => rfl
   | true =>
    have := Nat.le_of_ble_eq_true h1
    have := Nat.le_of_ble_eq_true h2
    omega
 show (bif Nat.ble o i && Nat.blt i (o + m) then Q (i - o) else P i) = P i
 rw [e]; rfl
theorem ovA_at {P : Nat → Int} {o m : Nat} {Q : Nat → Int} {i : Nat} (h : o ≤ i ∧ i < o + m) : ovA P o m Q i = Q (i - o) := by
 have e : (Nat.ble o i && Nat.blt i (o + m)) = true := by
  rw [Nat.ble_eq_true_of_le h.1, show Nat.blt i (o + m) = true from Nat.ble_eq_true_of_le h.2]; rfl
 show (bif Nat.ble o i && Nat.blt i (o + m) then Q (i - o) else P i) = Q (i - o)
 rw [e]; rfl
theorem Other_run (s : Int) : WR AM 9 [.s (.int .i64 s)] [] (fun v _ _ => v = .s (.int .i64 (otherM s))) := by
 refine WR_fn (a := a9) rfl rfl (entryF _) (entry_E (Nat.le_of_ble_eq_true rfl)) (m := 0) rfl ?_
 refine WP_seq ?_
 refine WP_ops ?_
 refine WO_mv rfl ?_
 refine WO_nil ?_
 refine WP_seq ?_
 refine WP_seq ?_
 refine WP_ops ?_
 refine WO_mv (v := .s (.int _ _)) rfl ?_
 refine WO_bin (r := .bool _) rfl rfl rfl ?_
 refine WO_nil ?_
 refine WP_cond rfl (fun h3 => ?_) (fun h3 => ?_)
 ·try simp only [NM] at h3
  refine WP_seq ?_
  refine WP_ops ?_
  refine WO_mv rfl ?_
  refine WO_nil ?_
  refine WP_ret ?_
  refine ⟨_, RS_tmp (v := .s (.int _ _)) rfl (RS_nil), ?_⟩
  first | (rw [show otherM s = 1 from if_pos (by omega)]; rfl) | (rw [show otherM s = 0 from if_neg (by omega)]; rfl)
 ·try simp only [NM] at h3
  refine WP_skip ?_
  refine WP_seq ?_
  refine WP_ops ?_
  refine WO_mv rfl ?_
  refine WO_nil ?_
  refine WP_ret ?_
  refine ⟨_, RS_tmp (v := .s (.int _ _)) rfl (RS_nil), ?_⟩
  first | (rw [show otherM s = 1 from if_pos (by omega)]; rfl) | (rw [show otherM s = 0 from if_neg (by omega)]; rfl)
def castT (c : Int) : Int := if 0 ≤ c ∧ c ≤ 15 then c / 4 + c % 4 * 4 else c
def overT (x : Int) : Int := if isM x = true then acrossM x else x
def acr (s : Nat) : Nat := (7 - s / 8) * 8 + s % 8
def Turned (P Q : Nat → Int) (i : Nat) : Prop := ∀ s : Nat, s < i → Q (acr s * 2) = P (s * 2) ∧ Q (acr s * 2 + 1) = sideT (P (s * 2)) (P (s * 2 + 1))
theorem ov_out {P : Nat → Int} {o i : Nat} {x : Int} (h : i ≠ o) : ov P o x i = P i := by
 have e : Nat.beq i o = false := by
  cases hb : Nat.beq i o with
  | false => rfl
  | true => exact absurd (Nat.eq_of_beq_eq_true hb) h
 show (bif Nat.beq i o then x else P i) = P i
 rw [e]; rfl
structure TurnOf (P Q : Nat → Int) : Prop where
 sq : Turned P Q 64
 side : Q 128 = otherM (P 128)
 castle : Q 129 = castT (P 129)
 over : Q 130 = overT (P 130)
 half : Q 131 = P 131
 full : Q 132 = P 132
 out : ∀ i, 133 ≤ i → Q i = 0
end Go.Proofs.Ytlkighkfkdpncaa
namespace Go.Proofs.Ytlkighkfkdpncaa
open Go Go.Am
set_option linter.unusedSimpArgs false
set_option linter.unusedVariables false
abbrev sqI (x : Int) : Nat := 0 + x.toNat * 2
theorem ovA_same {P Q X Y : Nat → Int} {o m : Nat} {n : Nat} (h : ∀ i, i < n → P i = Q i) (hx : ∀ j, j < m → X j = Y j) : ∀ i, i < n → ovA P o m X i = ovA Q o m Y i := by
 intro i hi
 by_cases k : o ≤ i ∧ i < o + m
 ·rw [ovA_at k, ovA_at k]; exact hx _ (by omega)
 ·rw [ovA_out (by omega), ovA_out (by omega)]; exact h i hi
def stepM (s f r : Int) : Int := if (0 ≤ s ∧ s < 64) ∧ (-8 < f ∧ f < 8) ∧ (-8 < r ∧ r < 8) then atM (s % 8 + f) (s / 8 + r) else -1
theorem stepM_bd (s f r : Int) : -1 ≤ stepM s f r ∧ stepM s f r < 64 := by
 unfold stepM
 split
 ·exact atM_bd _ _
 ·omega
def onM (s f r : Int) : Nat → Int := if (0 ≤ s ∧ s < 64) ∧ (-8 < f ∧ f < 8) ∧ (-8 < r ∧ r < 8) then (fun i => if i = 0 then s % 8 + f else if i = 1 then s / 8 + r else 0) else (fun i => if i = 0 then -1 else if i = 1 then -1 else 0)
theorem two_fn {x y : Int} : ovA (fun _ => 0) 0 2 (ov (ov (fun _ => 0) 0 x) 1 y) = fun i => if i = 0 then x else if i = 1 then y else 0 := by
 funext i
 by_cases h0 : i = 0
 ·subst h0; rfl
 ·by_cases h1 : i = 1
  ·subst h1; rfl
  ·rw [ovA_out (by omega), if_neg h0, if_neg h1]
theorem on_in (s f r : Int) (h : 0 ≤ s ∧ s < 64) : WR AM 76 [.agg 3 (lc [.int .i64 (s % 8), .int .i64 (s / 8), .bool true]), .s (.int .i64 f), .s (.int .i64 r)] [] (fun v _ _ => v = .agg 2 (ia (onM s f r))) := by
 refine WR_fn (a := a76) rfl rfl (entryF _) (entry_E (Nat.le_of_ble_eq_true rfl)) (m := 0) rfl ?_
 refine WP_seq ?_
 refine WP_ops ?_
 refine WO_boxA rfl ?_
 refine WO_allocI ?_
 refine WO_nil ?_
 refine WP_seq ?_
 refine WP_seq ?_
 refine WP_ops ?_
 refine WO_fa (o' := 2) rfl rfl rfl ?_
 refine WO_ldS (x := .bool _) rfl rfl (.tail _ (.head _)) rfl ?_
 refine WO_un (r := .bool _) rfl rfl ?_
 refine WO_mv (v := .s (.bool _)) rfl ?_
 refine WO_gt rfl ?_
 refine WO_mv (v := .s (.int _ _)) rfl ?_
 refine WO_gt rfl ?_
 refine WO_mv (v := .s (.int _ _)) rfl ?_
 refine WO_gt rfl ?_
 refine WO_mx2 rfl rfl ?_
 refine WO_gt rfl ?_
 refine WO_bin (r := .bool _) rfl rfl rfl ?_
 refine WO_pick (v := .s (.bool _)) rfl rfl ?_
 refine WO_mv (v := .s (.bool _)) rfl ?_
 refine WO_case (t := 16) rfl (fun h1 => ?_) (fun h1 => ?_)
 ·try simp only [NM] at h1
  refine WO_gf rfl rfl ?_
  refine WO_gf rfl rfl ?_
  refine WO_gf rfl rfl ?_
  refine WO_gf rfl rfl ?_
  refine WO_pick (v := .s (.bool _)) rfl rfl ?_
  refine WO_nil ?_
  refine WP_cond rfl (fun _ => ?_) (fun h => nomatch h)
  refine WP_seq ?_
  refine WP_ops ?_
  refine WO_buildI rfl (.one rfl (.one rfl .nil)) ?_
  refine WO_stA rfl rfl rfl rfl .here ?_
  refine WO_nil ?_
  refine WP_ret ?_
  refine ⟨_, RS_cell rfl rfl (.head _) (RS_nil), ?_⟩
  refine congrArg (fun g => V.agg 2 (ia g)) ?_
  rw [two_fn]
  first | exact (if_pos ⟨h, by omega, by omega⟩).symm | exact (if_neg (fun q => by omega)).symm
 ·try simp only [NM] at h1
  refine WO_gt rfl ?_
  refine WO_mv (v := .s (.int _ _)) rfl ?_
  refine WO_gt rfl ?_
  refine WO_mv (v := .s (.int _ _)) rfl ?_
  refine WO_gt rfl ?_
  refine WO_mn2 rfl rfl ?_
  refine WO_gt rfl ?_
  refine WO_bin (r := .bool _) rfl rfl rfl ?_
  refine WO_pick (v := .s (.bool _)) rfl rfl ?_
  refine WO_nil ?_
  refine WP_cond rfl (fun h2 => ?_) (fun h2 => ?_)
  ·try simp only [NM] at h2
   refine WP_seq ?_
   refine WP_ops ?_
   refine WO_buildI rfl (.one rfl (.one rfl .nil)) ?_
   refine WO_stA rfl rfl rfl rfl .here ?_
   refine WO_nil ?_
   refine WP_ret ?_
   refine ⟨_, RS_cell rfl rfl (.head _) (RS_nil), ?_⟩
   refine congrArg (fun g => V.agg 2 (ia g)) ?_
   rw [two_fn]
   first | exact (if_pos ⟨h, by omega, by omega⟩).symm | exact (if_neg (fun q => by omega)).symm
  ·try simp only [NM] at h2
   refine WP_skip ?_
   refine WP_seq ?_
   refine WP_ops ?_
   refine WO_fa (o' := 0) rfl rfl rfl ?_
   refine WO_fa (o' := 0) rfl rfl rfl ?_
   refine WO_ldS (x := .int _ _) rfl rfl (.tail _ (.head _)) rfl ?_
   refine WO_mv (v := .s (.int _ _)) rfl ?_
   refine WO_add rfl rfl (by omega) ?_
   refine WO_fa (o' := 0) rfl rfl rfl ?_
   refine WO_fa (o' := 1) rfl rfl rfl ?_
   refine WO_ldS (x := .int _ _) rfl rfl (.tail _ (.head _)) rfl ?_
   refine WO_mv (v := .s (.int _ _)) rfl ?_
   refine WO_add rfl rfl (by omega) ?_
   refine WO_buildI rfl (.one rfl (.one rfl .nil)) ?_
   refine WO_stA rfl rfl rfl rfl .here ?_
   refine WO_nil ?_
   refine WP_ret ?_
   refine ⟨_, RS_cell rfl rfl (.head _) (RS_nil), ?_⟩
   refine congrArg (fun g => V.agg 2 (ia g)) ?_
   rw [two_fn]
   first | exact (if_pos ⟨h, by omega, by omega⟩).symm | exact (if_neg (fun q => by omega)).symm
theorem on_out (s f r : Int) (h : ¬ (0 ≤ s ∧ s < 64)) : WR AM 76 [.agg 3 (lc [.int .i64 (-1), .int .i64 (-1), .bool false]), .s (.int .i64 f), .s (.int .i64 r)] [] (fun v _ _ => v = .agg 2 (ia (onM s f r))) := by
 refine WR_fn (a := a76) rfl rfl (entryF _) (entry_E (Nat.le_of_ble_eq_true rfl)) (m := 0) rfl ?_
 refine WP_seq ?_
 refine WP_ops ?_
 refine WO_boxA rfl ?_
 refine WO_allocI ?_
 refine WO_nil ?_
 refine WP_seq ?_
 refine WP_seq ?_
 refine WP_ops ?_
 refine WO_fa (o' := 2) rfl rfl rfl ?_
 refine WO_ldS (x := .bool _) rfl rfl (.tail _ (.head _)) rfl ?_
 refine WO_un (r := .bool _) rfl rfl ?_
 refine WO_mv (v := .s (.bool _)) rfl ?_
 refine WO_gf rfl rfl ?_
 refine WO_gf rfl rfl ?_
 refine WO_gf rfl rfl ?_
 refine WO_gf rfl rfl ?_
 refine WO_pick (v := .s (.bool _)) rfl rfl ?_
 refine WO_mv (v := .s (.bool _)) rfl ?_
 refine WO_gf rfl rfl ?_
 refine WO_gf rfl rfl ?_
 refine WO_gf rfl rfl ?_
 refine WO_gf rfl rfl ?_
 refine WO_pick (v := .s (.bool _)) rfl rfl ?_
 refine WO_nil ?_
 refine WP_cond rfl (fun _ => ?_) (fun h => nomatch h)
 refine WP_seq ?_
 refine WP_ops ?_
 refine WO_buildI rfl (.one rfl (.one rfl .nil)) ?_
 refine WO_stA rfl rfl rfl rfl .here ?_
 refine WO_nil ?_
 refine WP_ret ?_
 refine ⟨_, RS_cell rfl rfl (.head _) (RS_nil), ?_⟩
 refine congrArg (fun g => V.agg 2 (ia g)) ?_
 rw [two_fn]
 first | exact (if_pos ⟨h, by omega, by omega⟩).symm | exact (if_neg (fun q => by omega)).symm
theorem onM_bd (s : Int) {f r : Int} (i : Nat) : -9223372036854775808 ≤ onM s f r i ∧ onM s f r i ≤ 9223372036854775807 := by
 unfold onM
 split
 ·dsimp only; split
  ·omega
  ·split <;> omega
 ·dsimp only; split
  ·omega
  ·split <;> omega
theorem onM_at (s f r : Int) : atM (onM s f r 0) (onM s f r 1) = stepM s f r := by
 unfold onM stepM
 by_cases h : (0 ≤ s ∧ s < 64) ∧ (-8 < f ∧ f < 8) ∧ (-8 < r ∧ r < 8)
 ·rw [if_pos h, if_pos h]; rfl
 ·rw [if_neg h, if_neg h]; rfl
theorem Step_in (s f r : Int) (h : 0 ≤ s ∧ s < 64) : WR AM 47 [.s (.int .i64 s), .s (.int .i64 f), .s (.int .i64 r)] [] (fun v _ _ => v = .s (.int .i64 (stepM s f r))) := by
 refine WR_fn (a := a47) rfl rfl (entryF _) (entry_E (Nat.le_of_ble_eq_true rfl)) (m := 0) rfl ?_
 refine WP_seq ?_
 refine WP_ops ?_
 refine WO_mv rfl ?_
 refine WO_nil ?_
 refine WP_seq ?_
 refine WP_ops ?_
 refine WO_mv (v := .s (.int _ _)) rfl ?_
 refine WO_call0 rfl (of_in _ h) rfl rfl rfl ?_
 refine WO_mv (v := .s (.int _ _)) rfl ?_
 refine WO_mv (v := .s (.int _ _)) rfl ?_
 refine WO_call0 rfl (RF_of (on_in _ _ _ h)) rfl rfl rfl ?_
 refine WO_call0 rfl (RF_of (number_run _ (onM_bd s 0) (onM_bd s 1))) rfl rfl rfl ?_
 refine WO_mv (v := .s (.int _ _)) rfl ?_
 refine WO_nil ?_
 refine WP_ret ?_
 refine ⟨_, RS_tmp (v := .s (.int _ _)) rfl (RS_nil), ?_⟩
 exact congrArg (fun b => V.s (S.int .i64 b)) (onM_at s f r)
theorem Step_out (s f r : Int) (h : ¬ (0 ≤ s ∧ s < 64)) : WR AM 47 [.s (.int .i64 s), .s (.int .i64 f), .s (.int .i64 r)] [] (fun v _ _ => v = .s (.int .i64 (stepM s f r))) := by
 refine WR_fn (a := a47) rfl rfl (entryF _) (entry_E (Nat.le_of_ble_eq_true rfl)) (m := 0) rfl ?_
 refine WP_seq ?_
 refine WP_ops ?_
 refine WO_mv rfl ?_
 refine WO_nil ?_
 refine WP_seq ?_
 refine WP_ops ?_
 refine WO_mv (v := .s (.int _ _)) rfl ?_
 refine WO_call0 rfl (of_out _ h) rfl rfl rfl ?_
 refine WO_mv (v := .s (.int _ _)) rfl ?_
 refine WO_mv (v := .s (.int _ _)) rfl ?_
 refine WO_call0 rfl (RF_of (on_out _ _ _ h)) rfl rfl rfl ?_
 refine WO_call0 rfl (RF_of (number_run _ (onM_bd s 0) (onM_bd s 1))) rfl rfl rfl ?_
 refine WO_mv (v := .s (.int _ _)) rfl ?_
 refine WO_nil ?_
 refine WP_ret ?_
 refine ⟨_, RS_tmp (v := .s (.int _ _)) rfl (RS_nil), ?_⟩
 exact congrArg (fun b => V.s (S.int .i64 b)) (onM_at s f r)
theorem Step_run (s f r : Int) : RF AM 47 [.s (.int .i64 s), .s (.int .i64 f), .s (.int .i64 r)] (.s (.int .i64 (stepM s f r))) := by
 by_cases h : 0 ≤ s ∧ s < 64
 ·exact RF_of (Step_in s f r h)
 ·exact RF_of (Step_out s f r h)
def pickM (x n : Int) : Int := if x.tmod n < 0 then x.tmod n + n else x.tmod n
end Go.Proofs.Ytlkighkfkdpncaa
namespace Go.Proofs.Ytlkighkfkdpncaa
open Go Go.Am
set_option linter.unusedSimpArgs false
set_option linter.unusedVariables false
def emptyM (P : Nat → Int) (x : Int) : Bool := eqI 2 (dp P (sqI x)) (fun _ => 0)
def pc (k c : Int) : Nat → Int := fun i => if i = 0 then k else c
def nopc : Nat → Int := fun _ => 0
def atT (P : Nat → Int) (k a t : Int) : Int := if k = 1 ∧ t % 8 ≠ a % 8 ∧ t = P 130 ∧ emptyM P t = true then a / 8 * 8 + t % 8 else t
def takesM (P : Nat → Int) (k a t : Int) : Int := if emptyM P (atT P k a t) = true then -1 else atT P k a t
def shortM (c : Int) : Int := if c = 0 then 1 else 4
def castlingM (k a t c C : Int) : Int := if k = 6 ∧ a = 56 * c + 4 ∧ t = a + 2 ∧ C / shortM c % 2 = 1 then 1 else if k = 6 ∧ a = 56 * c + 4 ∧ t = a - 2 ∧ C / (2 * shortM c) % 2 = 1 then -1 else 0
def longM (k a t c : Int) : Bool := decide (k = 1 ∧ t % 8 = a % 8 ∧ a / 8 = 1 + 5 * c ∧ t / 8 = a / 8 + 2 * (1 - 2 * c))
def castM (P : Nat → Int) : Int := if P 129 < 0 ∨ 15 < P 129 then 0 else P 129
def lostM (s : Int) : Int := if 4 = s then 3 else if 7 = s then 1 else if 0 = s then 2 else if 60 = s then 12 else if 63 = s then 4 else if 56 = s then 8 else 0
def orM (x y : Int) : Int := IntKind.i64.wrap (BitVec.ofInt 64 x ||| BitVec.ofInt 64 y).toNat
def andM (x y : Int) : Int := IntKind.i64.wrap (BitVec.ofInt 64 x &&& BitVec.ofInt 64 y).toNat
def andNotM (x y : Int) : Int := IntKind.i64.wrap (BitVec.ofInt 64 x &&& ~~~(BitVec.ofInt 64 y)).toNat
def bitM (c s k : Int) : Int := if c / k % 2 = 1 ∧ s / k % 2 = 0 then k else 0
def withoutM (c s : Int) : Int := bitM c s 1 + bitM c s 2 + bitM c s 4 + bitM c s 8
def canM (P : Nat → Int) (a t b : Int) : Bool := decide (1 ≤ P (sqI a) ∧ P (sqI a) ≤ 6 ∧ P (sqI a + 1) = P 128 ∧ (P (sqI a + 1) = 0 ∨ P (sqI a + 1) = 1) ∧ (if P (sqI a) = 1 ∧ t / 8 = 7 * (1 - P (sqI a + 1)) then 2 ≤ b ∧ b ≤ 5 else b = 0))
def errM (P : Nat → Int) (a t b : Int) : Int := if (0 ≤ a ∧ a < 64) ∧ (0 ≤ t ∧ t < 64) ∧ a ≠ t then (if canM P a t b = true then 0 else 8) else 6
def brd1 (P : Nat → Int) (w : Int) : Nat → Int := if 0 ≤ w then ovA P (sqI w) 2 nopc else P
def brd2 (P : Nat → Int) (w a : Int) : Nat → Int := ovA (brd1 P w) (sqI a) 2 nopc
def brd3 (P : Nat → Int) (w a t k c b : Int) : Nat → Int := ovA (brd2 P w a) (sqI t) 2 (pc (if b = 0 then k else b) c)
def brd4 (P : Nat → Int) (w a t k c b g : Int) : Nat → Int :=
 if g = 1 then ovA (ovA (brd3 P w a t k c b) (sqI (a + 3)) 2 nopc) (sqI (a + 1)) 2 (pc 4 c)
 else if g = -1 then ovA (ovA (brd3 P w a t k c b) (sqI (a - 4)) 2 nopc) (sqI (a - 1)) 2 (pc 4 c) else brd3 P w a t k c b
def overM (k a t c : Int) : Int := if longM k a t c = true then (a + t) / 2 else -1
def halfM (P : Nat → Int) (k w : Int) : Int := if k = 1 ∨ 0 ≤ w then 0 else IntKind.i64.wrap (min (P 131) 1023 + 1)
def fullM (P : Nat → Int) : Int := if P 128 = 1 then IntKind.i64.wrap (min (P 132) 16383 + 1) else P 132
def afterM (P : Nat → Int) (k c a t b C : Int) : Nat → Int := fun i =>
 if i < 128 then brd4 P (takesM P k a t) a t k c b (castlingM k a t c C) i else if i = 128 then otherM (P 128) else if i = 129 then andNotM C (orM (orM 0 (lostM a)) (lostM t))
 else if i = 130 then overM k a t c else if i = 131 then halfM P k (takesM P k a t) else if i = 132 then fullM P else 0
def moveM (P : Nat → Int) (a t b : Int) : Nat → Int := if errM P a t b = 0 then afterM P (P (sqI a)) (P (sqI a + 1)) a t b (castM P) else fun _ => 0
theorem errM_out {P : Nat → Int} {a t b : Int} (h : ¬ ((0 ≤ a ∧ a < 64) ∧ (0 ≤ t ∧ t < 64) ∧ a ≠ t)) : errM P a t b = 6 := if_neg h
theorem errM_not {P : Nat → Int} {a t b : Int} (h : (0 ≤ a ∧ a < 64) ∧ (0 ≤ t ∧ t < 64) ∧ a ≠ t) (hc : canM P a t b = false) : errM P a t b = 8 := by
 rw [errM, if_pos h, hc]; rfl
theorem errM_ok {P : Nat → Int} {a t b : Int} (h : (0 ≤ a ∧ a < 64) ∧ (0 ≤ t ∧ t < 64) ∧ a ≠ t) (hc : canM P a t b = true) : errM P a t b = 0 := by
 rw [errM, if_pos h, hc]; rfl
theorem atT_bd {P : Nat → Int} {k a t : Int} (ha : 0 ≤ a ∧ a < 64) (ht : 0 ≤ t ∧ t < 64) : 0 ≤ atT P k a t ∧ atT P k a t < 64 := by
 unfold atT; split <;> omega
theorem takesM_bd {P : Nat → Int} {k a t : Int} (ha : 0 ≤ a ∧ a < 64) (ht : 0 ≤ t ∧ t < 64) : -1 ≤ takesM P k a t ∧ takesM P k a t < 64 := by
 have := atT_bd (P := P) (k := k) ha ht
 unfold takesM; split <;> omega
theorem cast_shl1 {c : Int} (h : c = 0 ∨ c = 1) : binS .shl (.int .i64 1) (.int .i64 (2 * c)) = some (.int .i64 (shortM c)) := by
 rcases h with rfl | rfl <;> rfl
theorem cast_shl2 {c : Int} (h : c = 0 ∨ c = 1) : binS .shl (.int .i64 (shortM c)) (.int .u64 1) = some (.int .i64 (2 * shortM c)) := by
 rcases h with rfl | rfl <;> rfl
theorem and_bit : ∀ C : Fin 16, ∀ s ∈ [1, 2, 4, 8], (andM (C.val : Int) s ≠ 0 ↔ (C.val : Int) / s % 2 = 1) := by decide +kernel
theorem and_is {C s : Int} (h : 0 ≤ C ∧ C ≤ 15) (hs : s = 1 ∨ s = 2 ∨ s = 4 ∨ s = 8) : andM C s ≠ 0 ↔ C / s % 2 = 1 := by
 obtain ⟨n, rfl⟩ : ∃ n : Nat, C = n := ⟨C.toNat, by omega⟩
 exact and_bit ⟨n, by omega⟩ s (by simp; omega)
theorem castM_bd (P : Nat → Int) : 0 ≤ castM P ∧ castM P ≤ 15 := by
 unfold castM; split <;> omega
theorem emptyM_iff {P : Nat → Int} {x : Int} : emptyM P x = true ↔ P (sqI x) = 0 ∧ P (sqI x + 1) = 0 := by
 unfold emptyM
 rw [eqI_iff]
 constructor
 ·intro h; exact ⟨h 0 (by omega), h 1 (by omega)⟩
 ·rintro ⟨h0, h1⟩ i hi
  have : i = 0 ∨ i = 1 := by omega
  rcases this with rfl | rfl
  ·exact h0
  ·exact h1
theorem emptyM_same {P Q : Nat → Int} {x : Int} (hx : 0 ≤ x ∧ x < 64) (h : ∀ i, i < 128 → P i = Q i) : emptyM P x = emptyM Q x := by
 have e : sqI x + 1 < 128 := by show 0 + x.toNat * 2 + 1 < 128; omega
 rw [Bool.eq_iff_iff, emptyM_iff, emptyM_iff, h _ (by omega), h _ e]
theorem atT_same {P Q : Nat → Int} {k a t : Int} (ht : 0 ≤ t ∧ t < 64) (h : ∀ i, i < 128 → P i = Q i) (h130 : P 130 = Q 130) : atT P k a t = atT Q k a t := by
 unfold atT
 rw [emptyM_same ht h, h130]
theorem takesM_same {P Q : Nat → Int} {k a t : Int} (ha : 0 ≤ a ∧ a < 64) (ht : 0 ≤ t ∧ t < 64) (h : ∀ i, i < 128 → P i = Q i) (h130 : P 130 = Q 130) : takesM P k a t = takesM Q k a t := by
 unfold takesM
 rw [atT_same ht h h130, emptyM_same (atT_bd ha ht) h]
theorem File_sq {x : Int} (h : 0 ≤ x ∧ x < 64) : RF AM 64 [.s (.int .i64 x)] (.s (.int .i64 (x % 8))) := by
 have := File_run x
 rw [fileM, if_pos h] at this
 exact this
theorem Rank_sq {x : Int} (h : 0 ≤ x ∧ x < 64) : RF AM 24 [.s (.int .i64 x)] (.s (.int .i64 (x / 8))) := by
 have := Rank_run x
 rw [rankM, if_pos h] at this
 exact this
def upM (c s k : Int) : Int := if k ≤ 1 then 0 else if k ≤ 2 then bitM c s 1 else if k ≤ 4 then bitM c s 1 + bitM c s 2 else if k ≤ 8 then bitM c s 1 + bitM c s 2 + bitM c s 4 else withoutM c s
end Go.Proofs.Ytlkighkfkdpncaa
set_option linter.unusedVariables false
set_option linter.unusedSimpArgs false
namespace Go.Proofs.Ytlkighkfkdpncaa
open Go Go.Am
def straightL : List (Int × Int) := [(1, 0), (-1, 0), (0, 1), (0, -1)]
def slantL : List (Int × Int) := [(1, 1), (1, -1), (-1, 1), (-1, -1)]
def jumpL : List (Int × Int) := [(1, 2), (2, 1), (2, -1), (1, -2), (-1, -2), (-2, -1), (-2, 1), (-1, 2)]
def rayL (f r : Int) : Nat → Int → List Int
 | 0, _ => []
 | k + 1, s => if stepM s f r = -1 then [] else stepM s f r :: rayL f r k (stepM s f r)
def uptoM (P : Nat → Int) : List Int → List Int
 | [] => []
 | t :: l => if emptyM P t = true then t :: uptoM P l else [t]
def alongM (P : Nat → Int) (s : Int) (ways : List (Int × Int)) : List Int := ways.flatMap fun w => uptoM P (rayL w.1 w.2 8 s)
def ringL (s : Int) (ways : List (Int × Int)) : List Int := (ways.map fun w => stepM s w.1 w.2).filter fun t => t != -1
def fromK (P : Nat → Int) (s k c : Int) : List Int :=
 if c = 0 ∨ c = 1 then
  if k = 1 then ringL s [(-1, 1 - 2 * c), (1, 1 - 2 * c)]
  else if k = 2 then ringL s jumpL
  else if k = 6 then ringL s (straightL ++ slantL)
  else if k = 4 then alongM P s straightL
  else if k = 3 then alongM P s slantL
  else if k = 5 then alongM P s (straightL ++ slantL)
  else []
 else []
def fromM (P : Nat → Int) (s : Int) : List Int := fromK P s (P (sqI s)) (P (sqI s + 1))
def fromS (P : Nat → Int) (s : Int) : List Int := if 0 ≤ s ∧ s < 64 then srtM (fromM P s) else []
def absM (n : Int) : Int := if n < 0 then -n else n
def sgnM (n : Int) : Int := if n < 0 then -1 else if 0 < n then 1 else 0
def stpM (a b : Int) : Int := 8 * sgnM (b / 8 - a / 8) + sgnM (b % 8 - a % 8)
def farM (a b : Int) : Nat := max (absM (b / 8 - a / 8)).toNat (absM (b % 8 - a % 8)).toNat
def openM (P : Nat → Int) (a b : Int) : Bool := (List.range (farM a b - 1)).all fun (j : Nat) => emptyM P (a + stpM a b * ((j : Int) + 1))
def lineM (a b : Int) : Bool := decide (b % 8 - a % 8 = 0 ∨ b / 8 - a / 8 = 0)
def diagM (a b : Int) : Bool := decide (absM (b % 8 - a % 8) = absM (b / 8 - a / 8))
def attK (P : Nat → Int) (a b k c : Int) : Bool :=
 if mayM k c = false ∨ a = b then false
 else if k = 1 then decide (absM (b % 8 - a % 8) = 1 ∧ b / 8 - a / 8 = 1 - 2 * c)
 else if k = 2 then decide (absM (b % 8 - a % 8) * absM (b / 8 - a / 8) = 2)
 else if k = 6 then decide (absM (b % 8 - a % 8) ≤ 1 ∧ absM (b / 8 - a / 8) ≤ 1)
 else if k = 4 then lineM a b && openM P a b
 else if k = 3 then diagM a b && openM P a b
 else (lineM a b || diagM a b) && openM P a b
def attM (P : Nat → Int) (a b : Int) : Bool := attK P a b (P (sqI a)) (P (sqI a + 1))
def dirM (a b : Int) : Int × Int := (sgnM (b % 8 - a % 8), sgnM (b / 8 - a / 8))
def betM (a b : Int) : List Int := (List.range (farM a b - 1)).map fun (j : Nat) => a + stpM a b * ((j : Int) + 1)
def all64 (f : Nat → Bool) : Bool := allB 64 f
theorem all64_at {f : Nat → Bool} (h : all64 f = true) (x : Fin 64) : f x.val = true := by
 have : ∀ n, allB n f = true → ∀ i, i < n → f i = true := by
  intro n
  induction n with
  | zero => intro _ i hi; omega
  | succ n ih =>
   intro h i hi
   simp only [allB, Bool.and_eq_true] at h
   by_cases e : i = n
   ·subst e; exact h.2
   ·exact ih h.1 i (by omega)
 exact this 64 h x.val x.isLt
def beqL : List Int → List Int → Bool
 | [], [] => true
 | x :: l, y :: r => decide (x = y) && beqL l r
 | _, _ => false
theorem beqL_is : ∀ {l r : List Int}, beqL l r = true → l = r
 | [], [], _ => rfl
 | x :: l, y :: r, h => by
  simp only [beqL, Bool.and_eq_true, decide_eq_true_eq] at h
  rw [h.1, beqL_is h.2]
 | [], _ :: _, h => by cases h
 | _ :: _, [], h => by cases h
def hasL (b : Int) : List Int → Bool
 | [] => false
 | x :: l => decide (b = x) || hasL b l
theorem hasL_is {b : Int} : ∀ {l : List Int}, hasL b l = decide (b ∈ l)
 | [] => by simp [hasL]
 | x :: l => by simp only [hasL, hasL_is (l := l), List.mem_cons, Bool.decide_or]
def prefL (b : Int) : List Int → List Int
 | [] => []
 | x :: l => if x = b then [] else x :: prefL b l
def chk (a : Int) (w : Int × Int) : List Int → List Int → Bool
 | _, [] => true
 | pre, b :: l => (decide (a ≠ b) && (decide ((dirM a b).1 = w.1) && decide ((dirM a b).2 = w.2)) && (lineM a b || diagM a b)) && beqL pre (betM a b) && !hasL b pre && chk a w (pre ++ [b]) l
theorem chk_at {a b : Int} {w : Int × Int} : ∀ {r pre : List Int}, chk a w pre r = true → b ∈ r → (a ≠ b ∧ dirM a b = w ∧ (lineM a b || diagM a b) = true) ∧ (b ∉ pre ∧ pre ++ r.takeWhile (fun t => t != b) = betM a b)
 | [], _, _, h => by cases h
 | x :: r, pre, h, hm => by
  simp only [chk, Bool.and_eq_true, decide_eq_true_eq, Bool.not_eq_true', hasL_is, decide_eq_false_iff_not] at h
  obtain ⟨⟨⟨⟨⟨h1, h2, h3⟩, h4⟩, h5⟩, h6⟩, h7⟩ := h
  by_cases e : x = b
  ·subst e
   refine ⟨⟨h1, Prod.ext h2 h3, h4⟩, h6, ?_⟩
   have : (x :: r).takeWhile (fun t => t != x) = [] := by simp
   rw [this, List.append_nil]
   exact beqL_is h5
  ·rcases List.mem_cons.1 hm with e' | hm
   ·exact absurd e'.symm e
   ·obtain ⟨k1, k2, k3⟩ := chk_at h7 hm
    refine ⟨k1, fun h => k2 (List.mem_append_left _ h), ?_⟩
    have : (x :: r).takeWhile (fun t => t != b) = x :: r.takeWhile (fun t => t != b) := by simp [e]
    rw [this, ← k3, List.append_assoc]; rfl
def rayOK (a b : Int) : Bool := decide (a = b) || (!(lineM a b || diagM a b) || hasL b (rayL (dirM a b).1 (dirM a b).2 8 a))
theorem ray_all : (all64 fun a => all64 fun b => rayOK a b) = true := by decide +kernel
theorem chk_all : (all64 fun a => (straightL ++ slantL).all fun w => chk a w [] (rayL w.1 w.2 8 a)) = true := by decide +kernel
theorem ray_to (a b : Fin 64) (hn : (a.val : Int) ≠ b.val) (h : (lineM a.val b.val || diagM a.val b.val) = true) : (b.val : Int) ∈ rayL (dirM a.val b.val).1 (dirM a.val b.val).2 8 a.val := by
 have h1 := all64_at (all64_at ray_all a) b
 unfold rayOK at h1
 rw [decide_eq_false hn, Bool.false_or, h, Bool.not_true, Bool.false_or, hasL_is] at h1
 exact of_decide_eq_true h1
theorem ray_on {a : Fin 64} {b : Int} {w : Int × Int} (hw : w ∈ straightL ++ slantL) (h : b ∈ rayL w.1 w.2 8 a.val) : ((a.val : Int) ≠ b ∧ dirM a.val b = w ∧ (lineM a.val b || diagM a.val b) = true) ∧ (rayL w.1 w.2 8 a.val).takeWhile (fun t => t != b) = betM a.val b := by
 have h2 := chk_at (List.all_eq_true.1 (all64_at chk_all a) w hw) h
 exact ⟨h2.1, by simpa using h2.2.2⟩
def dirOK (a b : Int) : Bool := decide (a = b) || (lineM a b == (decide (dirM a b ∈ straightL) && (lineM a b || diagM a b)) && (diagM a b == (decide (dirM a b ∈ slantL) && (lineM a b || diagM a b))))
def ringOK (a b : Int) : Bool :=
 (hasL b (ringL a jumpL) == (decide (a ≠ b) && decide (absM (b % 8 - a % 8) * absM (b / 8 - a / 8) = 2))) &&
 (hasL b (ringL a (straightL ++ slantL)) == (decide (a ≠ b) && (decide (absM (b % 8 - a % 8) ≤ 1) && decide (absM (b / 8 - a / 8) ≤ 1)))) &&
 [0, 1].all fun c => hasL b (ringL a [(-1, 1 - 2 * c), (1, 1 - 2 * c)]) == (decide (a ≠ b) && (decide (absM (b % 8 - a % 8) = 1) && decide (b / 8 - a / 8 = 1 - 2 * c)))
theorem dir_all : (all64 fun a => all64 fun b => dirOK a b) = true := by decide +kernel
theorem ring_all : (all64 fun a => all64 fun b => ringOK a b) = true := by decide +kernel
theorem dir_line (a b : Fin 64) (hn : (a.val : Int) ≠ b.val) : lineM a.val b.val = decide (dirM a.val b.val ∈ straightL ∧ (lineM a.val b.val || diagM a.val b.val) = true) := by
 have h := all64_at (all64_at dir_all a) b
 unfold dirOK at h
 rw [decide_eq_false hn, Bool.false_or, Bool.and_eq_true, beq_iff_eq, beq_iff_eq] at h
 rw [Bool.decide_and]
 exact h.1.trans (by simp)
theorem dir_diag (a b : Fin 64) (hn : (a.val : Int) ≠ b.val) : diagM a.val b.val = decide (dirM a.val b.val ∈ slantL ∧ (lineM a.val b.val || diagM a.val b.val) = true) := by
 have h := all64_at (all64_at dir_all a) b
 unfold dirOK at h
 rw [decide_eq_false hn, Bool.false_or, Bool.and_eq_true, beq_iff_eq, beq_iff_eq] at h
 rw [Bool.decide_and]
 exact h.2.trans (by simp)
theorem ring_of (a b : Fin 64) : ringOK a.val b.val = true := all64_at (all64_at ring_all a) b
theorem ring_pawn (a b : Fin 64) (c : Int) (hc : c ∈ [0, 1]) : decide ((b.val : Int) ∈ ringL a.val [(-1, 1 - 2 * c), (1, 1 - 2 * c)]) = decide ((a.val : Int) ≠ b.val ∧ absM ((b.val : Int) % 8 - (a.val : Int) % 8) = 1 ∧ (b.val : Int) / 8 - (a.val : Int) / 8 = 1 - 2 * c) := by
 have h := ring_of a b
 unfold ringOK at h
 rw [Bool.and_eq_true] at h
 have h := List.all_eq_true.1 h.2 c hc
 rw [beq_iff_eq, hasL_is] at h
 rw [h, Bool.decide_and, Bool.decide_and]
theorem ring_jump (a b : Fin 64) : decide ((b.val : Int) ∈ ringL a.val jumpL) = decide ((a.val : Int) ≠ b.val ∧ absM ((b.val : Int) % 8 - (a.val : Int) % 8) * absM ((b.val : Int) / 8 - (a.val : Int) / 8) = 2) := by
 have h := ring_of a b
 unfold ringOK at h
 rw [Bool.and_eq_true, Bool.and_eq_true, beq_iff_eq, hasL_is] at h
 rw [h.1.1, Bool.decide_and]
theorem ring_king (a b : Fin 64) : decide ((b.val : Int) ∈ ringL a.val (straightL ++ slantL)) = decide ((a.val : Int) ≠ b.val ∧ absM ((b.val : Int) % 8 - (a.val : Int) % 8) ≤ 1 ∧ absM ((b.val : Int) / 8 - (a.val : Int) / 8) ≤ 1) := by
 have h := ring_of a b
 unfold ringOK at h
 rw [Bool.and_eq_true, Bool.and_eq_true, beq_iff_eq, beq_iff_eq, hasL_is, hasL_is] at h
 rw [h.1.2, Bool.decide_and, Bool.decide_and]
def nodL : List Int → Bool
 | [] => true
 | x :: l => !hasL x l && nodL l
theorem nodL_is : ∀ {l : List Int}, nodL l = true → l.Nodup
 | [], _ => .nil
 | x :: l, h => by
  simp only [nodL, Bool.and_eq_true, Bool.not_eq_true', hasL_is, decide_eq_false_iff_not] at h
  exact List.nodup_cons.2 ⟨h.1, nodL_is h.2⟩
theorem nod_all : (all64 fun a => nodL (ringL a jumpL) && nodL (ringL a (straightL ++ slantL)) && ([0, 1].all fun c => nodL (ringL a [(-1, 1 - 2 * c), (1, 1 - 2 * c)])) && nodL ((straightL ++ slantL).flatMap fun w => rayL w.1 w.2 8 a)) = true := by decide +kernel
theorem ring_nodup (a : Fin 64) : (ringL a.val jumpL).Nodup ∧ (ringL a.val (straightL ++ slantL)).Nodup ∧ (∀ c ∈ [0, 1], (ringL a.val [(-1, 1 - 2 * c), (1, 1 - 2 * c)]).Nodup) ∧ ((straightL ++ slantL).flatMap fun w => rayL w.1 w.2 8 a.val).Nodup := by
 have h := all64_at nod_all a
 simp only [Bool.and_eq_true] at h
 exact ⟨nodL_is h.1.1.1, nodL_is h.1.1.2, fun c hc => nodL_is (List.all_eq_true.1 h.1.2 c hc), nodL_is h.2⟩
theorem upto_mem {P : Nat → Int} {b : Int} : ∀ {l : List Int}, b ∈ uptoM P l ↔ b ∈ l ∧ (l.takeWhile (fun t => t != b)).all (fun t => emptyM P t) = true
 | [] => by simp [uptoM]
 | t :: l => by
  unfold uptoM
  by_cases e : t = b
  ·subst e
   have h : (t :: l).takeWhile (fun s => s != t) = [] := by simp
   rw [h]
   by_cases h : emptyM P t = true
   ·rw [if_pos h]; simp
   ·rw [if_neg h]; simp
  ·have h1 : (t :: l).takeWhile (fun s => s != b) = t :: l.takeWhile (fun s => s != b) := by simp [e]
   rw [h1]
   by_cases h : emptyM P t = true
   ·rw [if_pos h, List.mem_cons, List.mem_cons, upto_mem, List.all_cons, h, Bool.true_and]
    have : b ≠ t := Ne.symm e
    simp [this]
   ·rw [if_neg h, List.all_cons]
    have : b ≠ t := Ne.symm e
    simp [this, h]
theorem upto_sub (P : Nat → Int) : ∀ l : List Int, List.Sublist (uptoM P l) l
 | [] => .slnil
 | t :: l => by
  unfold uptoM
  by_cases h : emptyM P t = true
  ·rw [if_pos h]; exact (upto_sub P l).cons_cons _
  ·rw [if_neg h]; exact (List.nil_sublist l).cons_cons _
theorem flat_sub {α β : Type} {f g : α → List β} (h : ∀ x, List.Sublist (f x) (g x)) : ∀ l : List α, List.Sublist (l.flatMap f) (l.flatMap g)
 | [] => by simp
 | x :: l => by rw [List.flatMap_cons, List.flatMap_cons]; exact (h x).append (flat_sub h l)
theorem sub_flat {α β : Type} {f : α → List β} {l1 l2 : List α} (h : List.Sublist l1 l2) : List.Sublist (l1.flatMap f) (l2.flatMap f) := by
 induction h with
 | slnil => exact .refl _
 | cons x _ ih => rw [List.flatMap_cons]; exact ih.trans (List.sublist_append_right _ _)
 | cons_cons x _ ih => rw [List.flatMap_cons, List.flatMap_cons]; exact (List.Sublist.refl _).append ih
theorem fin_of {a : Int} (h : 0 ≤ a ∧ a < 64) : ∃ x : Fin 64, (x.val : Int) = a := ⟨⟨a.toNat, by omega⟩, by simp; omega⟩
theorem along_nodup {P : Nat → Int} {s : Int} (hs : 0 ≤ s ∧ s < 64) {ways : List (Int × Int)} (hw : List.Sublist ways (straightL ++ slantL)) : (alongM P s ways).Nodup := by
 obtain ⟨x, rfl⟩ := fin_of hs
 exact ((flat_sub (fun w => upto_sub P _) ways).trans (sub_flat hw)).nodup (ring_nodup x).2.2.2
theorem from_nodup {P : Nat → Int} {s : Int} (hs : 0 ≤ s ∧ s < 64) : (fromM P s).Nodup := by
 have hn : ∀ k c, (fromK P s k c).Nodup := by
  intro k c
  unfold fromK
  obtain ⟨x, hx⟩ := fin_of hs
  have h := ring_nodup x
  rw [hx] at h
  by_cases hc : c = 0 ∨ c = 1
  ·rw [if_pos hc]
   have h3 := h.2.2.1 c (by rcases hc with rfl | rfl <;> simp)
   repeat' split
   ·exact h3
   ·exact h.1
   ·exact h.2.1
   ·exact along_nodup hs (List.sublist_append_left _ _)
   ·exact along_nodup hs (List.sublist_append_right _ _)
   ·exact along_nodup hs (.refl _)
   ·exact .nil
  ·rw [if_neg hc]; exact .nil
 exact hn _ _
theorem along_mem {P : Nat → Int} {a b : Int} (ha : 0 ≤ a ∧ a < 64) (hb : 0 ≤ b ∧ b < 64) {ways : List (Int × Int)} (hw : ∀ w ∈ ways, w ∈ straightL ++ slantL) :
  b ∈ alongM P a ways ↔ a ≠ b ∧ dirM a b ∈ ways ∧ (lineM a b || diagM a b) = true ∧ openM P a b = true := by
 obtain ⟨x, rfl⟩ := fin_of ha
 obtain ⟨y, rfl⟩ := fin_of hb
 have ho : openM P x.val y.val = (betM x.val y.val).all fun t => emptyM P t := by
  unfold openM betM
  rw [List.all_map]; rfl
 unfold alongM
 rw [List.mem_flatMap]
 constructor
 ·rintro ⟨w, hm, hu⟩
  obtain ⟨h1, h2⟩ := upto_mem.1 hu
  obtain ⟨⟨f1, f2, f3⟩, f4⟩ := ray_on (hw w hm) h1
  rw [f4, ← ho] at h2
  exact ⟨f1, by rw [f2]; exact hm, f3, h2⟩
 ·rintro ⟨h1, h2, h3, h4⟩
  have f1 := ray_to x y h1 h3
  obtain ⟨_, f4⟩ := ray_on (hw _ h2) f1
  exact ⟨_, h2, upto_mem.2 ⟨f1, by rw [f4, ← ho]; exact h4⟩⟩
theorem from_att {P : Nat → Int} {a b : Int} (ha : 0 ≤ a ∧ a < 64) (hb : 0 ≤ b ∧ b < 64) : b ∈ fromM P a ↔ attM P a b = true := by
 have hk : ∀ k c, b ∈ fromK P a k c ↔ attK P a b k c = true := by
  intro k c
  unfold fromK attK
  by_cases hab : a = b
  ·have hor : mayM k c = false ∨ a = b := .inr hab
   rw [if_pos hor]
   clear hor
   subst hab
   have e1 := ring_pawn; have e2 := ring_jump; have e3 := ring_king
   obtain ⟨x, hx⟩ := fin_of ha
   have g2 := e2 x x; have g3 := e3 x x
   rw [hx] at g2 g3
   simp only [ne_eq, not_true_eq_false, false_and, decide_false, decide_eq_false_iff_not] at g2 g3
   simp only [Bool.false_eq_true, iff_false]
   by_cases hc : c = 0 ∨ c = 1
   ·rw [if_pos hc]
    have g1 := e1 x x c (by rcases hc with rfl | rfl <;> simp)
    rw [hx] at g1
    simp only [ne_eq, not_true_eq_false, false_and, decide_false, decide_eq_false_iff_not] at g1
    have ga : ∀ ways : List (Int × Int), (∀ w ∈ ways, w ∈ straightL ++ slantL) → a ∉ alongM P a ways := fun ways hw h => ((along_mem ha ha hw).1 h).1 rfl
    repeat' split
    ·exact g1
    ·exact g2
    ·exact g3
    ·exact ga _ fun w h => List.mem_append_left _ h
    ·exact ga _ fun w h => List.mem_append_right _ h
    ·exact ga _ fun w h => h
    ·simp
   ·rw [if_neg hc]; simp
  ·obtain ⟨x, hx⟩ := fin_of ha
   obtain ⟨y, hy⟩ := fin_of hb
   have hxy : (x.val : Int) ≠ y.val := by rw [hx, hy]; exact hab
   by_cases hc : c = 0 ∨ c = 1
   ·rw [if_pos hc]
    by_cases hm : mayM k c = true
    ·have hn : ¬ (mayM k c = false ∨ a = b) := by
      rintro (h | h)
      ·rw [hm] at h; cases h
      ·exact hab h
     rw [if_neg hn]
     have hk : 1 ≤ k ∧ k ≤ 6 := by
      unfold mayM at hm
      simp only [decide_eq_true_eq] at hm
      omega
     have g1 := ring_pawn x y c (by rcases hc with rfl | rfl <;> simp)
     have g2 := ring_jump x y
     have g3 := ring_king x y
     have g4 := dir_line x y hxy
     have g5 := dir_diag x y hxy
     rw [hx, hy] at g1 g2 g3 g4 g5
     simp only [ne_eq, hab, not_false_eq_true, true_and] at g1 g2 g3
     by_cases k1 : k = 1
     ·rw [if_pos k1, if_pos k1, ← g1, decide_eq_true_eq]
     rw [if_neg k1, if_neg k1]
     by_cases k2 : k = 2
     ·rw [if_pos k2, if_pos k2, ← g2, decide_eq_true_eq]
     rw [if_neg k2, if_neg k2]
     by_cases k6 : k = 6
     ·rw [if_pos k6, if_pos k6, ← g3, decide_eq_true_eq]
     rw [if_neg k6, if_neg k6]
     by_cases k4 : k = 4
     ·rw [if_pos k4, if_pos k4, along_mem ha hb fun w h => List.mem_append_left _ h, Bool.and_eq_true]
      constructor
      ·rintro ⟨_, h1, h2, h3⟩
       exact ⟨g4.trans (decide_eq_true ⟨h1, h2⟩), h3⟩
      ·rintro ⟨h1, h2⟩
       obtain ⟨h3, h4⟩ := of_decide_eq_true (g4.symm.trans h1)
       exact ⟨hab, h3, h4, h2⟩
     rw [if_neg k4, if_neg k4]
     by_cases k3 : k = 3
     ·rw [if_pos k3, if_pos k3, along_mem ha hb fun w h => List.mem_append_right _ h, Bool.and_eq_true]
      constructor
      ·rintro ⟨_, h1, h2, h3⟩
       exact ⟨g5.trans (decide_eq_true ⟨h1, h2⟩), h3⟩
      ·rintro ⟨h1, h2⟩
       obtain ⟨h3, h4⟩ := of_decide_eq_true (g5.symm.trans h1)
       exact ⟨hab, h3, h4, h2⟩
     rw [if_neg k3, if_neg k3, if_pos (show k = 5 by omega), along_mem ha hb fun w h => h, Bool.and_eq_true]
     simp only [ne_eq, hab, not_false_eq_true, true_and]
     constructor
     ·rintro ⟨_, h⟩; exact h
     ·rintro ⟨h1, h2⟩
      refine ⟨?_, h1, h2⟩
      rw [Bool.or_eq_true] at h1
      rcases h1 with h | h
      ·rw [g4] at h
       exact List.mem_append_left _ (of_decide_eq_true h).1
      ·rw [g5] at h
       exact List.mem_append_right _ (of_decide_eq_true h).1
    ·have hm' : mayM k c = false := by simpa using hm
     rw [if_pos (show mayM k c = false ∨ a = b from .inl hm')]
     unfold mayM at hm
     simp only [decide_eq_true_eq] at hm
     rw [if_neg (by omega), if_neg (by omega), if_neg (by omega), if_neg (by omega), if_neg (by omega), if_neg (by omega)]
     simp
   ·rw [if_neg hc]
    have hm' : mayM k c = false := by
     unfold mayM
     simp only [decide_eq_false_iff_not]
     omega
    rw [if_pos (show mayM k c = false ∨ a = b from .inl hm')]
    simp
 exact hk _ _
theorem ring_bd {s t : Int} {ways : List (Int × Int)} (h : t ∈ ringL s ways) : 0 ≤ t ∧ t < 64 := by
 unfold ringL at h
 rw [List.mem_filter, List.mem_map] at h
 obtain ⟨⟨w, _, rfl⟩, h⟩ := h
 have := stepM_bd s w.1 w.2
 have : stepM s w.1 w.2 ≠ -1 := by simpa using h
 omega
theorem ray_bd {f r : Int} : ∀ {k : Nat} {s t : Int}, t ∈ rayL f r k s → 0 ≤ t ∧ t < 64
 | 0, s, t, h => by cases h
 | k + 1, s, t, h => by
  unfold rayL at h
  split at h
  ·cases h
  ·rename_i hn
   rcases List.mem_cons.1 h with rfl | h
   ·have := stepM_bd s f r; omega
   ·exact ray_bd h
theorem from_bd {P : Nat → Int} {s t : Int} (h : t ∈ fromM P s) : 0 ≤ t ∧ t < 64 := by
 have ha : ∀ ways, t ∈ alongM P s ways → 0 ≤ t ∧ t < 64 := by
  intro ways h
  unfold alongM at h
  rw [List.mem_flatMap] at h
  obtain ⟨w, _, h⟩ := h
  exact ray_bd ((upto_sub P _).subset h)
 have hk : ∀ k c, t ∈ fromK P s k c → 0 ≤ t ∧ t < 64 := by
  intro k c h
  unfold fromK at h
  repeat' split at h
  all_goals first | exact ring_bd h | exact ha _ h | cases h
 exact hk _ _ h
def nums (n : Nat) : List Int := (List.range n).map fun (i : Nat) => (i : Int)
def attL (P : Nat → Int) (s : Int) : List Int := if 0 ≤ s ∧ s < 64 then (nums 64).filter (attM P s) else []
theorem range_lt (p : Int → Bool) (n : Nat) : ((nums n).filter p).Pairwise (· < ·) := by
 refine List.Pairwise.filter _ ?_
 unfold nums
 rw [List.pairwise_map]
 exact List.pairwise_lt_range.imp (fun h => by omega)
theorem fromS_is (P : Nat → Int) (s : Int) : fromS P s = attL P s := by
 unfold fromS attL
 by_cases h : 0 ≤ s ∧ s < 64
 ·rw [if_pos h, if_pos h]
  refine srtM_is (from_nodup h) (range_lt _ _) fun x => ?_
  rw [List.mem_filter]
  unfold nums
  rw [List.mem_map]
  constructor
  ·intro hx
   have hb := from_bd hx
   exact ⟨⟨x.toNat, List.mem_range.2 (by omega), by omega⟩, (from_att h hb).1 hx⟩
  ·rintro ⟨⟨i, hi, rfl⟩, hx⟩
   exact (from_att h ⟨by omega, by have := List.mem_range.1 hi; omega⟩).2 hx
 ·rw [if_neg h, if_neg h]
end Go.Proofs.Ytlkighkfkdpncaa
namespace Go.Am
open Go
section
variable {A : AP} {N : Nat} {f : FE} {n : Nat} {L : HA} {K : KN} {Zp : V → KN} {l : List I} {d : Nat}
def bytes2 (a b : Int) : Nat → S := over (over (fun _ => .int .u8 0) (0 * 1) 1 (fun _ => .int .u8 a)) (1 * 1) 1 (fun _ => .int .u8 b)
end
end Go.Am
namespace Go.Proofs.Ytlkighkfkdpncaa
open Go Go.Am
set_option linter.unusedSimpArgs false
set_option linter.unusedVariables false
def darkM (x : Int) : Bool := decide ((0 ≤ x ∧ x < 64) ∧ (x % 8 + x / 8) % 2 = 0)
def nameS (x : Int) : ByteArray := if 0 ≤ x ∧ x < 64 then ⟨#[UInt8.ofNat (97 + (x % 8).toNat), UInt8.ofNat (49 + (x / 8).toNat)]⟩ else ⟨#[]⟩
end Go.Proofs.Ytlkighkfkdpncaa
namespace Go.Proofs.Ytlkighkfkdpncaa
open Go Go.Am
set_option linter.unusedSimpArgs false
set_option linter.unusedVariables false
def rayF (s f r : Int) : Nat → Int
 | 0 => stepM s f r
 | k + 1 => stepM (rayF s f r k) f r
def muM (s f r : Int) : Nat := if s < 0 then 0 else if 0 < f then (8 - s % 8).toNat else if f < 0 then (s % 8 + 1).toNat else if 0 < r then (8 - s / 8).toNat else (s / 8 + 1).toNat
theorem stepM_is {s f r : Int} (h : stepM s f r ≠ -1) : (0 ≤ s ∧ s < 64) ∧ (0 ≤ s % 8 + f ∧ s % 8 + f < 8) ∧ (0 ≤ s / 8 + r ∧ s / 8 + r < 8) ∧ stepM s f r = (s / 8 + r) * 8 + (s % 8 + f) := by
 unfold stepM atM at h ⊢
 by_cases c : (0 ≤ s ∧ s < 64) ∧ (-8 < f ∧ f < 8) ∧ (-8 < r ∧ r < 8)
 ·rw [if_pos c] at h ⊢
  by_cases e : 0 ≤ s % 8 + f ∧ s % 8 + f < 8 ∧ 0 ≤ s / 8 + r ∧ s / 8 + r < 8
  ·rw [if_pos e]; exact ⟨c.1, ⟨e.1, e.2.1⟩, ⟨e.2.2.1, e.2.2.2⟩, rfl⟩
  ·rw [if_neg e] at h; exact absurd rfl h
 ·rw [if_neg c] at h; exact absurd rfl h
theorem muM_step {s f r : Int} (hz : ¬ (f = 0 ∧ r = 0)) (hs : s ≠ -1) (hb : -1 ≤ s ∧ s < 64) : muM (stepM s f r) f r < muM s f r := by
 have h0 := stepM_bd s f r
 by_cases h : stepM s f r = -1
 ·rw [h, show muM (-1) f r = 0 from if_pos (by decide)]
  have n2 : ¬ s < 0 := by omega
  unfold muM
  rw [if_neg n2]
  by_cases a : 0 < f
  ·rw [if_pos a]; omega
  ·rw [if_neg a]
   by_cases b : f < 0
   ·rw [if_pos b]; omega
   ·rw [if_neg b]
    by_cases c : 0 < r
    ·rw [if_pos c]; omega
    ·rw [if_neg c]; omega
 ·have ⟨h1, h2, h3, h4⟩ := stepM_is h
  have e1 : stepM s f r % 8 = s % 8 + f := by omega
  have e2 : stepM s f r / 8 = s / 8 + r := by omega
  have n1 : ¬ stepM s f r < 0 := by omega
  have n2 : ¬ s < 0 := by omega
  unfold muM
  rw [if_neg n1, if_neg n2, e1, e2]
  by_cases a : 0 < f
  ·rw [if_pos a, if_pos a]; omega
  ·rw [if_neg a, if_neg a]
   by_cases b : f < 0
   ·rw [if_pos b, if_pos b]; omega
   ·rw [if_neg b, if_neg b]
    by_cases c : 0 < r
    ·rw [if_pos c, if_pos c]; omega
    ·rw [if_neg c, if_neg c]; omega
theorem muM_bd {s f r : Int} (h : s < 64) : muM s f r ≤ 8 := by
 unfold muM
 split
 ·omega
 ·split
  ·omega
  ·split
   ·omega
   ·split <;> omega
structure RayOf (s f r : Int) (n : Nat) : Prop where
 on : ∀ j : Nat, j < n → rayF s f r j ≠ -1
 off : rayF s f r n = -1
def ringM (s : Int) (K : Nat → Int) : Nat → Nat × (Nat → Int)
 | 0 => (0, fun _ => 0)
 | i + 1 => if stepM s (dp K (0 + (i : Int).toNat * 2) 0) (dp K (0 + (i : Int).toNat * 2) 1) = -1 then ringM s K i else ((ringM s K i).1 + 1, fun j => if j < (ringM s K i).1 then (ringM s K i).2 j else stepM s (dp K (0 + (i : Int).toNat * 2) 0) (dp K (0 + (i : Int).toNat * 2) 1))
end Go.Proofs.Ytlkighkfkdpncaa
