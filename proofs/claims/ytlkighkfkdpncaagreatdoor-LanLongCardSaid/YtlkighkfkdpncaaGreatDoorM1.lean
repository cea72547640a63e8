/- Texts of this seat, joined. -/
import Derived.Test.YtlkighkfkdpncaaGreatDoorProg
import Derived.KernelRfl
import Derived.Lib.Bytealg
import Derived.Shelf.SlicesG.Cmp
import Derived.Ground.SlgcProg
import Derived.Shelf.Sort.Plain
import Derived.Shelf.Slices.In.SortNone
import Derived.Shelf.SlicesE.DeleteFunc
import Derived.Shelf.SlicesE.IndexFunc
import Derived.Shelf.SlSortCmp.WholeK
import Derived.Shelf.Spec.SlicesGrow
import Derived.Ground.SlgfProg
import Derived.Ground.SlsfProg
import Derived.Ground.Names8Prog
import Derived.Ground.Names2Prog
import Derived.Lib.Builder
import Derived.Deep.QuietTactic
import Derived.BigQuiet
import Derived.StillTailTactics
import Derived.Test.YtlkighkfkdpncaaGreatDoorM0
set_option linter.unusedSimpArgs false
set_option linter.unusedVariables false
noncomputable section
namespace Go.Proofs.YtlkighkfkdpncaaGreatDoor
open Go Go.Am
set_option maxRecDepth 100000
def a141:AF:=⟨36,[.tmp 2],
 (.seq (.ops [ZU 2 (.p (.mv (.k .snil)))])
 (.seq (.ops [ZX 3 0])
 (.seq (.seq (.ops [ZV 9 0,ZU 10 (.p (.len (.t 9))),ZX 11 0])
 (.block 0 (.loop (.seq (.ops [Z4 12 .lss 11 10])
 (.seq (.cond (.t 12)
 .skip
 (.exit 0))
 (.seq (.block 1 (.seq (.ops [ZU 13 (.p (.ixs 1 (.t 9) (.t 11))),ZZ 14 false 1 13,ZV 5 14])
 (.seq (.ops [ZV 15 3,ZV 16 5,ZU 17 (.p (.len (.t 16))),Z4 18 .add 15 17,ZV 3 18])
 (.seq (.ops [ZV 19 3,Z5 20 .lss 19 0])
 (.cond (.t 20)
 (.ops [⟨some 21,none,.p (.mkif 9 (.k (.s (.str ⟨#[108,101,110,32,111,117,116,32,111,102,32,114,97,110,103,101]⟩))))⟩,
 ⟨none,none,.h (.pnc (.t 21))⟩])
 .skip)))))
 (.ops [Z5 22 .add 11 1,ZV 11 22])))))))
 (.seq (.ops [ZV 23 3,ZU 24 (Zh 167 [(.k .snil),(.t 23)]),ZV 6 24])
 (.seq (.seq (.ops [ZV 25 0,ZU 26 (.p (.len (.t 25))),ZX 27 0])
 (.block 2 (.loop (.seq (.ops [Z4 28 .lss 27 26])
 (.seq (.cond (.t 28)
 .skip
 (.exit 2))
 (.seq (.block 3 (.seq (.ops [ZU 29 (.p (.ixs 1 (.t 25) (.t 27))),ZZ 30 false 1 29,ZV 8 30])
 (.ops [ZV 31 6,ZV 32 8,ZU 33 (.h (.append 2 16 (.t 31) (.t 32))),ZV 6 33])))
 (.ops [Z5 34 .add 27 1,ZV 27 34])))))))
 (.seq (.ops [ZV 35 6,ZV 2 35])
 .ret))))))⟩
def a142:AF:=⟨42,[.tmp 6],
 (.seq (.ops [ZU 3 (.h (.box (.t 0))),ZU 6 (.p (.mv (.k .snil)))])
 (.seq (.seq (.ops [ZV 11 2,ZU 12 (.p (.len (.t 11))),ZX 13 0])
 (.block 0 (.loop (.seq (.ops [Z4 14 .lss 13 12])
 (.seq (.cond (.t 14)
 .skip
 (.exit 0))
 (.seq (.block 1 (.seq (.ops [ZU 15 (.p (.ixs 2 (.t 11) (.t 13))),ZZ 16 true 2 15,ZU 8 (.h (.alloc (.ints 2))),Z1 2 8 16])
 (.seq (.ops [ZV 17 1,ZU 18 (.p (.ixa 2 1 (.t 8) (ZR 0))),ZZ 19 false 1 18,ZU 20 (.p (.ixa 2 1 (.t 8) (ZR 1))),ZZ 21 false 1 20,ZU 22 (Zh 168 [(.t 17),(.t 19),(.t 21)]),ZU 23 (.p (.len (.t 22))),ZX 24 0])
 (.block 2 (.loop (.seq (.ops [Z4 25 .lss 24 23])
 (.seq (.cond (.t 25)
 .skip
 (.exit 2))
 (.seq (.block 3 (.seq (.ops [ZU 26 (.p (.ixs 1 (.t 22) (.t 24))),ZZ 27 false 1 26,ZV 10 27])
 (.seq (.ops [ZV 28 6,ZV 29 10,ZU 30 (.h (.mksl 1 1 (.one (.s (.int .i64 0))) [(0,(.t 29))])),ZU 31 (.h (.append 1 8 (.t 28) (.t 30))),ZV 6 31])
 (.seq (.ops [ZV 32 10,Z2 33 0 133 3,Z2 34 0 128 33,ZU 35 (.p (.ixa 64 2 (.t 34) (.t 32))),ZZ 36 true 2 35,ZU 37 (.p (.build (.ints 2) [])),ZU 38 (.p (.eqa true 2 (.t 36) (.t 37)))])
 (.cond (.t 38)
 (.exit 2)
 .skip)))))
 (.ops [Z5 39 .add 24 1,ZV 24 39])))))))))
 (.ops [Z5 40 .add 13 1,ZV 13 40])))))))
 (.seq (.ops [ZV 41 6,ZV 6 41])
 .ret)))⟩
def a143:AF:=⟨64,[.tmp 6],
 (.seq (.ops [ZU 3 (.h (.box (.t 0))),ZY 6 false])
 (.seq (.ops [ZV 9 1,Z2 10 0 128 3,ZU 11 (.p (.ixa 64 2 (.t 10) (.t 9))),ZZ 12 true 2 11,ZU 7 (.h (.alloc (.ints 2))),Z1 2 7 12])
 (.seq (.seq (.ops [ZZ 13 true 2 7,ZU 14 (Zh 95 [(.t 13)]),ZU 15 (.p (.un .not (.t 14))),ZV 16 15,Z3 17 16 false 1 1 7,Z0 18 16 false false 1 17,Z3 19 16 false 128 1 3,Z0 20 16 false false 1 19,Z6 21 16 false .neq 18 20,Z9 22 16 21,ZV 23 22,ZW 24 23 false 1,ZW 25 23 false 2,Z6 26 23 false .eql 24 25,Z9 27 23 26])
 (.cond (.t 27)
 (.seq (.ops [ZY 6 false])
 .ret)
 .skip))
 (.seq (.seq (.ops [Z2 28 0 1 7,ZZ 29 false 1 28,Z5 30 .eql 29 1])
 (.cond (.t 30)
 (.seq (.ops [ZZ 31 true 133 3,ZV 32 1,ZV 33 2,ZU 34 (Zh 169 [(.t 31),(.t 32),(.t 33)]),ZV 6 34])
 .ret)
 .skip))
 (.seq (.ops [ZV 35 2,Z2 36 0 128 3,ZU 37 (.p (.ixa 64 2 (.t 36) (.t 35))),ZZ 38 true 2 37,ZU 8 (.h (.alloc (.ints 2))),Z1 2 8 38])
 (.seq (.seq (.ops [ZZ 39 true 133 3,ZV 40 1,ZV 41 2,ZU 42 (Zh 121 [(.t 39),(.t 40),(.t 41)]),ZV 43 42,Z0 44 43 true true 2 8,ZT 45 43 true (.p (.build (.ints 2) [])),ZT 46 43 true (.p (.eqa false 2 (.t 44) (.t 45))),ZW 47 43 true 46,Z3 48 47 false 1 1 8,Z0 49 47 false false 1 48,Z3 50 47 false 1 1 7,Z0 51 47 false false 1 50,Z6 52 47 false .neq 49 51,ZT 53 43 true (.p (.pick (.t 47) (ZS true) (.t 52))),Z8 54 43 53])
 (.cond (.t 54)
 (.seq (.ops [ZY 6 true])
 .ret)
 .skip))
 (.seq (.ops [Z2 55 0 1 7,ZZ 56 false 1 55,Z5 57 .eql 56 6,ZV 58 57,Z0 59 58 true true 133 3,ZW 60 58 true 1,ZW 61 58 true 2,ZT 62 58 true (Zh 170 [(.t 59),(.t 60),(.t 61)]),Z8 63 58 62,ZV 6 63])
 .ret)))))))⟩
def a144:AF:=⟨6,[.tmp 2],
 (.seq (.ops [ZU 1 (.h (.box (.t 0))),ZY 2 false])
 (.seq (.ops [ZZ 3 true 2 1,ZU 4 (.p (.build (.ints 2) [])),ZU 5 (.p (.eqa false 2 (.t 3) (.t 4))),ZV 2 5])
 .ret))⟩
def a145:AF:=⟨25,[.tmp 8],
 (.seq (.ops [ZU 4 (.h (.box (.t 0))),ZY 8 false])
 (.seq (.ops [ZV 9 2,Z2 10 0 128 4,ZU 11 (.p (.ixa 64 2 (.t 10) (.t 9))),ZZ 12 true 2 11,ZV 13 1,ZU 14 (.p (.build (.ints 2) [(0,1,(ZR 6)),(1,1,(.t 13))])),ZU 15 (.p (.eqa false 2 (.t 12) (.t 14))),ZV 16 15,ZW 17 16 true 3,Z3 18 16 true 0 128 4,ZT 19 16 true (.p (.ixa 64 2 (.t 18) (.t 17))),Z0 20 16 true true 2 19,ZW 21 16 true 1,ZT 22 16 true (.p (.build (.ints 2) [(0,1,(ZR 4)),(1,1,(.t 21))])),ZT 23 16 true (.p (.eqa false 2 (.t 20) (.t 22))),Z8 24 16 23,ZV 8 24])
 .ret))⟩
def a146:AF:=⟨16,[.tmp 4,.tmp 5],
 (.seq (.ops [ZX 4 0,ZX 5 0])
 (.seq (.ops [ZV 6 1,Z5 7 .rem 6 8,ZV 8 0,Z5 9 .rem 8 8,Z4 10 .sub 7 9,ZV 11 1,Z5 12 .quo 11 8,ZV 13 0,Z5 14 .quo 13 8,Z4 15 .sub 12 14,ZV 4 10,ZV 5 15])
 .ret))⟩
def a147:AF:=⟨8,[.tmp 2],
 (.seq (.ops [ZX 2 0])
 (.seq (.seq (.ops [ZV 3 0,Z5 4 .lss 3 0])
 (.cond (.t 4)
 (.seq (.ops [ZV 5 0,ZU 6 (.p (.un .neg (.t 5))),ZV 2 6])
 .ret)
 .skip))
 (.seq (.ops [ZV 7 0,ZV 2 7])
 .ret)))⟩
def a148:AF:=⟨38,[.tmp 6],
 (.seq (.ops [ZU 3 (.h (.box (.t 0))),ZY 6 false])
 (.seq (.ops [ZV 12 1,ZV 13 2,ZU 14 (Zh 146 [(.t 12),(.t 13)]),ZV 11 14,ZU 15 (.p (.ext (.t 11) 0)),ZU 16 (.p (.ext (.t 11) 1)),ZV 7 15,ZV 8 16])
 (.seq (.ops [ZV 17 8,ZU 18 (Zh 171 [(.t 17)]),ZU 19 (.p (.bin .mul (ZR 8) (.t 18))),ZV 20 7,ZU 21 (Zh 171 [(.t 20)]),Z4 22 .add 19 21,ZV 9 22])
 (.seq (.seq (.ops [ZV 23 1,ZV 24 9,Z4 25 .add 23 24,ZV 10 25])
 (.block 0 (.loop (.seq (.seq (.ops [ZV 26 10,ZV 27 2,Z4 28 .neq 26 27])
 (.cond (.t 28)
 .skip
 (.exit 0)))
 (.seq (.block 1 (.seq (.ops [ZV 32 10,Z2 33 0 128 3,ZU 34 (.p (.ixa 64 2 (.t 33) (.t 32))),ZZ 35 true 2 34,ZU 36 (.p (.build (.ints 2) [])),ZU 37 (.p (.eqa true 2 (.t 35) (.t 36)))])
 (.cond (.t 37)
 (.seq (.ops [ZY 6 false])
 .ret)
 .skip)))
 (.ops [ZV 29 10,ZV 30 9,Z4 31 .add 29 30,ZV 10 31]))))))
 (.seq (.ops [ZY 6 true])
 .ret)))))⟩
def a149:AF:=⟨21,[.tmp 2],
 (.seq (.ops [ZU 1 (.h (.box (.t 0))),ZY 2 false])
 (.seq (.ops [Z2 3 0 1 1,ZZ 4 false 1 3,Z5 5 .geq 4 1,ZV 6 5,Z3 7 6 true 0 1 1,Z0 8 6 true false 1 7,Z7 9 6 true .leq 8 6,Z8 10 6 9,ZV 11 10,Z3 12 11 true 1 1 1,Z0 13 11 true false 1 12,Z7 14 11 true .eql 13 0,ZW 15 11 true 14,Z3 16 15 false 1 1 1,Z0 17 15 false false 1 16,Z7 18 15 false .eql 17 1,ZT 19 11 true (.p (.pick (.t 15) (ZS true) (.t 18))),Z8 20 11 19,ZV 2 20])
 .ret))⟩
def a150:AF:=⟨18,[.tmp 8],
 (.seq (.ops [ZU 4 (.h (.box (.t 0))),ZY 8 false])
 (.seq (.ops [ZV 9 3,Z2 10 0 133 4,Z2 11 0 128 10,ZU 12 (.p (.ixa 64 2 (.t 11) (.t 9))),ZZ 13 true 2 12,ZV 14 1,ZV 15 2,ZU 16 (.p (.build (.ints 2) [(0,1,(.t 14)),(1,1,(.t 15))])),ZU 17 (.p (.eqa false 2 (.t 13) (.t 16))),ZV 8 17])
 .ret))⟩
def a151:AF:=⟨11,[.tmp 3],
 (.seq (.ops [ZY 3 false])
 (.seq (.ops [ZV 4 0,Z2 5 0 133 1,Z2 6 0 128 5,ZU 7 (.p (.ixa 64 2 (.t 6) (.t 4))),ZZ 8 true 2 7,ZU 9 (.p (.build (.ints 2) [])),ZU 10 (.p (.eqa false 2 (.t 8) (.t 9))),ZV 3 10])
 .ret))⟩
def a152:AF:=⟨13,[.tmp 6],
 (.seq (.ops [ZX 6 0])
 (.seq (.ops [ZV 7 0,ZU 8 (Zh 49 [(.t 7)]),ZV 9 1,ZV 10 2,ZU 11 (Zh 172 [(.t 8),(.t 9),(.t 10)]),ZU 12 (Zh 112 [(.t 11)]),ZV 6 12])
 .ret))⟩
def a153:AF:=⟨48,[],
 (.seq (.ops [Z2 6 0 128 1,ZZ 7 true 128 6,ZX 8 0])
 (.block 0 (.loop (.seq (.ops [Z5 9 .lss 8 64])
 (.seq (.cond (.t 9)
 .skip
 (.exit 0))
 (.seq (.block 1 (.seq (.ops [ZV 10 8,ZU 11 (.p (.ix 64 2 true (.t 7) (.t 8))),ZU 4 (.h (.alloc (.ints 2))),ZV 3 10,Z1 2 4 11])
 (.seq (.ops [Z2 12 0 1 4,ZZ 13 false 1 12,Z5 14 .geq 13 1,ZV 15 14,Z3 16 15 true 0 1 4,Z0 17 15 true false 1 16,Z7 18 15 true .leq 17 6,Z8 19 15 18,ZV 20 19,Z3 21 20 true 1 1 4,Z0 22 20 true false 1 21,Z7 23 20 true .eql 22 0,ZW 24 20 true 23,Z3 25 24 false 1 1 4,Z0 26 24 false false 1 25,Z7 27 24 false .eql 26 1,ZT 28 20 true (.p (.pick (.t 24) (ZS true) (.t 27))),Z8 29 20 28,ZV 5 29])
 (.seq (.ops [ZV 30 5,ZV 31 30,Z3 32 31 true 1 1 4,Z0 33 31 true false 1 32,Z3 34 31 true 128 1 1,Z0 35 31 true false 1 34,Z6 36 31 true .eql 33 35,Z8 37 31 36,ZV 38 37,ZW 39 38 true 0,Z0 40 38 true true 133 1,ZW 41 38 true 3,Z0 42 38 true true 2 4,ZT 43 38 true (.p (.build (.ints 136) [(0,133,(.t 40)),(133,1,(.t 41)),(134,2,(.t 42))])),ZT 44 38 true (.h (.call (.t 39) [(.t 43)])),ZT 45 38 true (.p (.un .not (.t 44))),Z8 46 38 45])
 (.cond (.t 46)
 .ret
 .skip)))))
 (.ops [Z5 47 .add 8 1,ZV 8 47])))))))⟩
def a154:AF:=⟨97,[.tmp 2],
 (.seq (.ops [ZU 1 (.h (.box (.t 0))),ZU 2 (.p (.mv (.k .snil)))])
 (.seq (.ops [Z2 9 134 2 1,Z2 10 1 1 9,ZZ 11 false 1 10,ZU 12 (.p (.bin .mul (ZR 2) (.t 11))),ZU 13 (.p (.bin .sub (ZR 1) (.t 12))),ZV 3 13])
 (.seq (.par [Z2 14 133 1 1,ZZ 15 false 1 14,ZV 16 3,ZU 17 (Zi 152 [(.t 15),(ZR 0),(.t 16)]),Z2 18 133 1 1,ZZ 19 false 1 18,ZV 20 3,ZU 21 (.p (.bin .mul (ZR 2) (.t 20))),ZU 22 (Zh 152 [(.t 19),(ZR 0),(.t 21)]),ZV 4 17,ZV 5 22])
 (.seq (.seq (.ops [ZZ 23 true 136 1,ZV 24 4,ZU 25 (.h (.mksl 1 1 (.one (.s (.int .i64 0))) [(0,(.t 24))])),ZU 26 (Zh 173 [(.t 23),(.t 25)])])
 (.cond (.t 26)
 (.ops [ZV 27 2,ZV 28 4,ZU 29 (.h (.mksl 1 1 (.one (.s (.int .i64 0))) [(0,(.t 28))])),ZU 30 (.h (.append 1 8 (.t 27) (.t 29))),ZV 2 30])
 .skip))
 (.seq (.seq (.par [Z2 31 133 1 1,ZZ 32 false 1 31,ZU 33 (Zi 84 [(.t 32)]),Z2 34 134 2 1,Z2 35 1 1 34,ZZ 36 false 1 35,ZU 37 (.p (.bin .mul (ZR 5) (.t 36))),ZU 38 (.p (.bin .add (ZR 1) (.t 37))),Z4 39 .eql 33 38,ZV 40 39,Z0 41 40 true true 136 1,ZW 42 40 true 4,ZW 43 40 true 5,ZT 44 40 true (.h (.mksl 2 1 (.one (.s (.int .i64 0))) [(0,(.t 42)),(1,(.t 43))])),ZT 45 40 true (Zh 173 [(.t 41),(.t 44)]),Z8 46 40 45])
 (.cond (.t 46)
 (.ops [ZV 47 2,ZV 48 5,ZU 49 (.h (.mksl 1 1 (.one (.s (.int .i64 0))) [(0,(.t 48))])),ZU 50 (.h (.append 1 8 (.t 47) (.t 49))),ZV 2 50])
 .skip))
 (.seq (.seq (.ops [Z2 51 0 133 1,ZZ 52 true 133 51,Z2 53 133 1 1,ZZ 54 false 1 53,ZU 55 (Zh 157 [(.t 52),(.t 54)]),ZU 56 (.p (.len (.t 55))),ZX 57 0])
 (.block 0 (.loop (.seq (.ops [Z4 58 .lss 57 56])
 (.seq (.cond (.t 58)
 .skip
 (.exit 0))
 (.seq (.block 1 (.seq (.ops [ZU 59 (.p (.ixs 1 (.t 55) (.t 57))),ZZ 60 false 1 59,ZV 7 60])
 (.seq (.ops [ZV 61 7,Z2 62 0 133 1,Z2 63 0 128 62,ZU 64 (.p (.ixa 64 2 (.t 63) (.t 61))),ZZ 65 true 2 64,ZU 8 (.h (.alloc (.ints 2))),Z1 2 8 65])
 (.seq (.par [ZZ 66 true 2 8,ZU 67 (.p (.build (.ints 2) [])),ZU 68 (.p (.eqa true 2 (.t 66) (.t 67))),ZV 69 68,Z3 70 69 true 1 1 8,Z0 71 69 true false 1 70,Z3 72 69 true 134 2 1,Z3 73 69 true 1 1 72,Z0 74 69 true false 1 73,ZT 75 69 true (Zi 53 [(.t 74)]),Z6 76 69 true .eql 71 75,Z8 77 69 76,ZV 78 77,Z0 79 78 false true 136 1,ZW 80 78 false 7,ZT 81 78 false (.h (.mksl 1 1 (.one (.s (.int .i64 0))) [(0,(.t 80))])),ZT 82 78 false (Zh 173 [(.t 79),(.t 81)]),ZW 83 78 false 82,ZW 84 83 true 7,Z3 85 83 true 0 133 1,Z3 86 83 true 130 1 85,Z0 87 83 true false 1 86,Z6 88 83 true .eql 84 87,ZT 89 78 false (.p (.pick (.t 83) (.t 88) (ZS false))),Z9 90 78 89])
 (.cond (.t 90)
 (.ops [ZV 91 2,ZV 92 7,ZU 93 (.h (.mksl 1 1 (.one (.s (.int .i64 0))) [(0,(.t 92))])),ZU 94 (.h (.append 1 8 (.t 91) (.t 93))),ZV 2 94])
 .skip)))))
 (.ops [Z5 95 .add 57 1,ZV 57 95])))))))
 (.seq (.ops [ZV 96 2,ZV 2 96])
 .ret)))))))⟩
def a157:AF:=⟨16,[.tmp 4],
 (.seq (.ops [ZU 2 (.h (.box (.t 0))),ZU 4 (.p (.mv (.k .snil)))])
 (.seq (.seq (.ops [ZV 6 1,ZU 7 (Zh 74 [(.t 6)]),ZU 8 (.p (.un .not (.t 7)))])
 (.cond (.t 8)
 (.seq (.ops [ZU 4 (.p (.mv (.k .snil)))])
 .ret)
 .skip))
 (.seq (.ops [ZZ 9 true 133 2,ZU 10 (.p (.build (.ints 133) [(0,133,(.t 9))])),ZV 11 1,ZU 12 (Zh 115 [(.t 10),(.t 11)]),ZV 5 12])
 (.seq (.ops [ZV 13 5,ZU 14 (Zh 175 [(.t 13)])])
 (.seq (.ops [ZV 15 5,ZV 4 15])
 .ret)))))⟩
def a158:AF:=⟨102,[.tmp 2],
 (.seq (.ops [ZU 1 (.h (.box (.t 0))),ZU 2 (.p (.mv (.k .snil)))])
 (.seq (.ops [Z2 6 134 2 1,Z2 7 1 1 6,ZZ 8 false 1 7,ZU 9 (.p (.bin .mul (ZR 56) (.t 8))),Z5 10 .add 9 4,ZV 3 10])
 (.seq (.seq (.ops [Z2 11 134 2 1,Z2 12 0 1 11,ZZ 13 false 1 12,Z5 14 .neq 13 6,ZV 15 14,Z3 16 15 false 133 1 1,Z0 17 15 false false 1 16,ZW 18 15 false 3,Z6 19 15 false .neq 17 18,Z9 20 15 19,ZV 21 20,Z3 22 21 false 0 133 1,Z3 23 21 false 129 1 22,Z0 24 21 false false 1 23,Z7 25 21 false .lss 24 0,Z9 26 21 25,ZV 27 26,Z3 28 27 false 0 133 1,Z3 29 27 false 129 1 28,Z0 30 27 false false 1 29,Z7 31 27 false .gtr 30 15,Z9 32 27 31])
 (.cond (.t 32)
 (.seq (.ops [ZU 2 (.p (.mv (.k .snil)))])
 .ret)
 .skip))
 (.seq (.ops [Z2 33 134 2 1,Z2 34 1 1 33,ZZ 35 false 1 34,ZU 36 (.p (.build (.ints 2) [(0,1,(ZR 4)),(1,1,(.t 35))])),ZU 4 (.h (.alloc (.ints 2))),Z1 2 4 36])
 (.seq (.ops [Z2 37 0 133 1,Z2 38 129 1 37,ZZ 39 false 1 38,Z2 40 134 2 1,Z2 41 1 1 40,ZZ 42 false 1 41,ZU 43 (.p (.bin .mul (ZR 2) (.t 42))),Z4 44 .shr 39 43,ZV 5 44])
 (.seq (.seq (.par [ZV 45 5,Z5 46 .and 45 1,Z5 47 .neq 46 0,ZV 48 47,ZW 49 48 true 3,Z7 50 48 true .add 49 3,Z3 51 48 true 0 133 1,Z3 52 48 true 0 128 51,ZT 53 48 true (.p (.ixa 64 2 (.t 52) (.t 50))),Z0 54 48 true true 2 53,Z0 55 48 true true 2 4,ZT 56 48 true (.p (.eqa false 2 (.t 54) (.t 55))),Z8 57 48 56,ZV 58 57,Z0 59 58 true true 136 1,ZW 60 58 true 3,Z7 61 58 true .add 60 1,ZW 62 58 true 3,Z7 63 58 true .add 62 2,ZT 64 58 true (.h (.mksl 2 1 (.one (.s (.int .i64 0))) [(0,(.t 61)),(1,(.t 63))])),ZT 65 58 true (Zh 173 [(.t 59),(.t 64)]),Z8 66 58 65])
 (.cond (.t 66)
 (.ops [ZV 67 2,ZV 68 3,Z5 69 .add 68 2,ZU 70 (.h (.mksl 1 1 (.one (.s (.int .i64 0))) [(0,(.t 69))])),ZU 71 (.h (.append 1 8 (.t 67) (.t 70))),ZV 2 71])
 .skip))
 (.seq (.seq (.par [ZV 72 5,Z5 73 .and 72 2,Z5 74 .neq 73 0,ZV 75 74,ZW 76 75 true 3,Z7 77 75 true .sub 76 4,Z3 78 75 true 0 133 1,Z3 79 75 true 0 128 78,ZT 80 75 true (.p (.ixa 64 2 (.t 79) (.t 77))),Z0 81 75 true true 2 80,Z0 82 75 true true 2 4,ZT 83 75 true (.p (.eqa false 2 (.t 81) (.t 82))),Z8 84 75 83,ZV 85 84,Z0 86 85 true true 136 1,ZW 87 85 true 3,Z7 88 85 true .sub 87 1,ZW 89 85 true 3,Z7 90 85 true .sub 89 2,ZW 91 85 true 3,Z7 92 85 true .sub 91 3,ZT 93 85 true (.h (.mksl 3 1 (.one (.s (.int .i64 0))) [(0,(.t 88)),(1,(.t 90)),(2,(.t 92))])),ZT 94 85 true (Zh 173 [(.t 86),(.t 93)]),Z8 95 85 94])
 (.cond (.t 95)
 (.ops [ZV 96 2,ZV 97 3,Z5 98 .sub 97 2,ZU 99 (.h (.mksl 1 1 (.one (.s (.int .i64 0))) [(0,(.t 98))])),ZU 100 (.h (.append 1 8 (.t 96) (.t 99))),ZV 2 100])
 .skip))
 (.seq (.ops [ZV 101 2,ZV 2 101])
 .ret))))))))⟩
def a168:AF:=⟨28,[.tmp 6],
 (.seq (.ops [ZU 6 (.p (.mv (.k .snil)))])
 (.seq (.seq (.ops [ZV 7 1,Z5 8 .eql 7 0,ZV 9 8,ZW 10 9 true 2,Z7 11 9 true .eql 10 0,Z8 12 9 11])
 (.cond (.t 12)
 (.seq (.ops [ZU 6 (.p (.mv (.k .snil)))])
 .ret)
 .skip))
 (.seq (.seq (.ops [ZV 13 0,ZV 14 1,ZV 15 2,ZU 16 (Zh 152 [(.t 13),(.t 14),(.t 15)]),ZV 0 16])
 (.block 0 (.loop (.seq (.seq (.ops [ZV 17 0,Z5 18 .neq 17 (-1)])
 (.cond (.t 18)
 .skip
 (.exit 0)))
 (.seq (.block 1 (.ops [ZV 23 6,ZV 24 0,ZU 25 (.h (.mksl 1 1 (.one (.s (.int .i64 0))) [(0,(.t 24))])),ZU 26 (.h (.append 1 8 (.t 23) (.t 25))),ZV 6 26]))
 (.ops [ZV 19 0,ZV 20 1,ZV 21 2,ZU 22 (Zh 152 [(.t 19),(.t 20),(.t 21)]),ZV 0 22]))))))
 (.seq (.ops [ZV 27 6,ZV 6 27])
 .ret))))⟩
def a169:AF:=⟨79,[.tmp 6],
 (.seq (.ops [ZU 3 (.h (.box (.t 0))),ZY 6 false])
 (.seq (.ops [ZV 11 1,Z2 12 0 128 3,ZU 13 (.p (.ixa 64 2 (.t 12) (.t 11))),ZZ 14 true 2 13,ZU 7 (.h (.alloc (.ints 2))),Z1 2 7 14])
 (.seq (.ops [ZX 8 8,ZX 9 1])
 (.seq (.seq (.ops [Z2 15 1 1 7,ZZ 16 false 1 15,Z5 17 .eql 16 1])
 (.cond (.t 17)
 (.ops [ZX 8 (-8),ZX 9 6])
 .skip))
 (.seq (.seq (.ops [ZV 18 2,ZV 19 1,ZV 20 8,Z4 21 .add 19 20,Z4 22 .eql 18 21])
 (.cond (.t 22)
 (.seq (.ops [ZZ 23 true 133 3,ZV 24 2,ZU 25 (Zh 188 [(.t 23),(.t 24)]),ZV 6 25])
 .ret)
 .skip))
 (.seq (.seq (.ops [ZV 26 2,ZV 27 1,ZV 28 8,ZU 29 (.p (.bin .mul (ZR 2) (.t 28))),Z4 30 .add 27 29,Z4 31 .eql 26 30,ZV 32 31,ZW 33 32 true 1,Z7 34 32 true .quo 33 8,ZW 35 32 true 9,Z6 36 32 true .eql 34 35,Z8 37 32 36])
 (.cond (.t 37)
 (.seq (.ops [ZZ 38 true 133 3,ZV 39 1,ZV 40 8,Z4 41 .add 39 40,ZU 42 (Zh 188 [(.t 38),(.t 41)]),ZV 43 42,Z0 44 43 true true 133 3,ZW 45 43 true 2,ZT 46 43 true (Zh 188 [(.t 44),(.t 45)]),Z8 47 43 46,ZV 6 47])
 .ret)
 .skip))
 (.seq (.seq (.ops [ZZ 48 true 133 3,ZV 49 1,ZV 50 2,ZU 51 (Zh 121 [(.t 48),(.t 49),(.t 50)]),ZU 52 (.p (.un .not (.t 51)))])
 (.cond (.t 52)
 (.seq (.ops [ZY 6 false])
 .ret)
 .skip))
 (.seq (.ops [ZV 53 2,Z2 54 0 128 3,ZU 55 (.p (.ixa 64 2 (.t 54) (.t 53))),ZZ 56 true 2 55,ZU 10 (.h (.alloc (.ints 2))),Z1 2 10 56])
 (.seq (.par [ZZ 57 true 2 10,ZU 58 (.p (.build (.ints 2) [])),ZU 59 (.p (.eqa true 2 (.t 57) (.t 58))),ZV 60 59,Z3 61 60 true 1 1 10,Z0 62 60 true false 1 61,Z3 63 60 true 1 1 7,Z0 64 60 true false 1 63,ZT 65 60 true (Zi 33 [(.t 64)]),Z6 66 60 true .eql 62 65,Z8 67 60 66,ZV 68 67,Z0 69 68 false true 133 3,ZW 70 68 false 2,ZT 71 68 false (Zh 188 [(.t 69),(.t 70)]),ZW 72 68 false 71,ZW 73 72 true 2,Z3 74 72 true 130 1 3,Z0 75 72 true false 1 74,Z6 76 72 true .eql 73 75,ZT 77 68 false (.p (.pick (.t 72) (.t 76) (ZS false))),Z9 78 68 77,ZV 6 78])
 .ret)))))))))⟩
def a170:AF:=⟨104,[.tmp 6],
 (.seq (.ops [ZU 3 (.h (.box (.t 0))),ZY 6 false])
 (.seq (.ops [ZV 12 1,Z2 13 0 128 3,ZU 14 (.p (.ixa 64 2 (.t 13) (.t 12))),Z2 15 1 1 14,ZZ 16 false 1 15,ZV 7 16])
 (.seq (.ops [ZX 8 4,ZX 9 1,ZX 10 2])
 (.seq (.seq (.ops [ZV 17 7,Z5 18 .eql 17 1])
 (.cond (.t 18)
 (.ops [ZX 8 60,ZX 9 4,ZX 10 8])
 .skip))
 (.seq (.seq (.ops [ZV 19 1,ZV 20 8,Z4 21 .neq 19 20,ZV 22 21,Z3 23 22 false 129 1 3,Z0 24 22 false false 1 23,Z7 25 22 false .lss 24 0,Z9 26 22 25,ZV 27 26,Z3 28 27 false 129 1 3,Z0 29 27 false false 1 28,Z7 30 27 false .gtr 29 15,Z9 31 27 30])
 (.cond (.t 31)
 (.seq (.ops [ZY 6 false])
 .ret)
 .skip))
 (.seq (.ops [ZV 32 7,ZU 33 (.p (.build (.ints 2) [(0,1,(ZR 4)),(1,1,(.t 32))])),ZU 11 (.h (.alloc (.ints 2))),Z1 2 11 33])
 (.seq (.seq (.ops [ZV 34 2,ZV 35 8,Z5 36 .add 35 2,Z4 37 .eql 34 36])
 (.cond (.t 37)
 (.seq (.par [Z2 38 129 1 3,ZZ 39 false 1 38,ZV 40 9,Z4 41 .quo 39 40,Z5 42 .rem 41 2,Z5 43 .eql 42 1,ZV 44 43,ZW 45 44 true 8,Z7 46 44 true .add 45 3,Z3 47 44 true 0 128 3,ZT 48 44 true (.p (.ixa 64 2 (.t 47) (.t 46))),Z0 49 44 true true 2 48,Z0 50 44 true true 2 11,ZT 51 44 true (.p (.eqa false 2 (.t 49) (.t 50))),Z8 52 44 51,ZV 53 52,Z0 54 53 true true 133 3,ZW 55 53 true 8,Z7 56 53 true .add 55 1,ZT 57 53 true (Zh 188 [(.t 54),(.t 56)]),Z8 58 53 57,ZV 59 58,Z0 60 59 true true 133 3,ZW 61 59 true 8,Z7 62 59 true .add 61 2,ZT 63 59 true (Zh 188 [(.t 60),(.t 62)]),Z8 64 59 63,ZV 6 64])
 .ret)
 .skip))
 (.seq (.par [ZV 65 2,ZV 66 8,Z5 67 .sub 66 2,Z4 68 .eql 65 67,ZV 69 68,Z3 70 69 true 129 1 3,Z0 71 69 true false 1 70,ZW 72 69 true 10,Z6 73 69 true .quo 71 72,Z7 74 69 true .rem 73 2,Z7 75 69 true .eql 74 1,Z8 76 69 75,ZV 77 76,ZW 78 77 true 8,Z7 79 77 true .sub 78 4,Z3 80 77 true 0 128 3,ZT 81 77 true (.p (.ixa 64 2 (.t 80) (.t 79))),Z0 82 77 true true 2 81,Z0 83 77 true true 2 11,ZT 84 77 true (.p (.eqa false 2 (.t 82) (.t 83))),Z8 85 77 84,ZV 86 85,Z0 87 86 true true 133 3,ZW 88 86 true 8,Z7 89 86 true .sub 88 1,ZT 90 86 true (Zh 188 [(.t 87),(.t 89)]),Z8 91 86 90,ZV 92 91,Z0 93 92 true true 133 3,ZW 94 92 true 8,Z7 95 92 true .sub 94 2,ZT 96 92 true (Zh 188 [(.t 93),(.t 95)]),Z8 97 92 96,ZV 98 97,Z0 99 98 true true 133 3,ZW 100 98 true 8,Z7 101 98 true .sub 100 3,ZT 102 98 true (Zh 188 [(.t 99),(.t 101)]),Z8 103 98 102,ZV 6 103])
 .ret))))))))⟩
def a171:AF:=⟨7,[.tmp 2],
 (.seq (.ops [ZX 2 0])
 (.seq (.seq (.ops [ZV 3 0,Z5 4 .lss 3 0])
 (.cond (.t 4)
 (.seq (.ops [ZX 2 (-1)])
 .ret)
 .skip))
 (.seq (.seq (.ops [ZV 5 0,Z5 6 .gtr 5 0])
 (.cond (.t 6)
 (.seq (.ops [ZX 2 1])
 .ret)
 .skip))
 (.seq (.ops [ZX 2 0])
 .ret))))⟩
def a172:AF:=⟨34,[.cell 6 true 2],
 (.seq (.ops [ZU 3 (.h (.box (.t 0))),ZU 6 (.h (.alloc (.ints 2)))])
 (.seq (.seq (.ops [Z2 7 2 1 3,ZZ 8 false 1 7,ZU 9 (.p (.un .not (.t 8))),ZV 10 9,ZW 11 10 false 1,ZW 12 10 false 2,ZT 13 10 false (.p (.mx [(.t 11),(.t 12)])),Z7 14 10 false .geq 13 8,Z9 15 10 14,ZV 16 15,ZW 17 16 false 1,ZW 18 16 false 2,ZT 19 16 false (.p (.mn [(.t 17),(.t 18)])),Z7 20 16 false .leq 19 (-8),Z9 21 16 20])
 (.cond (.t 21)
 (.seq (.ops [ZU 22 (.p (.build (.ints 2) [(0,1,(ZR (-1))),(1,1,(ZR (-1)))])),Z1 2 6 22])
 .ret)
 .skip))
 (.seq (.ops [Z2 23 0 2 3,Z2 24 0 1 23,ZZ 25 false 1 24,ZV 26 1,Z4 27 .add 25 26,Z2 28 0 2 3,Z2 29 1 1 28,ZZ 30 false 1 29,ZV 31 2,Z4 32 .add 30 31,ZU 33 (.p (.build (.ints 2) [(0,1,(.t 27)),(1,1,(.t 32))])),Z1 2 6 33])
 .ret)))⟩
def a173:AF:=⟨9,[.tmp 4],
 (.seq (.ops [ZU 2 (.h (.box (.t 0))),ZY 4 false])
 (.seq (.ops [ZV 5 1,ZU 6 (.p (.mkfn 190 [(.t 2)])),ZU 7 (Zh 189 [(.t 5),(.t 6)]),ZU 8 (.p (.un .not (.t 7))),ZV 4 8])
 .ret))⟩
def a174:AF:=⟨19,[.tmp 4],
 (.seq (.ops [ZX 4 0])
 (.seq (.seq (.ops [ZV 6 0,ZU 7 (.p (.len (.t 6))),ZX 8 0])
 (.block 0 (.loop (.seq (.ops [Z4 9 .lss 8 7])
 (.seq (.cond (.t 9)
 .skip
 (.exit 0))
 (.seq (.block 1 (.seq (.ops [ZV 10 8,ZV 5 10])
 (.seq (.ops [ZV 11 1,ZV 12 0,ZV 13 5,ZU 14 (.p (.ixs 1 (.t 12) (.t 13))),ZZ 15 false 1 14,ZU 16 (.h (.call (.t 11) [(.t 15)]))])
 (.cond (.t 16)
 (.seq (.ops [ZV 17 5,ZV 4 17])
 .ret)
 .skip))))
 (.ops [Z5 18 .add 8 1,ZV 8 18])))))))
 (.seq (.ops [ZX 4 (-1)])
 .ret)))⟩
def a188:AF:=⟨19,[.tmp 4],
 (.seq (.ops [ZU 2 (.h (.box (.t 0))),ZY 4 false])
 (.seq (.ops [ZV 5 1,Z5 6 .geq 5 0,ZV 7 6,ZW 8 7 true 1,Z7 9 7 true .lss 8 64,Z8 10 7 9,ZV 11 10,ZW 12 11 true 1,Z3 13 11 true 0 128 2,ZT 14 11 true (.p (.ixa 64 2 (.t 13) (.t 12))),Z0 15 11 true true 2 14,ZT 16 11 true (.p (.build (.ints 2) [])),ZT 17 11 true (.p (.eqa false 2 (.t 15) (.t 16))),Z8 18 11 17,ZV 4 18])
 .ret))⟩
def a189:AF:=⟨9,[.tmp 4],
 (.seq (.ops [ZY 4 false])
 (.seq (.ops [ZV 5 0,ZV 6 1,ZU 7 (Zh 174 [(.t 5),(.t 6)]),Z5 8 .geq 7 0,ZV 4 8])
 .ret))⟩
def a190:AF:=⟨16,[.tmp 3],
 (.seq (.ops [ZY 3 false])
 (.seq (.ops [ZV 4 0,ZU 5 (Zh 74 [(.t 4)]),ZU 6 (.p (.un .not (.t 5))),ZV 7 6,ZW 8 7 false 0,Z3 9 7 false 0 133 1,Z3 10 7 false 0 128 9,ZT 11 7 false (.p (.ixa 64 2 (.t 10) (.t 8))),Z0 12 7 false true 2 11,ZT 13 7 false (.p (.build (.ints 2) [])),ZT 14 7 false (.p (.eqa true 2 (.t 12) (.t 13))),Z9 15 7 14,ZV 3 15])
 .ret))⟩
end Go.Proofs.YtlkighkfkdpncaaGreatDoor
namespace Go.Am
open Go
theorem w7:∀ {l1 l2:List Int},l1.Pairwise (· < ·)->l2.Pairwise (· < ·)->(∀ x,x∈l1↔x∈l2)->l1=l2
 | [],[],_,_,_=>rfl
 | [],y::l2,_,_,h=>by have:=(h y).2 ZM; cases this
 | x::l1,[],_,_,h=>by have:=(h x).1 ZM; cases this
 | x::l1,y::l2,h1,h2,h=>by
  rw [List.pairwise_cons] at h1 h2
  have e:x=y:=by
   have hx:=(h x).1 ZM
   have hy:=(h y).2 ZM
   rcases ZaX.1 hx with e | hx
   ·exact e
   rcases ZaX.1 hy with e | hy
   ·exact e.symm
   have:=h2.1 x hx; have:=h1.1 y hy; omega
  subst e
  refine congrArg (x::·) (w7 h1.2 h2.2 fun z=>?_)
  constructor
  ·intro hz
   rcases ZaX.1 ((h z).1 (.tail _ hz)) with e | hz'
   ·subst e; have:=h1.1 z hz; omega
   exact hz'
  intro hz
  rcases ZaX.1 ((h z).2 (.tail _ hz)) with e | hz'
  ·subst e; have:=h2.1 z hz; omega
  exact hz'
def K0 (l:List Int):List Int:=l.mergeSort fun x y=>decide (x<=y)
theorem Kc (l:List Int):(K0 l).Perm l:=List.mergeSort_perm _ _
theorem srtM_mem {l:List Int} {x:Int}:x∈K0 l↔x∈l:=(Kc l).mem_iff
theorem srtM_le (l:List Int):(K0 l).Pairwise (·<=·):=by
 have h:=List.pairwise_mergeSort (le:=fun x y:Int=>decide (x<=y)) (by intro a b c h1 h2; simp at *; omega) (by intro a b; simp; omega) l
 exact h.imp (fun h=>by simpa using h)
theorem Ti:∀ {l:List Int},l.Pairwise (·<=·)->l.Nodup->l.Pairwise (· < ·)
 | [],_,_=>.nil
 | x::l,h1,h2=>by
  rw [List.pairwise_cons] at h1
  rw [List.nodup_cons] at h2
  rw [List.pairwise_cons]
  refine ⟨fun y hy=>?_,Ti h1.2 h2.2⟩
  have:=h1.1 y hy
  have:x≠y:=fun e=>h2.1 (by rw [e]; exact hy)
  omega
theorem srtM_lt {l:List Int} (h:l.Nodup):(K0 l).Pairwise (· < ·):=Ti (srtM_le l) ((Kc l).nodup_iff.2 h)
theorem srtM_is {l r:List Int} (h:l.Nodup) (hr:r.Pairwise (· < ·)) (hm:∀ x,x∈l↔x∈r):K0 l=r:=w7 (srtM_lt h) hr fun x=>srtM_mem.trans (hm x)
theorem xi {α:Type} {r:α->α->Prop} (asy:∀ x y,r x y->¬ r y x):∀ {l1 l2:List α},l1.Pairwise r->l2.Pairwise r->(∀ x,x∈l1↔x∈l2)->l1=l2
 | [],[],_,_,_=>rfl
 | [],y::l2,_,_,h=>by have:=(h y).2 ZM; cases this
 | x::l1,[],_,_,h=>by have:=(h x).1 ZM; cases this
 | x::l1,y::l2,h1,h2,h=>by
  rw [List.pairwise_cons] at h1 h2
  have irr:∀ x,¬ r x x:=fun x h=>asy x x h h
  have e:x=y:=by
   have hx:=(h x).1 ZM
   have hy:=(h y).2 ZM
   rcases ZaX.1 hx with e | hx
   ·exact e
   rcases ZaX.1 hy with e | hy
   ·exact e.symm
   exact absurd (h2.1 x hx) (asy _ _ (h1.1 y hy))
  subst e
  refine congrArg (x::·) (xi asy h1.2 h2.2 fun z=>?_)
  constructor
  ·intro hz
   rcases ZaX.1 ((h z).1 (.tail _ hz)) with e | hz'
   ·subst e; exact absurd (h1.1 z hz) (irr _)
   exact hz'
  intro hz
  rcases ZaX.1 ((h z).2 (.tail _ hz)) with e | hz'
  ·subst e; exact absurd (h2.1 z hz) (irr _)
  exact hz'
abbrev Mv:=Int × Int × Int
def lt3 (a b:Mv):Prop:=a.1 < b.1\/a.1=b.1/\(a.2.1 < b.2.1\/a.2.1=b.2.1/\a.2.2 < b.2.2)
instance (a b:Mv):Decidable (lt3 a b):=by unfold lt3; infer_instance
theorem xW (x y:Mv) (h:lt3 x y):¬ lt3 y x:=by unfold lt3 at *; omega
theorem lt3_tr (a b c:Mv) (h1:(!decide (lt3 b a))=true) (h2:(!decide (lt3 c b))=true):(!decide (lt3 c a))=true:=by
 simp only [ZaK,Zax] at h1 h2 ⊢
 unfold lt3 at *
 omega
theorem lt3_tot (a b:Mv):((!decide (lt3 b a)) || !decide (lt3 a b))=true:=by
 simp only [Bool.or_eq_true,ZaK,Zax]
 unfold lt3
 omega
def KI (l:List Mv):List Mv:=l.mergeSort fun x y=>!decide (lt3 y x)
theorem Qo (l:List Mv):(KI l).Perm l:=List.mergeSort_perm _ _
theorem u2 (l:List Mv):(KI l).Pairwise (fun x y=>¬ lt3 y x):=by
 have h:=List.pairwise_mergeSort (le:=fun x y:Mv=>!decide (lt3 y x)) lt3_tr lt3_tot l
 exact h.imp (fun h=>by simpa using h)
theorem sN:∀ {l:List Mv},l.Pairwise (fun x y=>¬ lt3 y x)->l.Nodup->l.Pairwise lt3
 | [],_,_=>.nil
 | x::l,h1,h2=>by
  rw [List.pairwise_cons] at h1
  rw [List.nodup_cons] at h2
  rw [List.pairwise_cons]
  refine ⟨fun y hy=>?_,sN h1.2 h2.2⟩
  have h3:=h1.1 y hy
  have hne:x≠y:=fun e=>h2.1 (by rw [e]; exact hy)
  obtain ⟨x1,x2,x3⟩:=x
  obtain ⟨y1,y2,y3⟩:=y
  have:¬ (x1=y1/\x2=y2/\x3=y3):=fun ⟨a,b,c⟩=>hne (by rw [a,b,c])
  unfold lt3 at *
  simp only at *
  omega
theorem srt3_is {l r:List Mv} (h:l.Nodup) (hr:r.Pairwise lt3) (hm:∀ x,x∈l↔x∈r):KI l=r :=
 xi xW (sN (u2 l) ((Qo l).nodup_iff.2 h)) hr fun x=>(Qo l).mem_iff.trans (hm x)
theorem zS {α:Type} {r:α->α->Prop} (anti:∀ x y,r x y->r y x->x=y):∀ {l1 l2:List α},l1.Perm l2->l1.Pairwise r->l2.Pairwise r->l1=l2
 | [],l2,h,_,_=>(List.Perm.nil_eq h)
 | x::l1,[],h,_,_=>absurd h.length_eq (by simp)
 | x::l1,y::l2,h,h1,h2=>by
  rw [List.pairwise_cons] at h1 h2
  have e:x=y:=by
   have hx:=h.mem_iff.1 List.mem_cons_self
   have hy:=h.mem_iff.2 List.mem_cons_self
   rcases ZaX.1 hx with e | hx
   ·exact e
   rcases ZaX.1 hy with e | hy
   ·exact e.symm
   exact anti _ _ (h1.1 y hy) (h2.1 x hx)
  subst e
  exact congrArg (x::·) (zS anti (List.Perm.cons_inv h) h1.2 h2.2)
theorem pR {l r:List Mv} (h:r.Perm l) (hs:r.Pairwise (fun x y=>¬ lt3 y x)):r=KI l :=
 zS (fun x y h1 h2=>by
  obtain ⟨x1,x2,x3⟩:=x
  obtain ⟨y1,y2,y3⟩:=y
  unfold lt3 at h1 h2
  simp only at h1 h2
  have e1:x1=y1:=by omega
  have e2:x2=y2:=by omega
  have e3:x3=y3:=by omega
  rw [e1,e2,e3]) (h.trans (Qo l).symm) hs (u2 l)
def YY (l:List Mv):List Int:=l.flatMap fun m=>[m.1,m.2.1,m.2.2]
theorem Xj:∀ l:List Mv,(YY l).length=l.length*3
 | []=>rfl
 | m::l=>by
  have:=Xj l
  unfold YY at *
  rw [Zbo,ZaG,this]
  simp only [Zbq,List.length_nil]
  omega
end Go.Am
namespace Go.Am
open Go
def VY:S->Bool
 | .int .i64 _=>true
 | _=>false
def Ws:S->Int
 | .int _ n=>n
 | _=>0
def XW (g:Nat->S) (m:Nat):List Int:=(List.range m).map fun i=>Ws (g i)
def ED (l:List Int) (g:Nat->S):Nat->S:=fun i=>bif Nat.blt i l.length then .int .i64 (l.getD i 0) else g i
def TG:List V->Heap->Option (V × Heap)
 | [.snil],σ=>some (.tup [],σ)
 | [.sl b 0 m 1 .whole],σ=>match σ[b]? with
  | some (.sc .grow q g)=>bif Xs m (fun i=>VY (g i))&&Nat.blt m 4611686018427387904 then some (.tup [],σ.set b (.sc .grow q (ED (K0 (XW g m)) g))) else none
  | _=>none
 | _,_=>none
def VV (g:Nat->S) (m:Nat):List Mv:=(List.range m).map fun i=>(Ws (g (3*i)),Ws (g (3*i+1)),Ws (g (3*i+2)))
def J7 (cmp:FuncId):List V->Heap->Option (V × Heap)
 | [.snil,.fn f []],σ=>if f=cmp then some (.tup [],σ) else none
 | [.sl b 0 m 3 .whole,.fn f []],σ=>match σ[b]? with
  | some (.sc .grow q g)=>bif decide (f=cmp)&&(Xs (m*3) (fun i=>VY (g i))&&Nat.blt m 4611686018427387904) then some (.tup [],σ.set b (.sc .grow q (ED (YY (KI (VV g m))) g))) else none
  | _=>none
 | _,_=>none
def U7 (h:Nat->S) (t:Int):Bool:=!(decide (Ws (h (t.toNat*2))=0)&&decide (Ws (h (t.toNat*2+1))=0))&&decide (Ws (h (t.toNat*2+1))=Ws (h 135))
def Ty (own:FuncId):List V->Heap->Option (V × Heap)
 | [.snil,.fn f [.ptr c 0 136]],σ=>if f=own then (match σ[c]? with
  | some (.sc _ 136 _)=>some (.snil,σ)
  | _=>none) else none
 | [.sl b 0 m 1 .whole,.fn f [.ptr c 0 136]],σ=>match σ[b]?,σ[c]? with
  | some (.sc .grow q g),some (.sc _ 136 h)=>bif decide (f=own)&&(decide (b≠c)&&(Xs m (fun i=>VY (g i)&&(decide (0<=Ws (g i))&&decide (Ws (g i) < 64)))&&(Xs 136 (fun i=>VY (h i))&&Nat.ble m 4611686018427387904))) then
   some (.sl σ.length 0 ((XW g m).filter fun t=>!U7 h t).length 1 .whole,kill σ b++[.sc .grow ((XW g m).filter fun t=>!U7 h t).length fun i=>.int .i64 (((XW g m).filter fun t=>!U7 h t).getD i 0)]) else none
  | _,_=>none
 | _,_=>none
def Tm:List V->Heap->Option (V × Heap)
 | [.snil,.s (.int .i64 n)],σ=>if 0 < n/\n<=1000000 then some (.sl σ.length 0 0 2 .whole,σ++[.sc .grow 0 fun _=>S.zero]) else none
 | _,_=>none
end Go.Am
namespace Go.Am
open Go
def wd:List V->Heap->Option (V × Heap)
 | [.s (.str s),.s (.int .u8 c)],σ=>some (.s (.int .i64 (Lib.indexByte s.data.toList c.toNat.toUInt8)),σ)
 | _,_=>none
def zj:List V->Heap->Option (V × Heap)
 | [.s (.str s)],σ=>if s.size=0 then some (.s (.str s),σ) else if s.size=1/\65<=(s.data.getD 0 0).toNat/\(s.data.getD 0 0).toNat<=90 then some (.s (.str ⟨#[s.data.getD 0 0+32]⟩),σ) else none
 | _,_=>none
def Rf (T:TypeId):List V->Heap->Option (V × Heap)
 | [.ptr b 0 2],σ=>match σ[b]? with
  | some (.vs (.ty t) [.pnil,x])=>if t=T then some (.tup [],σ.set b (.vs (.ty t) [.ptr b 0 2,x])) else none
  | some (.vs (.ty t) [.ptr c 0 2,_])=>if t=T/\c=b then some (.tup [],σ) else none
  | _=>none
 | _,_=>none
def growPrim (T el:TypeId):List V->Heap->Option (V × Heap)
 | [.ptr b 0 2,.s (.int .i64 n)],σ=>match σ[b]? with
  | some (.vs (.ty t) [.ptr c 0 2,.snil])=>if t=T/\c=b/\0<=n/\n<=281474976710656 then some (.tup [],σ.set b (.vs (.ty t) [.ptr b 0 2,.sl σ.length 0 0 1 .whole])++[.sc (.gty el) 0 (Wh .empty)]) else none
  | _=>none
 | _,_=>none
def Rs:S->Bool
 | .int .u8 n=>decide (0<=n/\n < 256)
 | _=>false
def Vn (f:Nat->S) (m:Nat):List UInt8:=(List.range m).map fun i=>UInt8.ofNat (byteOf (f i))
def TA (T el:TypeId):List V->Heap->Option (V × Heap)
 | [.ptr b 0 2],σ=>match σ[b]? with
  | some (.vs (.ty t) [_,.sl g 0 m 1 .whole])=>(match σ[g]? with
   | some (.sc (.gty e) _ f)=>if t=T/\e=el/\m≠0/\m<=140737488355328/\(List.range m).all (fun i=>Rs (f i))=true then some (.s (.str ⟨(Vn f m).toArray⟩),σ.set g .dead) else none
   | _=>none)
  | _=>none
 | _,_=>none
end Go.Am
namespace Go.Am
open Go
def primL:List (FuncId × (List V->Heap->Option (V × Heap))):=[(175,TG),(128,(J7 129)),(156,(Ty 155)),(167,Tm),(82,wd),(40,zj),(83,(Rf 54)),(26,(TA 54 5))]
def tQ (f:FuncId):List (FuncId × (List V->Heap->Option (V × Heap)))->Option (List V->Heap->Option (V × Heap))
 | []=>none
 | (g,p)::l=>bif Nat.beq f g then some p else tQ f l
def tG (f:FuncId):Option (List V->Heap->Option (V × Heap)):=tQ f primL
end Go.Am
namespace Go.Proofs.YtlkighkfkdpncaaGreatDoor
open Go Go.Am
set_option maxRecDepth 100000
def fnsL:List (FuncId × AF):=[(3,a3),(8,a8),(9,a9),(10,a10),(11,a11),(12,a12),(13,a13),(19,a19),(20,a20),(21,a21),(22,a22),(23,a23),(24,a24),(25,a25),(27,a27),(28,a28),(29,a29),(30,a30),(31,a31),(32,a32),(33,a33),(34,a34),(35,a35),(36,a36),(37,a37),(38,a38),(39,a39),(41,a41),(45,a45),(46,a46),(47,a47),(48,a48),(49,a49),(50,a50),(51,a51),(52,a52),(53,a53),(54,a54),(55,a55),(56,a56),(57,a57),(58,a58),(59,a59),(60,a60),(61,a61),(62,a62),(63,a63),(64,a64),(65,a65),(66,a66),(67,a67),(68,a68),(69,a69),(70,a70),(71,a71),(72,a72),(73,a73),(74,a74),(79,a79),(84,a84),(85,a85),(86,a86),(87,a87),(88,a88),(89,a89),(90,a90),(91,a91),(92,a92),(93,a93),(94,a94),(95,a95),(96,a96),(97,a97),(98,a98),(99,a99),(100,a100),(101,a101),(102,a102),(112,a112),(113,a113),(114,a114),(115,a115),(116,a116),(117,a117),(118,a118),(119,a119),(120,a120),(121,a121),(122,a122),(123,a123),(124,a124),(125,a125),(126,a126),(127,a127),(134,a134),(136,a136),(137,a137),(138,a138),(139,a139),(140,a140),(141,a141),(142,a142),(143,a143),(144,a144),(145,a145),(146,a146),(147,a147),(148,a148),(149,a149),(150,a150),(151,a151),(152,a152),(153,a153),(154,a154),(157,a157),(158,a158),(168,a168),(169,a169),(170,a170),(171,a171),(172,a172),(173,a173),(174,a174),(188,a188),(189,a189),(190,a190)]
theorem goodL:tI Tryz.prog fnsL:=⟨⟨_,false,Tryz.func3,by kernel_rfl⟩,⟨_,false,Tryz.func8,by kernel_rfl⟩,⟨_,false,Tryz.func9,by kernel_rfl⟩,⟨_,false,Tryz.func10,by kernel_rfl⟩,⟨_,false,Tryz.func11,by kernel_rfl⟩,⟨_,false,Tryz.func12,by kernel_rfl⟩,⟨_,false,Tryz.func13,by kernel_rfl⟩,⟨_,false,Tryz.func19,by kernel_rfl⟩,⟨_,false,Tryz.func20,by kernel_rfl⟩,⟨_,false,Tryz.func21,by kernel_rfl⟩,⟨_,false,Tryz.func22,by kernel_rfl⟩,⟨_,false,Tryz.func23,by kernel_rfl⟩,⟨_,false,Tryz.func24,by kernel_rfl⟩,⟨_,false,Tryz.func25,by kernel_rfl⟩,⟨_,false,Tryz.func27,by kernel_rfl⟩,⟨_,false,Tryz.func28,by kernel_rfl⟩,⟨_,false,Tryz.func29,by kernel_rfl⟩,⟨_,false,Tryz.func30,by kernel_rfl⟩,⟨_,false,Tryz.func31,by kernel_rfl⟩,⟨_,false,Tryz.func32,by kernel_rfl⟩,⟨_,false,Tryz.func33,by kernel_rfl⟩,⟨_,false,Tryz.func34,by kernel_rfl⟩,⟨_,false,Tryz.func35,by kernel_rfl⟩,⟨_,false,Tryz.func36,by kernel_rfl⟩,⟨_,false,Tryz.func37,by kernel_rfl⟩,⟨_,false,Tryz.func38,by kernel_rfl⟩,⟨_,false,Tryz.func39,by kernel_rfl⟩,⟨_,false,Tryz.func41,by kernel_rfl⟩,⟨_,false,Tryz.func45,by kernel_rfl⟩,⟨_,false,Tryz.func46,by kernel_rfl⟩,⟨_,false,Tryz.func47,by kernel_rfl⟩,⟨_,false,Tryz.func48,by kernel_rfl⟩,⟨_,false,Tryz.func49,by kernel_rfl⟩,⟨_,false,Tryz.func50,by kernel_rfl⟩,⟨_,false,Tryz.func51,by kernel_rfl⟩,⟨_,false,Tryz.func52,by kernel_rfl⟩,⟨_,false,Tryz.func53,by kernel_rfl⟩,⟨_,false,Tryz.func54,by kernel_rfl⟩,⟨_,false,Tryz.func55,by kernel_rfl⟩,⟨_,false,Tryz.func56,by kernel_rfl⟩,⟨_,false,Tryz.func57,by kernel_rfl⟩,⟨_,false,Tryz.func58,by kernel_rfl⟩,⟨_,false,Tryz.func59,by kernel_rfl⟩,⟨_,false,Tryz.func60,by kernel_rfl⟩,⟨_,false,Tryz.func61,by kernel_rfl⟩,⟨_,false,Tryz.func62,by kernel_rfl⟩,⟨_,false,Tryz.func63,by kernel_rfl⟩,⟨_,false,Tryz.func64,by kernel_rfl⟩,⟨_,false,Tryz.func65,by kernel_rfl⟩,⟨_,false,Tryz.func66,by kernel_rfl⟩,⟨_,false,Tryz.func67,by kernel_rfl⟩,⟨_,false,Tryz.func68,by kernel_rfl⟩,⟨_,false,Tryz.func69,by kernel_rfl⟩,⟨_,false,Tryz.func70,by kernel_rfl⟩,⟨_,false,Tryz.func71,by kernel_rfl⟩,⟨_,false,Tryz.func72,by kernel_rfl⟩,⟨_,false,Tryz.func73,by kernel_rfl⟩,⟨_,false,Tryz.func74,by kernel_rfl⟩,⟨_,false,Tryz.func79,by kernel_rfl⟩,⟨_,false,Tryz.func84,by kernel_rfl⟩,⟨_,false,Tryz.func85,by kernel_rfl⟩,⟨_,false,Tryz.func86,by kernel_rfl⟩,⟨_,false,Tryz.func87,by kernel_rfl⟩,⟨_,false,Tryz.func88,by kernel_rfl⟩,⟨_,false,Tryz.func89,by kernel_rfl⟩,⟨_,false,Tryz.func90,by kernel_rfl⟩,⟨_,false,Tryz.func91,by kernel_rfl⟩,⟨_,false,Tryz.func92,by kernel_rfl⟩,⟨_,false,Tryz.func93,by kernel_rfl⟩,⟨_,false,Tryz.func94,by kernel_rfl⟩,⟨_,false,Tryz.func95,by kernel_rfl⟩,⟨_,false,Tryz.func96,by kernel_rfl⟩,⟨_,false,Tryz.func97,by kernel_rfl⟩,⟨_,false,Tryz.func98,by kernel_rfl⟩,⟨_,false,Tryz.func99,by kernel_rfl⟩,⟨_,false,Tryz.func100,by kernel_rfl⟩,⟨_,false,Tryz.func101,by kernel_rfl⟩,⟨_,false,Tryz.func102,by kernel_rfl⟩,⟨_,false,Tryz.func112,by kernel_rfl⟩,⟨_,true,Tryz.func113,by kernel_rfl⟩,⟨_,false,Tryz.func114,by kernel_rfl⟩,⟨_,false,Tryz.func115,by kernel_rfl⟩,⟨_,false,Tryz.func116,by kernel_rfl⟩,⟨_,false,Tryz.func117,by kernel_rfl⟩,⟨_,false,Tryz.func118,by kernel_rfl⟩,⟨_,false,Tryz.func119,by kernel_rfl⟩,⟨_,false,Tryz.func120,by kernel_rfl⟩,⟨_,false,Tryz.func121,by kernel_rfl⟩,⟨_,false,Tryz.func122,by kernel_rfl⟩,⟨_,false,Tryz.func123,by kernel_rfl⟩,⟨_,false,Tryz.func124,by kernel_rfl⟩,⟨_,false,Tryz.func125,by kernel_rfl⟩,⟨_,false,Tryz.func126,by kernel_rfl⟩,⟨_,true,Tryz.func127,by kernel_rfl⟩,⟨_,false,Tryz.func134,by kernel_rfl⟩,⟨_,false,Tryz.func136,by kernel_rfl⟩,⟨_,false,Tryz.func137,by kernel_rfl⟩,⟨_,false,Tryz.func138,by kernel_rfl⟩,⟨_,false,Tryz.func139,by kernel_rfl⟩,⟨_,false,Tryz.func140,by kernel_rfl⟩,⟨_,false,Tryz.func141,by kernel_rfl⟩,⟨_,false,Tryz.func142,by kernel_rfl⟩,⟨_,false,Tryz.func143,by kernel_rfl⟩,⟨_,false,Tryz.func144,by kernel_rfl⟩,⟨_,false,Tryz.func145,by kernel_rfl⟩,⟨_,false,Tryz.func146,by kernel_rfl⟩,⟨_,false,Tryz.func147,by kernel_rfl⟩,⟨_,false,Tryz.func148,by kernel_rfl⟩,⟨_,false,Tryz.func149,by kernel_rfl⟩,⟨_,false,Tryz.func150,by kernel_rfl⟩,⟨_,false,Tryz.func151,by kernel_rfl⟩,⟨_,false,Tryz.func152,by kernel_rfl⟩,⟨_,false,Tryz.func153,by kernel_rfl⟩,⟨_,false,Tryz.func154,by kernel_rfl⟩,⟨_,false,Tryz.func157,by kernel_rfl⟩,⟨_,false,Tryz.func158,by kernel_rfl⟩,⟨_,false,Tryz.func168,by kernel_rfl⟩,⟨_,false,Tryz.func169,by kernel_rfl⟩,⟨_,false,Tryz.func170,by kernel_rfl⟩,⟨_,false,Tryz.func171,by kernel_rfl⟩,⟨_,false,Tryz.func172,by kernel_rfl⟩,⟨_,false,Tryz.func173,by kernel_rfl⟩,⟨_,false,Tryz.func174,by kernel_rfl⟩,⟨_,false,Tryz.func188,by kernel_rfl⟩,⟨_,false,Tryz.func189,by kernel_rfl⟩,⟨_,false,Tryz.func190,by kernel_rfl⟩,trivial⟩
def B11:BF:=⟨Jc,[6,7],g11,b11⟩
def B54:BF:=⟨wD,[22],g54,b54⟩
def B100:BF:=⟨KB,[6],g100,b100⟩
def bodF (k:Nat):Option BF:=bif Nat.beq k 607 then some B11 else bif Nat.beq k 22 then some B54 else bif Nat.beq k 6 then some B100 else none
def AM:AP:={ fns:=fun f=>xk f fnsL,prims:=tG,bods:=bodF }
theorem bod11:B11.rd.ps.toList=B11.ps/\Wl Tryz.prog false B11.rd.asg=some B11.asg/\Wl Tryz.prog false B11.rd.body=some B11.body/\WL B11.rd.asg=true/\WL B11.rd.body=true/\WZ B11.rd.asg=true/\WZ B11.rd.body=true:=⟨by kernel_rfl,by kernel_rfl,by kernel_rfl,by kernel_rfl,by kernel_rfl,by kernel_rfl,by kernel_rfl⟩
theorem bod54:B54.rd.ps.toList=B54.ps/\Wl Tryz.prog false B54.rd.asg=some B54.asg/\Wl Tryz.prog false B54.rd.body=some B54.body/\WL B54.rd.asg=true/\WL B54.rd.body=true/\WZ B54.rd.asg=true/\WZ B54.rd.body=true:=⟨by kernel_rfl,by kernel_rfl,by kernel_rfl,by kernel_rfl,by kernel_rfl,by kernel_rfl,by kernel_rfl⟩
theorem bod100:B100.rd.ps.toList=B100.ps/\Wl Tryz.prog false B100.rd.asg=some B100.asg/\Wl Tryz.prog false B100.rd.body=some B100.body/\WL B100.rd.asg=true/\WL B100.rd.body=true/\WZ B100.rd.asg=true/\WZ B100.rd.body=true:=⟨by kernel_rfl,by kernel_rfl,by kernel_rfl,by kernel_rfl,by kernel_rfl,by kernel_rfl,by kernel_rfl⟩
theorem bodsOK:yU Tryz.prog AM:=fun k B h=>by
 have h:bodF k=some B:=h
 unfold bodF at h
 cases h0:Nat.beq k 607 with
 | true=>rw [h0,cond_true] at h; injection h with h; subst h; exact bod11
 | false =>
 rw [h0,cond_false] at h
 cases h0:Nat.beq k 22 with
 | true=>rw [h0,cond_true] at h; injection h with h; subst h; exact bod54
 | false =>
 rw [h0,cond_false] at h
 cases h0:Nat.beq k 6 with
 | true=>rw [h0,cond_true] at h; injection h with h; subst h; exact bod100
 | false =>
 rw [h0,cond_false] at h
 cases h
theorem fnsOK:q7 Tryz.prog AM:=fun _ _ h=>yF goodL h
end Go.Proofs.YtlkighkfkdpncaaGreatDoor
namespace Go.Proofs
open Go.Shelf
def Tryz.lays189_ren:Go.Shelf.Ren:=⟨fun | 189=>175 | 125=>160 | 257=>191 | 128=>184 | 129=>185 | 294=>197 | 295=>198 | 296=>199 | 297=>200 | 298=>201 | 299=>202 | 216=>203 | 300=>204 | 301=>205 | 328=>207 | 329=>193 | 330=>194 | 331=>208 | 332=>209 | 215=>186 | 343=>210 | n=>n,fun | 28=>100 | 3=>3 | 46=>147 | 0=>0 | 51=>193 | 53=>212 | 4=>4 | 183=>205 | 182=>204 | 131=>122 | 5=>5 | 9=>9 | 218=>221 | 222=>225 | 228=>233 | 229=>178 | n=>n,fun | n=>n⟩
theorem Tryz.lays189:Go.Proofs.Lays.n189 Tryz.prog Tryz.lays189_ren:={
 mixed:=by kernel_rfl
 f125:=Tryz.func160.trans (congrArg some (by kernel_rfl))
 f128:=Tryz.func184.trans (congrArg some (by kernel_rfl))
 f129:=Tryz.func185.trans (congrArg some (by kernel_rfl))
 f189:=Tryz.func175.trans (congrArg some (by kernel_rfl))
 f215:=Tryz.func186.trans (congrArg some (by kernel_rfl))
 f216:=Tryz.func203.trans (congrArg some (by kernel_rfl))
 f257:=Tryz.func191.trans (congrArg some (by kernel_rfl))
 f294:=Tryz.func197.trans (congrArg some (by kernel_rfl))
 f295:=Tryz.func198.trans (congrArg some (by kernel_rfl))
 f296:=Tryz.func199.trans (congrArg some (by kernel_rfl))
 f297:=Tryz.func200.trans (congrArg some (by kernel_rfl))
 f298:=Tryz.func201.trans (congrArg some (by kernel_rfl))
 f299:=Tryz.func202.trans (congrArg some (by kernel_rfl))
 f300:=Tryz.func204.trans (congrArg some (by kernel_rfl))
 f301:=Tryz.func205.trans (congrArg some (by kernel_rfl))
 f328:=Tryz.func207.trans (congrArg some (by kernel_rfl))
 f329:=Tryz.func193.trans (congrArg some (by kernel_rfl))
 f330:=Tryz.func194.trans (congrArg some (by kernel_rfl))
 f331:=Tryz.func208.trans (congrArg some (by kernel_rfl))
 f332:=Tryz.func209.trans (congrArg some (by kernel_rfl))
 f343:=Tryz.func210.trans (congrArg some (by kernel_rfl))
 t0:=Tryz.underlying0
 a0:=Tryz.isAgg0
 z0:=Tryz.sizeOf0
 v0:=Tryz.zeroValue0
 t3:=Tryz.underlying3
 a3:=Tryz.isAgg3
 z3:=Tryz.sizeOf3
 v3:=Tryz.zeroValue3
 t4:=Tryz.underlying4
 a4:=Tryz.isAgg4
 z4:=Tryz.sizeOf4
 v4:=Tryz.zeroValue4
 t5:=Tryz.underlying5
 a5:=Tryz.isAgg5
 z5:=Tryz.sizeOf5
 v5:=Tryz.zeroValue5
 t9:=Tryz.underlying9
 a9:=Tryz.isAgg9
 z9:=Tryz.sizeOf9
 v9:=Tryz.zeroValue9
 t28:=Tryz.underlying100
 a28:=Tryz.isAgg100
 z28:=Tryz.sizeOf100
 v28:=Tryz.zeroValue100
 t46:=Tryz.underlying147
 a46:=Tryz.isAgg147
 z46:=Tryz.sizeOf147
 v46:=Tryz.zeroValue147
 t51:=Tryz.underlying193
 a51:=Tryz.isAgg193
 z51:=Tryz.sizeOf193
 v51:=Tryz.zeroValue193
 t53:=Tryz.underlying212
 a53:=Tryz.isAgg212
 z53:=Tryz.sizeOf212
 v53:=Tryz.zeroValue212
 t131:=Tryz.underlying122
 a131:=Tryz.isAgg122
 z131:=Tryz.sizeOf122
 v131:=Tryz.zeroValue122
 t182:=Tryz.underlying204
 a182:=Tryz.isAgg204
 z182:=Tryz.sizeOf204
 v182:=Tryz.zeroValue204
 t183:=Tryz.underlying205
 a183:=Tryz.isAgg205
 z183:=Tryz.sizeOf205
 v183:=Tryz.zeroValue205
 t218:=Tryz.underlying221
 a218:=Tryz.isAgg221
 z218:=Tryz.sizeOf221
 v218:=Tryz.zeroValue221
 t222:=Tryz.underlying225
 a222:=Tryz.isAgg225
 z222:=Tryz.sizeOf225
 v222:=Tryz.zeroValue225
 t228:=Tryz.underlying233
 a228:=Tryz.isAgg233
 z228:=Tryz.sizeOf233
 v228:=Tryz.zeroValue233
 t229:=Tryz.underlying178
 a229:=Tryz.isAgg178
 z229:=Tryz.sizeOf178
 v229:=Tryz.zeroValue178 }
open Go.Sort Go.RowKit in
theorem Tryz.slices_Sort_int (blk off cap:Nat) (zs:List Int) (w:World) (hH:Holds (Value.int .i64) w blk off zs.toArray) (hblk:blk < w.heap.size) (hsz:zs.length < 4611686018427387904) :
 Calls Tryz.prog 175 #[.slice (some ⟨blk,off,none⟩) zs.length cap] w fun e w' =>
  e=.returned (.tuple #[])/\∃ n os,w'=grow (putRow (Value.int .i64) (Sort.ahead w n) blk off (zs.mergeSort fun x y=>decide (x<=y)).toArray) os:=Any.slices_Sort_int Tryz.lays189 blk off cap zs w hH hblk hsz
open Go.RowKit Go.Sort in
theorem Tryz.slices_Sort_int_none (p:Option Addr) (cap:Nat) (w:World) :
 Calls Tryz.prog 175 #[.slice p 0 cap] w fun e w'=>e=.returned (.tuple #[])/\w'=w:=Any.slices_Sort_int_none Tryz.lays189 p cap w
def Tryz.laysSlH6_f174_ren:Go.Shelf.Ren:=⟨fun | 6=>174 | n=>n,fun | 22=>100 | 23=>3 | 25=>103 | 3=>3 | 0=>0 | 4=>4 | n=>n,fun | n=>n⟩
theorem Tryz.laysSlH6_f174:Go.Proofs.SlLaysH.n6 Tryz.prog Tryz.laysSlH6_f174_ren:={
 mixed:=by kernel_rfl
 f6:=⟨Tryz.f174.name,by decide,Tryz.func174.trans (congrArg some (by kernel_rfl))⟩
 t0:=Tryz.underlying0
 a0:=Tryz.isAgg0
 z0:=Tryz.sizeOf0
 v0:=Tryz.zeroValue0
 t3:=Tryz.underlying3
 a3:=Tryz.isAgg3
 z3:=Tryz.sizeOf3
 v3:=Tryz.zeroValue3
 t4:=Tryz.underlying4
 a4:=Tryz.isAgg4
 z4:=Tryz.sizeOf4
 v4:=Tryz.zeroValue4
 t22:=Tryz.underlying100
 a22:=Tryz.isAgg100
 z22:=Tryz.sizeOf100
 v22:=Tryz.zeroValue100
 a23:=Tryz.isAgg3
 z23:=Tryz.sizeOf3
 t25:=Tryz.underlying103
 a25:=Tryz.isAgg103
 z25:=Tryz.sizeOf103
 v25:=Tryz.zeroValue103 }
open Go.RowKit Go.Lib in
theorem Tryz.slices_IndexFunc_empty {α:Type} [Inhabited α] (a:Option Addr) (c:Nat) (fv:Value) (w:World) :
 Calls Tryz.prog 174 #[.slice a 0 c,fv] w fun e w'=>e=.returned (.int .i64 (-1))/\w'=w:=AnyE.slices_IndexFunc_empty Tryz.laysSlH6_f174 a c fv w
def Tryz.laysSlH10_f156_ren:Go.Shelf.Ren:=⟨fun | 10=>156 | 6=>174 | n=>n,fun | 22=>100 | 23=>3 | 25=>103 | 3=>3 | 4=>4 | 0=>0 | n=>n,fun | n=>n⟩
theorem Tryz.laysSlH10_f156:Go.Proofs.SlLaysH.n10 Tryz.prog Tryz.laysSlH10_f156_ren:={
 mixed:=by kernel_rfl
 f6:=⟨Tryz.f174.name,by decide,Tryz.func174.trans (congrArg some (by kernel_rfl))⟩
 f10:=⟨Tryz.f156.name,by decide,Tryz.func156.trans (congrArg some (by kernel_rfl))⟩
 t0:=Tryz.underlying0
 a0:=Tryz.isAgg0
 z0:=Tryz.sizeOf0
 v0:=Tryz.zeroValue0
 t3:=Tryz.underlying3
 a3:=Tryz.isAgg3
 z3:=Tryz.sizeOf3
 v3:=Tryz.zeroValue3
 t4:=Tryz.underlying4
 a4:=Tryz.isAgg4
 z4:=Tryz.sizeOf4
 v4:=Tryz.zeroValue4
 t22:=Tryz.underlying100
 a22:=Tryz.isAgg100
 z22:=Tryz.sizeOf100
 v22:=Tryz.zeroValue100
 a23:=Tryz.isAgg3
 z23:=Tryz.sizeOf3
 t25:=Tryz.underlying103
 a25:=Tryz.isAgg103
 z25:=Tryz.sizeOf103
 v25:=Tryz.zeroValue103 }
open Go.RowKit Go.Lib Go.Sort in
theorem Tryz.slices_DeleteFunc {α:Type} [Inhabited α] (enc:α->Value) (hO:OneCell enc) (p:α->Bool) (g:Nat) (lb:Array Value) (eg:∀ args w,(callFunc g args).run Tryz.prog w=.ok (.enter g args) w) (zr:α) (v23:∀ w,(zeroValue 3).run Tryz.prog w=.ok (enc zr) w) (blk off cap:Nat) (d:Array α) (w:World) (hp:PredAt Tryz.prog g lb enc p w) (hpo:PredOver Tryz.prog g lb enc p blk off d.size w) (hH:Holds enc w blk off d) (hsz:d.size<=9223372036854775807) (hcap:d.size<=cap) :
 Calls Tryz.prog 156 #[.slice (some ⟨blk,off,none⟩) d.size cap,.func (.func g) #[] lb] w fun e w'=>e=.returned (.slice (some ⟨blk,off,none⟩) (d.toList.filter fun x=>!p x).length cap)/\∃ q,w'=putRow enc (Sort.ahead w q) blk off ((d.toList.filter fun x=>!p x)++List.replicate (d.size - (d.toList.filter fun x=>!p x).length) zr).toArray:=AnyE.slices_DeleteFunc Tryz.laysSlH10_f156 enc hO p g lb eg zr v23 blk off cap d w hp hpo hH hsz hcap
def Tryz.laysSF_ren:Go.Shelf.Ren:=⟨fun | 6=>128 | 15=>160 | 14=>159 | 28=>184 | 29=>185 | 20=>176 | 21=>177 | 22=>178 | 23=>179 | 24=>180 | 25=>181 | 26=>182 | 27=>183 | 46=>192 | 47=>193 | 48=>194 | 49=>195 | 50=>196 | 57=>206 | n=>n,fun | 22=>37 | 24=>31 | 25=>162 | 3=>3 | 39=>147 | 0=>0 | 53=>193 | 55=>212 | 4=>4 | 46=>205 | 45=>204 | 50=>122 | 5=>5 | 9=>9 | 66=>221 | 70=>225 | 76=>233 | 77=>178 | n=>n,fun | n=>n⟩
theorem Tryz.laysSF:Go.Proofs.SlLaysF0.n6 Tryz.prog Tryz.laysSF_ren:={
 mixed:=by kernel_rfl
 f6:=⟨Tryz.f128.name,by decide,Tryz.func128.trans (congrArg some (by kernel_rfl))⟩
 f14:=⟨Tryz.f159.name,by decide,Tryz.func159.trans (congrArg some (by kernel_rfl))⟩
 f15:=Tryz.func160.trans (congrArg some (by kernel_rfl))
 f20:=⟨Tryz.f176.name,by decide,Tryz.func176.trans (congrArg some (by kernel_rfl))⟩
 f21:=⟨Tryz.f177.name,by decide,Tryz.func177.trans (congrArg some (by kernel_rfl))⟩
 f22:=⟨Tryz.f178.name,by decide,Tryz.func178.trans (congrArg some (by kernel_rfl))⟩
 f23:=⟨Tryz.f179.name,by decide,Tryz.func179.trans (congrArg some (by kernel_rfl))⟩
 f24:=⟨Tryz.f180.name,by decide,Tryz.func180.trans (congrArg some (by kernel_rfl))⟩
 f25:=⟨Tryz.f181.name,by decide,Tryz.func181.trans (congrArg some (by kernel_rfl))⟩
 f26:=⟨Tryz.f182.name,by decide,Tryz.func182.trans (congrArg some (by kernel_rfl))⟩
 f27:=⟨Tryz.f183.name,by decide,Tryz.func183.trans (congrArg some (by kernel_rfl))⟩
 f28:=Tryz.func184.trans (congrArg some (by kernel_rfl))
 f29:=Tryz.func185.trans (congrArg some (by kernel_rfl))
 f46:=⟨Tryz.f192.name,by decide,Tryz.func192.trans (congrArg some (by kernel_rfl))⟩
 f47:=Tryz.func193.trans (congrArg some (by kernel_rfl))
 f48:=Tryz.func194.trans (congrArg some (by kernel_rfl))
 f49:=⟨Tryz.f195.name,by decide,Tryz.func195.trans (congrArg some (by kernel_rfl))⟩
 f50:=⟨Tryz.f196.name,by decide,Tryz.func196.trans (congrArg some (by kernel_rfl))⟩
 f57:=⟨Tryz.f206.name,by decide,Tryz.func206.trans (congrArg some (by kernel_rfl))⟩
 t0:=Tryz.underlying0
 a0:=Tryz.isAgg0
 z0:=Tryz.sizeOf0
 v0:=Tryz.zeroValue0
 t3:=Tryz.underlying3
 a3:=Tryz.isAgg3
 z3:=Tryz.sizeOf3
 v3:=Tryz.zeroValue3
 t4:=Tryz.underlying4
 a4:=Tryz.isAgg4
 z4:=Tryz.sizeOf4
 v4:=Tryz.zeroValue4
 t5:=Tryz.underlying5
 a5:=Tryz.isAgg5
 z5:=Tryz.sizeOf5
 v5:=Tryz.zeroValue5
 t9:=Tryz.underlying9
 a9:=Tryz.isAgg9
 z9:=Tryz.sizeOf9
 v9:=Tryz.zeroValue9
 t22:=Tryz.underlying37
 a22:=Tryz.isAgg37
 z22:=Tryz.sizeOf37
 v22:=Tryz.zeroValue37
 t25:=Tryz.underlying162
 a25:=Tryz.isAgg162
 z25:=Tryz.sizeOf162
 v25:=Tryz.zeroValue162
 t39:=Tryz.underlying147
 a39:=Tryz.isAgg147
 z39:=Tryz.sizeOf147
 v39:=Tryz.zeroValue147
 t45:=Tryz.underlying204
 a45:=Tryz.isAgg204
 z45:=Tryz.sizeOf204
 v45:=Tryz.zeroValue204
 t46:=Tryz.underlying205
 a46:=Tryz.isAgg205
 z46:=Tryz.sizeOf205
 v46:=Tryz.zeroValue205
 t50:=Tryz.underlying122
 a50:=Tryz.isAgg122
 z50:=Tryz.sizeOf122
 v50:=Tryz.zeroValue122
 t53:=Tryz.underlying193
 a53:=Tryz.isAgg193
 z53:=Tryz.sizeOf193
 v53:=Tryz.zeroValue193
 t55:=Tryz.underlying212
 a55:=Tryz.isAgg212
 z55:=Tryz.sizeOf212
 v55:=Tryz.zeroValue212
 t66:=Tryz.underlying221
 a66:=Tryz.isAgg221
 z66:=Tryz.sizeOf221
 v66:=Tryz.zeroValue221
 t70:=Tryz.underlying225
 a70:=Tryz.isAgg225
 z70:=Tryz.sizeOf225
 v70:=Tryz.zeroValue225
 t76:=Tryz.underlying233
 a76:=Tryz.isAgg233
 z76:=Tryz.sizeOf233
 v76:=Tryz.zeroValue233
 t77:=Tryz.underlying178
 a77:=Tryz.isAgg178
 z77:=Tryz.sizeOf178
 v77:=Tryz.zeroValue178 }
def Tryz.laysGrow_ren:Go.Shelf.Ren:=⟨fun | 4=>167 | n=>n,fun | 22=>175 | 25=>169 | 3=>3 | 4=>4 | 9=>9 | 20=>20 | 0=>0 | n=>n,fun | n=>n⟩
theorem Tryz.laysGrow:Go.Proofs.Lays8.n4 Tryz.prog Tryz.laysGrow_ren:={
 mixed:=by kernel_rfl
 f4:=⟨Tryz.f167.name,by decide,Tryz.func167.trans (congrArg some (by kernel_rfl))⟩
 t0:=Tryz.underlying0
 a0:=Tryz.isAgg0
 z0:=Tryz.sizeOf0
 v0:=Tryz.zeroValue0
 t3:=Tryz.underlying3
 a3:=Tryz.isAgg3
 z3:=Tryz.sizeOf3
 v3:=Tryz.zeroValue3
 t4:=Tryz.underlying4
 a4:=Tryz.isAgg4
 z4:=Tryz.sizeOf4
 v4:=Tryz.zeroValue4
 t9:=Tryz.underlying9
 a9:=Tryz.isAgg9
 z9:=Tryz.sizeOf9
 v9:=Tryz.zeroValue9
 t20:=Tryz.underlying20
 a20:=Tryz.isAgg20
 z20:=Tryz.sizeOf20
 v20:=Tryz.zeroValue20
 t22:=Tryz.underlying175
 a22:=Tryz.isAgg175
 z22:=Tryz.sizeOf175
 v22:=Tryz.zeroValue175 }
def Tryz.laysCmp_ren:Go.Shelf.Ren:=⟨fun | 5=>162 | 7=>186 | n=>n,fun | 22=>3 | 3=>3 | 4=>4 | n=>n,fun | n=>n⟩
theorem Tryz.laysCmp:Go.Proofs.SlLaysC2.n5 Tryz.prog Tryz.laysCmp_ren:={
 mixed:=by kernel_rfl
 f5:=⟨Tryz.f162.name,by decide,Tryz.func162.trans (congrArg some (by kernel_rfl))⟩
 f7:=⟨Tryz.f186.name,by decide,Tryz.func186.trans (congrArg some (by kernel_rfl))⟩
 t3:=Tryz.underlying3
 a3:=Tryz.isAgg3
 z3:=Tryz.sizeOf3
 v3:=Tryz.zeroValue3
 t4:=Tryz.underlying4
 a4:=Tryz.isAgg4
 z4:=Tryz.sizeOf4
 v4:=Tryz.zeroValue4
 t22:=Tryz.underlying3
 a22:=Tryz.isAgg3
 z22:=Tryz.sizeOf3
 v22:=Tryz.zeroValue3 }
def Tryz.laysCmpK_ren:Go.Shelf.Ren:=⟨fun | 5=>163 | 7=>187 | n=>n,fun | 22=>22 | 3=>3 | 4=>4 | n=>n,fun | n=>n⟩
theorem Tryz.laysCmpK:Go.Proofs.SlLaysC2.n5 Tryz.prog Tryz.laysCmpK_ren:={
 mixed:=by kernel_rfl
 f5:=⟨Tryz.f163.name,by decide,Tryz.func163.trans (congrArg some (by kernel_rfl))⟩
 f7:=⟨Tryz.f187.name,by decide,Tryz.func187.trans (congrArg some (by kernel_rfl))⟩
 t3:=Tryz.underlying3
 a3:=Tryz.isAgg3
 z3:=Tryz.sizeOf3
 v3:=Tryz.zeroValue3
 t4:=Tryz.underlying4
 a4:=Tryz.isAgg4
 z4:=Tryz.sizeOf4
 v4:=Tryz.zeroValue4
 t22:=Tryz.underlying22
 a22:=Tryz.isAgg22
 z22:=Tryz.sizeOf22
 v22:=Tryz.zeroValue22 }
end Go.Proofs
namespace Go.Proofs.YtlkighkfkdpncaaGreatDoor
open Go Go.Am Go.RowKit
theorem ka [Bas] {ι:Inj} {σ:Heap} {W W':World} (hR:RelW ι σ W) {b:Nat} {p:Am.Place} {x x':Blk} (hp:ι b=some p) (hb:σ[b]? = some x) (hm:x.mut=true)
  (hs:Same W W') (hh:∀ c,c < W.heap.size->c≠p.c->W'.heap[c]? = W.heap[c]?) (hx:BlkR ι W' x' p):Post ι σ W ι (σ.set b x') W':=by
 have hlt:b < σ.length:=by
  rcases Za0 b σ.length with h | h
  ·exact h
  rw [Zbg h] at hb; simp at hb
 have hmut:∀ c,mutb (σ.set b x') c->mutb σ c:=by
  rintro c ⟨y,hy,hym⟩
  by_cases e:b=c
  ·subst e; exact ⟨x,hb,hm⟩
  rw [Zbl e] at hy; exact ⟨y,hy,hym⟩
 have hlive:∀ c,X8 (σ.set b x') c->X8 σ c:=by
  rintro c ⟨y,hy,hym⟩
  by_cases e:b=c
  ·subst e; exact ⟨x,hb,ql hm⟩
  rw [Zbl e] at hy; exact ⟨y,hy,hym⟩
 refine ⟨hs,.refl ι,⟨fun c q hq=>ZaH (hR.lt c q hq) hs.size,fun c q y hq hy=>?_,fun c c' q q' hq hq' hne h1 h2=>hR.sep c c' q q' hq hq' hne (hmut c h1) (hlive c' h2),fun c q hq h=>hR.gap c q hq (hmut c h),ZaZ hR.bsz hs.size,fun c hc=>(hh c (ZaH hc hR.bsz) (by have:=hR.gap b p hp ⟨x,hb,hm⟩; omega)).trans (hR.bas c hc)⟩,by simp,fun c hc1 hc=>?_,fun c q hq hn=>by simp [hq] at hn,fun c _ h=>hmut c h,fun c _ h=>hlive c h⟩
 ·by_cases e:b=c
  ·subst e
   rw [hp] at hq
   injection hq with hq
   subst hq
   rw [Zbe hlt] at hy
   injection hy with hy
   subst hy
   exact hx
  rw [Zbl e] at hy
  have hold:=hR.blk c q y hq hy
  cases hyl:y.live with
  | true=>exact hold.keep (.refl ι) (hh _ (hR.lt c q hq) (fun hc=>hR.sep b c p q hp hq e ⟨x,hb,hm⟩ ⟨y,hy,hyl⟩ hc.symm))
  | false=>cases y <;> simp [Blk.live] at hyl; trivial
 exact hh c hc1 (fun e=>hc b p hp ⟨x,hb,hm⟩ e.symm)
theorem wy {α:Type} [Inhabited α] {ι:Inj} {W:World} {q:Nat} {g:Nat->S} {p:Am.Place} (hB:BlkR ι W (.sc .grow q g) p) (enc:α->Value) (d:Array α) (l:List Int) (hl:d.size=l.length) (hq:l.length<=q) (hd:∀ i,i < l.length->enc d[i]! = .int .i64 (l.getD i 0)) (n:Nat) (os:Array Obj) (hlt:p.c < W.heap.size) :
  BlkR ι (Sort.grow (Sort.putRow enc (Sort.ahead W n) p.c p.base d) os) (.sc .grow q (ED l g)) p/\(∀ c,c < W.heap.size->c≠p.c->(Sort.grow (Sort.putRow enc (Sort.ahead W n) p.c p.base d) os).heap[c]? = W.heap[c]?):=by
 obtain ⟨h1,h2,h3⟩:=hB
 obtain ⟨hb0,hle,cs,T,hc,hs,hT⟩:=h3 rfl
 have hH:(Sort.putRow enc (Sort.ahead W n) p.c p.base d).heap=W.heap.modify p.c (Sort.onCells (Sort.putCells enc p.base d)):=rfl
 have hsz:(Sort.putRow enc (Sort.ahead W n) p.c p.base d).heap.size=W.heap.size:=by rw [hH]; simp
 have hg:(Sort.grow (Sort.putRow enc (Sort.ahead W n) p.c p.base d) os).heap[p.c]? = some (.cells (Sort.putCells enc p.base d cs) T (0,0)):=by
  rw [Sort.heap_grow_old _ _ (by rw [hsz]; exact hlt),hH,Array.getElem?_modify,Za8 rfl,hc]; rfl
 have hcell:∀ i,(Sort.grow (Sort.putRow enc (Sort.ahead W n) p.c p.base d) os).cell? ⟨p.c,p.base+i,none⟩=(Sort.putCells enc p.base d cs)[p.base+i]?:=fun i=>Lib.cell_of_heap hg _
 refine ⟨⟨h1,fun i hi=>?_,fun _=>⟨hb0,hle,_,T,hg,?_,hT⟩⟩,fun c hc1 hc2=>?_⟩
 ·rw [hcell]
  have h0:=h2 i hi
  rw [Lib.cell_of_heap hc] at h0
  unfold Sort.putCells ED
  rw [Array.getElem?_mapIdx,h0,Option.map_some]
  by_cases hil:i < l.length
  ·rw [Za8 (by omega),show Nat.blt i l.length=true from ZaA hil,cond_true,Nat.add_sub_cancel_left,hd i hil]; rfl
  have hbf:Nat.blt i l.length=false:=by
   cases h:Nat.blt i l.length with
   | false=>rfl
   | true=>exact absurd (YF h) (by omega)
  rw [Za7 (by omega),hbf,cond_false]
 ·unfold Sort.putCells
  rw [Array.size_mapIdx]; exact hs
 rw [Sort.heap_grow_old _ _ (by rw [hsz]; exact hc1),hH,Array.getElem?_modify,Za7 (fun e=>hc2 e.symm)]
theorem Dv {x:S} (h:VY x=true):x.val=.int .i64 (Ws x):=by
 cases x with
 | int k n=>cases k <;> first | rfl | cases h
 | _=>cases h
theorem RA {p:Nat->Bool}:∀ {n:Nat},Xs n p=true->∀ i,i < n->p i=true
 | n+1,h,i,hi=>by
  have h:(Xs n p&&p n)=true:=h
  rw [ZaM] at h
  by_cases e:i=n
  ·subst e; exact h.2
  exact RA h.1 i (by omega)
theorem QG (g:Nat->S) (m:Nat):(XW g m).length=m:=by simp [XW]
theorem tl (g:Nat->S) {m i:Nat} (hi:i < m):(XW g m).getD i 0=Ws (g i):=by
 unfold XW
 rw [Zau,Zbp,Zbm hi]; rfl
theorem wB (l:List Int) {i:Nat} (hi:i < l.length):l.toArray[i]! = l.getD i 0:=by
 rw [Zau,Zav hi,getElem!_pos l.toArray i (by simpa using hi)]; simp
theorem qB {ι:Inj} {W:World} {q m:Nat} {g:Nat->S} {p:Am.Place} (hB:BlkR ι W (.sc .grow q g) p) (hm:m<=q) (hg:∀ i,i < m->VY (g i)=true):Sort.Holds (Value.int .i64) W p.c p.base (XW g m).toArray:=by
 obtain ⟨h1,h2,h3⟩:=hB
 obtain ⟨hb0,hle,cs,T,hc,hs,hT⟩:=h3 rfl
 intro j hj
 have hj:j < m:=by simpa [XW] using hj
 refine ⟨?_,Lib.frozen_of_heap hc _⟩
 rw [h2 j (by omega),Dv (hg j hj),wB _ (by rw [QG]; exact hj),tl g hj]
section
variable {σ σ':Heap} {args:List V} {v:V} {ι:Inj} {W:World} {av:List Value}
theorem srt_ok [Bas] (h:TG args σ=some (v,σ')) (hR:RelW ι σ W) (hD:Dom ι σ) (hv:VRL ι args av) :
  Calls Tryz.prog 175 av.toArray W fun e W'=>∃ ι' v',e=.returned v'/\VR ι' v v'/\Post ι σ W ι' σ' W':=by
 unfold TG at h
 split at h
 ·injection h with h
  injection h with h1 h2
  subst h1; subst h2
  simp only [VRL,VR] at hv
  obtain ⟨_,_,rfl,rfl,rfl⟩:=hv
  refine (Tryz.slices_Sort_int_none none 0 W).mono ?_
  rintro e W' ⟨rfl,rfl⟩
  exact ⟨ι,_,rfl,⟨[],rfl,rfl⟩,(QPost.refl hR).post⟩
 ·rename_i b m
  split at h
  ·rename_i q g hb
   cases hc:(Xs m (fun i=>VY (g i))&&Nat.blt m 4611686018427387904) with
   | false=>rw [hc] at h; cases h
   | true =>
    rw [hc,cond_true] at h
    rw [ZaM] at hc
    injection h with h
    injection h with h1 h2
    subst h1; subst h2
    simp only [VRL,VR] at hv
    obtain ⟨_,_,rfl,⟨p,c,hp,hle,rfl,hcap⟩,rfl⟩:=hv
    have hB:=hR.blk b p _ hp hb
    have hlt:=hR.lt b p hp
    have hmq:m<=q:=by have:=hB.1; omega
    have hm:m < 4611686018427387904:=YF hc.2
    have hcon:=Tryz.slices_Sort_int p.c p.base c (XW g m) W (qB hB hmq (RA hc.1)) hlt (by rw [QG]; exact hm)
    rw [QG] at hcon
    refine hcon.mono ?_
    rintro e W' ⟨rfl,n,os,rfl⟩
    have hsl:(K0 (XW g m)).length=m:=by rw [(Kc _).length_eq,QG]
    obtain ⟨r1,r2⟩:=wy hB (Value.int .i64) (K0 (XW g m)).toArray (K0 (XW g m)) (by simp) (by omega) (fun i hi=>congrArg (Value.int .i64) (wB _ hi)) n os hlt
    refine ⟨ι,_,rfl,⟨[],rfl,rfl⟩,ka hR hp hb rfl ⟨rfl,rfl,rfl,?_⟩ r2 r1⟩
    simp [Sort.grow,Sort.putRow,Sort.mapBlock,Sort.ahead]
  cases h
 cases h
end
end Go.Proofs.YtlkighkfkdpncaaGreatDoor
namespace Go.Proofs.YtlkighkfkdpncaaGreatDoor
open Go Go.Am Go.RowKit Go.Sort Go.Lib
set_option maxHeartbeats 4000000 in
theorem qK (H:Nat->Int) (t:Int) (ht:0<=t/\t < 64) (B o:Nat) (W:World) (hc:∀ i,i < 136->W.cell? ⟨B,o+i,none⟩=some (.int .i64 (H i))) :
  FnGives Tryz.prog 155 #[.pointer (some ⟨B,o,none⟩)] #[.int .i64 t] (.bool (U7 (ia H) t)) W:=by
 show Calls Tryz.prog 155 #[.int .i64 t,.pointer (some ⟨B,o,none⟩)] W _
 have h1:=hc (t.toNat*2) (by omega)
 have h2:=hc (t.toNat*2+1) (by omega)
 have h3:=hc 135 (by omega)
 have hr:U7 (ia H) t=(!(decide (H (t.toNat*2)=0)&&decide (H (t.toNat*2+1)=0))&&decide (H (t.toNat*2+1)=H 135)):=rfl
 rw [hr]
 clear hr hc
 obtain ⟨h0,h64⟩:=ht
 generalize H (t.toNat*2)=a at *
 generalize H (t.toNat*2+1)=b at *
 generalize H 135=c at *
 have g2:W.cell? ⟨B,o+t.toNat*2+1,none⟩=some (.int .i64 b):=h2
 have g3:W.cell? ⟨B,o+134+1,none⟩=some (.int .i64 c):=h3
 by_cases e1:a=0 <;> by_cases e2:b=0 <;> by_cases e3:b=c
 all_goals
  go_enter Tryz.func155,Tryz.ntmps155
  go_wp2
  go_quiet ((fail))
  go_wp2
  all_goals (go_ret; exact ⟨(by simp [*] <;> first | omega | (rw [ZaP]; simp <;> omega)),_,rfl⟩)
def T7 (x:Fin 64):Value:=.int .i64 (x.val:Int)
theorem pZ:∀ {l:List Int},(∀ t∈l,0≤t∧t < 64)→∃ d:List (Fin 64),d.map (fun x=>(x.val:Int))=l
 | [],_=>⟨[],rfl⟩
 | t::l,h=>by
  obtain ⟨d,hd⟩:=pZ fun u hu=>h u (.tail _ hu)
  have:=h t ZM
  exact ⟨⟨t.toNat,by omega⟩::d,by rw [List.map_cons,hd]; simp; omega⟩
theorem gU {p:Int->Bool} (d:List (Fin 64)):(d.map (fun x=>(x.val:Int))).filter p=(d.filter fun x=>p (x.val:Int)).map fun x=>(x.val:Int):=by
 rw [List.filter_map]; rfl
theorem arr64 (D:List (Fin 64)) {i:Nat} (hi:i < D.length):T7 D.toArray[i]! = .int .i64 ((D.map fun x=>(x.val:Int)).getD i 0):=by
 rw [Zau,Zbp,Zav hi,getElem!_pos D.toArray i (by simpa using hi)]
 simp [T7]
theorem pJ (w:World):Sort.grow w #[]=w:=by
 cases w; simp [Sort.grow]
theorem gy (fv:Value) (W:World):Calls Tryz.prog 156 #[.slice none 0 0,fv] W fun e w'=>e=.returned (.slice none 0 0)/\w'=W:=by
 go_enter Tryz.func156,Tryz.ntmps156
 go_wp2_with (go_at_call 174; refine (Tryz.slices_IndexFunc_empty (α:=Int) none 0 fv W).mono ?_; rintro e w' ⟨rfl,rfl⟩)
 go_ret
 exact ⟨rfl,rfl⟩
section
variable {σ σ':Heap} {args:List V} {v:V} {ι:Inj} {W:World} {av:List Value}
theorem del_ok [Bas] (h:Ty 155 args σ=some (v,σ')) (hR:RelW ι σ W) (hD:Dom ι σ) (hv:VRL ι args av) :
  Calls Tryz.prog 156 av.toArray W fun e W'=>∃ ι' v',e=.returned v'/\VR ι' v v'/\Post ι σ W ι' σ' W':=by
 have eg:∀ args w,(callFunc 155 args).run Tryz.prog w=.ok (.enter 155 args) w:=enters_of Tryz.func155 (by kernel_rfl) rfl
 unfold Ty at h
 split at h
 ·rename_i f c
  split at h
  ·rename_i hf
   subst hf
   split at h
   ·rename_i md hcell hc
    injection h with h
    injection h with h1 h2
    subst h1; subst h2
    simp only [VRL,VR] at hv
    obtain ⟨_,_,rfl,rfl,_,_,rfl,⟨cs,rfl,_⟩,rfl⟩:=hv
    refine (gy _ W).mono ?_
    rintro e W' ⟨rfl,rfl⟩
    exact ⟨ι,_,rfl,rfl,(QPost.refl hR).post⟩
   cases h
  cases h
 ·rename_i b m f c
  split at h
  ·rename_i q g md hh hb hc
   cases hcond:(decide (f=155)&&(decide (b≠c)&&(Xs m (fun i=>VY (g i)&&(decide (0<=Ws (g i))&&decide (Ws (g i) < 64)))&&(Xs 136 (fun i=>VY (hh i))&&Nat.ble m 4611686018427387904)))) with
   | false=>rw [hcond] at h; cases h
   | true =>
    rw [hcond,cond_true] at h
    injection h with h
    injection h with h1 h2
    subst h1; subst h2
    simp only [ZaM,ZaL] at hcond
    obtain ⟨rfl,hne,hg,hh64,hm⟩:=hcond
    have hm:=YF hm
    have hg1:∀ i,i < m->VY (g i)=true/\0<=Ws (g i)/\Ws (g i) < 64:=fun i hi=>by
     have:=RA hg i hi
     simpa only [ZaM,ZaL] using this
    simp only [VRL,VR] at hv
    obtain ⟨_,_,rfl,⟨p,cap,hp,hle,rfl,hcap⟩,_,_,rfl,⟨cs,rfl,_,_,rfl,⟨pc,hpc,hle2,rfl⟩,rfl⟩,rfl⟩:=hv
    obtain ⟨_,hb0,hcp,hmc,hsz,hmn⟩:=hcap
    have hB:=hR.blk b p _ hp hb
    have hC:=hR.blk c pc _ hpc hc
    have hlt:=hR.lt b p hp
    have hltc:=hR.lt c pc hpc
    have hpne:p.c≠pc.c:=hR.sep b c p pc hp hpc hne ⟨_,hb,rfl⟩ ⟨_,hc,rfl⟩
    have hq:q=m:=by have:=hB.1; omega
    obtain ⟨d,hd⟩:=pZ (l:=XW g m) (fun t ht=>by
     unfold XW at ht
     obtain ⟨i,hi,rfl⟩:=List.mem_map.1 ht
     exact (hg1 i (ZaU.1 hi)).2)
    have hdl:d.length=m:=by rw [<- QG g m,<- hd,List.length_map]
    have hcell:∀ i,i < 136->W.cell? ⟨pc.c,pc.base+0+i,none⟩=some (.int .i64 (Ws (hh i))):=fun i hi=>by
     rw [Nat.add_zero,hC.2.1 i hi,Dv (RA hh64 i hi)]
    have hH:Sort.Holds T7 W p.c (p.base+0) d.toArray:=fun j hj=>by
     have hj:j < m:=by simpa [hdl] using hj
     have h0:=qB (m:=m) hB (by omega) (fun i hi=>(hg1 i hi).1) j (by simpa [XW] using hj)
     refine ⟨?_,h0.2⟩
     rw [Nat.add_zero,h0.1,wB _ (by rw [QG]; exact hj)]
     have e:(XW g m).getD j 0=((d.toArray[j]!).val:Int):=by
      rw [<- hd,Zau,Zbp,Zav (by omega),getElem!_pos d.toArray j (by simpa [hdl] using hj)]; simp
     rw [e]; rfl
    have hcon:=Tryz.slices_DeleteFunc T7 (fun _=>rfl) (fun x=>U7 hh (x.val:Int)) 155 #[.pointer (some ⟨pc.c,pc.base+0,none⟩)] eg 0 Tryz.zeroValue3 p.c (p.base+0) cap d.toArray W
     (fun W' x hb'=>qK (fun i=>Ws (hh i)) (x.val:Int) (by omega) pc.c (pc.base+0) W' (fun i hi=>(hb'.cell (p:=⟨pc.c,pc.base+0+i,none⟩) hltc).trans (hcell i hi)))
     (fun n os dk x _=>qK (fun i=>Ws (hh i)) (x.val:Int) (by omega) pc.c (pc.base+0) _ (fun i hi=>by
      unfold sortWorld
      rw [cell?_grow _ _ _ (by show pc.c < (putRow _ _ _ _ _).heap.size; rw [size_putRow]; exact hltc),cell?_putRow_other _ _ p.c (p.base+0) _ _ (Or.inl (fun e=>hpne e.symm))]
      exact hcell i hi)) hH (by simp [hdl]; omega) (by simp [hdl]; omega)
    rw [show d.toArray.size=m by simp [hdl]] at hcon
    rw [show d.toArray.toList=d from rfl] at hcon
    have hL:(d.filter fun x=>!U7 hh (x.val:Int)).map (fun x=>(x.val:Int))=(XW g m).filter fun t=>!U7 hh t:=by
     rw [<- hd,gU (p:=fun t=>!U7 hh t)]
    have hDm:(d.filter fun x=>!U7 hh (x.val:Int)).length<=m:=by rw [<- hdl]; exact Zbk _ _
    generalize (d.filter fun x=>!U7 hh (x.val:Int))=D at hcon hL hDm
    generalize ((XW g m).filter fun t=>!U7 hh t)=l at hL ⊢
    refine hcon.mono ?_
    rintro e W' ⟨rfl,n,rfl⟩
    have hlen:l.length=D.length:=by rw [<- hL,List.length_map]
    have hfull:(D++List.replicate (m - D.length) (0:Fin 64)).map (fun x=>(x.val:Int))=l++List.replicate (m - D.length) 0:=by
     rw [List.map_append,hL,List.map_replicate]; rfl
    have hrp:=wy hB T7 (D++List.replicate (m - D.length) (0:Fin 64)).toArray (l++List.replicate (m - D.length) 0) (by simp [hlen]) (by simp [hlen]; omega)
     (fun i hi=>by rw [<- hfull]; exact arr64 _ (by rw [<- hfull,List.length_map] at hi; exact hi)) n #[] hlt
    rw [pJ] at hrp
    obtain ⟨⟨r1,r2,r3⟩,r4⟩:=hrp
    have hlt':p.c < (putRow T7 (Sort.ahead W n) p.c p.base (D++List.replicate (m - D.length) (0:Fin 64)).toArray).heap.size:=by rw [size_putRow]; exact hlt
    refine ⟨ι.put σ.length ⟨p.c,p.base,l.length,p.cap,p.sz⟩,_,rfl,⟨⟨p.c,p.base,l.length,p.cap,p.sz⟩,cap,Inj.put_same _ _ _,by simp,by rw [hlen],rfl,hb0,hcp,by omega,hsz,by simp⟩,?_⟩
    change Post _ _ _ _ _ (putRow T7 (Sort.ahead W n) p.c p.base (D++List.replicate (m - D.length) (0:Fin 64)).toArray)
    refine Tt hR hD hp hb rfl ⟨rfl,rfl,rfl,by rw [size_putRow]; exact Za1 _⟩ r4 (.inl rfl) hlt' ⟨rfl,fun i hi=>?_,fun _=>?_⟩
    ·have h0:=r2 i (by omega)
     rw [h0]
     have hi':i < l.length:=hi
     unfold ED
     rw [show Nat.blt i (l++List.replicate (m - D.length) (0:Int)).length=true from ZaA (by simp; omega),cond_true,Zau,Zbc hi',<- Zau]
    obtain ⟨x1,x2,x3⟩:=r3 rfl
    exact ⟨x1,by show l.length<=p.sz; omega,x3⟩
  cases h
 cases h
end
end Go.Proofs.YtlkighkfkdpncaaGreatDoor
namespace Go.Proofs.YtlkighkfkdpncaaGreatDoor
open Go Go.Am Go.RowKit Go.Sort Go.Lib
section
variable {σ σ':Heap} {args:List V} {v:V} {ι:Inj} {W:World} {av:List Value}
theorem grw_ok [Bas] (h:Tm args σ=some (v,σ')) (hR:RelW ι σ W) (hD:Dom ι σ) (hv:VRL ι args av) :
  Calls Tryz.prog 167 av.toArray W fun e W'=>∃ ι' v',e=.returned v'/\VR ι' v v'/\Post ι σ W ι' σ' W':=by
 unfold Tm at h
 split at h
 ·rename_i n
  split at h
  ·rename_i hn
   injection h with h
   injection h with h1 h2
   subst h1; subst h2
   simp only [VRL,VR,S.val] at hv
   obtain ⟨_,_,rfl,rfl,_,_,rfl,rfl,rfl⟩:=hv
   obtain ⟨m,rfl⟩:∃ m:Nat,n=m:=⟨n.toNat,by omega⟩
   have h169:(Tryz.laysGrow_ren).t 25=169:=rfl
   obtain ⟨i,zv,hi,hisz,hiby,hizero,hzv⟩:=xX (P:=Tryz.prog) (e:=169) (n:=2) (bytes:=16) (z:=.ints 2) (by kernel_rfl) (by kernel_rfl) (by kernel_rfl)
   have hzc:zv.cells.size=2:=by rw [<- VG hzv]; rfl
   have hcon:=Any8.slices_Grow_grow Tryz.laysGrow i zv hi hizero (by omega) none 0 0 m [] W (Za1 _) (by omega) (by rw [hiby]; omega) (by omega) (by simp) (fun _=>rfl) (fun a e=>by cases e)
   refine Calls.mono hcon ?_
   rintro e W' ⟨rfl,rfl⟩
   have hge:=grownCap_ge W (0+m) 0 169
   refine ⟨ι.put σ.length ⟨W.heap.size,0,0,grownCap W (0+m) 0 169,grownCap W (0+m) 0 169*2⟩,_,rfl,⟨⟨W.heap.size,0,0,grownCap W (0+m) 0 169,grownCap W (0+m) 0 169*2⟩,_,Inj.put_same _ _ _,by simp,rfl,rfl,rfl,rfl,by omega,rfl,by simp⟩,?_⟩
   refine yO hR hD _ _ _ _ rfl (fun W' hw=>⟨rfl,fun i hi=>absurd hi (by simp),fun _=>⟨rfl,Zbt _,_,_,hw,?_,trivial⟩⟩)
   have hge':m<=grownCap W m 0 169:=by simpa using hge
   simp [size_zeroCells,hzc,h169]
   omega
  cases h
 cases h
end
end Go.Proofs.YtlkighkfkdpncaaGreatDoor
namespace Go.Proofs.YtlkighkfkdpncaaGreatDoor
open Go Go.Am Go.RowKit Go.Sort Go.Lib
def or3M (a b c:Int):Int:=if a≠0 then a else if b≠0 then b else c
set_option maxHeartbeats 4000000 in
theorem or3 (a b c:Int) (B:Nat) (W:World) (h0:W.cell? ⟨B,0,none⟩=some (.int .i64 a)) (h1:W.cell? ⟨B,0+1,none⟩=some (.int .i64 b)) (h2:W.cell? ⟨B,0+2,none⟩=some (.int .i64 c)) :
  Calls Tryz.prog 161 #[.slice (some ⟨B,0,none⟩) 3 3] W fun e w'=>e=.returned (.int .i64 (or3M a b c))/\w'=W:=by
 unfold or3M
 go_enter Tryz.func161,Tryz.ntmps161
 go_wp2
 go_loop [8] (fun i=>∃ k:Nat,k<=3/\i=.int .i64 k/\(0 < k->a=0)/\(1 < k->b=0)/\(2 < k->c=0)) (fun i=>3 - (intOf i).toNat)
 case atStart=>exact ⟨0,by omega,rfl,by omega,by omega,by omega⟩
 case round =>
  obtain ⟨k,hk,rfl,k0,k1,k2⟩:=hrel
  obtain rfl | rfl | rfl | rfl:k=0\/k=1\/k=2\/k=3:=by omega
  ·by_cases e:a=0
   ·go_wp2
    all_goals exact ⟨⟨1,by omega,rfl,fun _=>e,by omega,by omega⟩,by simp [intOf]⟩
   go_wp2
   all_goals (go_ret; exact ⟨by simp [*],rfl⟩)
  ·have k0:=k0 (by omega)
   subst k0
   by_cases e:b=0
   ·go_wp2
    all_goals exact ⟨⟨2,by omega,rfl,by simp,fun _=>e,by omega⟩,by simp [intOf]⟩
   go_wp2
   all_goals (go_ret; exact ⟨by simp [*],rfl⟩)
  ·have k0:=k0 (by omega)
   have k1:=k1 (by omega)
   subst k0; subst k1
   by_cases e:c=0
   ·go_wp2
    all_goals exact ⟨⟨3,by omega,rfl,by simp,by simp,fun _=>e⟩,by simp [intOf]⟩
   go_wp2
   all_goals (go_ret; exact ⟨by simp [*],rfl⟩)
  have k0:=k0 (by omega)
  have k1:=k1 (by omega)
  have k2:=k2 (by omega)
  subst k0; subst k1; subst k2
  go_wp2
  all_goals (go_ret; exact ⟨rfl,rfl⟩)
end Go.Proofs.YtlkighkfkdpncaaGreatDoor
namespace Go.Proofs.YtlkighkfkdpncaaGreatDoor
open Go Go.Am Go.RowKit Go.Sort Go.Lib
theorem qN {P:Program} {id:Nat} {Q:Exit->Act->World->Prop} {a:Act} {w W3:World} {l:List Oper} (n:Nat) (hm:P.follows .mixedOrders=true) (hB:Region.lexTailB .any l.toArray n=true) (hw:W3=w.drew)
  (h:wpStill P l.toArray W3 (fun a'=>wpList P l.toArray Q (l.drop n) a' W3) (l.take n) a):(Code.region id l.toArray true).wp P Q a w:=by
 subst hw
 exact wp_region_still_tail n hm hB h
def Ea (m:Mv):List Value:=[.int .i64 m.1,.int .i64 m.2.1,.int .i64 m.2.2]
def wA (x y:Mv):Int:=or3M (Lib.compareInt x.1 y.1) (Lib.compareInt x.2.1 y.2.1) (Lib.compareInt x.2.2 y.2.2)
set_option maxRecDepth 100000 in
set_option maxHeartbeats 1000000 in
theorem rV (x y:Mv) (W:World):Calls Tryz.prog 129 #[.agg (Ea x).toArray,.agg (Ea y).toArray] W fun e w'=>e=.returned (.int .i64 (wA x y))/\∃ q os',w'=grow (W.drewN q) os':=by
 obtain ⟨a,b,c⟩:=x
 obtain ⟨a',b',c'⟩:=y
 have hc:=fun (x y:Int) (W':World)=>AnyG.cmp_Compare_int Tryz.laysCmp x y W'
 have hk:=fun (x y:Int) (W':World)=>AnyG.cmp_Compare_int Tryz.laysCmpK x y W'
 change ∀ x y W',Calls Tryz.prog 162 _ _ _ at hc
 change ∀ x y W',Calls Tryz.prog 163 _ _ _ at hk
 show Calls _ _ #[.agg #[.int .i64 a,.int .i64 b,.int .i64 c],.agg #[.int .i64 a',.int .i64 b',.int .i64 c']] _ _
 unfold wA
 go_enter Tryz.func129,Tryz.ntmps129
 go_wp2
 obtain ⟨W3,hW3⟩:∃ W3,W3=((W.alloc (Obj.cells #[Value.int IntKind.i64 a,Value.int IntKind.i64 b,Value.int IntKind.i64 c] 31)).alloc (Obj.cells #[Value.int IntKind.i64 a',Value.int IntKind.i64 b',Value.int IntKind.i64 c'] 31)).drew:=⟨_,rfl⟩
 have c0:W3.cell? ⟨W.heap.size,0,none⟩=some (.int .i64 a):=by subst hW3; simp
 have c1:W3.cell? ⟨W.heap.size,1,none⟩=some (.int .i64 b):=by subst hW3; simp
 have c2:W3.cell? ⟨W.heap.size,2,none⟩=some (.int .i64 c):=by subst hW3; simp
 have d0:W3.cell? ⟨W.heap.size+1,0,none⟩=some (.int .i64 a'):=by subst hW3; simp
 have d1:W3.cell? ⟨W.heap.size+1,1,none⟩=some (.int .i64 b'):=by subst hW3; simp
 have d2:W3.cell? ⟨W.heap.size+1,2,none⟩=some (.int .i64 c'):=by subst hW3; simp
 refine qN 15 (by kernel_rfl) (by kernel_rfl) hW3 ?_
 simp only [List.take_succ_cons,List.take_zero,List.drop_succ_cons,List.drop_zero]
 repeat still_step
 still_call (hc _ _ _)
 repeat still_step
 still_call (hc _ _ _)
 repeat still_step
 still_call (hk _ _ _)
 repeat still_step
 refine wpStill_nil ?_
 clear hc hk c0 c1 c2 d0 d1 d2
 have hsz:W3.heap.size=W.heap.size+2:=by subst hW3; simp
 have HW:Hid (W3=((W.alloc (Obj.cells #[Value.int IntKind.i64 a,Value.int IntKind.i64 b,Value.int IntKind.i64 c] 31)).alloc (Obj.cells #[Value.int IntKind.i64 a',Value.int IntKind.i64 b',Value.int IntKind.i64 c'] 31)).drew):=hW3
 clear hW3 hsz
 generalize hp:Lib.compareInt a a'=p
 generalize hq:Lib.compareInt b b'=q
 generalize hr:Lib.compareInt c c'=r
 go_wp2_with (go_at_call 161; refine (or3 p q r W3.heap.size (W3.alloc (Obj.cells #[Value.int IntKind.i64 p,Value.int IntKind.i64 q,Value.int IntKind.i64 r] 3)) (by simp) (by simp) (by simp)).mono ?_; rintro e w' ⟨rfl,rfl⟩)
 go_ret
 subst hp; subst hq; subst hr
 refine ⟨rfl,1,#[Obj.cells #[Value.int IntKind.i64 a,Value.int IntKind.i64 b,Value.int IntKind.i64 c] 31,Obj.cells #[Value.int IntKind.i64 a',Value.int IntKind.i64 b',Value.int IntKind.i64 c'] 31,Obj.cells #[Value.int IntKind.i64 (Lib.compareInt a a'),Value.int IntKind.i64 (Lib.compareInt b b'),Value.int IntKind.i64 (Lib.compareInt c c')] 3],?_⟩
 rw [HW.out,alloc_eq_grow,alloc_eq_grow,alloc_eq_grow,grow_grow,drew_grow,grow_grow]
 rfl
end Go.Proofs.YtlkighkfkdpncaaGreatDoor
namespace Go.Proofs.YtlkighkfkdpncaaGreatDoor
open Go Go.Am Go.RowKit Go.Sort Go.Lib Go.Shelf
set_option maxHeartbeats 2000000 in
theorem ins_nil (fv:Value) (W:World):Calls Tryz.prog 176 #[.slice none 0 0,.int .i64 0,.int .i64 0,fv] W fun e w'=>e=.returned (.tuple #[])/\w'=W:=by
 go_enter Tryz.func176,Tryz.ntmps176
 go_wp2
 refine wp_loop_rounds 1 ?_
 rw [rounds_succ]
 go_wp2
 go_end0
 exact ⟨rfl,rfl⟩
set_option maxHeartbeats 2000000 in
theorem pdq_nil (lim:Int) (fv:Value) (W:World):Calls Tryz.prog 159 #[.slice none 0 0,.int .i64 0,.int .i64 0,.int .i64 lim,fv] W fun e w'=>e=.returned (.tuple #[])/\w'=W:=by
 have hi:=fun W=>ins_nil fv W
 go_enter Tryz.func159,Tryz.ntmps159
 go_wp2
 refine wp_loop_rounds 1 ?_
 rw [rounds_succ]
 go_wp2_with (go_at_call 176; refine (hi _).mono ?_; rintro e w' ⟨rfl,rfl⟩)
 (try simp only [Exit.inBlock,Exit.then]); refine bodyPost_ret (results_none rfl _ _ _) rfl ?_
 exact ⟨rfl,rfl⟩
set_option maxHeartbeats 2000000 in
theorem Zap (fv:Value) (W:World):Calls Tryz.prog 128 #[.slice none 0 0,fv] W fun e w'=>e=.returned (.tuple #[])/\w'=W:=by
 have hp:=fun lim W=>pdq_nil lim fv W
 have hl:∀ W,Calls Tryz.prog 160 #[.int .u64 0] W fun e w'=>e=.returned (.int .i64 (Lib.bitLen 0:Nat))/\w'=W:=fun W=>by
  have h:=Any.bits_Len (SlLaysF0.n15.bits (P:=Tryz.prog) (ρ:=Tryz.laysSF_ren) { Tryz.laysSF with }) 0 W (by omega) (by omega)
  exact h
 go_enter Tryz.func128,Tryz.ntmps128
 go_wp2_with (first | (go_at_call 160; refine (hl _).mono ?_; rintro e w' ⟨rfl,rfl⟩) | (go_at_call 159; refine (hp _ _).mono ?_; rintro e w' ⟨rfl,rfl⟩))
 go_end0
 exact ⟨rfl,rfl⟩
open Go Go.Am
def ofL (x:Int):List S:=if 0<=x/\x < 64 then [.int .i64 (x % 8),.int .i64 (x / 8),.bool true] else [.int .i64 (-1),.int .i64 (-1),.bool false]
theorem sX (x:Int):WR AM 49 [.s (.int .i64 x)] [] (fun v _ _=>v=.agg 3 (lc (ofL x))):=by
 refine YJ (a:=a49) rfl rfl (YI _) (ZQ rfl) (m:=0) rfl (Ze (DT rfl (Yc (Ye (Ze (Zj rfl (Zr rfl (Zk rfl (Ys (t:=5) rfl (fun h1=>?_) (fun h1=>?_)))))))))) <;> simp only [NM] at h1
 ·refine ZD rfl (Zq rfl (Yc (ZA rfl (Ze (YB rfl (.one rfl (.one rfl .nil)) (Dx rfl rfl (.part (v:=.agg _ _) (ys:=[_,_,_]) rfl rfl rfl rfl .nil) (JE (v:=.agg _ _) rfl rfl rfl rfl rfl (K1 (ys:=[_,_,_]) rfl rfl) .here (Yc (Yi (⟨_,X9 rfl rfl ZM (YP),?_⟩))))))))))
  (rw [show ofL x=[.int .i64 (-1),.int .i64 (-1),.bool false] from Za7 (by omega)]; rfl)
 refine Yb rfl (Zj rfl (Yb rfl (Zr rfl (Zq rfl (Yc (Yj rfl (fun h2=>?_) (fun h2=>?_))))))) <;> simp only [NM] at h2
 ·refine Ze (YB rfl (.one rfl (.one rfl .nil)) (Dx rfl rfl (.part (v:=.agg _ _) (ys:=[_,_,_]) rfl rfl rfl rfl .nil) (JE (v:=.agg _ _) rfl rfl rfl rfl rfl (K1 (ys:=[_,_,_]) rfl rfl) .here (Yc (Yi (⟨_,X9 rfl rfl ZM (YP),?_⟩))))))
  (rw [show ofL x=[.int .i64 (-1),.int .i64 (-1),.bool false] from Za7 (by omega)]; rfl)
 refine Yh (Ze (Zj rfl (Zv rfl rfl (Zj rfl (Zu rfl rfl (YB rfl (.one rfl (.one rfl .nil)) (Dx rfl rfl (.part (v:=.agg _ _) (ys:=[_,_,_]) rfl rfl rfl rfl (.part (v:=.s (.bool _)) (ys:=[_,_,_]) rfl rfl rfl rfl .nil)) (JE (v:=.agg _ _) rfl rfl rfl rfl rfl (K1 (ys:=[_,_,_]) rfl rfl) .here (Yc (Yi (⟨_,X9 rfl rfl ZM (YP),?_⟩)))))))))))
 (rw [show ofL x=[.int .i64 (x % 8),.int .i64 (x / 8),.bool true] from Za8 (by omega)]; rfl)
theorem y7 (x:Int) (h:0<=x/\x < 64):RF AM 49 [.s (.int .i64 x)] (.agg 3 (lc [.int .i64 (x % 8),.int .i64 (x / 8),.bool true])):=by
 have:=YG (sX x)
 rw [ofL,Za8 h] at this
 exact this
open Go Go.Am
theorem DE (x:Int) (h:¬ (0<=x/\x < 64)):RF AM 49 [.s (.int .i64 x)] (.agg 3 (lc [.int .i64 (-1),.int .i64 (-1),.bool false])):=by
 have:=YG (sX x)
 rw [ofL,Za7 h] at this
 exact this
def zq (x:Int):Int:=if 0<=x/\x < 64 then x % 8 else -1
def Wj (x:Int):Int:=if 0<=x/\x < 64 then x / 8 else -1
def isM (x:Int):Bool:=decide (0<=x/\x < 64)
def atM (a b:Int):Int:=if 0<=a/\a < 8/\0<=b/\b < 8 then b*8+a else -1
theorem File_in (x:Int) (h:0<=x/\x < 64):WR AM 87 [.s (.int .i64 x)] [] (fun v _ _=>v=.s (.int .i64 (zq x))):=by
 refine YJ (a:=a87) rfl rfl (YI _) (ZQ rfl) (m:=0) rfl (Ze (Yq rfl (Zf (Zj rfl (Yt rfl (y7 _ h) rfl rfl rfl (D7 rfl rfl (JR (a:=.int _ _) rfl rfl rfl (Zj rfl (Yc (Yi (⟨_,YK (v:=_) rfl (YP),?_⟩)))))))))))
 rw [zq,Za8 h]; rfl
theorem oZ (x:Int) (h:¬ (0<=x/\x < 64)):WR AM 87 [.s (.int .i64 x)] [] (fun v _ _=>v=.s (.int .i64 (zq x))):=by
 refine YJ (a:=a87) rfl rfl (YI _) (ZQ rfl) (m:=0) rfl (Ze (Yq rfl (Zf (Zj rfl (Yt rfl (DE _ h) rfl rfl rfl (D7 rfl rfl (JR (a:=.int _ _) rfl rfl rfl (Zj rfl (Yc (Yi (⟨_,YK (v:=_) rfl (YP),?_⟩)))))))))))
 rw [zq,Za7 h]; rfl
theorem g8 (x:Int):RF AM 87 [.s (.int .i64 x)] (.s (.int .i64 (zq x))):=by
 by_cases h:0<=x/\x < 64
 ·exact YG (File_in x h)
 exact YG (oZ x h)
theorem Rank_in (x:Int) (h:0<=x/\x < 64):WR AM 84 [.s (.int .i64 x)] [] (fun v _ _=>v=.s (.int .i64 (Wj x))):=by
 refine YJ (a:=a84) rfl rfl (YI _) (ZQ rfl) (m:=0) rfl (Ze (Yq rfl (Zf (Zj rfl (Yt rfl (y7 _ h) rfl rfl rfl (D7 rfl rfl (JR (a:=.int _ _) rfl rfl rfl (Zj rfl (Yc (Yi (⟨_,YK (v:=_) rfl (YP),?_⟩)))))))))))
 rw [Wj,Za8 h]; rfl
theorem gv (x:Int) (h:¬ (0<=x/\x < 64)):WR AM 84 [.s (.int .i64 x)] [] (fun v _ _=>v=.s (.int .i64 (Wj x))):=by
 refine YJ (a:=a84) rfl rfl (YI _) (ZQ rfl) (m:=0) rfl (Ze (Yq rfl (Zf (Zj rfl (Yt rfl (DE _ h) rfl rfl rfl (D7 rfl rfl (JR (a:=.int _ _) rfl rfl rfl (Zj rfl (Yc (Yi (⟨_,YK (v:=_) rfl (YP),?_⟩)))))))))))
 rw [Wj,Za7 h]; rfl
theorem K7 (x:Int):RF AM 84 [.s (.int .i64 x)] (.s (.int .i64 (Wj x))):=by
 by_cases h:0<=x/\x < 64
 ·exact YG (Rank_in x h)
 exact YG (gv x h)
theorem Is_in (x:Int) (h:0<=x/\x < 64):WR AM 74 [.s (.int .i64 x)] [] (fun v _ _=>v=.s (.bool (isM x))):=by
 refine YJ (a:=a74) rfl rfl (YI _) (ZQ rfl) (m:=0) rfl (Ze (Yq rfl (Zf (Zj rfl (Yt rfl (y7 _ h) rfl rfl rfl (JR (a:=.bool _) rfl rfl rfl (Yq (v:=.s _) rfl (Yc (Yi (⟨_,YK (v:=_) rfl (YP),?_⟩))))))))))
 rw [isM,ZaV h]; rfl
theorem Is_out (x:Int) (h:¬ (0<=x/\x < 64)):WR AM 74 [.s (.int .i64 x)] [] (fun v _ _=>v=.s (.bool (isM x))):=by
 refine YJ (a:=a74) rfl rfl (YI _) (ZQ rfl) (m:=0) rfl (Ze (Yq rfl (Zf (Zj rfl (Yt rfl (DE _ h) rfl rfl rfl (JR (a:=.bool _) rfl rfl rfl (Yq (v:=.s _) rfl (Yc (Yi (⟨_,YK (v:=_) rfl (YP),?_⟩))))))))))
 rw [isM,ZaT h]; rfl
theorem KQ (x:Int):RF AM 74 [.s (.int .i64 x)] (.s (.bool (isM x))):=by
 by_cases h:0<=x/\x < 64
 ·exact YG (Is_in x h)
 exact YG (Is_out x h)
theorem js {A:AP} {N:Nat} {f:FE} {n:Nat} {L:HA} {K:KN} {Zp:V->KN} {l:List I} {d:Nat} {kd kd':IntKind} {x:O} {a:Int} (hx:x.fv N f=.s (.int kd' a)) (k:WO A N l (upd f d (.s (.int kd (kd.wrap a)))) n L K Zp):WO A N (⟨some d,none,.p (.conv kd x)⟩::l) f n L K Zp :=
 Vt (v:=.s (.int kd (kd.wrap a))) (by simp only [YV,Y6,hx]) k
theorem D6 {a:Int} (h:-9223372036854775808<=a/\a<=9223372036854775807):IntKind.u64.wrap a < 8↔0<=a/\a < 8:=by
 rw [IntKind.wrap_u64]
 omega
theorem atM_bd (a b:Int):-1<=atM a b/\atM a b < 64:=by
 unfold atM
 split <;> omega
theorem sd (P:Nat->Int) (ha:-9223372036854775808<=P 0/\P 0<=9223372036854775807) (hb:-9223372036854775808<=P 1/\P 1<=9223372036854775807):WR AM 134 [.agg 2 (ia P)] [] (fun v _ _=>v=.s (.bool (decide (0<=P 0/\P 0 < 8/\0<=P 1/\P 1 < 8)))):=by
 refine YJ (a:=a134) rfl rfl (YI _) (ZQ rfl) (m:=0) rfl (Ze (YC rfl (Yq rfl (Zf (Zy rfl (Ym rfl rfl ZM rfl (js rfl (Zr rfl (Zk rfl (Ys (t:=7) rfl (fun h1=>?_) (fun h1=>?_))))))))))) <;> simp only [NM] at h1
 ·refine Yb rfl (Zz rfl (Yb rfl (Ym rfl rfl ZM rfl (Yb rfl (js rfl (Yb rfl (Zr rfl (Zq rfl (Zk rfl (Zg rfl (ZI ?_)))))))))))
  have e0:=D6 ha
  have e1:=D6 hb
  rw [ZaP]
  simp only [ZaL,ZaF,Za3]
  omega
 refine ZE rfl (Zq rfl (Zk rfl (Zg rfl (ZI ?_))))
 have e0:=D6 ha
 have e1:=D6 hb
 rw [ZaP]
 simp only [ZaL,ZaF,Za3]
 omega
theorem Ez (P:Nat->Int) (ha:-9223372036854775808<=P 0/\P 0<=9223372036854775807) (hb:-9223372036854775808<=P 1/\P 1<=9223372036854775807):WR AM 112 [.agg 2 (ia P)] [] (fun v _ _=>v=.s (.int .i64 (atM (P 0) (P 1)))):=by
 refine YJ (a:=a112) rfl rfl (YI _) (ZQ rfl) (m:=0) rfl (Ze (YC rfl (Yq rfl (Yc (Ye (Ze (Yo rfl rfl ZM (Yt rfl (YG (sd _ ha hb)) rfl rfl rfl (Yv (r:=.bool _) rfl rfl (Yc (Yj rfl (fun h2=>?_) (fun h2=>?_)))))))))))) <;> simp only [NM] at h2
 ·refine Ze (Yq rfl (Yc (Yi (⟨_,ZL rfl,?_⟩))))
  refine ZJ ?_
  unfold atM
  split <;> omega
 refine Yh (Ze (Zz rfl (Ym rfl rfl ZM rfl (Wn rfl rfl (by omega) (Zy rfl (Ym rfl rfl ZM rfl (Zs rfl rfl (Zj rfl (Yc (Yi (⟨_,ZL rfl,?_⟩)))))))))))
 refine ZJ ?_
 unfold atM
 split <;> omega
theorem At_run (a b:Int) (ha:-9223372036854775808<=a/\a<=9223372036854775807) (hb:-9223372036854775808<=b/\b<=9223372036854775807):WR AM 86 [.s (.int .i64 a),.s (.int .i64 b)] [] (fun v _ _=>v=.s (.int .i64 (atM a b))):=by
 refine YJ (a:=a86) rfl rfl (YI _) (ZQ rfl) (m:=0) rfl (Ze (Yq rfl (Zf (Zj rfl (Zj rfl (YB rfl (.one rfl (.one rfl .nil)) (Yt rfl (YG (Ez _ ha hb)) rfl rfl rfl (Zj rfl (Yc (Yi (⟨_,ZL rfl,?_⟩)))))))))))
 rfl
def Y5 (s:Int):Int:=if s=0 then 1 else 0
def YZ (k s:Int):Bool:=decide (1<=k/\k<=6/\(s=0\/s=1))
def JO (x:Int):Int:=(7 - x / 8)*8+x % 8
def sideT (k s:Int):Int:=if YZ k s=true then Y5 s else s
theorem WV {P:Nat->Int} {o m:Nat} {Q:Nat->Int} {i:Nat} (h:i < o\/o+m<=i):ovA P o m Q i=P i:=by
 have e:(Nat.ble o i&&Nat.blt i (o+m))=false:=by
  cases h1:Nat.ble o i with
  | false=>rfl
  | true =>
   cases h2:Nat.blt i (o+m) with
   | false=>rfl
   | true =>
    have:=YF h1
    have:=YF h2
    omega
 show (bif Nat.ble o i&&Nat.blt i (o+m) then Q (i - o) else P i)=P i
 rw [e]; rfl
theorem X1 {P:Nat->Int} {o m:Nat} {Q:Nat->Int} {i:Nat} (h:o<=i/\i < o+m):ovA P o m Q i=Q (i - o):=by
 have e:(Nat.ble o i&&Nat.blt i (o+m))=true:=by
  rw [ZaA h.1,show Nat.blt i (o+m)=true from ZaA h.2]; rfl
 show (bif Nat.ble o i&&Nat.blt i (o+m) then Q (i - o) else P i)=Q (i - o)
 rw [e]; rfl
theorem Uc (s:Int):WR AM 53 [.s (.int .i64 s)] [] (fun v _ _=>v=.s (.int .i64 (Y5 s))):=by
 refine YJ (a:=a53) rfl rfl (YI _) (ZQ rfl) (m:=0) rfl (Ze (Yq rfl (Yc (Ye (Ze (Zj rfl (Zr rfl (Yc (Yj rfl (fun h3=>?_) (fun h3=>?_)))))))))) <;> simp only [NM] at h3
 ·refine Ze (Yq rfl (Yc (Yi (⟨_,ZL rfl,?_⟩))))
  (rw [show Y5 s=1 from Za8 (by omega)]; rfl)
 refine Yh (Ze (Yq rfl (Yc (Yi (⟨_,ZL rfl,?_⟩)))))
 (rw [show Y5 s=0 from Za7 (by omega)]; rfl)
theorem uu (P:Nat->Int):WR AM 149 [.agg 2 (ia P)] [] (fun v _ _=>v=.s (.bool (YZ (P 0) (P 1)))):=by
 refine YJ (a:=a149) rfl rfl (YI _) (ZQ rfl) (m:=0) rfl (Ze (YC rfl (Yq rfl (Zf (Zy rfl (Ym rfl rfl ZM rfl (Zr rfl (Zk rfl (Ys (t:=6) rfl (fun h4=>?_) (fun h4=>?_)))))))))) <;> simp only [NM] at h4
 ·refine Yb rfl (Zy rfl (Yb rfl (Ym rfl rfl ZM rfl (Yb rfl (Zr rfl (Zq rfl (Zk rfl (Ys (t:=11) rfl (fun h5=>?_) (fun h5=>?_))))))))) <;> simp only [NM] at h5
  ·refine Yb rfl (Zz rfl (Yb rfl (Ym rfl rfl ZM rfl (Yb rfl (Zr rfl (Yb rfl (Zk rfl (Ys (t:=15) rfl (fun h6=>?_) (fun h6=>?_))))))))) <;> simp only [NM] at h6
   ·refine ZD rfl (ZC rfl (Yb rfl (Zq rfl (Zq rfl (Zk rfl (Zg rfl (ZI ?_)))))))
    unfold YZ
    rw [ZaP]
    simp only [Za2,ZaL,ZaF,Za5,Za3]
    omega
   refine Yb rfl (Zz rfl (Yb rfl (Ym rfl rfl ZM rfl (Yb rfl (Zr rfl (Yb rfl (Zq rfl (Zq rfl (Zk rfl (Zg rfl (ZI ?_)))))))))))
   unfold YZ
   rw [ZaP]
   simp only [Za2,ZaL,ZaF,Za5,Za3]
   omega
  refine ZE rfl (YH rfl (YH rfl (YH rfl (ZC rfl (Zq rfl (Zk rfl (Zg rfl (ZI ?_))))))))
  unfold YZ
  rw [ZaP]
  simp only [Za2,ZaL,ZaF,Za5,Za3]
  omega
 refine ZD rfl (ZC rfl (Zq rfl (Zk rfl (ZE rfl (YH rfl (YH rfl (YH rfl (ZC rfl (Zq rfl (Zk rfl (Zg rfl (ZI ?_))))))))))))
 unfold YZ
 rw [ZaP]
 simp only [Za2,ZaL,ZaF,Za5,Za3]
 omega
def castT (c:Int):Int:=if 0<=c/\c<=15 then c / 4+c % 4*4 else c
def overT (x:Int):Int:=if isM x=true then JO x else x
def acr (s:Nat):Nat:=(7 - s / 8)*8+s % 8
def Turned (P Q:Nat->Int) (i:Nat):Prop:=∀ s:Nat,s < i->Q (acr s*2)=P (s*2)/\Q (acr s*2+1)=sideT (P (s*2)) (P (s*2+1))
theorem W7 {P:Nat->Int} {o i:Nat} {x:Int} (h:i≠o):ov P o x i=P i:=by
 have e:Nat.beq i o=false:=by
  cases hb:Nat.beq i o with
  | false=>rfl
  | true=>exact absurd (Zbh hb) h
 show (bif Nat.beq i o then x else P i)=P i
 rw [e]; rfl
structure TurnOf (P Q:Nat->Int):Prop where
 sq:Turned P Q 64
 side:Q 128=Y5 (P 128)
 castle:Q 129=castT (P 129)
 WN:Q 130=overT (P 130)
 half:Q 131=P 131
 full:Q 132=P 132
 out:∀ i,133<=i->Q i=0
open Go Go.Am
abbrev sqI (x:Int):Nat:=0+x.toNat*2
theorem UP {P Q X Y:Nat->Int} {o m:Nat} {n:Nat} (h:∀ i,i < n->P i=Q i) (hx:∀ j,j < m->X j=Y j):∀ i,i < n->ovA P o m X i=ovA Q o m Y i:=by
 intro i hi
 by_cases k:o<=i/\i < o+m
 ·rw [X1 k,X1 k]; exact hx _ (by omega)
 rw [WV (by omega),WV (by omega)]; exact h i hi
theorem WT (s:Int):WR AM 33 [.s (.int .i64 s)] [] (fun v _ _=>v=.s (.int .i64 (Y5 s))):=by
 refine YJ (a:=a33) rfl rfl (YI _) (ZQ rfl) (m:=0) rfl (Ze (Yq rfl (Yc (Ye (Ze (Zj rfl (Zr rfl (Yc (Yj rfl (fun h1=>?_) (fun h1=>?_)))))))))) <;> simp only [NM] at h1
 ·refine Ze (Yq rfl (Yc (Yi (⟨_,ZL rfl,?_⟩))))
  (rw [show Y5 s=1 from Za8 (by omega)]; rfl)
 refine Yh (Ze (Yq rfl (Yc (Yi (⟨_,ZL rfl,?_⟩)))))
 (rw [show Y5 s=0 from Za7 (by omega)]; rfl)
theorem TI (P:Nat->Int):WR AM 95 [.agg 2 (ia P)] [] (fun v _ _=>v=.s (.bool (YZ (P 0) (P 1)))):=by
 refine YJ (a:=a95) rfl rfl (YI _) (ZQ rfl) (m:=0) rfl (Ze (YC rfl (Yq rfl (Zf (Zy rfl (Ym rfl rfl ZM rfl (Zr rfl (Zk rfl (Ys (t:=6) rfl (fun h2=>?_) (fun h2=>?_)))))))))) <;> simp only [NM] at h2
 ·refine Yb rfl (Zy rfl (Yb rfl (Ym rfl rfl ZM rfl (Yb rfl (Zr rfl (Zq rfl (Zk rfl (Ys (t:=11) rfl (fun h3=>?_) (fun h3=>?_))))))))) <;> simp only [NM] at h3
  ·refine Yb rfl (Zz rfl (Yb rfl (Ym rfl rfl ZM rfl (Yb rfl (Zr rfl (Yb rfl (Zk rfl (Ys (t:=15) rfl (fun h4=>?_) (fun h4=>?_))))))))) <;> simp only [NM] at h4
   ·refine ZD rfl (ZC rfl (Yb rfl (Zq rfl (Zq rfl (Zk rfl (Zg rfl (ZI ?_)))))))
    rw [ZaP]
    simp only [Za2,bne_iff_ne,ne_eq,ZaL,ZaF,Za5,Za3,gt_iff_lt,ge_iff_le,isM,YZ,Bool.true_eq_false,Za6,Za4]
    omega
   refine Yb rfl (Zz rfl (Yb rfl (Ym rfl rfl ZM rfl (Yb rfl (Zr rfl (Yb rfl (Zq rfl (Zq rfl (Zk rfl (Zg rfl (ZI ?_)))))))))))
   rw [ZaP]
   simp only [Za2,bne_iff_ne,ne_eq,ZaL,ZaF,Za5,Za3,gt_iff_lt,ge_iff_le,isM,YZ,Bool.true_eq_false,Za6,Za4]
   omega
  refine ZE rfl (YH rfl (YH rfl (YH rfl (ZC rfl (Zq rfl (Zk rfl (Zg rfl (ZI ?_))))))))
  rw [ZaP]
  simp only [Za2,bne_iff_ne,ne_eq,ZaL,ZaF,Za5,Za3,gt_iff_lt,ge_iff_le,isM,YZ,Bool.true_eq_false,Za6,Za4]
  omega
 refine ZD rfl (ZC rfl (Zq rfl (Zk rfl (ZE rfl (YH rfl (YH rfl (YH rfl (ZC rfl (Zq rfl (Zk rfl (Zg rfl (ZI ?_))))))))))))
 rw [ZaP]
 simp only [Za2,bne_iff_ne,ne_eq,ZaL,ZaF,Za5,Za3,gt_iff_lt,ge_iff_le,isM,YZ,Bool.true_eq_false,Za6,Za4]
 omega
def YR (s f r:Int):Int:=if (0<=s/\s < 64)/\(-8 < f/\f < 8)/\(-8 < r/\r < 8) then atM (s % 8+f) (s / 8+r) else -1
theorem Ug (s f r:Int):-1<=YR s f r/\YR s f r < 64:=by
 unfold YR
 split
 ·exact atM_bd _ _
 omega
def onM (s f r:Int):Nat->Int:=if (0<=s/\s < 64)/\(-8 < f/\f < 8)/\(-8 < r/\r < 8) then (fun i=>if i=0 then s % 8+f else if i=1 then s / 8+r else 0) else (fun i=>if i=0 then -1 else if i=1 then -1 else 0)
theorem yI {x y:Int}:ovA (fun _=>0) 0 2 (ov (ov (fun _=>0) 0 x) 1 y)=fun i=>if i=0 then x else if i=1 then y else 0:=by
 funext i
 by_cases h0:i=0
 ·subst h0; rfl
 by_cases h1:i=1
 ·subst h1; rfl
 rw [WV (by omega),Za7 h0,Za7 h1]
theorem on_in (s f r:Int) (h:0<=s/\s < 64):WR AM 172 [.agg 3 (lc [.int .i64 (s % 8),.int .i64 (s / 8),.bool true]),.s (.int .i64 f),.s (.int .i64 r)] [] (fun v _ _=>v=.agg 2 (ia (onM s f r))):=by
 refine YJ (a:=a172) rfl rfl (YI _) (ZQ rfl) (m:=0) rfl (Ze (YC rfl (Yy (Yc (Ye (Ze (Yd (o':=2) rfl rfl rfl (Yn (x:=.bool _) rfl rfl ZN rfl (Yv (r:=.bool _) rfl rfl (Zk rfl (Yb rfl (Zj rfl (Yb rfl (Zj rfl (Yb rfl (WO_mx2 rfl rfl (Yb rfl (Zr rfl (Zq rfl (Zk rfl (Ys (t:=16) rfl (fun h5=>?_) (fun h5=>?_)))))))))))))))))))))) <;> simp only [NM] at h5
 ·refine ZE rfl (Zq rfl (Yc (ZA rfl (Ze (YB rfl (.one rfl (.one rfl .nil)) (Yz rfl rfl rfl rfl .here (Yc (Yi (⟨_,X9 rfl rfl ZM (YP),?_⟩)))))))))
  refine congrArg (fun g=>V.agg 2 (ia g)) ?_
  rw [yI]
  exact (Za7 (fun q=>by omega)).symm
 refine Yb rfl (Zj rfl (Yb rfl (Zj rfl (Yb rfl (DZ rfl rfl (Yb rfl (Zr rfl (Zq rfl (Yc (Yj rfl (fun h6=>?_) (fun h6=>?_))))))))))) <;> simp only [NM] at h6
 ·refine Ze (YB rfl (.one rfl (.one rfl .nil)) (Yz rfl rfl rfl rfl .here (Yc (Yi (⟨_,X9 rfl rfl ZM (YP),?_⟩)))))
  refine congrArg (fun g=>V.agg 2 (ia g)) ?_
  rw [yI]
  exact (Za7 (fun q=>by omega)).symm
 refine Yh (Ze (Zy rfl (Zy rfl (Yn (x:=.int _ _) rfl rfl ZN rfl (Zj rfl (Zs rfl rfl (Zy rfl (Zz rfl (Yn (x:=.int _ _) rfl rfl ZN rfl (Zj rfl (Zs rfl rfl (YB rfl (.one rfl (.one rfl .nil)) (Yz rfl rfl rfl rfl .here (Yc (Yi (⟨_,X9 rfl rfl ZM (YP),?_⟩))))))))))))))))
 refine congrArg (fun g=>V.agg 2 (ia g)) ?_
 rw [yI]
 exact (Za8 ⟨h,by omega,by omega⟩).symm
theorem on_out (s f r:Int) (h:¬ (0<=s/\s < 64)):WR AM 172 [.agg 3 (lc [.int .i64 (-1),.int .i64 (-1),.bool false]),.s (.int .i64 f),.s (.int .i64 r)] [] (fun v _ _=>v=.agg 2 (ia (onM s f r))):=by
 refine YJ (a:=a172) rfl rfl (YI _) (ZQ rfl) (m:=0) rfl (Ze (YC rfl (Yy (Yc (Ye (Ze (Yd (o':=2) rfl rfl rfl (Yn (x:=.bool _) rfl rfl ZN rfl (Yv (r:=.bool _) rfl rfl (Zk rfl (ZE rfl (Zq rfl (Zk rfl (ZE rfl (Zq rfl (Yc (ZA rfl (Ze (YB rfl (.one rfl (.one rfl .nil)) (Yz rfl rfl rfl rfl .here (Yc (Yi (⟨_,X9 rfl rfl ZM (YP),?_⟩)))))))))))))))))))))))
 refine congrArg (fun g=>V.agg 2 (ia g)) ?_
 rw [yI]
 exact (Za7 (fun q=>by omega)).symm
theorem yX (s:Int) {f r:Int} (i:Nat):-9223372036854775808<=onM s f r i/\onM s f r i<=9223372036854775807:=by
 unfold onM
 split
 ·dsimp only; split
  ·omega
  split <;> omega
 dsimp only; split
 ·omega
 split <;> omega
theorem rJ (s f r:Int):atM (onM s f r 0) (onM s f r 1)=YR s f r:=by
 unfold onM YR
 by_cases h:(0<=s/\s < 64)/\(-8 < f/\f < 8)/\(-8 < r/\r < 8)
 ·rw [Za8 h,Za8 h]; rfl
 rw [Za7 h,Za7 h]; rfl
theorem Step_in (s f r:Int) (h:0<=s/\s < 64):WR AM 152 [.s (.int .i64 s),.s (.int .i64 f),.s (.int .i64 r)] [] (fun v _ _=>v=.s (.int .i64 (YR s f r))):=by
 refine YJ (a:=a152) rfl rfl (YI _) (ZQ rfl) (m:=0) rfl (Ze (Yq rfl (Zf (Zj rfl (Yt rfl (y7 _ h) rfl rfl rfl (Zj rfl (Zj rfl (Yt rfl (YG (on_in _ _ _ h)) rfl rfl rfl (Yt rfl (YG (Ez _ (yX s 0) (yX s 1))) rfl rfl rfl (Zj rfl (Yc (Yi (⟨_,ZL rfl,?_⟩)))))))))))))
 exact congrArg (fun b=>V.s (S.int .i64 b)) (rJ s f r)
theorem Zah (s f r:Int) (h:¬ (0<=s/\s < 64)):WR AM 152 [.s (.int .i64 s),.s (.int .i64 f),.s (.int .i64 r)] [] (fun v _ _=>v=.s (.int .i64 (YR s f r))):=by
 refine YJ (a:=a152) rfl rfl (YI _) (ZQ rfl) (m:=0) rfl (Ze (Yq rfl (Zf (Zj rfl (Yt rfl (DE _ h) rfl rfl rfl (Zj rfl (Zj rfl (Yt rfl (YG (on_out _ _ _ h)) rfl rfl rfl (Yt rfl (YG (Ez _ (yX s 0) (yX s 1))) rfl rfl rfl (Zj rfl (Yc (Yi (⟨_,ZL rfl,?_⟩)))))))))))))
 exact congrArg (fun b=>V.s (S.int .i64 b)) (rJ s f r)
theorem UO (s f r:Int):RF AM 152 [.s (.int .i64 s),.s (.int .i64 f),.s (.int .i64 r)] (.s (.int .i64 (YR s f r))):=by
 by_cases h:0<=s/\s < 64
 ·exact YG (Step_in s f r h)
 exact YG (Zah s f r h)
def pickM (x n:Int):Int:=if x.tmod n < 0 then x.tmod n+n else x.tmod n
end Go.Proofs.YtlkighkfkdpncaaGreatDoor
