/- Texts of this seat, joined. -/
import Derived.Test.YtlkighkfkdpncaaGreatProg
import Derived.KernelRfl
import Derived.Shelf.SlicesG.Cmp
import Derived.Ground.SlgcProg
import Derived.Shelf.Sort.Plain
import Derived.Shelf.Slices.In.SortNone
import Derived.Shelf.SlicesE.DeleteFunc
import Derived.Shelf.SlicesE.IndexFunc
import Derived.Shelf.SlSortCmp.WholeK
import Derived.Shelf.Spec.SlicesGrow
import Derived.Ground.SlgfProg
import Derived.Ground.SlsfProg
import Derived.Ground.Names8Prog
import Derived.Ground.Names2Prog
import Derived.Lib.Builder
import Derived.Deep.QuietTactic
import Derived.BigQuiet
import Derived.StillTailTactics
import Derived.Test.YtlkighkfkdpncaaGreatAm0
import Derived.Test.YtlkighkfkdpncaaGreatAm1
import Derived.Test.YtlkighkfkdpncaaGreatAm2
namespace Go.Am
open Go
abbrev m' (d x : Nat) : I := ⟨some d, none, .p (.mv (.t x))⟩
abbrev m'g (d g : Nat) (b : Bool) (x : Nat) : I := ⟨some d, some (g, b), .p (.mv (.t x))⟩
abbrev n' (d : Nat) (x : Int) : I := ⟨some d, none, .p (.mv (.k (.s (.int .i64 x))))⟩
abbrev b' (d : Nat) (x : Bool) : I := ⟨some d, none, .p (.mv (.k (.s (.bool x))))⟩
abbrev l' (d : Nat) (a : Bool) (m x : Nat) : I := ⟨some d, none, .h (.load a m (.t x))⟩
abbrev l'g (d g : Nat) (b : Bool) (a : Bool) (m x : Nat) : I := ⟨some d, some (g, b), .h (.load a m (.t x))⟩
abbrev s' (m x y : Nat) : I := ⟨none, none, .h (.store m (.t x) (.t y))⟩
abbrev f' (d o m x : Nat) : I := ⟨some d, none, .p (.fa o m (.t x))⟩
abbrev f'g (d g : Nat) (b : Bool) (o m x : Nat) : I := ⟨some d, some (g, b), .p (.fa o m (.t x))⟩
abbrev o' (d : Nat) (p : BinOp) (x y : Nat) : I := ⟨some d, none, .p (.bin p (.t x) (.t y))⟩
abbrev ok' (d : Nat) (p : BinOp) (x : Nat) (y : Int) : I := ⟨some d, none, .p (.bin p (.t x) (.k (.s (.int .i64 y))))⟩
abbrev pa' (d x y : Nat) : I := ⟨some d, none, .p (.pick (.t x) (.t y) (.k (.s (.bool false))))⟩
abbrev po' (d x y : Nat) : I := ⟨some d, none, .p (.pick (.t x) (.k (.s (.bool true))) (.t y))⟩
section
variable {A : AP} {N : Nat} {l : List I} {f : FE} {n : Nat} {L : HA} {K : KN} {Zp : V → KN} {d : Nat}
theorem mI {x : O} {kd : IntKind} {a : Int} (h : x.fv N f = .s (.int kd a)) (k : WO A N l (upd f d (.s (.int kd a))) n L K Zp) : WO A N (⟨some d, none, .p (.mv x)⟩ :: l) f n L K Zp := WO_mv h k
theorem mB {x : O} {a : Bool} (h : x.fv N f = .s (.bool a)) (k : WO A N l (upd f d (.s (.bool a))) n L K Zp) : WO A N (⟨some d, none, .p (.mv x)⟩ :: l) f n L K Zp := WO_mv h k
theorem mP {x : O} {b o z : Nat} (h : x.fv N f = .ptr b o z) (k : WO A N l (upd f d (.ptr b o z)) n L K Zp) : WO A N (⟨some d, none, .p (.mv x)⟩ :: l) f n L K Zp := WO_mv h k
theorem mA {x : O} {b : Nat} {g : Nat → S} (h : x.fv N f = .agg b g) (k : WO A N l (upd f d (.agg b g)) n L K Zp) : WO A N (⟨some d, none, .p (.mv x)⟩ :: l) f n L K Zp := WO_mv h k
theorem mL {x : O} {b o m z : Nat} {c : Cp} (h : x.fv N f = .sl b o m z c) (k : WO A N l (upd f d (.sl b o m z c)) n L K Zp) : WO A N (⟨some d, none, .p (.mv x)⟩ :: l) f n L K Zp := WO_mv h k
theorem mT {x : O} {y : List V} (h : x.fv N f = .tup y) (k : WO A N l (upd f d (.tup y)) n L K Zp) : WO A N (⟨some d, none, .p (.mv x)⟩ :: l) f n L K Zp := WO_mv h k
theorem pB {c a b : O} {t r : Bool} (hc : c.fv N f = .s (.bool t)) (hv : (bif t then a.fv N f else b.fv N f) = .s (.bool r)) (k : WO A N l (upd f d (.s (.bool r))) n L K Zp) : WO A N (⟨some d, none, .p (.pick c a b)⟩ :: l) f n L K Zp := WO_pick hc hv k
theorem bB {op : BinOp} {x y : O} {a b : S} {r : Bool} (hx : x.fv N f = .s a) (hy : y.fv N f = .s b) (hr : binS op a b = some (.bool r)) (k : WO A N l (upd f d (.s (.bool r))) n L K Zp) : WO A N (⟨some d, none, .p (.bin op x y)⟩ :: l) f n L K Zp := WO_bin hx hy hr k
end
abbrev gf := @WO_gf
abbrev gt := @WO_gt
abbrev nl := @WO_nil
abbrev fa := @WO_fa
abbrev sq := @WP_seq
abbrev os := @WP_ops
abbrev pr := @WP_par
abbrev sk := @WP_skip
abbrev rt := @WP_ret
abbrev cd := @WP_cond
abbrev bk := @WP_block
abbrev kn := @WP_know
abbrev lI := @WO_ldI
abbrev lS := @WO_ldS
abbrev l0 := @WO_ldA0
abbrev lA := @WO_ldAI
abbrev mv := @WO_mv
abbrev bi := @WO_bin
abbrev cs := @WO_case
abbrev ad := @WO_add
abbrev sb := @WO_sub
abbrev c0 := @WO_call0
abbrev q0 := @WO_callq0
abbrev un := @WO_un
abbrev ea := @WO_eqa
abbrev eC := @WO_eqaC
abbrev ia2 := @WO_ixa
abbrev is := @WO_ixs
abbrev aI := @WO_allocI
abbrev tA := @WO_stA
abbrev tI := @WO_stI
abbrev uI := @WO_buildI
abbrev xA := @WO_boxA
abbrev ex := @WO_ext
end Go.Am
namespace Go.Proofs.YtlkighkfkdpncaaGreat
open Go Go.Am
set_option maxRecDepth 100000
noncomputable def a3 : AF := ⟨51, [.tmp 4],
 (.seq (.ops [⟨some 2, none, .h (.box (.t 0))⟩,
 b' 4 false])
 (.seq (.ops [l' 10 true 133 2,
 ⟨some 11, none, .h (.call (.k (.fn 7 [])) [(.t 10)])⟩,
 m' 9 11,
 ⟨some 12, none, .p (.ext (.t 9) 0)⟩,
 ⟨some 13, none, .p (.ext (.t 9) 1)⟩,
 m' 5 12,
 m' 6 13])
 (.seq (.ops [l' 15 true 133 2,
 ⟨some 16, none, .h (.call (.k (.fn 8 [])) [(.t 15)])⟩,
 m' 14 16,
 ⟨some 17, none, .p (.ext (.t 14) 0)⟩,
 ⟨some 18, none, .p (.ext (.t 14) 1)⟩,
 m' 7 17,
 m' 8 18])
 (.seq (.par [m' 19 5,
 m' 20 7,
 o' 21 .eql 19 20,
 m' 22 21,
 m'g 23 22 true 6,
 m'g 24 22 true 8,
 ⟨some 25, some (22, true), .p (.bin .eql (.t 23) (.t 24))⟩,
 pa' 26 22 25,
 m' 27 26,
 l'g 28 27 true true 133 2,
 ⟨some 29, some (27, true), .h (.callq (.k (.fn 9 [])) [(.t 28)])⟩,
 l'g 30 27 true true 133 2,
 ⟨some 31, some (27, true), .h (.call (.k (.fn 10 [])) [(.t 30)])⟩,
 ⟨some 32, some (27, true), .p (.eqb false (.t 29) (.t 31))⟩,
 pa' 33 27 32,
 m' 34 33,
 l'g 35 34 true true 133 2,
 ⟨some 36, some (34, true), .h (.callq (.k (.fn 11 [])) [(.t 35)])⟩,
 l'g 37 34 true true 133 2,
 ⟨some 38, some (34, true), .h (.call (.k (.fn 12 [])) [(.t 37)])⟩,
 ⟨some 39, some (34, true), .p (.eqb false (.t 36) (.t 38))⟩,
 pa' 40 34 39,
 m' 41 40,
 m'g 42 41 true 1,
 ⟨some 43, some (41, true), .h (.call (.k (.fn 13 [])) [(.t 42)])⟩,
 m'g 44 41 true 1,
 ⟨some 45, some (41, true), .h (.call (.k (.fn 14 [])) [(.t 44)])⟩,
 ⟨some 46, some (41, true), .p (.bin .eql (.t 43) (.t 45))⟩,
 pa' 47 41 46,
 m' 48 47,
 ⟨some 49, some (48, true), .h (.call (.k (.fn 15 [])) [])⟩,
 pa' 50 48 49,
 m' 4 50])
 .ret))))⟩
theorem c3 : compF Tryz.prog false Tryz.f3 = some a3 := by kernel_rfl
noncomputable def a4 : AF := ⟨97, [.tmp 0],
 (.seq (.ops [b' 0 false])
 (.seq (.seq (.ops [n' 1 0])
 (.block 0 (.loop (.seq (.seq (.ops [m' 16 1,
 ok' 17 .lss 16 64])
 (.cond (.t 17)
 .skip
 (.exit 0)))
 (.seq (.block 1 (.seq (.ops [n' 2 0])
 (.block 2 (.loop (.seq (.seq (.ops [m' 20 2,
 ok' 21 .lss 20 5])
 (.cond (.t 21)
 .skip
 (.exit 2)))
 (.seq (.block 3 (.seq (.ops [⟨some 24, none, .h (.mksl 5 1 (.one (.s (.int .i64 0))) [(0, (.k (.s (.int .i64 45)))), (1, (.k (.s (.int .i64 46)))), (2, (.k (.s (.int .i64 47)))), (3, (.k (.s (.int .i64 61)))), (4, (.k (.s (.int .i64 30))))])⟩,
 m' 25 2,
 ⟨some 26, none, .p (.ixs 1 (.t 24) (.t 25))⟩,
 l' 27 false 1 26,
 m' 28 1,
 ⟨some 29, none, .h (.call (.k (.fn 16 [])) [(.t 27), (.k (.s (.int .i64 63))), (.t 28)])⟩,
 ⟨some 3, none, .h (.alloc (.ints 133))⟩,
 s' 133 3 29])
 (.seq (.ops [l' 30 true 133 3,
 ⟨some 4, none, .h (.alloc (.ints 133))⟩,
 s' 133 4 30])
 (.seq (.ops [f' 31 128 1 4,
 ⟨none, none, .h (.store 1 (.t 31) (.k (.s (.int .i64 0))))⟩])
 (.seq (.ops [l' 33 true 133 3,
 ⟨some 34, none, .h (.call (.k (.fn 7 [])) [(.t 33)])⟩,
 m' 32 34,
 ⟨some 35, none, .p (.ext (.t 32) 0)⟩,
 ⟨some 36, none, .p (.ext (.t 32) 1)⟩,
 m' 5 35,
 m' 6 36])
 (.seq (.ops [l' 38 true 133 3,
 ⟨some 39, none, .h (.call (.k (.fn 8 [])) [(.t 38)])⟩,
 m' 37 39,
 ⟨some 40, none, .p (.ext (.t 37) 0)⟩,
 ⟨some 41, none, .p (.ext (.t 37) 1)⟩,
 m' 7 40,
 m' 8 41])
 (.seq (.ops [l' 43 true 133 4,
 ⟨some 44, none, .h (.call (.k (.fn 7 [])) [(.t 43)])⟩,
 m' 42 44,
 ⟨some 45, none, .p (.ext (.t 42) 0)⟩,
 ⟨some 46, none, .p (.ext (.t 42) 1)⟩,
 m' 9 45,
 m' 10 46])
 (.seq (.ops [l' 48 true 133 4,
 ⟨some 49, none, .h (.call (.k (.fn 8 [])) [(.t 48)])⟩,
 m' 47 49,
 ⟨some 50, none, .p (.ext (.t 47) 0)⟩,
 ⟨some 51, none, .p (.ext (.t 47) 1)⟩,
 m' 11 50,
 m' 12 51])
 (.seq (.ops [m' 52 5,
 m' 53 7,
 o' 54 .neq 52 53,
 m' 55 54,
 m'g 56 55 false 6,
 m'g 57 55 false 8,
 ⟨some 58, some (55, false), .p (.bin .neq (.t 56) (.t 57))⟩,
 po' 59 55 58,
 m' 60 59,
 m'g 61 60 false 9,
 m'g 62 60 false 11,
 ⟨some 63, some (60, false), .p (.bin .neq (.t 61) (.t 62))⟩,
 po' 64 60 63,
 m' 65 64,
 m'g 66 65 false 10,
 m'g 67 65 false 12,
 ⟨some 68, some (65, false), .p (.bin .neq (.t 66) (.t 67))⟩,
 po' 69 65 68])
 (.cond (.t 69)
 (.seq (.ops [b' 0 false])
 .ret)
 .skip))))))))))
 (.ops [m' 22 2,
 ok' 23 .add 22 1,
 m' 2 23])))))))
 (.ops [m' 18 1,
 ok' 19 .add 18 1,
 m' 1 19]))))))
 (.seq (.ops [⟨some 70, none, .h (.mksl 10 1 (.one (.s (.int .i64 0))) [(0, (.k (.s (.int .i64 (-9223372036854775808))))), (1, (.k (.s (.int .i64 (-1))))), (2, (.k (.s (.int .i64 0)))), (3, (.k (.s (.int .i64 99)))), (4, (.k (.s (.int .i64 100)))), (5, (.k (.s (.int .i64 149)))), (6, (.k (.s (.int .i64 150)))), (7, (.k (.s (.int .i64 1024)))), (8, (.k (.s (.int .i64 1025)))), (9, (.k (.s (.int .i64 9223372036854775807))))])⟩,
 m' 13 70])
 (.seq (.seq (.ops [n' 14 0])
 (.block 4 (.loop (.seq (.seq (.ops [m' 71 14,
 m' 72 13,
 ⟨some 73, none, .p (.len (.t 72))⟩,
 o' 74 .lss 71 73])
 (.cond (.t 74)
 .skip
 (.exit 4)))
 (.seq (.block 5 (.seq (.ops [⟨some 77, none, .h (.call (.k (.fn 17 [])) [])⟩,
 ⟨some 15, none, .h (.alloc (.ints 133))⟩,
 s' 133 15 77])
 (.seq (.ops [m' 78 13,
 m' 79 14,
 ⟨some 80, none, .p (.ixs 1 (.t 78) (.t 79))⟩,
 l' 81 false 1 80,
 f' 82 131 1 15,
 s' 1 82 81])
 (.seq (.ops [l' 83 true 133 15,
 m' 84 14,
 ok' 85 .sub 84 1,
 ⟨some 86, none, .h (.call (.k (.fn 3 [])) [(.t 83), (.t 85)])⟩,
 ⟨some 87, none, .p (.un .not (.t 86))⟩])
 (.cond (.t 87)
 (.seq (.ops [b' 0 false])
 .ret)
 .skip)))))
 (.ops [m' 75 14,
 ok' 76 .add 75 1,
 m' 14 76]))))))
 (.seq (.ops [⟨some 88, none, .h (.call (.k (.fn 16 [])) [(.k (.s (.int .i64 45))), (.k (.s (.int .i64 53))), (.k (.s (.int .i64 0)))])⟩,
 ⟨some 89, none, .h (.call (.k (.fn 3 [])) [(.t 88), (.k (.s (.int .i64 0)))])⟩,
 m' 90 89,
 ⟨some 91, some (90, true), .h (.call (.k (.fn 18 [])) [])⟩,
 ⟨some 92, some (90, true), .h (.call (.k (.fn 3 [])) [(.t 91), (.k (.s (.int .i64 1)))])⟩,
 pa' 93 90 92,
 m' 94 93,
 ⟨some 95, some (94, true), .h (.call (.k (.fn 15 [])) [])⟩,
 pa' 96 94 95,
 m' 0 96])
 .ret)))))⟩
theorem c4 : compF Tryz.prog false Tryz.f4 = some a4 := by kernel_rfl
noncomputable def a5 : AF := ⟨111, [.tmp 2],
 (.seq (.ops [⟨some 1, none, .h (.box (.t 0))⟩,
 b' 2 false])
 (.seq (.seq (.ops [⟨some 8, none, .h (.call (.k (.fn 15 [])) [])⟩,
 ⟨some 9, none, .p (.un .not (.t 8))⟩])
 (.cond (.t 9)
 (.seq (.ops [b' 2 false])
 .ret)
 .skip))
 (.seq (.ops [l' 11 true 133 1,
 ⟨some 12, none, .h (.call (.k (.fn 7 [])) [(.t 11)])⟩,
 m' 10 12,
 ⟨some 13, none, .p (.ext (.t 10) 0)⟩,
 ⟨some 14, none, .p (.ext (.t 10) 1)⟩,
 m' 3 13,
 m' 4 14])
 (.seq (.ops [l' 15 true 133 1,
 ⟨some 16, none, .h (.call (.k (.fn 19 [])) [(.t 15)])⟩,
 m' 17 16,
 l'g 18 17 true true 133 1,
 ⟨some 19, some (17, true), .h (.call (.k (.fn 20 [])) [(.t 18)])⟩,
 ⟨some 20, some (17, true), .p (.len (.t 19))⟩,
 ⟨some 21, some (17, true), .p (.bin .eql (.t 20) (.k (.s (.int .i64 0))))⟩,
 pa' 22 17 21,
 m' 5 22])
 (.seq (.seq (.ops [m' 23 5,
 m' 24 3,
 ok' 25 .neq 24 0,
 ⟨some 26, none, .p (.eqb true (.t 23) (.t 25))⟩,
 m' 27 26,
 m'g 28 27 false 5,
 m'g 29 27 false 4,
 ⟨some 30, some (27, false), .p (.bin .neq (.t 29) (.k (.s (.int .i64 0))))⟩,
 ⟨some 31, some (27, false), .p (.eqb true (.t 28) (.t 30))⟩,
 po' 32 27 31,
 m' 33 32,
 m'g 34 33 false 4,
 ⟨some 35, some (33, false), .p (.bin .eql (.t 34) (.k (.s (.int .i64 1))))⟩,
 m'g 36 33 false 5,
 m'g 37 33 false 36,
 l'g 38 37 true true 133 1,
 f'g 39 37 true 128 1 1,
 l'g 40 37 true false 1 39,
 ⟨some 41, some (37, true), .h (.call (.k (.fn 21 [])) [(.t 38), (.t 40)])⟩,
 ⟨some 42, some (33, false), .p (.pick (.t 37) (.t 41) (.k (.s (.bool false))))⟩,
 ⟨some 43, some (33, false), .p (.eqb true (.t 35) (.t 42))⟩,
 po' 44 33 43,
 m' 45 44,
 m'g 46 45 false 3,
 ⟨some 47, some (45, false), .p (.bin .eql (.t 46) (.k (.s (.int .i64 3))))⟩,
 m'g 48 45 false 4,
 ⟨some 49, some (45, false), .p (.bin .eql (.t 48) (.k (.s (.int .i64 2))))⟩,
 ⟨some 50, some (45, false), .p (.eqb true (.t 47) (.t 49))⟩,
 po' 51 45 50])
 (.cond (.t 51)
 (.seq (.ops [b' 2 false])
 .ret)
 .skip))
 (.seq (.seq (.ops [m' 52 4,
 ok' 53 .eql 52 1,
 m' 54 53,
 m'g 55 54 true 3,
 f'g 56 54 true 128 1 1,
 l'g 57 54 true false 1 56,
 ⟨some 58, some (54, true), .h (.call (.k (.fn 22 [])) [(.t 57)])⟩,
 ⟨some 59, some (54, true), .h (.call (.k (.fn 13 [])) [(.t 58)])⟩,
 ⟨some 60, some (54, true), .p (.bin .neq (.t 55) (.t 59))⟩,
 pa' 61 54 60,
 m' 62 61,
 m'g 63 62 false 4,
 ⟨some 64, some (62, false), .p (.bin .neq (.t 63) (.k (.s (.int .i64 0))))⟩,
 m'g 65 62 false 64,
 m'g 66 65 true 4,
 ⟨some 67, some (65, true), .p (.bin .neq (.t 66) (.k (.s (.int .i64 1))))⟩,
 ⟨some 68, some (62, false), .p (.pick (.t 65) (.t 67) (.k (.s (.bool false))))⟩,
 m'g 69 62 false 68,
 m'g 70 69 true 4,
 ⟨some 71, some (69, true), .p (.bin .neq (.t 70) (.k (.s (.int .i64 2))))⟩,
 ⟨some 72, some (62, false), .p (.pick (.t 69) (.t 71) (.k (.s (.bool false))))⟩,
 po' 73 62 72])
 (.cond (.t 73)
 (.seq (.ops [b' 2 false])
 .ret)
 .skip))
 (.seq (.seq (.ops [l' 74 true 133 1,
 ⟨some 75, none, .h (.call (.k (.fn 23 [])) [(.t 74)])⟩,
 ⟨some 76, none, .p (.un .not (.t 75))⟩])
 (.cond (.t 76)
 (.seq (.ops [b' 2 true])
 .ret)
 .skip))
 (.seq (.ops [l' 78 true 133 1,
 ⟨some 79, none, .h (.call (.k (.fn 24 [])) [(.t 78)])⟩,
 ⟨some 80, none, .h (.call (.k (.fn 7 [])) [(.t 79)])⟩,
 m' 77 80,
 ⟨some 81, none, .p (.ext (.t 77) 0)⟩,
 ⟨some 82, none, .p (.ext (.t 77) 1)⟩,
 m' 6 81,
 m' 7 82])
 (.seq (.seq (.ops [m' 83 3,
 ok' 84 .eql 83 1,
 m' 85 84,
 m'g 86 85 false 3,
 ⟨some 87, some (85, false), .p (.bin .eql (.t 86) (.k (.s (.int .i64 2))))⟩,
 po' 88 85 87])
 (.cond (.t 88)
 (.seq (.ops [m' 89 7,
 m' 90 4,
 o' 91 .eql 89 90,
 m' 92 91,
 m'g 93 92 true 3,
 m'g 94 92 true 6,
 ⟨some 95, some (92, true), .p (.bin .add (.t 93) (.t 94))⟩,
 ⟨some 96, some (92, true), .p (.bin .eql (.t 95) (.k (.s (.int .i64 3))))⟩,
 pa' 97 92 96,
 m' 98 97,
 m'g 99 98 true 3,
 m'g 100 98 true 6,
 ⟨some 101, some (98, true), .p (.bin .neq (.t 99) (.t 100))⟩,
 pa' 102 98 101,
 m' 2 102])
 .ret)
 .skip))
 (.seq (.ops [m' 103 7,
 m' 104 4,
 o' 105 .eql 103 104,
 m' 106 105,
 m'g 107 106 true 6,
 m'g 108 106 true 3,
 ⟨some 109, some (106, true), .p (.bin .eql (.t 107) (.t 108))⟩,
 pa' 110 106 109,
 m' 2 110])
 .ret))))))))))⟩
theorem c5 : compF Tryz.prog false Tryz.f5 = some a5 := by kernel_rfl
noncomputable def a6 : AF := ⟨88, [.tmp 2],
 (.seq (.ops [⟨some 1, none, .h (.box (.t 0))⟩,
 b' 2 false])
 (.seq (.seq (.ops [⟨some 7, none, .h (.call (.k (.fn 15 [])) [])⟩,
 ⟨some 8, none, .p (.un .not (.t 7))⟩])
 (.cond (.t 8)
 (.seq (.ops [b' 2 false])
 .ret)
 .skip))
 (.seq (.seq (.par [l' 9 true 133 1,
 ⟨some 10, none, .h (.call (.k (.fn 11 [])) [(.t 9)])⟩,
 m' 11 10,
 l'g 12 11 true true 133 1,
 ⟨some 13, some (11, true), .h (.call (.k (.fn 9 [])) [(.t 12)])⟩,
 ⟨some 14, some (11, true), .p (.un .not (.t 13))⟩,
 pa' 15 11 14,
 m' 16 15,
 l'g 17 16 false true 133 1,
 ⟨some 18, some (16, false), .h (.callq (.k (.fn 9 [])) [(.t 17)])⟩,
 l'g 19 16 false true 133 1,
 ⟨some 20, some (16, false), .h (.call (.k (.fn 19 [])) [(.t 19)])⟩,
 m'g 21 16 false 20,
 f'g 22 21 true 131 1 1,
 l'g 23 21 true false 1 22,
 ⟨some 24, some (21, true), .p (.bin .geq (.t 23) (.k (.s (.int .i64 100))))⟩,
 ⟨some 25, some (16, false), .p (.pick (.t 21) (.t 24) (.k (.s (.bool false))))⟩,
 ⟨some 26, some (16, false), .p (.eqb true (.t 18) (.t 25))⟩,
 po' 27 16 26])
 (.cond (.t 27)
 (.seq (.ops [b' 2 false])
 .ret)
 .skip))
 (.seq (.ops [l' 28 true 133 1,
 ⟨some 29, none, .h (.call (.k (.fn 20 [])) [(.t 28)])⟩,
 m' 3 29])
 (.seq (.seq (.ops [n' 4 0])
 (.block 0 (.loop (.seq (.seq (.ops [m' 30 4,
 m' 31 3,
 ⟨some 32, none, .p (.len (.t 31))⟩,
 o' 33 .lss 30 32])
 (.cond (.t 33)
 .skip
 (.exit 0)))
 (.seq (.block 1 (.seq (.par [l' 37 true 133 1,
 m' 38 3,
 m' 39 4,
 ⟨some 40, none, .p (.ixs 3 (.t 38) (.t 39))⟩,
 l' 41 true 3 40,
 ⟨some 42, none, .h (.mksl 1 3 (.ints 3) [(0, (.t 41))])⟩,
 ⟨some 43, none, .h (.callq (.k (.fn 25 [])) [(.t 37), (.t 42)])⟩,
 m' 36 43,
 ⟨some 44, none, .p (.ext (.t 36) 0)⟩,
 ⟨some 45, none, .p (.ext (.t 36) 1)⟩,
 ⟨some 5, none, .h (.alloc (.ints 133))⟩,
 s' 133 5 44,
 m' 6 45])
 (.seq (.par [m' 46 6,
 ok' 47 .neq 46 0,
 m' 48 47,
 f'g 49 48 false 131 1 5,
 l'g 50 48 false false 1 49,
 ⟨some 51, some (48, false), .p (.bin .neq (.t 50) (.k (.s (.int .i64 0))))⟩,
 m'g 52 48 false 51,
 f'g 53 52 true 131 1 5,
 l'g 54 52 true false 1 53,
 f'g 55 52 true 131 1 1,
 l'g 56 52 true false 1 55,
 ⟨some 57, some (52, true), .p (.bin .add (.t 56) (.k (.s (.int .i64 1))))⟩,
 ⟨some 58, some (52, true), .p (.mn [(.t 57), (.k (.s (.int .i64 1024)))])⟩,
 ⟨some 59, some (52, true), .p (.bin .neq (.t 54) (.t 58))⟩,
 m'g 60 52 true 59,
 l'g 61 60 false true 133 1,
 ⟨some 62, some (60, false), .h (.call (.k (.fn 9 [])) [(.t 61)])⟩,
 m'g 63 60 false 62,
 l'g 64 63 true true 133 5,
 ⟨some 65, some (63, true), .h (.call (.k (.fn 9 [])) [(.t 64)])⟩,
 ⟨some 66, some (63, true), .p (.un .not (.t 65))⟩,
 ⟨some 67, some (60, false), .p (.pick (.t 63) (.t 66) (.k (.s (.bool false))))⟩,
 ⟨some 68, some (52, true), .p (.pick (.t 60) (.k (.s (.bool true))) (.t 67))⟩,
 m'g 69 52 true 68,
 l'g 70 69 false true 133 5,
 ⟨some 71, some (69, false), .h (.callq (.k (.fn 11 [])) [(.t 70)])⟩,
 f'g 72 69 false 131 1 1,
 l'g 73 69 false false 1 72,
 ⟨some 74, some (69, false), .p (.bin .geq (.t 73) (.k (.s (.int .i64 149))))⟩,
 ⟨some 75, some (69, false), .p (.eqb true (.t 71) (.t 74))⟩,
 ⟨some 76, some (52, true), .p (.pick (.t 69) (.k (.s (.bool true))) (.t 75))⟩,
 ⟨some 77, some (48, false), .p (.pick (.t 52) (.t 76) (.k (.s (.bool false))))⟩,
 po' 78 48 77,
 m' 79 78,
 f'g 80 79 false 131 1 5,
 l'g 81 79 false false 1 80,
 ⟨some 82, some (79, false), .p (.bin .eql (.t 81) (.k (.s (.int .i64 0))))⟩,
 m'g 83 79 false 82,
 l'g 84 83 true true 133 5,
 ⟨some 85, some (83, true), .h (.call (.k (.fn 9 [])) [(.t 84)])⟩,
 ⟨some 86, some (79, false), .p (.pick (.t 83) (.t 85) (.k (.s (.bool false))))⟩,
 po' 87 79 86])
 (.cond (.t 87)
 (.seq (.ops [b' 2 false])
 .ret)
 .skip))))
 (.ops [m' 34 4,
 ok' 35 .add 34 1,
 m' 4 35]))))))
 (.seq (.ops [b' 2 true])
 .ret))))))⟩
theorem c6 : compF Tryz.prog false Tryz.f6 = some a6 := by kernel_rfl
noncomputable def a7 : AF := ⟨22, [.tmp 2, .tmp 3],
 (.seq (.ops [⟨some 1, none, .h (.box (.t 0))⟩,
 n' 2 0,
 n' 3 0])
 (.seq (.seq (.ops [l' 5 true 133 1,
 ⟨some 6, none, .p (.build (.ints 133) [(0, 133, (.t 5))])⟩,
 ⟨some 4, none, .h (.alloc (.ints 133))⟩,
 s' 133 4 6])
 (.block 0 (.seq (.ops [l' 8 true 133 4,
 ⟨some 9, none, .h (.call (.k (.fn 26 [])) [(.t 8)])⟩,
 ⟨some 10, none, .p (.un .not (.t 9))⟩,
 m' 7 10])
 (.cond (.t 7)
 (.seq (.ops [n' 2 0,
 n' 3 0])
 .ret)
 (.seq (.ops [l' 12 true 133 1,
 f' 13 0 133 4,
 f' 14 128 1 13,
 l' 15 false 1 14,
 ⟨some 16, none, .h (.call (.k (.fn 21 [])) [(.t 12), (.t 15)])⟩,
 m' 11 16])
 (.cond (.t 11)
 (.seq (.ops [f' 17 0 133 4,
 f' 18 128 1 17,
 l' 19 false 1 18,
 ⟨some 20, none, .h (.call (.k (.fn 22 [])) [(.t 19)])⟩,
 ⟨some 21, none, .h (.call (.k (.fn 13 [])) [(.t 20)])⟩,
 m' 2 21,
 n' 3 1])
 .ret)
 .skip))))))
 (.seq (.ops [n' 2 3,
 n' 3 2])
 .ret)))⟩
theorem c7 : compF Tryz.prog false Tryz.f7 = some a7 := by kernel_rfl
noncomputable def a13 : AF := ⟨5, [.tmp 2],
 (.seq (.ops [n' 2 0])
 (.seq (.seq (.ops [m' 3 0,
 ok' 4 .eql 3 1])
 (.cond (.t 4)
 (.seq (.ops [n' 2 2])
 .ret)
 .skip))
 (.seq (.ops [n' 2 1])
 .ret)))⟩
theorem c13 : compF Tryz.prog false Tryz.f13 = some a13 := by kernel_rfl
noncomputable def a15 : AF := ⟨29, [.tmp 0],
 (.seq (.ops [b' 0 false])
 (.seq (.ops [⟨some 6, none, .h (.call (.k (.fn 16 [])) [(.k (.s (.int .i64 45))), (.k (.s (.int .i64 62))), (.k (.s (.int .i64 54)))])⟩,
 ⟨some 7, none, .h (.call (.k (.fn 7 [])) [(.t 6)])⟩,
 m' 5 7,
 ⟨some 8, none, .p (.ext (.t 5) 0)⟩,
 ⟨some 9, none, .p (.ext (.t 5) 1)⟩,
 m' 1 8,
 m' 2 9])
 (.seq (.ops [⟨some 11, none, .h (.call (.k (.fn 16 [])) [(.k (.s (.int .i64 45))), (.k (.s (.int .i64 63))), (.k (.s (.int .i64 53)))])⟩,
 ⟨some 12, none, .h (.call (.k (.fn 7 [])) [(.t 11)])⟩,
 m' 10 12,
 ⟨some 13, none, .p (.ext (.t 10) 0)⟩,
 ⟨some 14, none, .p (.ext (.t 10) 1)⟩,
 m' 3 13,
 m' 4 14])
 (.seq (.ops [m' 15 1,
 ok' 16 .eql 15 1,
 m' 17 16,
 m'g 18 17 true 2,
 ⟨some 19, some (17, true), .p (.bin .eql (.t 18) (.k (.s (.int .i64 1))))⟩,
 pa' 20 17 19,
 m' 21 20,
 m'g 22 21 true 3,
 ⟨some 23, some (21, true), .p (.bin .eql (.t 22) (.k (.s (.int .i64 3))))⟩,
 pa' 24 21 23,
 m' 25 24,
 m'g 26 25 true 4,
 ⟨some 27, some (25, true), .p (.bin .eql (.t 26) (.k (.s (.int .i64 2))))⟩,
 pa' 28 25 27,
 m' 0 28])
 .ret))))⟩
theorem c15 : compF Tryz.prog false Tryz.f15 = some a15 := by kernel_rfl
noncomputable def a16 : AF := ⟨23, [.cell 6 true 133],
 (.seq (.ops [⟨some 6, none, .h (.alloc (.ints 133))⟩])
 (.seq (.ops [⟨some 8, none, .h (.call (.k (.fn 18 [])) [])⟩,
 ⟨some 7, none, .h (.alloc (.ints 133))⟩,
 s' 133 7 8])
 (.seq (.ops [m' 9 2,
 ⟨some 10, none, .p (.build (.ints 2) [(0, 1, (.k (.s (.int .i64 5))))])⟩,
 f' 11 0 128 7,
 ⟨some 12, none, .p (.ixa 64 2 (.t 11) (.t 9))⟩,
 s' 2 12 10])
 (.seq (.ops [m' 13 0,
 ⟨some 14, none, .p (.build (.ints 2) [(0, 1, (.k (.s (.int .i64 6))))])⟩,
 f' 15 0 128 7,
 ⟨some 16, none, .p (.ixa 64 2 (.t 15) (.t 13))⟩,
 s' 2 16 14])
 (.seq (.ops [m' 17 1,
 ⟨some 18, none, .p (.build (.ints 2) [(0, 1, (.k (.s (.int .i64 6)))), (1, 1, (.k (.s (.int .i64 1))))])⟩,
 f' 19 0 128 7,
 ⟨some 20, none, .p (.ixa 64 2 (.t 19) (.t 17))⟩,
 s' 2 20 18])
 (.seq (.ops [f' 21 128 1 7,
 ⟨none, none, .h (.store 1 (.t 21) (.k (.s (.int .i64 1))))⟩])
 (.seq (.ops [l' 22 true 133 7,
 s' 133 6 22])
 .ret)))))))⟩
theorem c16 : compF Tryz.prog false Tryz.f16 = some a16 := by kernel_rfl
noncomputable def a18 : AF := ⟨2, [.cell 0 true 133],
 (.seq (.ops [⟨some 0, none, .h (.alloc (.ints 133))⟩])
 (.seq (.ops [⟨some 1, none, .p (.build (.ints 133) [(130, 1, (.k (.s (.int .i64 (-1))))), (132, 1, (.k (.s (.int .i64 1))))])⟩,
 s' 133 0 1])
 .ret))⟩
theorem c18 : compF Tryz.prog false Tryz.f18 = some a18 := by kernel_rfl
noncomputable def a19 : AF := ⟨13, [.tmp 2],
 (.seq (.ops [⟨some 1, none, .h (.box (.t 0))⟩,
 b' 2 false])
 (.seq (.par [l' 3 true 133 1,
 ⟨some 4, none, .h (.call (.k (.fn 23 [])) [(.t 3)])⟩,
 m' 5 4,
 l'g 6 5 true true 133 1,
 f'g 7 5 true 128 1 1,
 l'g 8 5 true false 1 7,
 ⟨some 9, some (5, true), .h (.callq (.k (.fn 22 [])) [(.t 8)])⟩,
 ⟨some 10, some (5, true), .h (.call (.k (.fn 21 [])) [(.t 6), (.t 9)])⟩,
 ⟨some 11, some (5, true), .p (.un .not (.t 10))⟩,
 pa' 12 5 11,
 m' 2 12])
 .ret))⟩
theorem c19 : compF Tryz.prog false Tryz.f19 = some a19 := by kernel_rfl
noncomputable def rd20 : RD := rdOf Tryz.f20
noncomputable def g20 : AC := (.ops [⟨some 3, none, .h (.alloc (.ints 3))⟩,
 s' 3 3 6])
noncomputable def b20 : AC := (.block 1 (.ops [l' 8 false 1 2,
 l' 9 true 3 3,
 ⟨some 10, none, .h (.mksl 1 3 (.ints 3) [(0, (.t 9))])⟩,
 ⟨some 11, none, .h (.append 3 24 (.t 8) (.t 10))⟩,
 s' 1 2 11]))
noncomputable def a20 : AF := ⟨13, [.cell 2 false 1],
 (.seq (.ops [⟨some 1, none, .h (.box (.t 0))⟩,
 ⟨some 2, none, .h (.alloc (.one .snil))⟩])
 (.seq (.seq (.ops [l' 4 true 133 1,
 ⟨some 5, none, .h (.call (.k (.fn 32 [])) [(.t 4)])⟩])
 (.block 0 (.rfn (.t 5) 607 rd20)))
 (.seq (.ops [l' 12 false 1 2,
 s' 1 2 12])
 .ret)))⟩
theorem c20 : compF Tryz.prog false Tryz.f20 = some a20 := by kernel_rfl
noncomputable def a21 : AF := ⟨19, [.tmp 4],
 (.seq (.ops [⟨some 2, none, .h (.box (.t 0))⟩,
 b' 4 false])
 (.seq (.seq (.ops [m' 5 1,
 ok' 6 .neq 5 0,
 m' 7 6,
 m'g 8 7 true 1,
 ⟨some 9, some (7, true), .p (.bin .neq (.t 8) (.k (.s (.int .i64 1))))⟩,
 pa' 10 7 9])
 (.cond (.t 10)
 (.seq (.ops [b' 4 false])
 .ret)
 .skip))
 (.seq (.par [l' 11 true 133 2,
 m' 12 1,
 ⟨some 13, none, .h (.callq (.k (.fn 22 [])) [(.t 12)])⟩,
 l' 14 true 133 2,
 m' 15 1,
 ⟨some 16, none, .p (.build (.ints 2) [(0, 1, (.k (.s (.int .i64 6)))), (1, 1, (.t 15))])⟩,
 ⟨some 17, none, .h (.callq (.k (.fn 34 [])) [(.t 14), (.t 16)])⟩,
 ⟨some 18, none, .h (.call (.k (.fn 33 [])) [(.t 11), (.t 13), (.t 17)])⟩,
 m' 4 18])
 .ret)))⟩
theorem c21 : compF Tryz.prog false Tryz.f21 = some a21 := by kernel_rfl
noncomputable def a22 : AF := ⟨5, [.tmp 2],
 (.seq (.ops [n' 2 0])
 (.seq (.seq (.ops [m' 3 0,
 ok' 4 .eql 3 0])
 (.cond (.t 4)
 (.seq (.ops [n' 2 1])
 .ret)
 .skip))
 (.seq (.ops [n' 2 0])
 .ret)))⟩
theorem c22 : compF Tryz.prog false Tryz.f22 = some a22 := by kernel_rfl
noncomputable def a23 : AF := ⟨36, [.tmp 2],
 (.seq (.ops [⟨some 1, none, .h (.box (.t 0))⟩,
 b' 2 false])
 (.seq (.ops [l' 4 true 133 1,
 ⟨some 5, none, .p (.build (.ints 133) [(0, 133, (.t 4))])⟩,
 ⟨some 3, none, .h (.alloc (.ints 133))⟩,
 s' 133 3 5])
 (.seq (.ops [l' 6 true 133 3,
 ⟨some 7, none, .h (.call (.k (.fn 35 [])) [(.t 6)])⟩,
 m' 8 7,
 l'g 9 8 true true 133 3,
 ⟨some 10, some (8, true), .h (.call (.k (.fn 36 [])) [(.t 9)])⟩,
 pa' 11 8 10,
 m' 12 11,
 l'g 13 12 true true 133 3,
 ⟨some 14, some (12, true), .h (.call (.k (.fn 37 [])) [(.t 13)])⟩,
 pa' 15 12 14,
 m' 16 15,
 f'g 17 16 true 131 1 1,
 l'g 18 16 true false 1 17,
 ⟨some 19, some (16, true), .p (.bin .geq (.t 18) (.k (.s (.int .i64 0))))⟩,
 pa' 20 16 19,
 m' 21 20,
 f'g 22 21 true 131 1 1,
 l'g 23 21 true false 1 22,
 ⟨some 24, some (21, true), .p (.bin .leq (.t 23) (.k (.s (.int .i64 1024))))⟩,
 pa' 25 21 24,
 m' 26 25,
 f'g 27 26 true 132 1 1,
 l'g 28 26 true false 1 27,
 ⟨some 29, some (26, true), .p (.bin .geq (.t 28) (.k (.s (.int .i64 1))))⟩,
 pa' 30 26 29,
 m' 31 30,
 f'g 32 31 true 132 1 1,
 l'g 33 31 true false 1 32,
 ⟨some 34, some (31, true), .p (.bin .leq (.t 33) (.k (.s (.int .i64 16384))))⟩,
 pa' 35 31 34,
 m' 2 35])
 .ret)))⟩
theorem c23 : compF Tryz.prog false Tryz.f23 = some a23 := by kernel_rfl
noncomputable def a24 : AF := ⟨57, [.cell 2 true 133],
 (.seq (.ops [⟨some 1, none, .h (.box (.t 0))⟩,
 ⟨some 2, none, .h (.alloc (.ints 133))⟩])
 (.seq (.ops [l' 7 true 133 1,
 ⟨some 3, none, .h (.alloc (.ints 133))⟩,
 s' 133 3 7])
 (.seq (.ops [⟨some 4, none, .p (.mv (.k (.fn 38 [])))⟩])
 (.seq (.seq (.ops [f' 8 0 128 1,
 l' 9 true 128 8,
 n' 10 0])
 (.block 0 (.loop (.seq (.ops [ok' 11 .lss 10 64])
 (.seq (.cond (.t 11)
 .skip
 (.exit 0))
 (.seq (.block 1 (.seq (.ops [m' 12 10,
 ⟨some 13, none, .p (.ix 64 2 true (.t 9) (.t 10))⟩,
 ⟨some 6, none, .h (.alloc (.ints 2))⟩,
 m' 5 12,
 s' 2 6 13])
 (.seq (.seq (.ops [l' 14 true 2 6,
 ⟨some 15, none, .h (.call (.k (.fn 42 [])) [(.t 14)])⟩])
 (.cond (.t 15)
 (.ops [f' 16 1 1 6,
 l' 17 false 1 16,
 ⟨some 18, none, .h (.call (.k (.fn 22 [])) [(.t 17)])⟩,
 f' 19 1 1 6,
 s' 1 19 18])
 .skip))
 (.par [m' 20 4,
 m' 21 5,
 ⟨some 22, none, .h (.callq (.t 20) [(.t 21)])⟩,
 l' 23 true 2 6,
 f' 24 0 128 3,
 ⟨some 25, none, .p (.ixa 64 2 (.t 24) (.t 22))⟩,
 s' 2 25 23]))))
 (.ops [ok' 26 .add 10 1,
 m' 10 26])))))))
 (.seq (.ops [f' 27 128 1 1,
 l' 28 false 1 27,
 ⟨some 29, none, .h (.call (.k (.fn 22 [])) [(.t 28)])⟩,
 f' 30 128 1 3,
 s' 1 30 29])
 (.seq (.seq (.ops [f' 31 129 1 1,
 l' 32 false 1 31,
 ok' 33 .geq 32 0,
 m' 34 33,
 f'g 35 34 true 129 1 1,
 l'g 36 34 true false 1 35,
 ⟨some 37, some (34, true), .p (.bin .leq (.t 36) (.k (.s (.int .i64 15))))⟩,
 pa' 38 34 37])
 (.cond (.t 38)
 (.ops [f' 39 129 1 1,
 l' 40 false 1 39,
 ⟨some 41, none, .p (.bin .shr (.t 40) (.k (.s (.int .u64 2))))⟩,
 f' 42 129 1 1,
 l' 43 false 1 42,
 ok' 44 .and 43 3,
 ⟨some 45, none, .p (.bin .shl (.t 44) (.k (.s (.int .u64 2))))⟩,
 o' 46 .or 41 45,
 f' 47 129 1 3,
 s' 1 47 46])
 .skip))
 (.seq (.seq (.ops [f' 48 130 1 1,
 l' 49 false 1 48,
 ⟨some 50, none, .h (.call (.k (.fn 43 [])) [(.t 49)])⟩])
 (.cond (.t 50)
 (.ops [m' 51 4,
 f' 52 130 1 1,
 l' 53 false 1 52,
 ⟨some 54, none, .h (.call (.t 51) [(.t 53)])⟩,
 f' 55 130 1 3,
 s' 1 55 54])
 .skip))
 (.seq (.ops [l' 56 true 133 3,
 s' 133 2 56])
 .ret))))))))⟩
theorem c24 : compF Tryz.prog false Tryz.f24 = some a24 := by kernel_rfl
noncomputable def rd25 : RD := rdOf Tryz.f25
noncomputable def g25 : AC := (.seq (.ops [⟨some 9, none, .h (.alloc (.ints 3))⟩,
 s' 3 9 23])
 (.ops [⟨some 10, none, .h (.alloc (.ints 133))⟩,
 s' 133 10 24]))
noncomputable def b25 : AC := (.block 3 (.seq (.ops [l' 25 true 3 9,
 l' 26 true 3 7,
 ⟨some 27, none, .p (.eqa false 3 (.t 25) (.t 26))⟩,
 s' 1 8 27])
 (.seq (.ops [l' 28 false 1 8])
 (.cond (.t 28)
 (.seq (.ops [l' 29 true 133 10,
 s' 133 2 29])
 (.exit 2))
 .skip))))
noncomputable def a26 : AF := ⟨13, [.tmp 2],
 (.seq (.ops [⟨some 1, none, .h (.box (.t 0))⟩,
 b' 2 false])
 (.seq (.ops [f' 3 0 133 1,
 l' 4 true 133 3,
 ⟨some 5, none, .h (.call (.k (.fn 19 [])) [(.t 4)])⟩,
 m' 6 5,
 f'g 7 6 true 0 133 1,
 l'g 8 6 true true 133 7,
 ⟨some 9, some (6, true), .h (.call (.k (.fn 20 [])) [(.t 8)])⟩,
 ⟨some 10, some (6, true), .p (.len (.t 9))⟩,
 ⟨some 11, some (6, true), .p (.bin .eql (.t 10) (.k (.s (.int .i64 0))))⟩,
 pa' 12 6 11,
 m' 2 12])
 .ret))⟩
theorem c26 : compF Tryz.prog false Tryz.f26 = some a26 := by kernel_rfl
noncomputable def a32 : AF := ⟨9, [.tmp 2],
 (.seq (.ops [⟨some 1, none, .h (.box (.t 0))⟩,
 ⟨some 2, none, .p (.mv (.k .fnil))⟩])
 (.seq (.seq (.ops [l' 3 true 133 1,
 ⟨some 4, none, .h (.call (.k (.fn 19 [])) [(.t 3)])⟩,
 ⟨some 5, none, .p (.un .not (.t 4))⟩])
 (.cond (.t 5)
 (.seq (.ops [⟨some 2, none, .p (.mv (.k (.fn 51 [])))⟩])
 .ret)
 .skip))
 (.seq (.ops [l' 6 true 133 1,
 ⟨some 7, none, .p (.build (.ints 133) [(0, 133, (.t 6))])⟩,
 ⟨some 8, none, .h (.call (.k (.fn 52 [])) [(.t 7)])⟩,
 m' 2 8])
 .ret)))⟩
theorem c32 : compF Tryz.prog false Tryz.f32 = some a32 := by kernel_rfl
noncomputable def rd33 : RD := rdOf Tryz.f33
noncomputable def g33 : AC := .skip
noncomputable def b33 : AC := (.block 3 (.seq (.ops [⟨none, none, .h (.store 1 (.t 6) (.k (.s (.bool true))))⟩])
 .ret))
noncomputable def a33 : AF := ⟨24, [.cell 6 false 1],
 (.seq (.ops [⟨some 3, none, .h (.box (.t 0))⟩,
 ⟨some 6, none, .h (.alloc (.one (.s (.bool false))))⟩])
 (.seq (.ops [l' 10 true 133 3,
 ⟨some 11, none, .p (.build (.ints 133) [(0, 133, (.t 10))])⟩,
 ⟨some 7, none, .h (.alloc (.ints 133))⟩,
 s' 133 7 11])
 (.seq (.seq (.ops [m' 12 2,
 ⟨some 13, none, .p (.len (.t 12))⟩,
 n' 14 0])
 (.block 0 (.loop (.seq (.ops [o' 15 .lss 14 13])
 (.seq (.cond (.t 15)
 .skip
 (.exit 0))
 (.seq (.block 1 (.seq (.ops [⟨some 16, none, .p (.ixs 1 (.t 12) (.t 14))⟩,
 l' 17 false 1 16,
 m' 9 17])
 (.seq (.ops [l' 18 true 133 7,
 m' 19 9,
 m' 20 1,
 ⟨some 21, none, .h (.call (.k (.fn 53 [])) [(.t 18), (.t 19), (.t 20)])⟩])
 (.block 2 (.rfn (.t 21) 22 rd33)))))
 (.ops [ok' 23 .add 14 1,
 m' 14 23])))))))
 (.seq (.ops [⟨none, none, .h (.store 1 (.t 6) (.k (.s (.bool false))))⟩])
 .ret))))⟩
theorem c33 : compF Tryz.prog false Tryz.f33 = some a33 := by kernel_rfl
noncomputable def a34 : AF := ⟨22, [.tmp 4],
 (.seq (.ops [⟨some 2, none, .h (.box (.t 0))⟩,
 ⟨some 3, none, .h (.box (.t 1))⟩,
 ⟨some 4, none, .p (.mv (.k .snil))⟩])
 (.seq (.seq (.ops [f' 7 0 128 2,
 l' 8 true 128 7,
 n' 9 0])
 (.block 0 (.loop (.seq (.ops [ok' 10 .lss 9 64])
 (.seq (.cond (.t 10)
 .skip
 (.exit 0))
 (.seq (.block 1 (.seq (.ops [m' 11 9,
 ⟨some 12, none, .p (.ix 64 2 true (.t 8) (.t 9))⟩,
 ⟨some 6, none, .h (.alloc (.ints 2))⟩,
 m' 5 11,
 s' 2 6 12])
 (.seq (.ops [l' 13 true 2 3,
 l' 14 true 2 6,
 ⟨some 15, none, .p (.eqa false 2 (.t 13) (.t 14))⟩])
 (.cond (.t 15)
 (.ops [m' 16 4,
 m' 17 5,
 ⟨some 18, none, .h (.mksl 1 1 (.one (.s (.int .i64 0))) [(0, (.t 17))])⟩,
 ⟨some 19, none, .h (.append 1 8 (.t 16) (.t 18))⟩,
 m' 4 19])
 .skip))))
 (.ops [ok' 20 .add 9 1,
 m' 9 20])))))))
 (.seq (.ops [m' 21 4,
 m' 4 21])
 .ret)))⟩
theorem c34 : compF Tryz.prog false Tryz.f34 = some a34 := by kernel_rfl
noncomputable def a35 : AF := ⟨61, [.tmp 2],
 (.seq (.ops [⟨some 1, none, .h (.box (.t 0))⟩,
 b' 2 false])
 (.seq (.ops [⟨some 3, none, .h (.alloc (.ints 2))⟩])
 (.seq (.seq (.ops [f' 7 0 133 1,
 f' 8 0 128 7,
 l' 9 true 128 8,
 n' 10 0])
 (.block 0 (.loop (.seq (.ops [ok' 11 .lss 10 64])
 (.seq (.cond (.t 11)
 .skip
 (.exit 0))
 (.seq (.block 1 (.seq (.ops [m' 12 10,
 ⟨some 13, none, .p (.ix 64 2 true (.t 9) (.t 10))⟩,
 ⟨some 5, none, .h (.alloc (.ints 2))⟩,
 m' 4 12,
 s' 2 5 13])
 (.seq (.seq (.ops [l' 14 true 2 5,
 ⟨some 15, none, .p (.build (.ints 2) [])⟩,
 ⟨some 16, none, .p (.eqa false 2 (.t 14) (.t 15))⟩])
 (.cond (.t 16)
 (.exit 1)
 .skip))
 (.seq (.ops [m' 17 4,
 ⟨some 18, none, .h (.call (.k (.fn 41 [])) [(.t 17)])⟩,
 ok' 19 .eql 18 0,
 m' 20 19,
 m'g 21 20 false 4,
 ⟨some 22, some (20, false), .h (.call (.k (.fn 41 [])) [(.t 21)])⟩,
 ⟨some 23, some (20, false), .p (.bin .eql (.t 22) (.k (.s (.int .i64 7))))⟩,
 po' 24 20 23,
 m' 6 24])
 (.seq (.seq (.ops [l' 25 true 2 5,
 ⟨some 26, none, .h (.call (.k (.fn 42 [])) [(.t 25)])⟩,
 ⟨some 27, none, .p (.un .not (.t 26))⟩,
 m' 28 27,
 m'g 29 28 false 6,
 m'g 30 28 false 29,
 f'g 31 30 true 0 1 5,
 l'g 32 30 true false 1 31,
 ⟨some 33, some (30, true), .p (.bin .eql (.t 32) (.k (.s (.int .i64 1))))⟩,
 ⟨some 34, some (28, false), .p (.pick (.t 30) (.t 33) (.k (.s (.bool false))))⟩,
 po' 35 28 34])
 (.cond (.t 35)
 (.seq (.ops [b' 2 false])
 .ret)
 .skip))
 (.seq (.ops [f' 36 0 1 5,
 l' 37 false 1 36,
 ok' 38 .eql 37 6])
 (.cond (.t 38)
 (.ops [f' 39 1 1 5,
 l' 40 false 1 39,
 ⟨some 41, none, .p (.ixa 2 1 (.t 3) (.t 40))⟩,
 l' 42 false 1 41,
 ok' 43 .add 42 1,
 ⟨some 44, none, .p (.ixa 2 1 (.t 3) (.t 40))⟩,
 s' 1 44 43])
 .skip)))))))
 (.ops [ok' 45 .add 10 1,
 m' 10 45])))))))
 (.seq (.ops [l' 46 true 2 3,
 ⟨some 47, none, .p (.build (.ints 2) [(0, 1, (.k (.s (.int .i64 1)))), (1, 1, (.k (.s (.int .i64 1))))])⟩,
 ⟨some 48, none, .p (.eqa false 2 (.t 46) (.t 47))⟩,
 m' 49 48,
 f'g 50 49 true 0 133 1,
 f'g 51 49 true 128 1 50,
 l'g 52 49 true false 1 51,
 ⟨some 53, some (49, true), .p (.bin .eql (.t 52) (.k (.s (.int .i64 0))))⟩,
 m'g 54 49 true 53,
 f'g 55 54 false 0 133 1,
 f'g 56 54 false 128 1 55,
 l'g 57 54 false false 1 56,
 ⟨some 58, some (54, false), .p (.bin .eql (.t 57) (.k (.s (.int .i64 1))))⟩,
 ⟨some 59, some (49, true), .p (.pick (.t 54) (.k (.s (.bool true))) (.t 58))⟩,
 pa' 60 49 59,
 m' 2 60])
 .ret))))⟩
theorem c35 : compF Tryz.prog false Tryz.f35 = some a35 := by kernel_rfl
noncomputable def a36 : AF := ⟨46, [.tmp 2],
 (.seq (.ops [⟨some 1, none, .h (.box (.t 0))⟩,
 b' 2 false])
 (.seq (.seq (.ops [f' 6 0 133 1,
 f' 7 129 1 6,
 l' 8 false 1 7,
 ok' 9 .lss 8 0,
 m' 10 9,
 f'g 11 10 false 0 133 1,
 f'g 12 10 false 129 1 11,
 l'g 13 10 false false 1 12,
 ⟨some 14, some (10, false), .p (.bin .gtr (.t 13) (.k (.s (.int .i64 15))))⟩,
 po' 15 10 14])
 (.cond (.t 15)
 (.seq (.ops [b' 2 false])
 .ret)
 .skip))
 (.seq (.seq (.ops [⟨some 16, none, .p (.build (.ints 4) [(0, 1, (.k (.s (.int .i64 7)))), (1, 1, (.k (.s (.int .i64 0)))), (2, 1, (.k (.s (.int .i64 63)))), (3, 1, (.k (.s (.int .i64 56))))])⟩,
 n' 17 0])
 (.block 0 (.loop (.seq (.ops [ok' 18 .lss 17 4])
 (.seq (.cond (.t 18)
 .skip
 (.exit 0))
 (.seq (.block 1 (.seq (.ops [m' 19 17,
 ⟨some 20, none, .p (.ix 4 1 false (.t 16) (.t 17))⟩,
 m' 3 19,
 m' 4 20])
 (.seq (.seq (.ops [f' 21 0 133 1,
 f' 22 129 1 21,
 l' 23 false 1 22,
 m' 24 3,
 o' 25 .shr 23 24,
 ok' 26 .and 25 1,
 ok' 27 .eql 26 0])
 (.cond (.t 27)
 (.exit 1)
 .skip))
 (.seq (.ops [m' 28 3,
 ok' 29 .quo 28 2,
 m' 5 29])
 (.seq (.ops [l' 30 true 133 1,
 m' 31 5,
 m' 32 4,
 ⟨some 33, none, .h (.call (.k (.fn 54 [])) [(.t 30), (.k (.s (.int .i64 4))), (.t 31), (.t 32)])⟩,
 ⟨some 34, none, .p (.un .not (.t 33))⟩,
 m' 35 34,
 l'g 36 35 false true 133 1,
 m'g 37 35 false 5,
 m'g 38 35 false 4,
 ⟨some 39, some (35, false), .p (.bin .quo (.t 38) (.k (.s (.int .i64 8))))⟩,
 ⟨some 40, some (35, false), .p (.bin .mul (.t 39) (.k (.s (.int .i64 8))))⟩,
 ⟨some 41, some (35, false), .p (.bin .add (.t 40) (.k (.s (.int .i64 4))))⟩,
 ⟨some 42, some (35, false), .h (.call (.k (.fn 54 [])) [(.t 36), (.k (.s (.int .i64 6))), (.t 37), (.t 41)])⟩,
 ⟨some 43, some (35, false), .p (.un .not (.t 42))⟩,
 po' 44 35 43])
 (.cond (.t 44)
 (.seq (.ops [b' 2 false])
 .ret)
 .skip))))))
 (.ops [ok' 45 .add 17 1,
 m' 17 45])))))))
 (.seq (.ops [b' 2 true])
 .ret))))⟩
theorem c36 : compF Tryz.prog false Tryz.f36 = some a36 := by kernel_rfl
noncomputable def a37 : AF := ⟨55, [.tmp 2],
 (.seq (.ops [⟨some 1, none, .h (.box (.t 0))⟩,
 b' 2 false])
 (.seq (.seq (.ops [f' 6 0 133 1,
 f' 7 130 1 6,
 l' 8 false 1 7,
 ok' 9 .eql 8 (-1)])
 (.cond (.t 9)
 (.seq (.ops [b' 2 true])
 .ret)
 .skip))
 (.seq (.ops [n' 3 5,
 n' 4 1])
 (.seq (.seq (.ops [f' 10 0 133 1,
 f' 11 128 1 10,
 l' 12 false 1 11,
 ok' 13 .eql 12 1])
 (.cond (.t 13)
 (.ops [n' 3 2,
 n' 4 (-1)])
 .skip))
 (.seq (.seq (.ops [f' 14 0 133 1,
 f' 15 130 1 14,
 l' 16 false 1 15,
 ⟨some 17, none, .h (.call (.k (.fn 41 [])) [(.t 16)])⟩,
 m' 18 3,
 o' 19 .neq 17 18,
 m' 20 19,
 f'g 21 20 false 0 133 1,
 f'g 22 20 false 131 1 21,
 l'g 23 20 false false 1 22,
 ⟨some 24, some (20, false), .p (.bin .neq (.t 23) (.k (.s (.int .i64 0))))⟩,
 po' 25 20 24])
 (.cond (.t 25)
 (.seq (.ops [b' 2 false])
 .ret)
 .skip))
 (.seq (.ops [⟨some 26, none, .p (.mkfn 55 [(.t 1)])⟩,
 m' 5 26])
 (.seq (.par [m' 27 5,
 f' 28 0 133 1,
 f' 29 130 1 28,
 l' 30 false 1 29,
 ⟨some 31, none, .h (.call (.t 27) [(.t 30)])⟩,
 m' 32 31,
 m'g 33 32 true 5,
 f'g 34 32 true 0 133 1,
 f'g 35 32 true 130 1 34,
 l'g 36 32 true false 1 35,
 m'g 37 32 true 4,
 ⟨some 38, some (32, true), .h (.call (.k (.fn 56 [])) [(.t 36), (.k (.s (.int .i64 0))), (.t 37)])⟩,
 ⟨some 39, some (32, true), .h (.call (.t 33) [(.t 38)])⟩,
 pa' 40 32 39,
 m' 41 40,
 l'g 42 41 true true 133 1,
 f'g 43 41 true 0 133 1,
 f'g 44 41 true 128 1 43,
 l'g 45 41 true false 1 44,
 ⟨some 46, some (41, true), .h (.callq (.k (.fn 22 [])) [(.t 45)])⟩,
 f'g 47 41 true 0 133 1,
 f'g 48 41 true 130 1 47,
 l'g 49 41 true false 1 48,
 m'g 50 41 true 4,
 ⟨some 51, some (41, true), .p (.un .neg (.t 50))⟩,
 ⟨some 52, some (41, true), .h (.callq (.k (.fn 56 [])) [(.t 49), (.k (.s (.int .i64 0))), (.t 51)])⟩,
 ⟨some 53, some (41, true), .h (.call (.k (.fn 54 [])) [(.t 42), (.k (.s (.int .i64 1))), (.t 46), (.t 52)])⟩,
 pa' 54 41 53,
 m' 2 54])
 .ret)))))))⟩
theorem c37 : compF Tryz.prog false Tryz.f37 = some a37 := by kernel_rfl
noncomputable def a38 : AF := ⟨9, [.tmp 2],
 (.seq (.ops [n' 2 0])
 (.seq (.ops [m' 3 0,
 ⟨some 4, none, .h (.call (.k (.fn 40 [])) [(.t 3)])⟩,
 m' 5 0,
 ⟨some 6, none, .h (.call (.k (.fn 41 [])) [(.t 5)])⟩,
 ⟨some 7, none, .p (.bin .sub (.k (.s (.int .i64 7))) (.t 6))⟩,
 ⟨some 8, none, .h (.call (.k (.fn 39 [])) [(.t 4), (.t 7)])⟩,
 m' 2 8])
 .ret))⟩
theorem c38 : compF Tryz.prog false Tryz.f38 = some a38 := by kernel_rfl
noncomputable def a39 : AF := ⟨9, [.tmp 4],
 (.seq (.ops [n' 4 0])
 (.seq (.ops [m' 5 0,
 m' 6 1,
 ⟨some 7, none, .p (.build (.ints 2) [(0, 1, (.t 5)), (1, 1, (.t 6))])⟩,
 ⟨some 8, none, .h (.call (.k (.fn 57 [])) [(.t 7)])⟩,
 m' 4 8])
 .ret))⟩
theorem c39 : compF Tryz.prog false Tryz.f39 = some a39 := by kernel_rfl
noncomputable def a40 : AF := ⟨7, [.tmp 2],
 (.seq (.ops [n' 2 0])
 (.seq (.ops [m' 3 0,
 ⟨some 4, none, .h (.call (.k (.fn 58 [])) [(.t 3)])⟩,
 ⟨some 5, none, .p (.fld true 0 2 (.t 4))⟩,
 ⟨some 6, none, .p (.fld false 0 1 (.t 5))⟩,
 m' 2 6])
 .ret))⟩
theorem c40 : compF Tryz.prog false Tryz.f40 = some a40 := by kernel_rfl
noncomputable def a41 : AF := ⟨7, [.tmp 2],
 (.seq (.ops [n' 2 0])
 (.seq (.ops [m' 3 0,
 ⟨some 4, none, .h (.call (.k (.fn 58 [])) [(.t 3)])⟩,
 ⟨some 5, none, .p (.fld true 0 2 (.t 4))⟩,
 ⟨some 6, none, .p (.fld false 1 1 (.t 5))⟩,
 m' 2 6])
 .ret))⟩
theorem c41 : compF Tryz.prog false Tryz.f41 = some a41 := by kernel_rfl
noncomputable def a42 : AF := ⟨21, [.tmp 2],
 (.seq (.ops [⟨some 1, none, .h (.box (.t 0))⟩,
 b' 2 false])
 (.seq (.ops [f' 3 0 1 1,
 l' 4 false 1 3,
 ok' 5 .geq 4 1,
 m' 6 5,
 f'g 7 6 true 0 1 1,
 l'g 8 6 true false 1 7,
 ⟨some 9, some (6, true), .p (.bin .leq (.t 8) (.k (.s (.int .i64 6))))⟩,
 pa' 10 6 9,
 m' 11 10,
 f'g 12 11 true 1 1 1,
 l'g 13 11 true false 1 12,
 ⟨some 14, some (11, true), .p (.bin .eql (.t 13) (.k (.s (.int .i64 0))))⟩,
 m'g 15 11 true 14,
 f'g 16 15 false 1 1 1,
 l'g 17 15 false false 1 16,
 ⟨some 18, some (15, false), .p (.bin .eql (.t 17) (.k (.s (.int .i64 1))))⟩,
 ⟨some 19, some (11, true), .p (.pick (.t 15) (.k (.s (.bool true))) (.t 18))⟩,
 pa' 20 11 19,
 m' 2 20])
 .ret))⟩
theorem c42 : compF Tryz.prog false Tryz.f42 = some a42 := by kernel_rfl
noncomputable def a43 : AF := ⟨6, [.tmp 2],
 (.seq (.ops [b' 2 false])
 (.seq (.ops [m' 3 0,
 ⟨some 4, none, .h (.call (.k (.fn 58 [])) [(.t 3)])⟩,
 ⟨some 5, none, .p (.fld false 2 1 (.t 4))⟩,
 m' 2 5])
 .ret))⟩
theorem c43 : compF Tryz.prog false Tryz.f43 = some a43 := by kernel_rfl
noncomputable def a49 : AF := ⟨9, [.tmp 4],
 (.seq (.ops [b' 4 false])
 (.seq (.ops [m' 5 0,
 m' 6 1,
 ⟨some 7, none, .h (.call (.k (.fn 66 [])) [(.t 5), (.t 6)])⟩,
 ok' 8 .geq 7 0,
 m' 4 8])
 .ret))⟩
theorem c49 : compF Tryz.prog false Tryz.f49 = some a49 := by kernel_rfl
noncomputable def a51 : AF := ⟨2, [],
 .skip⟩
theorem c51 : compF Tryz.prog false Tryz.f51 = some a51 := by kernel_rfl
noncomputable def a52 : AF := ⟨4, [.tmp 2],
 (.seq (.ops [⟨some 1, none, .h (.box (.t 0))⟩,
 ⟨some 2, none, .p (.mv (.k .fnil))⟩])
 (.seq (.ops [⟨some 3, none, .p (.mkfn 67 [(.t 1)])⟩,
 m' 2 3])
 .ret))⟩
theorem c52 : compF Tryz.prog false Tryz.f52 = some a52 := by kernel_rfl
noncomputable def a53 : AF := ⟨8, [.tmp 6],
 (.seq (.ops [⟨some 3, none, .h (.box (.t 0))⟩,
 ⟨some 4, none, .h (.box (.t 1))⟩,
 ⟨some 5, none, .h (.box (.t 2))⟩,
 ⟨some 6, none, .p (.mv (.k .fnil))⟩])
 (.seq (.ops [⟨some 7, none, .p (.mkfn 72 [(.t 3), (.t 5), (.t 4)])⟩,
 m' 6 7])
 .ret))⟩
theorem c53 : compF Tryz.prog false Tryz.f53 = some a53 := by kernel_rfl
noncomputable def a54 : AF := ⟨18, [.tmp 8],
 (.seq (.ops [⟨some 4, none, .h (.box (.t 0))⟩,
 b' 8 false])
 (.seq (.ops [m' 9 3,
 f' 10 0 133 4,
 f' 11 0 128 10,
 ⟨some 12, none, .p (.ixa 64 2 (.t 11) (.t 9))⟩,
 l' 13 true 2 12,
 m' 14 1,
 m' 15 2,
 ⟨some 16, none, .p (.build (.ints 2) [(0, 1, (.t 14)), (1, 1, (.t 15))])⟩,
 ⟨some 17, none, .p (.eqa false 2 (.t 13) (.t 16))⟩,
 m' 8 17])
 .ret))⟩
theorem c54 : compF Tryz.prog false Tryz.f54 = some a54 := by kernel_rfl
noncomputable def a55 : AF := ⟨11, [.tmp 3],
 (.seq (.ops [b' 3 false])
 (.seq (.ops [m' 4 0,
 f' 5 0 133 1,
 f' 6 0 128 5,
 ⟨some 7, none, .p (.ixa 64 2 (.t 6) (.t 4))⟩,
 l' 8 true 2 7,
 ⟨some 9, none, .p (.build (.ints 2) [])⟩,
 ⟨some 10, none, .p (.eqa false 2 (.t 8) (.t 9))⟩,
 m' 3 10])
 .ret))⟩
theorem c55 : compF Tryz.prog false Tryz.f55 = some a55 := by kernel_rfl
noncomputable def a56 : AF := ⟨13, [.tmp 6],
 (.seq (.ops [n' 6 0])
 (.seq (.ops [m' 7 0,
 ⟨some 8, none, .h (.call (.k (.fn 58 [])) [(.t 7)])⟩,
 m' 9 1,
 m' 10 2,
 ⟨some 11, none, .h (.call (.k (.fn 75 [])) [(.t 8), (.t 9), (.t 10)])⟩,
 ⟨some 12, none, .h (.call (.k (.fn 57 [])) [(.t 11)])⟩,
 m' 6 12])
 .ret))⟩
theorem c56 : compF Tryz.prog false Tryz.f56 = some a56 := by kernel_rfl
noncomputable def a57 : AF := ⟨12, [.tmp 2],
 (.seq (.ops [⟨some 1, none, .h (.box (.t 0))⟩,
 n' 2 0])
 (.seq (.seq (.ops [l' 3 true 2 1,
 ⟨some 4, none, .h (.call (.k (.fn 76 [])) [(.t 3)])⟩,
 ⟨some 5, none, .p (.un .not (.t 4))⟩])
 (.cond (.t 5)
 (.seq (.ops [n' 2 (-1)])
 .ret)
 .skip))
 (.seq (.ops [f' 6 1 1 1,
 l' 7 false 1 6,
 ok' 8 .mul 7 8,
 f' 9 0 1 1,
 l' 10 false 1 9,
 o' 11 .add 8 10,
 m' 2 11])
 .ret)))⟩
theorem c57 : compF Tryz.prog false Tryz.f57 = some a57 := by kernel_rfl
noncomputable def a58 : AF := ⟨17, [.cell 2 true 3],
 (.seq (.ops [⟨some 2, none, .h (.alloc (.scl [(.int .i64 0), (.int .i64 0), (.bool false)]))⟩])
 (.seq (.seq (.ops [m' 3 0,
 ok' 4 .lss 3 0,
 m' 5 4,
 m'g 6 5 false 0,
 ⟨some 7, some (5, false), .p (.bin .geq (.t 6) (.k (.s (.int .i64 64))))⟩,
 po' 8 5 7])
 (.cond (.t 8)
 (.seq (.ops [⟨some 9, none, .p (.build (.ints 2) [(0, 1, (.k (.s (.int .i64 (-1))))), (1, 1, (.k (.s (.int .i64 (-1)))))])⟩,
 ⟨some 10, none, .p (.build (.scl [(.int .i64 0), (.int .i64 0), (.bool false)]) [(0, 2, (.t 9))])⟩,
 s' 3 2 10])
 .ret)
 .skip))
 (.seq (.ops [m' 11 0,
 ok' 12 .rem 11 8,
 m' 13 0,
 ok' 14 .quo 13 8,
 ⟨some 15, none, .p (.build (.ints 2) [(0, 1, (.t 12)), (1, 1, (.t 14))])⟩,
 ⟨some 16, none, .p (.build (.scl [(.int .i64 0), (.int .i64 0), (.bool false)]) [(0, 2, (.t 15)), (2, 1, (.k (.s (.bool true))))])⟩,
 s' 3 2 16])
 .ret)))⟩
theorem c58 : compF Tryz.prog false Tryz.f58 = some a58 := by kernel_rfl
noncomputable def a66 : AF := ⟨19, [.tmp 4],
 (.seq (.ops [n' 4 0])
 (.seq (.seq (.ops [m' 6 0,
 ⟨some 7, none, .p (.len (.t 6))⟩,
 n' 8 0])
 (.block 0 (.loop (.seq (.ops [o' 9 .lss 8 7])
 (.seq (.cond (.t 9)
 .skip
 (.exit 0))
 (.seq (.block 1 (.seq (.ops [m' 10 8,
 m' 5 10])
 (.seq (.ops [m' 11 1,
 m' 12 0,
 m' 13 5,
 ⟨some 14, none, .p (.ixs 1 (.t 12) (.t 13))⟩,
 l' 15 false 1 14,
 ⟨some 16, none, .h (.call (.t 11) [(.t 15)])⟩])
 (.cond (.t 16)
 (.seq (.ops [m' 17 5,
 m' 4 17])
 .ret)
 .skip))))
 (.ops [ok' 18 .add 8 1,
 m' 8 18])))))))
 (.seq (.ops [n' 4 (-1)])
 .ret)))⟩
theorem c66 : compF Tryz.prog false Tryz.f66 = some a66 := by kernel_rfl
noncomputable def a67 : AF := ⟨57, [],
 (.seq (.ops [f' 7 0 133 1,
 l' 8 true 133 7,
 ⟨some 9, none, .h (.call (.k (.fn 68 [])) [(.t 8)])⟩,
 ⟨some 10, none, .p (.len (.t 9))⟩,
 n' 11 0])
 (.block 0 (.loop (.seq (.ops [o' 12 .lss 11 10])
 (.seq (.cond (.t 12)
 .skip
 (.exit 0))
 (.seq (.block 1 (.seq (.ops [⟨some 13, none, .p (.ixs 3 (.t 9) (.t 11))⟩,
 l' 14 true 3 13,
 ⟨some 4, none, .h (.alloc (.ints 3))⟩,
 s' 3 4 14])
 (.seq (.seq (.ops [l' 15 true 133 1,
 l' 16 true 3 4,
 ⟨some 17, none, .h (.call (.k (.fn 69 [])) [(.t 15), (.t 16)])⟩,
 m' 18 17,
 l'g 19 18 true true 133 1,
 f'g 20 18 true 0 1 4,
 l'g 21 18 true false 1 20,
 f'g 22 18 true 0 1 4,
 l'g 23 18 true false 1 22,
 f'g 24 18 true 1 1 4,
 l'g 25 18 true false 1 24,
 ⟨some 26, some (18, true), .p (.bin .add (.t 23) (.t 25))⟩,
 ⟨some 27, some (18, true), .p (.bin .quo (.t 26) (.k (.s (.int .i64 2))))⟩,
 ⟨some 28, some (18, true), .h (.mksl 2 1 (.one (.s (.int .i64 0))) [(0, (.t 21)), (1, (.t 27))])⟩,
 ⟨some 29, some (18, true), .h (.call (.k (.fn 70 [])) [(.t 19), (.t 28)])⟩,
 ⟨some 30, some (18, true), .p (.un .not (.t 29))⟩,
 pa' 31 18 30])
 (.cond (.t 31)
 (.exit 1)
 .skip))
 (.seq (.ops [f' 33 0 133 1,
 l' 34 true 133 33,
 l' 35 true 3 4,
 ⟨some 36, none, .h (.call (.k (.fn 71 [])) [(.t 34), (.t 35)])⟩,
 m' 32 36,
 ⟨some 37, none, .p (.ext (.t 32) 0)⟩,
 ⟨some 38, none, .p (.ext (.t 32) 1)⟩,
 ⟨some 5, none, .h (.alloc (.ints 133))⟩,
 s' 133 5 37,
 m' 6 38])
 (.seq (.ops [m' 39 6,
 ok' 40 .eql 39 0,
 m' 41 40,
 l'g 42 41 true true 133 5,
 f'g 43 41 true 0 133 1,
 f'g 44 41 true 128 1 43,
 l'g 45 41 true false 1 44,
 ⟨some 46, some (41, true), .h (.call (.k (.fn 21 [])) [(.t 42), (.t 45)])⟩,
 ⟨some 47, some (41, true), .p (.un .not (.t 46))⟩,
 pa' 48 41 47,
 m' 49 48,
 m'g 50 49 true 0,
 l'g 51 49 true true 3 4,
 l'g 52 49 true true 133 5,
 ⟨some 53, some (49, true), .h (.call (.t 50) [(.t 51), (.t 52)])⟩,
 ⟨some 54, some (49, true), .p (.un .not (.t 53))⟩,
 pa' 55 49 54])
 (.cond (.t 55)
 .ret
 .skip))))))
 (.ops [ok' 56 .add 11 1,
 m' 11 56])))))))⟩
theorem c67 : compF Tryz.prog false Tryz.f67 = some a67 := by kernel_rfl
noncomputable def rd68 : RD := rdOf Tryz.f68
noncomputable def g68 : AC := (.ops [⟨some 3, none, .h (.alloc (.ints 136))⟩,
 s' 136 3 6])
noncomputable def b68 : AC := (.block 1 (.par [l' 7 false 1 2,
 l' 8 true 136 3,
 l' 9 true 136 3,
 ⟨some 10, none, .h (.callq (.k (.fn 92 [])) [(.t 9)])⟩,
 ⟨some 11, none, .h (.callq (.k (.fn 91 [])) [(.t 8), (.t 10)])⟩,
 ⟨some 12, none, .h (.append 3 24 (.t 7) (.t 11))⟩,
 s' 1 2 12]))
noncomputable def a68 : AF := ⟨16, [.cell 2 false 1],
 (.seq (.ops [⟨some 1, none, .h (.box (.t 0))⟩,
 ⟨some 2, none, .h (.alloc (.one .snil))⟩])
 (.seq (.seq (.ops [l' 4 true 133 1,
 ⟨some 5, none, .h (.call (.k (.fn 90 [])) [(.t 4)])⟩])
 (.block 0 (.rfn (.t 5) 6 rd68)))
 (.seq (.ops [l' 13 false 1 2,
 ⟨some 14, none, .h (.call (.k (.fn 93 [])) [(.t 13), (.k (.fn 94 []))])⟩])
 (.seq (.ops [l' 15 false 1 2,
 s' 1 2 15])
 .ret))))⟩
theorem c68 : compF Tryz.prog false Tryz.f68 = some a68 := by kernel_rfl
noncomputable def a69 : AF := ⟨27, [.tmp 4],
 (.seq (.ops [⟨some 2, none, .h (.box (.t 0))⟩,
 ⟨some 3, none, .h (.box (.t 1))⟩,
 b' 4 false])
 (.seq (.ops [f' 6 1 1 3,
 l' 7 false 1 6,
 f' 8 0 1 3,
 l' 9 false 1 8,
 o' 10 .sub 7 9,
 m' 5 10])
 (.seq (.ops [f' 11 0 1 3,
 l' 12 false 1 11,
 f' 13 0 133 2,
 f' 14 0 128 13,
 ⟨some 15, none, .p (.ixa 64 2 (.t 14) (.t 12))⟩,
 f' 16 0 1 15,
 l' 17 false 1 16,
 ok' 18 .eql 17 6,
 m' 19 18,
 m'g 20 19 true 5,
 ⟨some 21, some (19, true), .p (.bin .eql (.t 20) (.k (.s (.int .i64 2))))⟩,
 m'g 22 19 true 21,
 m'g 23 22 false 5,
 ⟨some 24, some (22, false), .p (.bin .eql (.t 23) (.k (.s (.int .i64 (-2)))))⟩,
 ⟨some 25, some (19, true), .p (.pick (.t 22) (.k (.s (.bool true))) (.t 24))⟩,
 pa' 26 19 25,
 m' 4 26])
 .ret)))⟩
theorem c69 : compF Tryz.prog false Tryz.f69 = some a69 := by kernel_rfl
noncomputable def a70 : AF := ⟨14, [.tmp 4],
 (.seq (.ops [⟨some 2, none, .h (.box (.t 0))⟩,
 b' 4 false])
 (.seq (.par [f' 5 0 133 2,
 l' 6 true 133 5,
 f' 7 0 133 2,
 f' 8 128 1 7,
 l' 9 false 1 8,
 ⟨some 10, none, .h (.callq (.k (.fn 22 [])) [(.t 9)])⟩,
 m' 11 1,
 ⟨some 12, none, .h (.call (.k (.fn 33 [])) [(.t 6), (.t 10), (.t 11)])⟩,
 ⟨some 13, none, .p (.un .not (.t 12))⟩,
 m' 4 13])
 .ret))⟩
theorem c70 : compF Tryz.prog false Tryz.f70 = some a70 := by kernel_rfl
noncomputable def a71 : AF := ⟨20, [.cell 4 true 133, .tmp 5],
 (.seq (.ops [⟨some 2, none, .h (.box (.t 0))⟩,
 ⟨some 3, none, .h (.box (.t 1))⟩,
 ⟨some 4, none, .h (.alloc (.ints 133))⟩,
 n' 5 0])
 (.seq (.ops [l' 9 true 133 2,
 l' 10 true 3 3,
 ⟨some 11, none, .h (.call (.k (.fn 95 [])) [(.t 9), (.t 10)])⟩,
 m' 8 11,
 ⟨some 12, none, .p (.ext (.t 8) 0)⟩,
 ⟨some 13, none, .p (.ext (.t 8) 1)⟩,
 m' 6 12,
 m' 7 13])
 (.seq (.seq (.ops [m' 14 7,
 ok' 15 .neq 14 0])
 (.cond (.t 15)
 (.seq (.ops [⟨some 16, none, .p (.build (.ints 133) [])⟩,
 m' 17 7,
 s' 133 4 16,
 m' 5 17])
 .ret)
 .skip))
 (.seq (.ops [m' 18 6,
 ⟨some 19, none, .h (.call (.k (.fn 96 [])) [(.t 18)])⟩,
 s' 133 4 19,
 n' 5 0])
 .ret))))⟩
theorem c71 : compF Tryz.prog false Tryz.f71 = some a71 := by kernel_rfl
noncomputable def a72 : AF := ⟨32, [],
 (.seq (.ops [f' 7 0 133 1,
 f' 8 0 128 7,
 l' 9 true 128 8,
 n' 10 0])
 (.block 0 (.loop (.seq (.ops [ok' 11 .lss 10 64])
 (.seq (.cond (.t 11)
 .skip
 (.exit 0))
 (.seq (.block 1 (.seq (.ops [m' 12 10,
 ⟨some 13, none, .p (.ix 64 2 true (.t 9) (.t 10))⟩,
 ⟨some 6, none, .h (.alloc (.ints 2))⟩,
 m' 5 12,
 s' 2 6 13])
 (.seq (.parc [[0, 1, 2, 3, 4, 5, 6, 7, 8, 9, 10, 11, 12, 13, 14, 15, 16], [0, 1, 2, 3, 4, 5, 6, 7, 8, 9, 10, 11, 13, 12, 14, 15, 16], [0, 1, 2, 3, 4, 5, 6, 8, 7, 9, 10, 11, 12, 13, 14, 15, 16], [0, 1, 2, 3, 4, 5, 6, 8, 7, 9, 10, 11, 13, 12, 14, 15, 16], [0, 1, 2, 3, 4, 5, 8, 6, 7, 9, 10, 11, 12, 13, 14, 15, 16], [0, 1, 2, 3, 4, 5, 8, 6, 7, 9, 10, 11, 13, 12, 14, 15, 16], [0, 1, 2, 3, 4, 6, 5, 7, 8, 9, 10, 11, 12, 13, 14, 15, 16], [0, 1, 2, 3, 4, 6, 5, 7, 8, 9, 10, 11, 13, 12, 14, 15, 16], [0, 1, 2, 3, 4, 6, 5, 8, 7, 9, 10, 11, 12, 13, 14, 15, 16], [0, 1, 2, 3, 4, 6, 5, 8, 7, 9, 10, 11, 13, 12, 14, 15, 16], [0, 1, 2, 3, 4, 6, 8, 5, 7, 9, 10, 11, 12, 13, 14, 15, 16], [0, 1, 2, 3, 4, 6, 8, 5, 7, 9, 10, 11, 13, 12, 14, 15, 16], [0, 1, 2, 3, 4, 8, 5, 6, 7, 9, 10, 11, 12, 13, 14, 15, 16], [0, 1, 2, 3, 4, 8, 5, 6, 7, 9, 10, 11, 13, 12, 14, 15, 16], [0, 1, 2, 3, 4, 8, 6, 5, 7, 9, 10, 11, 12, 13, 14, 15, 16], [0, 1, 2, 3, 4, 8, 6, 5, 7, 9, 10, 11, 13, 12, 14, 15, 16], [0, 2, 1, 3, 4, 5, 6, 7, 8, 9, 10, 11, 12, 13, 14, 15, 16], [0, 2, 1, 3, 4, 5, 6, 7, 8, 9, 10, 11, 13, 12, 14, 15, 16], [0, 2, 1, 3, 4, 5, 6, 8, 7, 9, 10, 11, 12, 13, 14, 15, 16], [0, 2, 1, 3, 4, 5, 6, 8, 7, 9, 10, 11, 13, 12, 14, 15, 16], [0, 2, 1, 3, 4, 5, 8, 6, 7, 9, 10, 11, 12, 13, 14, 15, 16], [0, 2, 1, 3, 4, 5, 8, 6, 7, 9, 10, 11, 13, 12, 14, 15, 16], [0, 2, 1, 3, 4, 6, 5, 7, 8, 9, 10, 11, 12, 13, 14, 15, 16], [0, 2, 1, 3, 4, 6, 5, 7, 8, 9, 10, 11, 13, 12, 14, 15, 16], [0, 2, 1, 3, 4, 6, 5, 8, 7, 9, 10, 11, 12, 13, 14, 15, 16], [0, 2, 1, 3, 4, 6, 5, 8, 7, 9, 10, 11, 13, 12, 14, 15, 16], [0, 2, 1, 3, 4, 6, 8, 5, 7, 9, 10, 11, 12, 13, 14, 15, 16], [0, 2, 1, 3, 4, 6, 8, 5, 7, 9, 10, 11, 13, 12, 14, 15, 16], [0, 2, 1, 3, 4, 8, 5, 6, 7, 9, 10, 11, 12, 13, 14, 15, 16], [0, 2, 1, 3, 4, 8, 5, 6, 7, 9, 10, 11, 13, 12, 14, 15, 16], [0, 2, 1, 3, 4, 8, 6, 5, 7, 9, 10, 11, 12, 13, 14, 15, 16], [0, 2, 1, 3, 4, 8, 6, 5, 7, 9, 10, 11, 13, 12, 14, 15, 16], [2, 0, 1, 3, 4, 5, 6, 7, 8, 9, 10, 11, 12, 13, 14, 15, 16], [2, 0, 1, 3, 4, 5, 6, 7, 8, 9, 10, 11, 13, 12, 14, 15, 16], [2, 0, 1, 3, 4, 5, 6, 8, 7, 9, 10, 11, 12, 13, 14, 15, 16], [2, 0, 1, 3, 4, 5, 6, 8, 7, 9, 10, 11, 13, 12, 14, 15, 16], [2, 0, 1, 3, 4, 5, 8, 6, 7, 9, 10, 11, 12, 13, 14, 15, 16], [2, 0, 1, 3, 4, 5, 8, 6, 7, 9, 10, 11, 13, 12, 14, 15, 16], [2, 0, 1, 3, 4, 6, 5, 7, 8, 9, 10, 11, 12, 13, 14, 15, 16], [2, 0, 1, 3, 4, 6, 5, 7, 8, 9, 10, 11, 13, 12, 14, 15, 16], [2, 0, 1, 3, 4, 6, 5, 8, 7, 9, 10, 11, 12, 13, 14, 15, 16], [2, 0, 1, 3, 4, 6, 5, 8, 7, 9, 10, 11, 13, 12, 14, 15, 16], [2, 0, 1, 3, 4, 6, 8, 5, 7, 9, 10, 11, 12, 13, 14, 15, 16], [2, 0, 1, 3, 4, 6, 8, 5, 7, 9, 10, 11, 13, 12, 14, 15, 16], [2, 0, 1, 3, 4, 8, 5, 6, 7, 9, 10, 11, 12, 13, 14, 15, 16], [2, 0, 1, 3, 4, 8, 5, 6, 7, 9, 10, 11, 13, 12, 14, 15, 16], [2, 0, 1, 3, 4, 8, 6, 5, 7, 9, 10, 11, 12, 13, 14, 15, 16], [2, 0, 1, 3, 4, 8, 6, 5, 7, 9, 10, 11, 13, 12, 14, 15, 16]] [f' 14 1 1 6,
 l' 15 false 1 14,
 l' 16 false 1 2,
 o' 17 .eql 15 16,
 m' 18 17,
 l'g 19 18 true true 133 1,
 m'g 20 18 true 5,
 ⟨some 21, some (18, true), .h (.call (.k (.fn 74 [])) [(.t 19), (.t 20)])⟩,
 l'g 22 18 true false 1 3,
 ⟨some 23, some (18, true), .h (.call (.k (.fn 73 [])) [(.t 21), (.t 22)])⟩,
 pa' 24 18 23,
 m' 25 24,
 m'g 26 25 true 0,
 m'g 27 25 true 5,
 ⟨some 28, some (25, true), .h (.call (.t 26) [(.t 27)])⟩,
 ⟨some 29, some (25, true), .p (.un .not (.t 28))⟩,
 pa' 30 25 29])
 (.cond (.t 30)
 .ret
 .skip))))
 (.ops [ok' 31 .add 10 1,
 m' 10 31])))))))⟩
theorem c72 : compF Tryz.prog true Tryz.f72 = some a72 := by kernel_rfl
noncomputable def a73 : AF := ⟨9, [.tmp 4],
 (.seq (.ops [b' 4 false])
 (.seq (.ops [m' 5 0,
 m' 6 1,
 ⟨some 7, none, .h (.call (.k (.fn 97 [])) [(.t 5), (.t 6)])⟩,
 ok' 8 .geq 7 0,
 m' 4 8])
 .ret))⟩
theorem c73 : compF Tryz.prog false Tryz.f73 = some a73 := by kernel_rfl
noncomputable def a74 : AF := ⟨69, [.tmp 4],
 (.seq (.ops [⟨some 2, none, .h (.box (.t 0))⟩,
 ⟨some 4, none, .p (.mv (.k .snil))⟩])
 (.seq (.ops [m' 10 1,
 f' 11 0 133 2,
 f' 12 0 128 11,
 ⟨some 13, none, .p (.ixa 64 2 (.t 12) (.t 10))⟩,
 l' 14 true 2 13,
 ⟨some 5, none, .h (.alloc (.ints 2))⟩,
 s' 2 5 14])
 (.seq (.ops [n' 6 1])
 (.seq (.seq (.ops [f' 15 1 1 5,
 l' 16 false 1 15])
 (.block 0 (.seq (.ops [ok' 18 .eql 16 1,
 m' 17 18])
 (.cond (.t 17)
 (.ops [n' 6 (-1)])
 (.seq (.ops [ok' 20 .eql 16 0,
 m' 19 20])
 (.cond (.t 19)
 .skip
 (.seq (.ops [⟨some 4, none, .p (.mv (.k .snil))⟩])
 .ret)))))))
 (.seq (.ops [⟨some 21, none, .h (.call (.k (.fn 98 [])) [])⟩,
 ⟨some 22, none, .h (.call (.k (.fn 99 [])) [])⟩,
 ⟨some 7, none, .h (.alloc (.ints 8))⟩,
 ⟨some 8, none, .h (.alloc (.ints 8))⟩,
 s' 8 7 21,
 s' 8 8 22])
 (.seq (.seq (.ops [f' 23 0 1 5,
 l' 24 false 1 23])
 (.block 1 (.seq (.ops [ok' 26 .eql 24 1,
 m' 25 26])
 (.cond (.t 25)
 (.seq (.ops [m' 27 1,
 m' 28 6,
 ⟨some 29, none, .p (.build (.ints 2) [(0, 1, (.k (.s (.int .i64 (-1))))), (1, 1, (.t 28))])⟩,
 m' 30 6,
 ⟨some 31, none, .p (.build (.ints 2) [(0, 1, (.k (.s (.int .i64 1)))), (1, 1, (.t 30))])⟩,
 ⟨some 32, none, .h (.mksl 2 2 (.ints 2) [(0, (.t 29)), (1, (.t 31))])⟩,
 ⟨some 33, none, .h (.call (.k (.fn 100 [])) [(.t 27), (.t 32)])⟩,
 m' 4 33])
 .ret)
 (.seq (.ops [ok' 35 .eql 24 2,
 m' 34 35])
 (.cond (.t 34)
 (.seq (.ops [⟨some 36, none, .h (.call (.k (.fn 101 [])) [])⟩,
 ⟨some 9, none, .h (.alloc (.ints 16))⟩,
 s' 16 9 36])
 (.seq (.ops [m' 37 1,
 ⟨some 38, none, .p (.slA 8 2 (.t 9) none none)⟩,
 ⟨some 39, none, .h (.call (.k (.fn 100 [])) [(.t 37), (.t 38)])⟩,
 m' 4 39])
 .ret))
 (.seq (.ops [ok' 41 .eql 24 6,
 m' 40 41])
 (.cond (.t 40)
 (.seq (.par [m' 42 1,
 ⟨some 43, none, .p (.slA 4 2 (.t 7) none none)⟩,
 ⟨some 44, none, .p (.slA 4 2 (.t 8) none none)⟩,
 ⟨some 45, none, .h (.mksl 2 1 (.one .snil) [(0, (.t 43)), (1, (.t 44))])⟩,
 ⟨some 46, none, .h (.call (.k (.fn 102 [])) [(.t 45)])⟩,
 ⟨some 47, none, .h (.call (.k (.fn 100 [])) [(.t 42), (.t 46)])⟩,
 m' 4 47])
 .ret)
 (.seq (.ops [ok' 49 .eql 24 4,
 m' 48 49])
 (.cond (.t 48)
 (.seq (.par [l' 50 true 133 2,
 m' 51 1,
 ⟨some 52, none, .p (.slA 4 2 (.t 7) none none)⟩,
 ⟨some 53, none, .h (.call (.k (.fn 103 [])) [(.t 50), (.t 51), (.t 52)])⟩,
 m' 4 53])
 .ret)
 (.seq (.ops [ok' 55 .eql 24 3,
 m' 54 55])
 (.cond (.t 54)
 (.seq (.par [l' 56 true 133 2,
 m' 57 1,
 ⟨some 58, none, .p (.slA 4 2 (.t 8) none none)⟩,
 ⟨some 59, none, .h (.call (.k (.fn 103 [])) [(.t 56), (.t 57), (.t 58)])⟩,
 m' 4 59])
 .ret)
 (.seq (.ops [ok' 61 .eql 24 5,
 m' 60 61])
 (.cond (.t 60)
 (.seq (.par [l' 62 true 133 2,
 m' 63 1,
 ⟨some 64, none, .p (.slA 4 2 (.t 7) none none)⟩,
 ⟨some 65, none, .p (.slA 4 2 (.t 8) none none)⟩,
 ⟨some 66, none, .h (.mksl 2 1 (.one .snil) [(0, (.t 64)), (1, (.t 65))])⟩,
 ⟨some 67, none, .h (.callq (.k (.fn 102 [])) [(.t 66)])⟩,
 ⟨some 68, none, .h (.call (.k (.fn 103 [])) [(.t 62), (.t 63), (.t 67)])⟩,
 m' 4 68])
 .ret)
 .skip))))))))))))))
 (.seq (.ops [⟨some 4, none, .p (.mv (.k .snil))⟩])
 .ret)))))))⟩
theorem c74 : compF Tryz.prog false Tryz.f74 = some a74 := by kernel_rfl
noncomputable def a75 : AF := ⟨34, [.cell 6 true 2],
 (.seq (.ops [⟨some 3, none, .h (.box (.t 0))⟩,
 ⟨some 6, none, .h (.alloc (.ints 2))⟩])
 (.seq (.seq (.ops [f' 7 2 1 3,
 l' 8 false 1 7,
 ⟨some 9, none, .p (.un .not (.t 8))⟩,
 m' 10 9,
 m'g 11 10 false 1,
 m'g 12 10 false 2,
 ⟨some 13, some (10, false), .p (.mx [(.t 11), (.t 12)])⟩,
 ⟨some 14, some (10, false), .p (.bin .geq (.t 13) (.k (.s (.int .i64 8))))⟩,
 po' 15 10 14,
 m' 16 15,
 m'g 17 16 false 1,
 m'g 18 16 false 2,
 ⟨some 19, some (16, false), .p (.mn [(.t 17), (.t 18)])⟩,
 ⟨some 20, some (16, false), .p (.bin .leq (.t 19) (.k (.s (.int .i64 (-8)))))⟩,
 po' 21 16 20])
 (.cond (.t 21)
 (.seq (.ops [⟨some 22, none, .p (.build (.ints 2) [(0, 1, (.k (.s (.int .i64 (-1))))), (1, 1, (.k (.s (.int .i64 (-1)))))])⟩,
 s' 2 6 22])
 .ret)
 .skip))
 (.seq (.ops [f' 23 0 2 3,
 f' 24 0 1 23,
 l' 25 false 1 24,
 m' 26 1,
 o' 27 .add 25 26,
 f' 28 0 2 3,
 f' 29 1 1 28,
 l' 30 false 1 29,
 m' 31 2,
 o' 32 .add 30 31,
 ⟨some 33, none, .p (.build (.ints 2) [(0, 1, (.t 27)), (1, 1, (.t 32))])⟩,
 s' 2 6 33])
 .ret)))⟩
theorem c75 : compF Tryz.prog false Tryz.f75 = some a75 := by kernel_rfl
noncomputable def a76 : AF := ⟨13, [.tmp 2],
 (.seq (.ops [⟨some 1, none, .h (.box (.t 0))⟩,
 b' 2 false])
 (.seq (.ops [f' 3 0 1 1,
 l' 4 false 1 3,
 ⟨some 5, none, .p (.conv .u64 (.t 4))⟩,
 ⟨some 6, none, .p (.bin .lss (.t 5) (.k (.s (.int .u64 8))))⟩,
 m' 7 6,
 f'g 8 7 true 1 1 1,
 l'g 9 7 true false 1 8,
 ⟨some 10, some (7, true), .p (.conv .u64 (.t 9))⟩,
 ⟨some 11, some (7, true), .p (.bin .lss (.t 10) (.k (.s (.int .u64 8))))⟩,
 pa' 12 7 11,
 m' 2 12])
 .ret))⟩
theorem c76 : compF Tryz.prog false Tryz.f76 = some a76 := by kernel_rfl
end Go.Proofs.YtlkighkfkdpncaaGreat
namespace Go.Proofs.YtlkighkfkdpncaaGreat
open Go Go.Am
set_option maxRecDepth 100000
noncomputable def a90 : AF := ⟨4, [.tmp 2],
 (.seq (.ops [⟨some 1, none, .h (.box (.t 0))⟩,
 ⟨some 2, none, .p (.mv (.k .fnil))⟩])
 (.seq (.ops [⟨some 3, none, .p (.mkfn 110 [(.t 1)])⟩,
 m' 2 3])
 .ret))⟩
theorem c90 : compF Tryz.prog false Tryz.f90 = some a90 := by kernel_rfl
noncomputable def a91 : AF := ⟨49, [.tmp 4],
 (.seq (.ops [⟨some 2, none, .h (.box (.t 0))⟩,
 ⟨some 4, none, .p (.mv (.k .snil))⟩])
 (.seq (.seq (.ops [m' 8 1,
 ⟨some 9, none, .p (.len (.t 8))⟩,
 n' 10 0])
 (.block 0 (.loop (.seq (.ops [o' 11 .lss 10 9])
 (.seq (.cond (.t 11)
 .skip
 (.exit 0))
 (.seq (.block 1 (.seq (.ops [⟨some 12, none, .p (.ixs 1 (.t 8) (.t 10))⟩,
 l' 13 false 1 12,
 m' 6 13])
 (.seq (.seq (.par [f' 14 134 2 2,
 f' 15 0 1 14,
 l' 16 false 1 15,
 ok' 17 .neq 16 1,
 m' 18 17,
 m'g 19 18 false 6,
 ⟨some 20, some (18, false), .h (.callq (.k (.fn 41 [])) [(.t 19)])⟩,
 f'g 21 18 false 134 2 2,
 f'g 22 18 false 1 1 21,
 l'g 23 18 false false 1 22,
 ⟨some 24, some (18, false), .p (.bin .sub (.k (.s (.int .i64 1))) (.t 23))⟩,
 ⟨some 25, some (18, false), .p (.bin .mul (.k (.s (.int .i64 7))) (.t 24))⟩,
 ⟨some 26, some (18, false), .p (.bin .neq (.t 20) (.t 25))⟩,
 po' 27 18 26])
 (.cond (.t 27)
 (.seq (.ops [m' 28 4,
 f' 29 133 1 2,
 l' 30 false 1 29,
 m' 31 6,
 ⟨some 32, none, .p (.build (.ints 3) [(0, 1, (.t 30)), (1, 1, (.t 31))])⟩,
 ⟨some 33, none, .h (.mksl 1 3 (.ints 3) [(0, (.t 32))])⟩,
 ⟨some 34, none, .h (.append 3 24 (.t 28) (.t 33))⟩,
 m' 4 34])
 (.exit 1))
 .skip))
 (.seq (.ops [n' 7 2])
 (.block 2 (.loop (.seq (.seq (.ops [m' 35 7,
 ok' 36 .leq 35 5])
 (.cond (.t 36)
 .skip
 (.exit 2)))
 (.seq (.block 3 (.ops [m' 39 4,
 f' 40 133 1 2,
 l' 41 false 1 40,
 m' 42 6,
 m' 43 7,
 ⟨some 44, none, .p (.build (.ints 3) [(0, 1, (.t 41)), (1, 1, (.t 42)), (2, 1, (.t 43))])⟩,
 ⟨some 45, none, .h (.mksl 1 3 (.ints 3) [(0, (.t 44))])⟩,
 ⟨some 46, none, .h (.append 3 24 (.t 39) (.t 45))⟩,
 m' 4 46]))
 (.ops [m' 37 7,
 ok' 38 .add 37 1,
 m' 7 38])))))))))
 (.ops [ok' 47 .add 10 1,
 m' 10 47])))))))
 (.seq (.ops [m' 48 4,
 m' 4 48])
 .ret)))⟩
theorem c91 : compF Tryz.prog false Tryz.f91 = some a91 := by kernel_rfl
noncomputable def a92 : AF := ⟨21, [.tmp 2],
 (.seq (.ops [⟨some 1, none, .h (.box (.t 0))⟩,
 ⟨some 2, none, .p (.mv (.k .snil))⟩])
 (.seq (.seq (.ops [f' 4 134 2 1,
 f' 5 0 1 4,
 l' 6 false 1 5,
 ok' 7 .eql 6 1])
 (.cond (.t 7)
 (.seq (.ops [l' 8 true 136 1,
 ⟨some 9, none, .h (.call (.k (.fn 111 [])) [(.t 8)])⟩,
 m' 2 9])
 .ret)
 .skip))
 (.seq (.ops [⟨some 10, none, .p (.mkfn 112 [(.t 1)])⟩,
 m' 3 10])
 (.seq (.parc [[0, 1, 2, 3, 4, 5, 6, 7, 8, 9, 10], [0, 1, 2, 3, 4, 5, 7, 6, 8, 9, 10], [0, 1, 2, 3, 4, 7, 5, 6, 8, 9, 10], [0, 1, 2, 3, 5, 4, 6, 7, 8, 9, 10], [0, 1, 2, 3, 5, 4, 7, 6, 8, 9, 10], [0, 1, 2, 3, 5, 7, 4, 6, 8, 9, 10], [0, 1, 2, 3, 7, 4, 5, 6, 8, 9, 10], [0, 1, 2, 3, 7, 5, 4, 6, 8, 9, 10], [0, 1, 2, 5, 3, 4, 6, 7, 8, 9, 10], [0, 1, 2, 5, 3, 4, 7, 6, 8, 9, 10], [0, 1, 2, 5, 3, 7, 4, 6, 8, 9, 10], [0, 1, 2, 5, 7, 3, 4, 6, 8, 9, 10], [0, 1, 2, 7, 3, 4, 5, 6, 8, 9, 10], [0, 1, 2, 7, 3, 5, 4, 6, 8, 9, 10], [0, 1, 2, 7, 5, 3, 4, 6, 8, 9, 10], [0, 1, 5, 2, 3, 4, 6, 7, 8, 9, 10], [0, 1, 5, 2, 3, 4, 7, 6, 8, 9, 10], [0, 1, 5, 2, 3, 7, 4, 6, 8, 9, 10], [0, 1, 5, 2, 7, 3, 4, 6, 8, 9, 10], [0, 1, 5, 7, 2, 3, 4, 6, 8, 9, 10], [0, 1, 7, 2, 3, 4, 5, 6, 8, 9, 10], [0, 1, 7, 2, 3, 5, 4, 6, 8, 9, 10], [0, 1, 7, 2, 5, 3, 4, 6, 8, 9, 10], [0, 1, 7, 5, 2, 3, 4, 6, 8, 9, 10], [0, 2, 1, 3, 4, 5, 6, 7, 8, 9, 10], [0, 2, 1, 3, 4, 5, 7, 6, 8, 9, 10], [0, 2, 1, 3, 4, 7, 5, 6, 8, 9, 10], [0, 2, 1, 3, 5, 4, 6, 7, 8, 9, 10], [0, 2, 1, 3, 5, 4, 7, 6, 8, 9, 10], [0, 2, 1, 3, 5, 7, 4, 6, 8, 9, 10], [0, 2, 1, 3, 7, 4, 5, 6, 8, 9, 10], [0, 2, 1, 3, 7, 5, 4, 6, 8, 9, 10], [0, 2, 1, 5, 3, 4, 6, 7, 8, 9, 10], [0, 2, 1, 5, 3, 4, 7, 6, 8, 9, 10], [0, 2, 1, 5, 3, 7, 4, 6, 8, 9, 10], [0, 2, 1, 5, 7, 3, 4, 6, 8, 9, 10], [0, 2, 1, 7, 3, 4, 5, 6, 8, 9, 10], [0, 2, 1, 7, 3, 5, 4, 6, 8, 9, 10], [0, 2, 1, 7, 5, 3, 4, 6, 8, 9, 10], [0, 2, 3, 1, 4, 5, 6, 7, 8, 9, 10], [0, 2, 3, 1, 4, 5, 7, 6, 8, 9, 10], [0, 2, 3, 1, 4, 7, 5, 6, 8, 9, 10], [0, 2, 3, 1, 5, 4, 6, 7, 8, 9, 10], [0, 2, 3, 1, 5, 4, 7, 6, 8, 9, 10], [0, 2, 3, 1, 5, 7, 4, 6, 8, 9, 10], [0, 2, 3, 1, 7, 4, 5, 6, 8, 9, 10], [0, 2, 3, 1, 7, 5, 4, 6, 8, 9, 10], [0, 2, 3, 5, 1, 4, 6, 7, 8, 9, 10], [0, 2, 3, 5, 1, 4, 7, 6, 8, 9, 10], [0, 2, 3, 5, 1, 7, 4, 6, 8, 9, 10], [0, 2, 3, 5, 7, 1, 4, 6, 8, 9, 10], [0, 2, 3, 7, 1, 4, 5, 6, 8, 9, 10], [0, 2, 3, 7, 1, 5, 4, 6, 8, 9, 10], [0, 2, 3, 7, 5, 1, 4, 6, 8, 9, 10], [0, 2, 5, 1, 3, 4, 6, 7, 8, 9, 10], [0, 2, 5, 1, 3, 4, 7, 6, 8, 9, 10], [0, 2, 5, 1, 3, 7, 4, 6, 8, 9, 10], [0, 2, 5, 1, 7, 3, 4, 6, 8, 9, 10], [0, 2, 5, 3, 1, 4, 6, 7, 8, 9, 10], [0, 2, 5, 3, 1, 4, 7, 6, 8, 9, 10], [0, 2, 5, 3, 1, 7, 4, 6, 8, 9, 10], [0, 2, 5, 3, 7, 1, 4, 6, 8, 9, 10], [0, 2, 5, 7, 1, 3, 4, 6, 8, 9, 10], [0, 2, 5, 7, 3, 1, 4, 6, 8, 9, 10], [0, 2, 7, 1, 3, 4, 5, 6, 8, 9, 10], [0, 2, 7, 1, 3, 5, 4, 6, 8, 9, 10], [0, 2, 7, 1, 5, 3, 4, 6, 8, 9, 10], [0, 2, 7, 3, 1, 4, 5, 6, 8, 9, 10], [0, 2, 7, 3, 1, 5, 4, 6, 8, 9, 10], [0, 2, 7, 3, 5, 1, 4, 6, 8, 9, 10], [0, 2, 7, 5, 1, 3, 4, 6, 8, 9, 10], [0, 2, 7, 5, 3, 1, 4, 6, 8, 9, 10], [0, 5, 1, 2, 3, 4, 6, 7, 8, 9, 10], [0, 5, 1, 2, 3, 4, 7, 6, 8, 9, 10], [0, 5, 1, 2, 3, 7, 4, 6, 8, 9, 10], [0, 5, 1, 2, 7, 3, 4, 6, 8, 9, 10], [0, 5, 1, 7, 2, 3, 4, 6, 8, 9, 10], [0, 5, 2, 1, 3, 4, 6, 7, 8, 9, 10], [0, 5, 2, 1, 3, 4, 7, 6, 8, 9, 10], [0, 5, 2, 1, 3, 7, 4, 6, 8, 9, 10], [0, 5, 2, 1, 7, 3, 4, 6, 8, 9, 10], [0, 5, 2, 3, 1, 4, 6, 7, 8, 9, 10], [0, 5, 2, 3, 1, 4, 7, 6, 8, 9, 10], [0, 5, 2, 3, 1, 7, 4, 6, 8, 9, 10], [0, 5, 2, 3, 7, 1, 4, 6, 8, 9, 10], [0, 5, 2, 7, 1, 3, 4, 6, 8, 9, 10], [0, 5, 2, 7, 3, 1, 4, 6, 8, 9, 10], [0, 5, 7, 1, 2, 3, 4, 6, 8, 9, 10], [0, 5, 7, 2, 1, 3, 4, 6, 8, 9, 10], [0, 5, 7, 2, 3, 1, 4, 6, 8, 9, 10], [0, 7, 1, 2, 3, 4, 5, 6, 8, 9, 10], [0, 7, 1, 2, 3, 5, 4, 6, 8, 9, 10], [0, 7, 1, 2, 5, 3, 4, 6, 8, 9, 10], [0, 7, 1, 5, 2, 3, 4, 6, 8, 9, 10], [0, 7, 2, 1, 3, 4, 5, 6, 8, 9, 10], [0, 7, 2, 1, 3, 5, 4, 6, 8, 9, 10], [0, 7, 2, 1, 5, 3, 4, 6, 8, 9, 10], [0, 7, 2, 3, 1, 4, 5, 6, 8, 9, 10], [0, 7, 2, 3, 1, 5, 4, 6, 8, 9, 10], [0, 7, 2, 3, 5, 1, 4, 6, 8, 9, 10], [0, 7, 2, 5, 1, 3, 4, 6, 8, 9, 10], [0, 7, 2, 5, 3, 1, 4, 6, 8, 9, 10], [0, 7, 5, 1, 2, 3, 4, 6, 8, 9, 10], [0, 7, 5, 2, 1, 3, 4, 6, 8, 9, 10], [0, 7, 5, 2, 3, 1, 4, 6, 8, 9, 10], [2, 0, 1, 3, 4, 5, 6, 7, 8, 9, 10], [2, 0, 1, 3, 4, 5, 7, 6, 8, 9, 10], [2, 0, 1, 3, 4, 7, 5, 6, 8, 9, 10], [2, 0, 1, 3, 5, 4, 6, 7, 8, 9, 10], [2, 0, 1, 3, 5, 4, 7, 6, 8, 9, 10], [2, 0, 1, 3, 5, 7, 4, 6, 8, 9, 10], [2, 0, 1, 3, 7, 4, 5, 6, 8, 9, 10], [2, 0, 1, 3, 7, 5, 4, 6, 8, 9, 10], [2, 0, 1, 5, 3, 4, 6, 7, 8, 9, 10], [2, 0, 1, 5, 3, 4, 7, 6, 8, 9, 10], [2, 0, 1, 5, 3, 7, 4, 6, 8, 9, 10], [2, 0, 1, 5, 7, 3, 4, 6, 8, 9, 10], [2, 0, 1, 7, 3, 4, 5, 6, 8, 9, 10], [2, 0, 1, 7, 3, 5, 4, 6, 8, 9, 10], [2, 0, 1, 7, 5, 3, 4, 6, 8, 9, 10], [2, 0, 3, 1, 4, 5, 6, 7, 8, 9, 10], [2, 0, 3, 1, 4, 5, 7, 6, 8, 9, 10], [2, 0, 3, 1, 4, 7, 5, 6, 8, 9, 10], [2, 0, 3, 1, 5, 4, 6, 7, 8, 9, 10], [2, 0, 3, 1, 5, 4, 7, 6, 8, 9, 10], [2, 0, 3, 1, 5, 7, 4, 6, 8, 9, 10], [2, 0, 3, 1, 7, 4, 5, 6, 8, 9, 10], [2, 0, 3, 1, 7, 5, 4, 6, 8, 9, 10], [2, 0, 3, 5, 1, 4, 6, 7, 8, 9, 10], [2, 0, 3, 5, 1, 4, 7, 6, 8, 9, 10], [2, 0, 3, 5, 1, 7, 4, 6, 8, 9, 10], [2, 0, 3, 5, 7, 1, 4, 6, 8, 9, 10], [2, 0, 3, 7, 1, 4, 5, 6, 8, 9, 10], [2, 0, 3, 7, 1, 5, 4, 6, 8, 9, 10], [2, 0, 3, 7, 5, 1, 4, 6, 8, 9, 10], [2, 0, 5, 1, 3, 4, 6, 7, 8, 9, 10], [2, 0, 5, 1, 3, 4, 7, 6, 8, 9, 10], [2, 0, 5, 1, 3, 7, 4, 6, 8, 9, 10], [2, 0, 5, 1, 7, 3, 4, 6, 8, 9, 10], [2, 0, 5, 3, 1, 4, 6, 7, 8, 9, 10], [2, 0, 5, 3, 1, 4, 7, 6, 8, 9, 10], [2, 0, 5, 3, 1, 7, 4, 6, 8, 9, 10], [2, 0, 5, 3, 7, 1, 4, 6, 8, 9, 10], [2, 0, 5, 7, 1, 3, 4, 6, 8, 9, 10], [2, 0, 5, 7, 3, 1, 4, 6, 8, 9, 10], [2, 0, 7, 1, 3, 4, 5, 6, 8, 9, 10], [2, 0, 7, 1, 3, 5, 4, 6, 8, 9, 10], [2, 0, 7, 1, 5, 3, 4, 6, 8, 9, 10], [2, 0, 7, 3, 1, 4, 5, 6, 8, 9, 10], [2, 0, 7, 3, 1, 5, 4, 6, 8, 9, 10], [2, 0, 7, 3, 5, 1, 4, 6, 8, 9, 10], [2, 0, 7, 5, 1, 3, 4, 6, 8, 9, 10], [2, 0, 7, 5, 3, 1, 4, 6, 8, 9, 10], [2, 3, 0, 1, 4, 5, 6, 7, 8, 9, 10], [2, 3, 0, 1, 4, 5, 7, 6, 8, 9, 10], [2, 3, 0, 1, 4, 7, 5, 6, 8, 9, 10], [2, 3, 0, 1, 5, 4, 6, 7, 8, 9, 10], [2, 3, 0, 1, 5, 4, 7, 6, 8, 9, 10], [2, 3, 0, 1, 5, 7, 4, 6, 8, 9, 10], [2, 3, 0, 1, 7, 4, 5, 6, 8, 9, 10], [2, 3, 0, 1, 7, 5, 4, 6, 8, 9, 10], [2, 3, 0, 5, 1, 4, 6, 7, 8, 9, 10], [2, 3, 0, 5, 1, 4, 7, 6, 8, 9, 10], [2, 3, 0, 5, 1, 7, 4, 6, 8, 9, 10], [2, 3, 0, 5, 7, 1, 4, 6, 8, 9, 10], [2, 3, 0, 7, 1, 4, 5, 6, 8, 9, 10], [2, 3, 0, 7, 1, 5, 4, 6, 8, 9, 10], [2, 3, 0, 7, 5, 1, 4, 6, 8, 9, 10], [2, 3, 5, 0, 1, 4, 6, 7, 8, 9, 10], [2, 3, 5, 0, 1, 4, 7, 6, 8, 9, 10], [2, 3, 5, 0, 1, 7, 4, 6, 8, 9, 10], [2, 3, 5, 0, 7, 1, 4, 6, 8, 9, 10], [2, 3, 5, 7, 0, 1, 4, 6, 8, 9, 10], [2, 3, 7, 0, 1, 4, 5, 6, 8, 9, 10], [2, 3, 7, 0, 1, 5, 4, 6, 8, 9, 10], [2, 3, 7, 0, 5, 1, 4, 6, 8, 9, 10], [2, 3, 7, 5, 0, 1, 4, 6, 8, 9, 10], [2, 5, 0, 1, 3, 4, 6, 7, 8, 9, 10], [2, 5, 0, 1, 3, 4, 7, 6, 8, 9, 10], [2, 5, 0, 1, 3, 7, 4, 6, 8, 9, 10], [2, 5, 0, 1, 7, 3, 4, 6, 8, 9, 10], [2, 5, 0, 3, 1, 4, 6, 7, 8, 9, 10], [2, 5, 0, 3, 1, 4, 7, 6, 8, 9, 10], [2, 5, 0, 3, 1, 7, 4, 6, 8, 9, 10], [2, 5, 0, 3, 7, 1, 4, 6, 8, 9, 10], [2, 5, 0, 7, 1, 3, 4, 6, 8, 9, 10], [2, 5, 0, 7, 3, 1, 4, 6, 8, 9, 10], [2, 5, 3, 0, 1, 4, 6, 7, 8, 9, 10], [2, 5, 3, 0, 1, 4, 7, 6, 8, 9, 10], [2, 5, 3, 0, 1, 7, 4, 6, 8, 9, 10], [2, 5, 3, 0, 7, 1, 4, 6, 8, 9, 10], [2, 5, 3, 7, 0, 1, 4, 6, 8, 9, 10], [2, 5, 7, 0, 1, 3, 4, 6, 8, 9, 10], [2, 5, 7, 0, 3, 1, 4, 6, 8, 9, 10], [2, 5, 7, 3, 0, 1, 4, 6, 8, 9, 10], [2, 7, 0, 1, 3, 4, 5, 6, 8, 9, 10], [2, 7, 0, 1, 3, 5, 4, 6, 8, 9, 10], [2, 7, 0, 1, 5, 3, 4, 6, 8, 9, 10], [2, 7, 0, 3, 1, 4, 5, 6, 8, 9, 10], [2, 7, 0, 3, 1, 5, 4, 6, 8, 9, 10], [2, 7, 0, 3, 5, 1, 4, 6, 8, 9, 10], [2, 7, 0, 5, 1, 3, 4, 6, 8, 9, 10], [2, 7, 0, 5, 3, 1, 4, 6, 8, 9, 10], [2, 7, 3, 0, 1, 4, 5, 6, 8, 9, 10], [2, 7, 3, 0, 1, 5, 4, 6, 8, 9, 10], [2, 7, 3, 0, 5, 1, 4, 6, 8, 9, 10], [2, 7, 3, 5, 0, 1, 4, 6, 8, 9, 10], [2, 7, 5, 0, 1, 3, 4, 6, 8, 9, 10], [2, 7, 5, 0, 3, 1, 4, 6, 8, 9, 10], [2, 7, 5, 3, 0, 1, 4, 6, 8, 9, 10], [5, 0, 1, 2, 3, 4, 6, 7, 8, 9, 10], [5, 0, 1, 2, 3, 4, 7, 6, 8, 9, 10], [5, 0, 1, 2, 3, 7, 4, 6, 8, 9, 10], [5, 0, 1, 2, 7, 3, 4, 6, 8, 9, 10], [5, 0, 1, 7, 2, 3, 4, 6, 8, 9, 10], [5, 0, 2, 1, 3, 4, 6, 7, 8, 9, 10], [5, 0, 2, 1, 3, 4, 7, 6, 8, 9, 10], [5, 0, 2, 1, 3, 7, 4, 6, 8, 9, 10], [5, 0, 2, 1, 7, 3, 4, 6, 8, 9, 10], [5, 0, 2, 3, 1, 4, 6, 7, 8, 9, 10], [5, 0, 2, 3, 1, 4, 7, 6, 8, 9, 10], [5, 0, 2, 3, 1, 7, 4, 6, 8, 9, 10], [5, 0, 2, 3, 7, 1, 4, 6, 8, 9, 10], [5, 0, 2, 7, 1, 3, 4, 6, 8, 9, 10], [5, 0, 2, 7, 3, 1, 4, 6, 8, 9, 10], [5, 0, 7, 1, 2, 3, 4, 6, 8, 9, 10], [5, 0, 7, 2, 1, 3, 4, 6, 8, 9, 10], [5, 0, 7, 2, 3, 1, 4, 6, 8, 9, 10], [5, 2, 0, 1, 3, 4, 6, 7, 8, 9, 10], [5, 2, 0, 1, 3, 4, 7, 6, 8, 9, 10], [5, 2, 0, 1, 3, 7, 4, 6, 8, 9, 10], [5, 2, 0, 1, 7, 3, 4, 6, 8, 9, 10], [5, 2, 0, 3, 1, 4, 6, 7, 8, 9, 10], [5, 2, 0, 3, 1, 4, 7, 6, 8, 9, 10], [5, 2, 0, 3, 1, 7, 4, 6, 8, 9, 10], [5, 2, 0, 3, 7, 1, 4, 6, 8, 9, 10], [5, 2, 0, 7, 1, 3, 4, 6, 8, 9, 10], [5, 2, 0, 7, 3, 1, 4, 6, 8, 9, 10], [5, 2, 3, 0, 1, 4, 6, 7, 8, 9, 10], [5, 2, 3, 0, 1, 4, 7, 6, 8, 9, 10], [5, 2, 3, 0, 1, 7, 4, 6, 8, 9, 10], [5, 2, 3, 0, 7, 1, 4, 6, 8, 9, 10], [5, 2, 3, 7, 0, 1, 4, 6, 8, 9, 10], [5, 2, 7, 0, 1, 3, 4, 6, 8, 9, 10], [5, 2, 7, 0, 3, 1, 4, 6, 8, 9, 10], [5, 2, 7, 3, 0, 1, 4, 6, 8, 9, 10], [5, 7, 0, 1, 2, 3, 4, 6, 8, 9, 10], [5, 7, 0, 2, 1, 3, 4, 6, 8, 9, 10], [5, 7, 0, 2, 3, 1, 4, 6, 8, 9, 10], [5, 7, 2, 0, 1, 3, 4, 6, 8, 9, 10], [5, 7, 2, 0, 3, 1, 4, 6, 8, 9, 10], [5, 7, 2, 3, 0, 1, 4, 6, 8, 9, 10], [7, 0, 1, 2, 3, 4, 5, 6, 8, 9, 10], [7, 0, 1, 2, 3, 5, 4, 6, 8, 9, 10], [7, 0, 1, 2, 5, 3, 4, 6, 8, 9, 10], [7, 0, 1, 5, 2, 3, 4, 6, 8, 9, 10], [7, 0, 2, 1, 3, 4, 5, 6, 8, 9, 10], [7, 0, 2, 1, 3, 5, 4, 6, 8, 9, 10], [7, 0, 2, 1, 5, 3, 4, 6, 8, 9, 10], [7, 0, 2, 3, 1, 4, 5, 6, 8, 9, 10], [7, 0, 2, 3, 1, 5, 4, 6, 8, 9, 10], [7, 0, 2, 3, 5, 1, 4, 6, 8, 9, 10], [7, 0, 2, 5, 1, 3, 4, 6, 8, 9, 10], [7, 0, 2, 5, 3, 1, 4, 6, 8, 9, 10], [7, 0, 5, 1, 2, 3, 4, 6, 8, 9, 10], [7, 0, 5, 2, 1, 3, 4, 6, 8, 9, 10], [7, 0, 5, 2, 3, 1, 4, 6, 8, 9, 10], [7, 2, 0, 1, 3, 4, 5, 6, 8, 9, 10], [7, 2, 0, 1, 3, 5, 4, 6, 8, 9, 10], [7, 2, 0, 1, 5, 3, 4, 6, 8, 9, 10], [7, 2, 0, 3, 1, 4, 5, 6, 8, 9, 10], [7, 2, 0, 3, 1, 5, 4, 6, 8, 9, 10], [7, 2, 0, 3, 5, 1, 4, 6, 8, 9, 10], [7, 2, 0, 5, 1, 3, 4, 6, 8, 9, 10], [7, 2, 0, 5, 3, 1, 4, 6, 8, 9, 10], [7, 2, 3, 0, 1, 4, 5, 6, 8, 9, 10], [7, 2, 3, 0, 1, 5, 4, 6, 8, 9, 10], [7, 2, 3, 0, 5, 1, 4, 6, 8, 9, 10], [7, 2, 3, 5, 0, 1, 4, 6, 8, 9, 10], [7, 2, 5, 0, 1, 3, 4, 6, 8, 9, 10], [7, 2, 5, 0, 3, 1, 4, 6, 8, 9, 10], [7, 2, 5, 3, 0, 1, 4, 6, 8, 9, 10], [7, 5, 0, 1, 2, 3, 4, 6, 8, 9, 10], [7, 5, 0, 2, 1, 3, 4, 6, 8, 9, 10], [7, 5, 0, 2, 3, 1, 4, 6, 8, 9, 10], [7, 5, 2, 0, 1, 3, 4, 6, 8, 9, 10], [7, 5, 2, 0, 3, 1, 4, 6, 8, 9, 10], [7, 5, 2, 3, 0, 1, 4, 6, 8, 9, 10]] [f' 11 0 133 1,
 l' 12 true 133 11,
 f' 13 133 1 1,
 l' 14 false 1 13,
 ⟨some 15, none, .h (.call (.k (.fn 114 [])) [(.t 12), (.t 14)])⟩,
 m' 16 3,
 ⟨some 17, none, .h (.call (.k (.fn 113 [])) [(.t 15), (.t 16)])⟩,
 l' 18 true 136 1,
 ⟨some 19, none, .h (.call (.k (.fn 115 [])) [(.t 18)])⟩,
 ⟨some 20, none, .h (.append 1 8 (.t 17) (.t 19))⟩,
 m' 2 20])
 .ret))))⟩
theorem c92 : compF Tryz.prog true Tryz.f92 = some a92 := by kernel_rfl
noncomputable def a95 : AF := ⟨116, [.tmp 4, .tmp 5],
 (.seq (.ops [⟨some 2, none, .h (.box (.t 0))⟩,
 ⟨some 3, none, .h (.box (.t 1))⟩,
 ⟨some 4, none, .p (.mv (.k .pnil))⟩,
 n' 5 0])
 (.seq (.seq (.ops [f' 9 0 1 3,
 l' 10 false 1 9,
 ⟨some 11, none, .h (.call (.k (.fn 43 [])) [(.t 10)])⟩,
 ⟨some 12, none, .p (.un .not (.t 11))⟩,
 m' 13 12,
 f'g 14 13 false 1 1 3,
 l'g 15 13 false false 1 14,
 ⟨some 16, some (13, false), .h (.call (.k (.fn 43 [])) [(.t 15)])⟩,
 ⟨some 17, some (13, false), .p (.un .not (.t 16))⟩,
 po' 18 13 17,
 m' 19 18,
 f'g 20 19 false 0 1 3,
 l'g 21 19 false false 1 20,
 f'g 22 19 false 1 1 3,
 l'g 23 19 false false 1 22,
 ⟨some 24, some (19, false), .p (.bin .eql (.t 21) (.t 23))⟩,
 po' 25 19 24])
 (.cond (.t 25)
 (.seq (.ops [⟨some 4, none, .p (.mv (.k .pnil))⟩,
 n' 5 6])
 .ret)
 .skip))
 (.seq (.par [l' 26 true 133 2,
 l' 27 true 3 3,
 f' 28 0 1 3,
 l' 29 false 1 28,
 f' 30 0 128 2,
 ⟨some 31, none, .p (.ixa 64 2 (.t 30) (.t 29))⟩,
 l' 32 true 2 31,
 ⟨some 33, none, .p (.build (.ints 138) [(0, 133, (.t 26)), (133, 3, (.t 27)), (136, 2, (.t 32))])⟩,
 ⟨some 34, none, .h (.box (.t 33))⟩,
 m' 6 34])
 (.seq (.seq (.ops [m' 35 6,
 ⟨some 36, none, .p (.nilck (.t 35))⟩,
 f' 37 0 133 36,
 f' 38 129 1 37,
 l' 39 false 1 38,
 ok' 40 .lss 39 0,
 m' 41 40,
 m'g 42 41 false 6,
 ⟨some 43, some (41, false), .p (.nilck (.t 42))⟩,
 f'g 44 41 false 0 133 43,
 f'g 45 41 false 129 1 44,
 l'g 46 41 false false 1 45,
 ⟨some 47, some (41, false), .p (.bin .gtr (.t 46) (.k (.s (.int .i64 15))))⟩,
 po' 48 41 47])
 (.cond (.t 48)
 (.ops [m' 49 6,
 ⟨some 50, none, .p (.nilck (.t 49))⟩,
 f' 51 0 133 50,
 f' 52 129 1 51,
 ⟨none, none, .h (.store 1 (.t 52) (.k (.s (.int .i64 0))))⟩])
 .skip))
 (.seq (.ops [m' 53 6,
 ⟨some 54, none, .p (.nilck (.t 53))⟩,
 f' 55 136 2 54,
 l' 56 true 2 55,
 ⟨some 7, none, .h (.alloc (.ints 2))⟩,
 s' 2 7 56])
 (.seq (.seq (.ops [f' 57 0 1 7,
 l' 58 false 1 57,
 ok' 59 .lss 58 1,
 m' 60 59,
 f'g 61 60 false 0 1 7,
 l'g 62 60 false false 1 61,
 ⟨some 63, some (60, false), .p (.bin .gtr (.t 62) (.k (.s (.int .i64 6))))⟩,
 po' 64 60 63,
 m' 65 64,
 f'g 66 65 false 1 1 7,
 l'g 67 65 false false 1 66,
 f'g 68 65 false 128 1 2,
 l'g 69 65 false false 1 68,
 ⟨some 70, some (65, false), .p (.bin .neq (.t 67) (.t 69))⟩,
 po' 71 65 70,
 m' 72 71,
 f'g 73 72 false 1 1 7,
 l'g 74 72 false false 1 73,
 ⟨some 75, some (72, false), .p (.bin .neq (.t 74) (.k (.s (.int .i64 0))))⟩,
 m'g 76 72 false 75,
 f'g 77 76 true 1 1 7,
 l'g 78 76 true false 1 77,
 ⟨some 79, some (76, true), .p (.bin .neq (.t 78) (.k (.s (.int .i64 1))))⟩,
 ⟨some 80, some (72, false), .p (.pick (.t 76) (.t 79) (.k (.s (.bool false))))⟩,
 po' 81 72 80])
 (.cond (.t 81)
 (.seq (.ops [⟨some 4, none, .p (.mv (.k .pnil))⟩,
 n' 5 8])
 .ret)
 .skip))
 (.seq (.par [f' 82 0 1 7,
 l' 83 false 1 82,
 ok' 84 .eql 83 1,
 m' 85 84,
 f'g 86 85 true 1 1 3,
 l'g 87 85 true false 1 86,
 ⟨some 88, some (85, true), .h (.callq (.k (.fn 41 [])) [(.t 87)])⟩,
 f'g 89 85 true 1 1 7,
 l'g 90 85 true false 1 89,
 ⟨some 91, some (85, true), .p (.bin .sub (.k (.s (.int .i64 1))) (.t 90))⟩,
 ⟨some 92, some (85, true), .p (.bin .mul (.k (.s (.int .i64 7))) (.t 91))⟩,
 ⟨some 93, some (85, true), .p (.bin .eql (.t 88) (.t 92))⟩,
 pa' 94 85 93,
 m' 8 94])
 (.seq (.seq (.ops [m' 95 8,
 m' 96 95,
 f'g 97 96 true 2 1 3,
 l'g 98 96 true false 1 97,
 ⟨some 99, some (96, true), .p (.bin .lss (.t 98) (.k (.s (.int .i64 2))))⟩,
 m'g 100 96 true 99,
 f'g 101 100 false 2 1 3,
 l'g 102 100 false false 1 101,
 ⟨some 103, some (100, false), .p (.bin .gtr (.t 102) (.k (.s (.int .i64 5))))⟩,
 ⟨some 104, some (96, true), .p (.pick (.t 100) (.k (.s (.bool true))) (.t 103))⟩,
 pa' 105 96 104,
 m' 106 105,
 m'g 107 106 false 8,
 ⟨some 108, some (106, false), .p (.un .not (.t 107))⟩,
 m'g 109 106 false 108,
 f'g 110 109 true 2 1 3,
 l'g 111 109 true false 1 110,
 ⟨some 112, some (109, true), .p (.bin .neq (.t 111) (.k (.s (.int .i64 0))))⟩,
 ⟨some 113, some (106, false), .p (.pick (.t 109) (.t 112) (.k (.s (.bool false))))⟩,
 po' 114 106 113])
 (.cond (.t 114)
 (.seq (.ops [⟨some 4, none, .p (.mv (.k .pnil))⟩,
 n' 5 8])
 .ret)
 .skip))
 (.seq (.ops [m' 115 6,
 m' 4 115,
 n' 5 0])
 .ret)))))))))⟩
theorem c95 : compF Tryz.prog false Tryz.f95 = some a95 := by kernel_rfl
noncomputable def a96 : AF := ⟨161, [.cell 2 true 133],
 (.seq (.ops [⟨some 2, none, .h (.alloc (.ints 133))⟩])
 (.seq (.ops [m' 9 0,
 ⟨some 10, none, .h (.call (.k (.fn 121 [])) [(.t 9)])⟩,
 m' 3 10])
 (.seq (.ops [m' 12 0,
 ⟨some 13, none, .h (.call (.k (.fn 122 [])) [(.t 12)])⟩,
 m' 11 13,
 ⟨some 14, none, .p (.ext (.t 11) 0)⟩,
 ⟨some 15, none, .p (.ext (.t 11) 1)⟩,
 ⟨some 16, none, .p (.ext (.t 11) 2)⟩,
 m' 4 14,
 m' 5 15,
 m' 6 16])
 (.seq (.ops [n' 7 (-1)])
 (.seq (.seq (.ops [m' 17 0,
 ⟨some 18, none, .h (.call (.k (.fn 123 [])) [(.t 17)])⟩])
 (.cond (.t 18)
 (.par [m' 19 0,
 ⟨some 20, none, .p (.nilck (.t 19))⟩,
 f' 21 133 3 20,
 f' 22 0 1 21,
 l' 23 false 1 22,
 m' 24 0,
 ⟨some 25, none, .p (.nilck (.t 24))⟩,
 f' 26 133 3 25,
 f' 27 1 1 26,
 l' 28 false 1 27,
 o' 29 .add 23 28,
 ok' 30 .quo 29 2,
 m' 7 30])
 .skip))
 (.seq (.ops [m' 31 0,
 ⟨some 32, none, .p (.nilck (.t 31))⟩,
 f' 33 136 2 32,
 l' 34 true 2 33,
 ⟨some 8, none, .h (.alloc (.ints 2))⟩,
 s' 2 8 34])
 (.seq (.seq (.ops [m' 35 0,
 ⟨some 36, none, .p (.nilck (.t 35))⟩,
 f' 37 133 3 36,
 f' 38 2 1 37,
 l' 39 false 1 38,
 ok' 40 .neq 39 0])
 (.cond (.t 40)
 (.ops [m' 41 0,
 ⟨some 42, none, .p (.nilck (.t 41))⟩,
 f' 43 133 3 42,
 f' 44 2 1 43,
 l' 45 false 1 44,
 f' 46 0 1 8,
 s' 1 46 45])
 .skip))
 (.seq (.ops [m' 47 0,
 ⟨some 48, none, .p (.build (.ints 2) [])⟩,
 m' 49 3,
 m' 50 0,
 ⟨some 51, none, .p (.nilck (.t 50))⟩,
 f' 52 133 3 51,
 f' 53 0 1 52,
 l' 54 false 1 53,
 ⟨some 55, none, .h (.mksl 2 1 (.one (.s (.int .i64 0))) [(0, (.t 49)), (1, (.t 54))])⟩,
 ⟨some 56, none, .h (.call (.k (.fn 124 [])) [(.t 47), (.t 48), (.t 55)])⟩])
 (.seq (.par [m' 57 0,
 l' 58 true 2 8,
 m' 59 0,
 ⟨some 60, none, .p (.nilck (.t 59))⟩,
 f' 61 133 3 60,
 f' 62 1 1 61,
 l' 63 false 1 62,
 ⟨some 64, none, .h (.mksl 1 1 (.one (.s (.int .i64 0))) [(0, (.t 63))])⟩,
 ⟨some 65, none, .h (.call (.k (.fn 124 [])) [(.t 57), (.t 58), (.t 64)])⟩])
 (.seq (.seq (.ops [m' 66 6])
 (.cond (.t 66)
 (.seq (.ops [m' 67 0,
 ⟨some 68, none, .p (.build (.ints 2) [])⟩,
 m' 69 4,
 ⟨some 70, none, .h (.mksl 1 1 (.one (.s (.int .i64 0))) [(0, (.t 69))])⟩,
 ⟨some 71, none, .h (.call (.k (.fn 124 [])) [(.t 67), (.t 68), (.t 70)])⟩])
 (.ops [m' 72 0,
 f' 73 1 1 8,
 l' 74 false 1 73,
 ⟨some 75, none, .p (.build (.ints 2) [(0, 1, (.k (.s (.int .i64 4)))), (1, 1, (.t 74))])⟩,
 m' 76 5,
 ⟨some 77, none, .h (.mksl 1 1 (.one (.s (.int .i64 0))) [(0, (.t 76))])⟩,
 ⟨some 78, none, .h (.call (.k (.fn 124 [])) [(.t 72), (.t 75), (.t 77)])⟩]))
 .skip))
 (.seq (.ops [m' 79 0,
 m' 80 7,
 ⟨some 81, none, .p (.nilck (.t 79))⟩,
 f' 82 0 133 81,
 f' 83 130 1 82,
 s' 1 83 80])
 (.seq (.par [m' 84 0,
 ⟨some 85, none, .p (.nilck (.t 84))⟩,
 f' 86 0 133 85,
 f' 87 129 1 86,
 l' 88 false 1 87,
 m' 89 0,
 ⟨some 90, none, .p (.nilck (.t 89))⟩,
 f' 91 133 3 90,
 f' 92 0 1 91,
 l' 93 false 1 92,
 m' 94 0,
 ⟨some 95, none, .p (.nilck (.t 94))⟩,
 f' 96 133 3 95,
 f' 97 1 1 96,
 l' 98 false 1 97,
 ⟨some 99, none, .h (.mksl 2 1 (.one (.s (.int .i64 0))) [(0, (.t 93)), (1, (.t 98))])⟩,
 ⟨some 100, none, .h (.callq (.k (.fn 125 [])) [(.t 99)])⟩,
 o' 101 .andNot 88 100,
 ⟨some 102, none, .p (.nilck (.t 84))⟩,
 f' 103 0 133 102,
 f' 104 129 1 103,
 s' 1 104 101])
 (.seq (.ops [m' 105 0,
 m' 106 0,
 ⟨some 107, none, .p (.nilck (.t 106))⟩,
 f' 108 0 133 107,
 f' 109 131 1 108,
 l' 110 false 1 109,
 ⟨some 111, none, .p (.mn [(.t 110), (.k (.s (.int .i64 1023)))])⟩,
 ok' 112 .add 111 1,
 ⟨some 113, none, .p (.nilck (.t 105))⟩,
 f' 114 0 133 113,
 f' 115 131 1 114,
 s' 1 115 112])
 (.seq (.seq (.ops [m' 116 3,
 ok' 117 .neq 116 (-1),
 m' 118 117,
 m'g 119 118 false 0,
 ⟨some 120, some (118, false), .p (.nilck (.t 119))⟩,
 f'g 121 118 false 136 2 120,
 f'g 122 118 false 0 1 121,
 l'g 123 118 false false 1 122,
 ⟨some 124, some (118, false), .p (.bin .eql (.t 123) (.k (.s (.int .i64 1))))⟩,
 po' 125 118 124])
 (.cond (.t 125)
 (.ops [m' 126 0,
 ⟨some 127, none, .p (.nilck (.t 126))⟩,
 f' 128 0 133 127,
 f' 129 131 1 128,
 ⟨none, none, .h (.store 1 (.t 129) (.k (.s (.int .i64 0))))⟩])
 .skip))
 (.seq (.seq (.ops [m' 130 0,
 ⟨some 131, none, .p (.nilck (.t 130))⟩,
 f' 132 0 133 131,
 f' 133 128 1 132,
 l' 134 false 1 133,
 ok' 135 .eql 134 1])
 (.cond (.t 135)
 (.ops [m' 136 0,
 m' 137 0,
 ⟨some 138, none, .p (.nilck (.t 137))⟩,
 f' 139 0 133 138,
 f' 140 132 1 139,
 l' 141 false 1 140,
 ⟨some 142, none, .p (.mn [(.t 141), (.k (.s (.int .i64 16383)))])⟩,
 ok' 143 .add 142 1,
 ⟨some 144, none, .p (.nilck (.t 136))⟩,
 f' 145 0 133 144,
 f' 146 132 1 145,
 s' 1 146 143])
 .skip))
 (.seq (.ops [m' 147 0,
 m' 148 0,
 ⟨some 149, none, .p (.nilck (.t 148))⟩,
 f' 150 0 133 149,
 f' 151 128 1 150,
 l' 152 false 1 151,
 ⟨some 153, none, .h (.call (.k (.fn 22 [])) [(.t 152)])⟩,
 ⟨some 154, none, .p (.nilck (.t 147))⟩,
 f' 155 0 133 154,
 f' 156 128 1 155,
 s' 1 156 153])
 (.seq (.ops [m' 157 0,
 ⟨some 158, none, .p (.nilck (.t 157))⟩,
 f' 159 0 133 158,
 l' 160 true 133 159,
 s' 133 2 160])
 .ret)))))))))))))))))⟩
theorem c96 : compF Tryz.prog false Tryz.f96 = some a96 := by kernel_rfl
noncomputable def a97 : AF := ⟨19, [.tmp 4],
 (.seq (.ops [n' 4 0])
 (.seq (.seq (.ops [m' 6 0,
 ⟨some 7, none, .p (.len (.t 6))⟩,
 n' 8 0])
 (.block 0 (.loop (.seq (.ops [o' 9 .lss 8 7])
 (.seq (.cond (.t 9)
 .skip
 (.exit 0))
 (.seq (.block 1 (.seq (.ops [m' 10 8,
 m' 5 10])
 (.seq (.ops [m' 11 1,
 m' 12 0,
 m' 13 5,
 ⟨some 14, none, .p (.ixs 1 (.t 12) (.t 13))⟩,
 l' 15 false 1 14,
 o' 16 .eql 11 15])
 (.cond (.t 16)
 (.seq (.ops [m' 17 5,
 m' 4 17])
 .ret)
 .skip))))
 (.ops [ok' 18 .add 8 1,
 m' 8 18])))))))
 (.seq (.ops [n' 4 (-1)])
 .ret)))⟩
theorem c97 : compF Tryz.prog false Tryz.f97 = some a97 := by kernel_rfl
noncomputable def a98 : AF := ⟨6, [.cell 0 true 8],
 (.seq (.ops [⟨some 0, none, .h (.alloc (.ints 8))⟩])
 (.seq (.ops [⟨some 1, none, .p (.build (.ints 2) [(0, 1, (.k (.s (.int .i64 1)))), (1, 1, (.k (.s (.int .i64 0))))])⟩,
 ⟨some 2, none, .p (.build (.ints 2) [(0, 1, (.k (.s (.int .i64 (-1))))), (1, 1, (.k (.s (.int .i64 0))))])⟩,
 ⟨some 3, none, .p (.build (.ints 2) [(0, 1, (.k (.s (.int .i64 0)))), (1, 1, (.k (.s (.int .i64 1))))])⟩,
 ⟨some 4, none, .p (.build (.ints 2) [(0, 1, (.k (.s (.int .i64 0)))), (1, 1, (.k (.s (.int .i64 (-1)))))])⟩,
 ⟨some 5, none, .p (.build (.ints 8) [(0, 2, (.t 1)), (2, 2, (.t 2)), (4, 2, (.t 3)), (6, 2, (.t 4))])⟩,
 s' 8 0 5])
 .ret))⟩
theorem c98 : compF Tryz.prog false Tryz.f98 = some a98 := by kernel_rfl
noncomputable def a99 : AF := ⟨6, [.cell 0 true 8],
 (.seq (.ops [⟨some 0, none, .h (.alloc (.ints 8))⟩])
 (.seq (.ops [⟨some 1, none, .p (.build (.ints 2) [(0, 1, (.k (.s (.int .i64 1)))), (1, 1, (.k (.s (.int .i64 1))))])⟩,
 ⟨some 2, none, .p (.build (.ints 2) [(0, 1, (.k (.s (.int .i64 1)))), (1, 1, (.k (.s (.int .i64 (-1)))))])⟩,
 ⟨some 3, none, .p (.build (.ints 2) [(0, 1, (.k (.s (.int .i64 (-1))))), (1, 1, (.k (.s (.int .i64 1))))])⟩,
 ⟨some 4, none, .p (.build (.ints 2) [(0, 1, (.k (.s (.int .i64 (-1))))), (1, 1, (.k (.s (.int .i64 (-1)))))])⟩,
 ⟨some 5, none, .p (.build (.ints 8) [(0, 2, (.t 1)), (2, 2, (.t 2)), (4, 2, (.t 3)), (6, 2, (.t 4))])⟩,
 s' 8 0 5])
 .ret))⟩
theorem c99 : compF Tryz.prog false Tryz.f99 = some a99 := by kernel_rfl
noncomputable def a100 : AF := ⟨28, [.tmp 4],
 (.seq (.ops [⟨some 4, none, .p (.mv (.k .snil))⟩])
 (.seq (.seq (.ops [m' 8 1,
 ⟨some 9, none, .p (.len (.t 8))⟩,
 n' 10 0])
 (.block 0 (.loop (.seq (.ops [o' 11 .lss 10 9])
 (.seq (.cond (.t 11)
 .skip
 (.exit 0))
 (.seq (.block 1 (.seq (.ops [⟨some 12, none, .p (.ixs 2 (.t 8) (.t 10))⟩,
 l' 13 true 2 12,
 ⟨some 6, none, .h (.alloc (.ints 2))⟩,
 s' 2 6 13])
 (.seq (.ops [m' 14 0,
 ⟨some 15, none, .p (.ixa 2 1 (.t 6) (.k (.s (.int .i64 0))))⟩,
 l' 16 false 1 15,
 ⟨some 17, none, .p (.ixa 2 1 (.t 6) (.k (.s (.int .i64 1))))⟩,
 l' 18 false 1 17,
 ⟨some 19, none, .h (.call (.k (.fn 56 [])) [(.t 14), (.t 16), (.t 18)])⟩,
 m' 7 19])
 (.seq (.ops [m' 20 7,
 ok' 21 .neq 20 (-1)])
 (.cond (.t 21)
 (.ops [m' 22 4,
 m' 23 7,
 ⟨some 24, none, .h (.mksl 1 1 (.one (.s (.int .i64 0))) [(0, (.t 23))])⟩,
 ⟨some 25, none, .h (.append 1 8 (.t 22) (.t 24))⟩,
 m' 4 25])
 .skip)))))
 (.ops [ok' 26 .add 10 1,
 m' 10 26])))))))
 (.seq (.ops [m' 27 4,
 m' 4 27])
 .ret)))⟩
theorem c100 : compF Tryz.prog false Tryz.f100 = some a100 := by kernel_rfl
noncomputable def a101 : AF := ⟨10, [.cell 0 true 16],
 (.seq (.ops [⟨some 0, none, .h (.alloc (.ints 16))⟩])
 (.seq (.ops [⟨some 1, none, .p (.build (.ints 2) [(0, 1, (.k (.s (.int .i64 1)))), (1, 1, (.k (.s (.int .i64 2))))])⟩,
 ⟨some 2, none, .p (.build (.ints 2) [(0, 1, (.k (.s (.int .i64 2)))), (1, 1, (.k (.s (.int .i64 1))))])⟩,
 ⟨some 3, none, .p (.build (.ints 2) [(0, 1, (.k (.s (.int .i64 2)))), (1, 1, (.k (.s (.int .i64 (-1)))))])⟩,
 ⟨some 4, none, .p (.build (.ints 2) [(0, 1, (.k (.s (.int .i64 1)))), (1, 1, (.k (.s (.int .i64 (-2)))))])⟩,
 ⟨some 5, none, .p (.build (.ints 2) [(0, 1, (.k (.s (.int .i64 (-1))))), (1, 1, (.k (.s (.int .i64 (-2)))))])⟩,
 ⟨some 6, none, .p (.build (.ints 2) [(0, 1, (.k (.s (.int .i64 (-2))))), (1, 1, (.k (.s (.int .i64 (-1)))))])⟩,
 ⟨some 7, none, .p (.build (.ints 2) [(0, 1, (.k (.s (.int .i64 (-2))))), (1, 1, (.k (.s (.int .i64 1))))])⟩,
 ⟨some 8, none, .p (.build (.ints 2) [(0, 1, (.k (.s (.int .i64 (-1))))), (1, 1, (.k (.s (.int .i64 2))))])⟩,
 ⟨some 9, none, .p (.build (.ints 16) [(0, 2, (.t 1)), (2, 2, (.t 2)), (4, 2, (.t 3)), (6, 2, (.t 4)), (8, 2, (.t 5)), (10, 2, (.t 6)), (12, 2, (.t 7)), (14, 2, (.t 8))])⟩,
 s' 16 0 9])
 .ret))⟩
theorem c101 : compF Tryz.prog false Tryz.f101 = some a101 := by kernel_rfl
noncomputable def a102 : AF := ⟨36, [.tmp 2],
 (.seq (.ops [⟨some 2, none, .p (.mv (.k .snil))⟩])
 (.seq (.ops [n' 3 0])
 (.seq (.seq (.ops [m' 9 0,
 ⟨some 10, none, .p (.len (.t 9))⟩,
 n' 11 0])
 (.block 0 (.loop (.seq (.ops [o' 12 .lss 11 10])
 (.seq (.cond (.t 12)
 .skip
 (.exit 0))
 (.seq (.block 1 (.seq (.ops [⟨some 13, none, .p (.ixs 1 (.t 9) (.t 11))⟩,
 l' 14 false 1 13,
 m' 5 14])
 (.seq (.ops [m' 15 3,
 m' 16 5,
 ⟨some 17, none, .p (.len (.t 16))⟩,
 o' 18 .add 15 17,
 m' 3 18])
 (.seq (.ops [m' 19 3,
 ok' 20 .lss 19 0])
 (.cond (.t 20)
 (.ops [⟨some 21, none, .p (.mkif 9 (.k (.s (.str ⟨#[108, 101, 110, 32, 111, 117, 116, 32, 111, 102, 32, 114, 97, 110, 103, 101]⟩))))⟩,
 ⟨none, none, .h (.pnc (.t 21))⟩])
 .skip)))))
 (.ops [ok' 22 .add 11 1,
 m' 11 22])))))))
 (.seq (.ops [m' 23 3,
 ⟨some 24, none, .h (.call (.k (.fn 126 [])) [(.k .snil), (.t 23)])⟩,
 m' 6 24])
 (.seq (.seq (.ops [m' 25 0,
 ⟨some 26, none, .p (.len (.t 25))⟩,
 n' 27 0])
 (.block 2 (.loop (.seq (.ops [o' 28 .lss 27 26])
 (.seq (.cond (.t 28)
 .skip
 (.exit 2))
 (.seq (.block 3 (.seq (.ops [⟨some 29, none, .p (.ixs 1 (.t 25) (.t 27))⟩,
 l' 30 false 1 29,
 m' 8 30])
 (.ops [m' 31 6,
 m' 32 8,
 ⟨some 33, none, .h (.append 2 16 (.t 31) (.t 32))⟩,
 m' 6 33])))
 (.ops [ok' 34 .add 27 1,
 m' 27 34])))))))
 (.seq (.ops [m' 35 6,
 m' 2 35])
 .ret))))))⟩
theorem c102 : compF Tryz.prog false Tryz.f102 = some a102 := by kernel_rfl
noncomputable def a103 : AF := ⟨42, [.tmp 6],
 (.seq (.ops [⟨some 3, none, .h (.box (.t 0))⟩,
 ⟨some 6, none, .p (.mv (.k .snil))⟩])
 (.seq (.seq (.ops [m' 11 2,
 ⟨some 12, none, .p (.len (.t 11))⟩,
 n' 13 0])
 (.block 0 (.loop (.seq (.ops [o' 14 .lss 13 12])
 (.seq (.cond (.t 14)
 .skip
 (.exit 0))
 (.seq (.block 1 (.seq (.ops [⟨some 15, none, .p (.ixs 2 (.t 11) (.t 13))⟩,
 l' 16 true 2 15,
 ⟨some 8, none, .h (.alloc (.ints 2))⟩,
 s' 2 8 16])
 (.seq (.ops [m' 17 1,
 ⟨some 18, none, .p (.ixa 2 1 (.t 8) (.k (.s (.int .i64 0))))⟩,
 l' 19 false 1 18,
 ⟨some 20, none, .p (.ixa 2 1 (.t 8) (.k (.s (.int .i64 1))))⟩,
 l' 21 false 1 20,
 ⟨some 22, none, .h (.call (.k (.fn 127 [])) [(.t 17), (.t 19), (.t 21)])⟩,
 ⟨some 23, none, .p (.len (.t 22))⟩,
 n' 24 0])
 (.block 2 (.loop (.seq (.ops [o' 25 .lss 24 23])
 (.seq (.cond (.t 25)
 .skip
 (.exit 2))
 (.seq (.block 3 (.seq (.ops [⟨some 26, none, .p (.ixs 1 (.t 22) (.t 24))⟩,
 l' 27 false 1 26,
 m' 10 27])
 (.seq (.ops [m' 28 6,
 m' 29 10,
 ⟨some 30, none, .h (.mksl 1 1 (.one (.s (.int .i64 0))) [(0, (.t 29))])⟩,
 ⟨some 31, none, .h (.append 1 8 (.t 28) (.t 30))⟩,
 m' 6 31])
 (.seq (.ops [m' 32 10,
 f' 33 0 133 3,
 f' 34 0 128 33,
 ⟨some 35, none, .p (.ixa 64 2 (.t 34) (.t 32))⟩,
 l' 36 true 2 35,
 ⟨some 37, none, .p (.build (.ints 2) [])⟩,
 ⟨some 38, none, .p (.eqa true 2 (.t 36) (.t 37))⟩])
 (.cond (.t 38)
 (.exit 2)
 .skip)))))
 (.ops [ok' 39 .add 24 1,
 m' 24 39])))))))))
 (.ops [ok' 40 .add 13 1,
 m' 13 40])))))))
 (.seq (.ops [m' 41 6,
 m' 6 41])
 .ret)))⟩
theorem c103 : compF Tryz.prog false Tryz.f103 = some a103 := by kernel_rfl
noncomputable def a110 : AF := ⟨48, [],
 (.seq (.ops [f' 6 0 128 1,
 l' 7 true 128 6,
 n' 8 0])
 (.block 0 (.loop (.seq (.ops [ok' 9 .lss 8 64])
 (.seq (.cond (.t 9)
 .skip
 (.exit 0))
 (.seq (.block 1 (.seq (.ops [m' 10 8,
 ⟨some 11, none, .p (.ix 64 2 true (.t 7) (.t 8))⟩,
 ⟨some 4, none, .h (.alloc (.ints 2))⟩,
 m' 3 10,
 s' 2 4 11])
 (.seq (.ops [f' 12 0 1 4,
 l' 13 false 1 12,
 ok' 14 .geq 13 1,
 m' 15 14,
 f'g 16 15 true 0 1 4,
 l'g 17 15 true false 1 16,
 ⟨some 18, some (15, true), .p (.bin .leq (.t 17) (.k (.s (.int .i64 6))))⟩,
 pa' 19 15 18,
 m' 20 19,
 f'g 21 20 true 1 1 4,
 l'g 22 20 true false 1 21,
 ⟨some 23, some (20, true), .p (.bin .eql (.t 22) (.k (.s (.int .i64 0))))⟩,
 m'g 24 20 true 23,
 f'g 25 24 false 1 1 4,
 l'g 26 24 false false 1 25,
 ⟨some 27, some (24, false), .p (.bin .eql (.t 26) (.k (.s (.int .i64 1))))⟩,
 ⟨some 28, some (20, true), .p (.pick (.t 24) (.k (.s (.bool true))) (.t 27))⟩,
 pa' 29 20 28,
 m' 5 29])
 (.seq (.ops [m' 30 5,
 m' 31 30,
 f'g 32 31 true 1 1 4,
 l'g 33 31 true false 1 32,
 f'g 34 31 true 128 1 1,
 l'g 35 31 true false 1 34,
 ⟨some 36, some (31, true), .p (.bin .eql (.t 33) (.t 35))⟩,
 pa' 37 31 36,
 m' 38 37,
 m'g 39 38 true 0,
 l'g 40 38 true true 133 1,
 m'g 41 38 true 3,
 l'g 42 38 true true 2 4,
 ⟨some 43, some (38, true), .p (.build (.ints 136) [(0, 133, (.t 40)), (133, 1, (.t 41)), (134, 2, (.t 42))])⟩,
 ⟨some 44, some (38, true), .h (.call (.t 39) [(.t 43)])⟩,
 ⟨some 45, some (38, true), .p (.un .not (.t 44))⟩,
 pa' 46 38 45])
 (.cond (.t 46)
 .ret
 .skip)))))
 (.ops [ok' 47 .add 8 1,
 m' 8 47])))))))⟩
theorem c110 : compF Tryz.prog false Tryz.f110 = some a110 := by kernel_rfl
noncomputable def a111 : AF := ⟨97, [.tmp 2],
 (.seq (.ops [⟨some 1, none, .h (.box (.t 0))⟩,
 ⟨some 2, none, .p (.mv (.k .snil))⟩])
 (.seq (.ops [f' 9 134 2 1,
 f' 10 1 1 9,
 l' 11 false 1 10,
 ⟨some 12, none, .p (.bin .mul (.k (.s (.int .i64 2))) (.t 11))⟩,
 ⟨some 13, none, .p (.bin .sub (.k (.s (.int .i64 1))) (.t 12))⟩,
 m' 3 13])
 (.seq (.par [f' 14 133 1 1,
 l' 15 false 1 14,
 m' 16 3,
 ⟨some 17, none, .h (.callq (.k (.fn 56 [])) [(.t 15), (.k (.s (.int .i64 0))), (.t 16)])⟩,
 f' 18 133 1 1,
 l' 19 false 1 18,
 m' 20 3,
 ⟨some 21, none, .p (.bin .mul (.k (.s (.int .i64 2))) (.t 20))⟩,
 ⟨some 22, none, .h (.call (.k (.fn 56 [])) [(.t 19), (.k (.s (.int .i64 0))), (.t 21)])⟩,
 m' 4 17,
 m' 5 22])
 (.seq (.seq (.ops [l' 23 true 136 1,
 m' 24 4,
 ⟨some 25, none, .h (.mksl 1 1 (.one (.s (.int .i64 0))) [(0, (.t 24))])⟩,
 ⟨some 26, none, .h (.call (.k (.fn 130 [])) [(.t 23), (.t 25)])⟩])
 (.cond (.t 26)
 (.ops [m' 27 2,
 m' 28 4,
 ⟨some 29, none, .h (.mksl 1 1 (.one (.s (.int .i64 0))) [(0, (.t 28))])⟩,
 ⟨some 30, none, .h (.append 1 8 (.t 27) (.t 29))⟩,
 m' 2 30])
 .skip))
 (.seq (.seq (.par [f' 31 133 1 1,
 l' 32 false 1 31,
 ⟨some 33, none, .h (.callq (.k (.fn 41 [])) [(.t 32)])⟩,
 f' 34 134 2 1,
 f' 35 1 1 34,
 l' 36 false 1 35,
 ⟨some 37, none, .p (.bin .mul (.k (.s (.int .i64 5))) (.t 36))⟩,
 ⟨some 38, none, .p (.bin .add (.k (.s (.int .i64 1))) (.t 37))⟩,
 o' 39 .eql 33 38,
 m' 40 39,
 l'g 41 40 true true 136 1,
 m'g 42 40 true 4,
 m'g 43 40 true 5,
 ⟨some 44, some (40, true), .h (.mksl 2 1 (.one (.s (.int .i64 0))) [(0, (.t 42)), (1, (.t 43))])⟩,
 ⟨some 45, some (40, true), .h (.call (.k (.fn 130 [])) [(.t 41), (.t 44)])⟩,
 pa' 46 40 45])
 (.cond (.t 46)
 (.ops [m' 47 2,
 m' 48 5,
 ⟨some 49, none, .h (.mksl 1 1 (.one (.s (.int .i64 0))) [(0, (.t 48))])⟩,
 ⟨some 50, none, .h (.append 1 8 (.t 47) (.t 49))⟩,
 m' 2 50])
 .skip))
 (.seq (.seq (.ops [f' 51 0 133 1,
 l' 52 true 133 51,
 f' 53 133 1 1,
 l' 54 false 1 53,
 ⟨some 55, none, .h (.call (.k (.fn 114 [])) [(.t 52), (.t 54)])⟩,
 ⟨some 56, none, .p (.len (.t 55))⟩,
 n' 57 0])
 (.block 0 (.loop (.seq (.ops [o' 58 .lss 57 56])
 (.seq (.cond (.t 58)
 .skip
 (.exit 0))
 (.seq (.block 1 (.seq (.ops [⟨some 59, none, .p (.ixs 1 (.t 55) (.t 57))⟩,
 l' 60 false 1 59,
 m' 7 60])
 (.seq (.ops [m' 61 7,
 f' 62 0 133 1,
 f' 63 0 128 62,
 ⟨some 64, none, .p (.ixa 64 2 (.t 63) (.t 61))⟩,
 l' 65 true 2 64,
 ⟨some 8, none, .h (.alloc (.ints 2))⟩,
 s' 2 8 65])
 (.seq (.par [l' 66 true 2 8,
 ⟨some 67, none, .p (.build (.ints 2) [])⟩,
 ⟨some 68, none, .p (.eqa true 2 (.t 66) (.t 67))⟩,
 m' 69 68,
 f'g 70 69 true 1 1 8,
 l'g 71 69 true false 1 70,
 f'g 72 69 true 134 2 1,
 f'g 73 69 true 1 1 72,
 l'g 74 69 true false 1 73,
 ⟨some 75, some (69, true), .h (.callq (.k (.fn 22 [])) [(.t 74)])⟩,
 ⟨some 76, some (69, true), .p (.bin .eql (.t 71) (.t 75))⟩,
 pa' 77 69 76,
 m' 78 77,
 l'g 79 78 false true 136 1,
 m'g 80 78 false 7,
 ⟨some 81, some (78, false), .h (.mksl 1 1 (.one (.s (.int .i64 0))) [(0, (.t 80))])⟩,
 ⟨some 82, some (78, false), .h (.call (.k (.fn 130 [])) [(.t 79), (.t 81)])⟩,
 m'g 83 78 false 82,
 m'g 84 83 true 7,
 f'g 85 83 true 0 133 1,
 f'g 86 83 true 130 1 85,
 l'g 87 83 true false 1 86,
 ⟨some 88, some (83, true), .p (.bin .eql (.t 84) (.t 87))⟩,
 ⟨some 89, some (78, false), .p (.pick (.t 83) (.t 88) (.k (.s (.bool false))))⟩,
 po' 90 78 89])
 (.cond (.t 90)
 (.ops [m' 91 2,
 m' 92 7,
 ⟨some 93, none, .h (.mksl 1 1 (.one (.s (.int .i64 0))) [(0, (.t 92))])⟩,
 ⟨some 94, none, .h (.append 1 8 (.t 91) (.t 93))⟩,
 m' 2 94])
 .skip)))))
 (.ops [ok' 95 .add 57 1,
 m' 57 95])))))))
 (.seq (.ops [m' 96 2,
 m' 2 96])
 .ret)))))))⟩
theorem c111 : compF Tryz.prog false Tryz.f111 = some a111 := by kernel_rfl
noncomputable def a114 : AF := ⟨16, [.tmp 4],
 (.seq (.ops [⟨some 2, none, .h (.box (.t 0))⟩,
 ⟨some 4, none, .p (.mv (.k .snil))⟩])
 (.seq (.seq (.ops [m' 6 1,
 ⟨some 7, none, .h (.call (.k (.fn 43 [])) [(.t 6)])⟩,
 ⟨some 8, none, .p (.un .not (.t 7))⟩])
 (.cond (.t 8)
 (.seq (.ops [⟨some 4, none, .p (.mv (.k .snil))⟩])
 .ret)
 .skip))
 (.seq (.ops [l' 9 true 133 2,
 ⟨some 10, none, .p (.build (.ints 133) [(0, 133, (.t 9))])⟩,
 m' 11 1,
 ⟨some 12, none, .h (.call (.k (.fn 74 [])) [(.t 10), (.t 11)])⟩,
 m' 5 12])
 (.seq (.ops [m' 13 5,
 ⟨some 14, none, .h (.call (.k (.fn 131 [])) [(.t 13)])⟩])
 (.seq (.ops [m' 15 5,
 m' 4 15])
 .ret)))))⟩
theorem c114 : compF Tryz.prog false Tryz.f114 = some a114 := by kernel_rfl
noncomputable def a115 : AF := ⟨102, [.tmp 2],
 (.seq (.ops [⟨some 1, none, .h (.box (.t 0))⟩,
 ⟨some 2, none, .p (.mv (.k .snil))⟩])
 (.seq (.ops [f' 6 134 2 1,
 f' 7 1 1 6,
 l' 8 false 1 7,
 ⟨some 9, none, .p (.bin .mul (.k (.s (.int .i64 56))) (.t 8))⟩,
 ok' 10 .add 9 4,
 m' 3 10])
 (.seq (.seq (.ops [f' 11 134 2 1,
 f' 12 0 1 11,
 l' 13 false 1 12,
 ok' 14 .neq 13 6,
 m' 15 14,
 f'g 16 15 false 133 1 1,
 l'g 17 15 false false 1 16,
 m'g 18 15 false 3,
 ⟨some 19, some (15, false), .p (.bin .neq (.t 17) (.t 18))⟩,
 po' 20 15 19,
 m' 21 20,
 f'g 22 21 false 0 133 1,
 f'g 23 21 false 129 1 22,
 l'g 24 21 false false 1 23,
 ⟨some 25, some (21, false), .p (.bin .lss (.t 24) (.k (.s (.int .i64 0))))⟩,
 po' 26 21 25,
 m' 27 26,
 f'g 28 27 false 0 133 1,
 f'g 29 27 false 129 1 28,
 l'g 30 27 false false 1 29,
 ⟨some 31, some (27, false), .p (.bin .gtr (.t 30) (.k (.s (.int .i64 15))))⟩,
 po' 32 27 31])
 (.cond (.t 32)
 (.seq (.ops [⟨some 2, none, .p (.mv (.k .snil))⟩])
 .ret)
 .skip))
 (.seq (.ops [f' 33 134 2 1,
 f' 34 1 1 33,
 l' 35 false 1 34,
 ⟨some 36, none, .p (.build (.ints 2) [(0, 1, (.k (.s (.int .i64 4)))), (1, 1, (.t 35))])⟩,
 ⟨some 4, none, .h (.alloc (.ints 2))⟩,
 s' 2 4 36])
 (.seq (.ops [f' 37 0 133 1,
 f' 38 129 1 37,
 l' 39 false 1 38,
 f' 40 134 2 1,
 f' 41 1 1 40,
 l' 42 false 1 41,
 ⟨some 43, none, .p (.bin .mul (.k (.s (.int .i64 2))) (.t 42))⟩,
 o' 44 .shr 39 43,
 m' 5 44])
 (.seq (.seq (.par [m' 45 5,
 ok' 46 .and 45 1,
 ok' 47 .neq 46 0,
 m' 48 47,
 m'g 49 48 true 3,
 ⟨some 50, some (48, true), .p (.bin .add (.t 49) (.k (.s (.int .i64 3))))⟩,
 f'g 51 48 true 0 133 1,
 f'g 52 48 true 0 128 51,
 ⟨some 53, some (48, true), .p (.ixa 64 2 (.t 52) (.t 50))⟩,
 l'g 54 48 true true 2 53,
 l'g 55 48 true true 2 4,
 ⟨some 56, some (48, true), .p (.eqa false 2 (.t 54) (.t 55))⟩,
 pa' 57 48 56,
 m' 58 57,
 l'g 59 58 true true 136 1,
 m'g 60 58 true 3,
 ⟨some 61, some (58, true), .p (.bin .add (.t 60) (.k (.s (.int .i64 1))))⟩,
 m'g 62 58 true 3,
 ⟨some 63, some (58, true), .p (.bin .add (.t 62) (.k (.s (.int .i64 2))))⟩,
 ⟨some 64, some (58, true), .h (.mksl 2 1 (.one (.s (.int .i64 0))) [(0, (.t 61)), (1, (.t 63))])⟩,
 ⟨some 65, some (58, true), .h (.call (.k (.fn 130 [])) [(.t 59), (.t 64)])⟩,
 pa' 66 58 65])
 (.cond (.t 66)
 (.ops [m' 67 2,
 m' 68 3,
 ok' 69 .add 68 2,
 ⟨some 70, none, .h (.mksl 1 1 (.one (.s (.int .i64 0))) [(0, (.t 69))])⟩,
 ⟨some 71, none, .h (.append 1 8 (.t 67) (.t 70))⟩,
 m' 2 71])
 .skip))
 (.seq (.seq (.par [m' 72 5,
 ok' 73 .and 72 2,
 ok' 74 .neq 73 0,
 m' 75 74,
 m'g 76 75 true 3,
 ⟨some 77, some (75, true), .p (.bin .sub (.t 76) (.k (.s (.int .i64 4))))⟩,
 f'g 78 75 true 0 133 1,
 f'g 79 75 true 0 128 78,
 ⟨some 80, some (75, true), .p (.ixa 64 2 (.t 79) (.t 77))⟩,
 l'g 81 75 true true 2 80,
 l'g 82 75 true true 2 4,
 ⟨some 83, some (75, true), .p (.eqa false 2 (.t 81) (.t 82))⟩,
 pa' 84 75 83,
 m' 85 84,
 l'g 86 85 true true 136 1,
 m'g 87 85 true 3,
 ⟨some 88, some (85, true), .p (.bin .sub (.t 87) (.k (.s (.int .i64 1))))⟩,
 m'g 89 85 true 3,
 ⟨some 90, some (85, true), .p (.bin .sub (.t 89) (.k (.s (.int .i64 2))))⟩,
 m'g 91 85 true 3,
 ⟨some 92, some (85, true), .p (.bin .sub (.t 91) (.k (.s (.int .i64 3))))⟩,
 ⟨some 93, some (85, true), .h (.mksl 3 1 (.one (.s (.int .i64 0))) [(0, (.t 88)), (1, (.t 90)), (2, (.t 92))])⟩,
 ⟨some 94, some (85, true), .h (.call (.k (.fn 130 [])) [(.t 86), (.t 93)])⟩,
 pa' 95 85 94])
 (.cond (.t 95)
 (.ops [m' 96 2,
 m' 97 3,
 ok' 98 .sub 97 2,
 ⟨some 99, none, .h (.mksl 1 1 (.one (.s (.int .i64 0))) [(0, (.t 98))])⟩,
 ⟨some 100, none, .h (.append 1 8 (.t 96) (.t 99))⟩,
 m' 2 100])
 .skip))
 (.seq (.ops [m' 101 2,
 m' 2 101])
 .ret))))))))⟩
theorem c115 : compF Tryz.prog false Tryz.f115 = some a115 := by kernel_rfl
noncomputable def a121 : AF := ⟨59, [.tmp 2],
 (.seq (.ops [n' 2 0])
 (.seq (.ops [m' 4 0,
 ⟨some 5, none, .p (.nilck (.t 4))⟩,
 f' 6 133 3 5,
 f' 7 1 1 6,
 l' 8 false 1 7,
 m' 3 8])
 (.seq (.seq (.ops [m' 9 0,
 ⟨some 10, none, .p (.nilck (.t 9))⟩,
 f' 11 136 2 10,
 f' 12 0 1 11,
 l' 13 false 1 12,
 ok' 14 .eql 13 1,
 m' 15 14,
 m'g 16 15 true 0,
 ⟨some 17, some (15, true), .h (.call (.k (.fn 144 [])) [(.t 16)])⟩,
 ⟨some 18, some (15, true), .p (.bin .neq (.t 17) (.k (.s (.int .i64 0))))⟩,
 pa' 19 15 18,
 m' 20 19,
 m'g 21 20 true 3,
 m'g 22 20 true 0,
 ⟨some 23, some (20, true), .p (.nilck (.t 22))⟩,
 f'g 24 20 true 0 133 23,
 f'g 25 20 true 130 1 24,
 l'g 26 20 true false 1 25,
 ⟨some 27, some (20, true), .p (.bin .eql (.t 21) (.t 26))⟩,
 pa' 28 20 27,
 m' 29 28,
 m'g 30 29 true 0,
 m'g 31 29 true 3,
 ⟨some 32, some (29, true), .p (.nilck (.t 30))⟩,
 f'g 33 29 true 0 133 32,
 f'g 34 29 true 0 128 33,
 ⟨some 35, some (29, true), .p (.ixa 64 2 (.t 34) (.t 31))⟩,
 l'g 36 29 true true 2 35,
 ⟨some 37, some (29, true), .p (.build (.ints 2) [])⟩,
 ⟨some 38, some (29, true), .p (.eqa false 2 (.t 36) (.t 37))⟩,
 pa' 39 29 38])
 (.cond (.t 39)
 (.par [m' 40 3,
 ⟨some 41, none, .h (.callq (.k (.fn 40 [])) [(.t 40)])⟩,
 m' 42 0,
 ⟨some 43, none, .p (.nilck (.t 42))⟩,
 f' 44 133 3 43,
 f' 45 0 1 44,
 l' 46 false 1 45,
 ⟨some 47, none, .h (.call (.k (.fn 41 [])) [(.t 46)])⟩,
 ⟨some 48, none, .h (.call (.k (.fn 39 [])) [(.t 41), (.t 47)])⟩,
 m' 3 48])
 .skip))
 (.seq (.seq (.ops [m' 49 0,
 m' 50 3,
 ⟨some 51, none, .p (.nilck (.t 49))⟩,
 f' 52 0 133 51,
 f' 53 0 128 52,
 ⟨some 54, none, .p (.ixa 64 2 (.t 53) (.t 50))⟩,
 l' 55 true 2 54,
 ⟨some 56, none, .p (.build (.ints 2) [])⟩,
 ⟨some 57, none, .p (.eqa false 2 (.t 55) (.t 56))⟩])
 (.cond (.t 57)
 (.seq (.ops [n' 2 (-1)])
 .ret)
 .skip))
 (.seq (.ops [m' 58 3,
 m' 2 58])
 .ret)))))⟩
theorem c121 : compF Tryz.prog false Tryz.f121 = some a121 := by kernel_rfl
noncomputable def a122 : AF := ⟨80, [.tmp 2, .tmp 3, .tmp 4],
 (.seq (.ops [n' 2 0,
 n' 3 0,
 b' 4 false])
 (.seq (.ops [m' 7 0,
 ⟨some 8, none, .p (.nilck (.t 7))⟩,
 f' 9 136 2 8,
 f' 10 1 1 9,
 l' 11 false 1 10,
 ⟨some 12, none, .p (.bin .mul (.k (.s (.int .i64 56))) (.t 11))⟩,
 ok' 13 .add 12 4,
 m' 5 13])
 (.seq (.ops [m' 14 0,
 ⟨some 15, none, .p (.nilck (.t 14))⟩,
 f' 16 136 2 15,
 f' 17 1 1 16,
 l' 18 false 1 17,
 ⟨some 19, none, .p (.bin .mul (.k (.s (.int .i64 2))) (.t 18))⟩,
 ⟨some 20, none, .p (.bin .shl (.k (.s (.int .i64 1))) (.t 19))⟩,
 m' 6 20])
 (.seq (.block 0 (.seq (.ops [m' 22 0,
 ⟨some 23, none, .p (.nilck (.t 22))⟩,
 f' 24 136 2 23,
 f' 25 0 1 24,
 l' 26 false 1 25,
 ok' 27 .neq 26 6,
 m' 28 27,
 m'g 29 28 false 0,
 ⟨some 30, some (28, false), .p (.nilck (.t 29))⟩,
 f'g 31 28 false 133 3 30,
 f'g 32 28 false 0 1 31,
 l'g 33 28 false false 1 32,
 m'g 34 28 false 5,
 ⟨some 35, some (28, false), .p (.bin .neq (.t 33) (.t 34))⟩,
 po' 36 28 35,
 m' 21 36])
 (.cond (.t 21)
 (.seq (.ops [n' 2 0,
 n' 3 0,
 b' 4 false])
 .ret)
 (.seq (.ops [m' 38 0,
 ⟨some 39, none, .p (.nilck (.t 38))⟩,
 f' 40 133 3 39,
 f' 41 1 1 40,
 l' 42 false 1 41,
 m' 43 5,
 ok' 44 .add 43 2,
 o' 45 .eql 42 44,
 m' 37 45])
 (.cond (.t 37)
 (.seq (.par [m' 46 5,
 ok' 47 .add 46 3,
 m' 48 5,
 ok' 49 .add 48 1,
 m' 50 0,
 ⟨some 51, none, .p (.nilck (.t 50))⟩,
 f' 52 0 133 51,
 f' 53 129 1 52,
 l' 54 false 1 53,
 m' 55 6,
 o' 56 .and 54 55,
 ok' 57 .neq 56 0,
 m' 2 47,
 m' 3 49,
 m' 4 57])
 .ret)
 (.seq (.ops [m' 59 0,
 ⟨some 60, none, .p (.nilck (.t 59))⟩,
 f' 61 133 3 60,
 f' 62 1 1 61,
 l' 63 false 1 62,
 m' 64 5,
 ok' 65 .sub 64 2,
 o' 66 .eql 63 65,
 m' 58 66])
 (.cond (.t 58)
 (.seq (.par [m' 67 5,
 ok' 68 .sub 67 4,
 m' 69 5,
 ok' 70 .sub 69 1,
 m' 71 0,
 ⟨some 72, none, .p (.nilck (.t 71))⟩,
 f' 73 0 133 72,
 f' 74 129 1 73,
 l' 75 false 1 74,
 m' 76 6,
 ⟨some 77, none, .p (.bin .shl (.t 76) (.k (.s (.int .u64 1))))⟩,
 o' 78 .and 75 77,
 ok' 79 .neq 78 0,
 m' 2 68,
 m' 3 70,
 m' 4 79])
 .ret)
 .skip)))))))
 (.seq (.ops [n' 2 0,
 n' 3 0,
 b' 4 false])
 .ret)))))⟩
theorem c122 : compF Tryz.prog false Tryz.f122 = some a122 := by kernel_rfl
noncomputable def a123 : AF := ⟨55, [.tmp 2],
 (.seq (.ops [b' 2 false])
 (.seq (.ops [m' 6 0,
 ⟨some 7, none, .p (.nilck (.t 6))⟩,
 f' 8 136 2 7,
 f' 9 1 1 8,
 l' 10 false 1 9,
 ⟨some 11, none, .p (.bin .mul (.k (.s (.int .i64 2))) (.t 10))⟩,
 ⟨some 12, none, .p (.bin .sub (.k (.s (.int .i64 1))) (.t 11))⟩,
 m' 3 12])
 (.seq (.par [m' 13 0,
 ⟨some 14, none, .p (.nilck (.t 13))⟩,
 f' 15 133 3 14,
 f' 16 0 1 15,
 l' 17 false 1 16,
 ⟨some 18, none, .h (.callq (.k (.fn 41 [])) [(.t 17)])⟩,
 m' 19 0,
 ⟨some 20, none, .p (.nilck (.t 19))⟩,
 f' 21 133 3 20,
 f' 22 1 1 21,
 l' 23 false 1 22,
 ⟨some 24, none, .h (.call (.k (.fn 41 [])) [(.t 23)])⟩,
 m' 4 18,
 m' 5 24])
 (.seq (.ops [m' 25 0,
 ⟨some 26, none, .p (.nilck (.t 25))⟩,
 f' 27 136 2 26,
 f' 28 0 1 27,
 l' 29 false 1 28,
 ok' 30 .eql 29 1,
 m' 31 30,
 m'g 32 31 true 0,
 ⟨some 33, some (31, true), .h (.call (.k (.fn 144 [])) [(.t 32)])⟩,
 ⟨some 34, some (31, true), .p (.bin .eql (.t 33) (.k (.s (.int .i64 0))))⟩,
 pa' 35 31 34,
 m' 36 35,
 m'g 37 36 true 4,
 m'g 38 36 true 0,
 ⟨some 39, some (36, true), .p (.nilck (.t 38))⟩,
 f'g 40 36 true 136 2 39,
 f'g 41 36 true 1 1 40,
 l'g 42 36 true false 1 41,
 ⟨some 43, some (36, true), .p (.bin .mul (.k (.s (.int .i64 5))) (.t 42))⟩,
 ⟨some 44, some (36, true), .p (.bin .add (.k (.s (.int .i64 1))) (.t 43))⟩,
 ⟨some 45, some (36, true), .p (.bin .eql (.t 37) (.t 44))⟩,
 pa' 46 36 45,
 m' 47 46,
 m'g 48 47 true 5,
 m'g 49 47 true 4,
 m'g 50 47 true 3,
 ⟨some 51, some (47, true), .p (.bin .mul (.k (.s (.int .i64 2))) (.t 50))⟩,
 ⟨some 52, some (47, true), .p (.bin .add (.t 49) (.t 51))⟩,
 ⟨some 53, some (47, true), .p (.bin .eql (.t 48) (.t 52))⟩,
 pa' 54 47 53,
 m' 2 54])
 .ret))))⟩
theorem c123 : compF Tryz.prog false Tryz.f123 = some a123 := by kernel_rfl
noncomputable def a124 : AF := ⟨24, [],
 (.seq (.ops [⟨some 4, none, .h (.box (.t 1))⟩])
 (.seq (.ops [m' 8 2,
 ⟨some 9, none, .p (.len (.t 8))⟩,
 n' 10 0])
 (.block 0 (.loop (.seq (.ops [o' 11 .lss 10 9])
 (.seq (.cond (.t 11)
 .skip
 (.exit 0))
 (.seq (.block 1 (.seq (.ops [⟨some 12, none, .p (.ixs 1 (.t 8) (.t 10))⟩,
 l' 13 false 1 12,
 m' 7 13])
 (.seq (.ops [m' 14 7,
 ⟨some 15, none, .h (.call (.k (.fn 43 [])) [(.t 14)])⟩])
 (.cond (.t 15)
 (.par [m' 16 0,
 m' 17 7,
 l' 18 true 2 4,
 ⟨some 19, none, .p (.nilck (.t 16))⟩,
 f' 20 0 133 19,
 f' 21 0 128 20,
 ⟨some 22, none, .p (.ixa 64 2 (.t 21) (.t 17))⟩,
 s' 2 22 18])
 .skip))))
 (.ops [ok' 23 .add 10 1,
 m' 10 23]))))))))⟩
theorem c124 : compF Tryz.prog false Tryz.f124 = some a124 := by kernel_rfl
noncomputable def a125 : AF := ⟨21, [.tmp 2],
 (.seq (.ops [n' 2 0])
 (.seq (.ops [⟨some 6, none, .h (.mkmap)⟩,
 ⟨none, none, .h (.mput (.t 6) (.k (.s (.int .i64 4))) (.k (.s (.int .i64 3))))⟩,
 ⟨none, none, .h (.mput (.t 6) (.k (.s (.int .i64 7))) (.k (.s (.int .i64 1))))⟩,
 ⟨none, none, .h (.mput (.t 6) (.k (.s (.int .i64 0))) (.k (.s (.int .i64 2))))⟩,
 ⟨none, none, .h (.mput (.t 6) (.k (.s (.int .i64 60))) (.k (.s (.int .i64 12))))⟩,
 ⟨none, none, .h (.mput (.t 6) (.k (.s (.int .i64 63))) (.k (.s (.int .i64 4))))⟩,
 ⟨none, none, .h (.mput (.t 6) (.k (.s (.int .i64 56))) (.k (.s (.int .i64 8))))⟩,
 m' 7 6,
 m' 3 7])
 (.seq (.seq (.ops [m' 8 0,
 ⟨some 9, none, .p (.len (.t 8))⟩,
 n' 10 0])
 (.block 0 (.loop (.seq (.ops [o' 11 .lss 10 9])
 (.seq (.cond (.t 11)
 .skip
 (.exit 0))
 (.seq (.block 1 (.seq (.ops [⟨some 12, none, .p (.ixs 1 (.t 8) (.t 10))⟩,
 l' 13 false 1 12,
 m' 5 13])
 (.ops [m' 14 2,
 m' 15 3,
 m' 16 5,
 ⟨some 17, none, .h (.mget (.one (.s (.int .i64 0))) false (.t 15) (.t 16))⟩,
 o' 18 .or 14 17,
 m' 2 18])))
 (.ops [ok' 19 .add 10 1,
 m' 10 19])))))))
 (.seq (.ops [m' 20 2,
 m' 2 20])
 .ret))))⟩
theorem c125 : compF Tryz.prog false Tryz.f125 = some a125 := by kernel_rfl
noncomputable def a127 : AF := ⟨28, [.tmp 6],
 (.seq (.ops [⟨some 6, none, .p (.mv (.k .snil))⟩])
 (.seq (.seq (.ops [m' 7 1,
 ok' 8 .eql 7 0,
 m' 9 8,
 m'g 10 9 true 2,
 ⟨some 11, some (9, true), .p (.bin .eql (.t 10) (.k (.s (.int .i64 0))))⟩,
 pa' 12 9 11])
 (.cond (.t 12)
 (.seq (.ops [⟨some 6, none, .p (.mv (.k .snil))⟩])
 .ret)
 .skip))
 (.seq (.seq (.ops [m' 13 0,
 m' 14 1,
 m' 15 2,
 ⟨some 16, none, .h (.call (.k (.fn 56 [])) [(.t 13), (.t 14), (.t 15)])⟩,
 m' 0 16])
 (.block 0 (.loop (.seq (.seq (.ops [m' 17 0,
 ok' 18 .neq 17 (-1)])
 (.cond (.t 18)
 .skip
 (.exit 0)))
 (.seq (.block 1 (.ops [m' 23 6,
 m' 24 0,
 ⟨some 25, none, .h (.mksl 1 1 (.one (.s (.int .i64 0))) [(0, (.t 24))])⟩,
 ⟨some 26, none, .h (.append 1 8 (.t 23) (.t 25))⟩,
 m' 6 26]))
 (.ops [m' 19 0,
 m' 20 1,
 m' 21 2,
 ⟨some 22, none, .h (.call (.k (.fn 56 [])) [(.t 19), (.t 20), (.t 21)])⟩,
 m' 0 22]))))))
 (.seq (.ops [m' 27 6,
 m' 6 27])
 .ret))))⟩
theorem c127 : compF Tryz.prog false Tryz.f127 = some a127 := by kernel_rfl
noncomputable def a130 : AF := ⟨9, [.tmp 4],
 (.seq (.ops [⟨some 2, none, .h (.box (.t 0))⟩,
 b' 4 false])
 (.seq (.ops [m' 5 1,
 ⟨some 6, none, .p (.mkfn 145 [(.t 2)])⟩,
 ⟨some 7, none, .h (.call (.k (.fn 49 [])) [(.t 5), (.t 6)])⟩,
 ⟨some 8, none, .p (.un .not (.t 7))⟩,
 m' 4 8])
 .ret))⟩
theorem c130 : compF Tryz.prog false Tryz.f130 = some a130 := by kernel_rfl
noncomputable def a144 : AF := ⟨16, [.tmp 2],
 (.seq (.ops [n' 2 0])
 (.seq (.par [m' 3 0,
 ⟨some 4, none, .p (.nilck (.t 3))⟩,
 f' 5 133 3 4,
 f' 6 1 1 5,
 l' 7 false 1 6,
 ⟨some 8, none, .h (.callq (.k (.fn 40 [])) [(.t 7)])⟩,
 m' 9 0,
 ⟨some 10, none, .p (.nilck (.t 9))⟩,
 f' 11 133 3 10,
 f' 12 0 1 11,
 l' 13 false 1 12,
 ⟨some 14, none, .h (.call (.k (.fn 40 [])) [(.t 13)])⟩,
 o' 15 .sub 8 14,
 m' 2 15])
 .ret))⟩
theorem c144 : compF Tryz.prog false Tryz.f144 = some a144 := by kernel_rfl
noncomputable def a145 : AF := ⟨16, [.tmp 3],
 (.seq (.ops [b' 3 false])
 (.seq (.ops [m' 4 0,
 ⟨some 5, none, .h (.call (.k (.fn 43 [])) [(.t 4)])⟩,
 ⟨some 6, none, .p (.un .not (.t 5))⟩,
 m' 7 6,
 m'g 8 7 false 0,
 f'g 9 7 false 0 133 1,
 f'g 10 7 false 0 128 9,
 ⟨some 11, some (7, false), .p (.ixa 64 2 (.t 10) (.t 8))⟩,
 l'g 12 7 false true 2 11,
 ⟨some 13, some (7, false), .p (.build (.ints 2) [])⟩,
 ⟨some 14, some (7, false), .p (.eqa true 2 (.t 12) (.t 13))⟩,
 po' 15 7 14,
 m' 3 15])
 .ret))⟩
theorem c145 : compF Tryz.prog false Tryz.f145 = some a145 := by kernel_rfl
end Go.Proofs.YtlkighkfkdpncaaGreat
set_option linter.unusedVariables false
namespace Go.Am
open Go
theorem rise_uniq : ∀ {l1 l2 : List Int}, l1.Pairwise (· < ·) → l2.Pairwise (· < ·) → (∀ x, x ∈ l1 ↔ x ∈ l2) → l1 = l2
 | [], [], _, _, _ => rfl
 | [], y :: l2, _, _, h => by have := (h y).2 (.head _); cases this
 | x :: l1, [], _, _, h => by have := (h x).1 (.head _); cases this
 | x :: l1, y :: l2, h1, h2, h => by
  rw [List.pairwise_cons] at h1 h2
  have e : x = y := by
   have hx := (h x).1 (.head _)
   have hy := (h y).2 (.head _)
   rcases List.mem_cons.1 hx with e | hx
   ·exact e
   ·rcases List.mem_cons.1 hy with e | hy
    ·exact e.symm
    ·have := h2.1 x hx; have := h1.1 y hy; omega
  subst e
  refine congrArg (x :: ·) (rise_uniq h1.2 h2.2 fun z => ?_)
  constructor
  ·intro hz
   rcases List.mem_cons.1 ((h z).1 (.tail _ hz)) with e | hz'
   ·subst e; have := h1.1 z hz; omega
   ·exact hz'
  ·intro hz
   rcases List.mem_cons.1 ((h z).2 (.tail _ hz)) with e | hz'
   ·subst e; have := h2.1 z hz; omega
   ·exact hz'
def srtM (l : List Int) : List Int := l.mergeSort fun x y => decide (x ≤ y)
theorem srtM_perm (l : List Int) : (srtM l).Perm l := List.mergeSort_perm _ _
theorem srtM_mem {l : List Int} {x : Int} : x ∈ srtM l ↔ x ∈ l := (srtM_perm l).mem_iff
theorem srtM_le (l : List Int) : (srtM l).Pairwise (· ≤ ·) := by
 have h := List.pairwise_mergeSort (le := fun x y : Int => decide (x ≤ y)) (by intro a b c h1 h2; simp at *; omega) (by intro a b; simp; omega) l
 exact h.imp (fun h => by simpa using h)
theorem lt_of_le_nodup : ∀ {l : List Int}, l.Pairwise (· ≤ ·) → l.Nodup → l.Pairwise (· < ·)
 | [], _, _ => .nil
 | x :: l, h1, h2 => by
  rw [List.pairwise_cons] at h1
  rw [List.nodup_cons] at h2
  rw [List.pairwise_cons]
  refine ⟨fun y hy => ?_, lt_of_le_nodup h1.2 h2.2⟩
  have := h1.1 y hy
  have : x ≠ y := fun e => h2.1 (by rw [e]; exact hy)
  omega
theorem srtM_lt {l : List Int} (h : l.Nodup) : (srtM l).Pairwise (· < ·) := lt_of_le_nodup (srtM_le l) ((srtM_perm l).nodup_iff.2 h)
theorem srtM_is {l r : List Int} (h : l.Nodup) (hr : r.Pairwise (· < ·)) (hm : ∀ x, x ∈ l ↔ x ∈ r) : srtM l = r := rise_uniq (srtM_lt h) hr fun x => srtM_mem.trans (hm x)
theorem rise_uniq3 {α : Type} {r : α → α → Prop} (asy : ∀ x y, r x y → ¬ r y x) : ∀ {l1 l2 : List α}, l1.Pairwise r → l2.Pairwise r → (∀ x, x ∈ l1 ↔ x ∈ l2) → l1 = l2
 | [], [], _, _, _ => rfl
 | [], y :: l2, _, _, h => by have := (h y).2 (.head _); cases this
 | x :: l1, [], _, _, h => by have := (h x).1 (.head _); cases this
 | x :: l1, y :: l2, h1, h2, h => by
  rw [List.pairwise_cons] at h1 h2
  have irr : ∀ x, ¬ r x x := fun x h => asy x x h h
  have e : x = y := by
   have hx := (h x).1 (.head _)
   have hy := (h y).2 (.head _)
   rcases List.mem_cons.1 hx with e | hx
   ·exact e
   ·rcases List.mem_cons.1 hy with e | hy
    ·exact e.symm
    ·exact absurd (h2.1 x hx) (asy _ _ (h1.1 y hy))
  subst e
  refine congrArg (x :: ·) (rise_uniq3 asy h1.2 h2.2 fun z => ?_)
  constructor
  ·intro hz
   rcases List.mem_cons.1 ((h z).1 (.tail _ hz)) with e | hz'
   ·subst e; exact absurd (h1.1 z hz) (irr _)
   ·exact hz'
  ·intro hz
   rcases List.mem_cons.1 ((h z).2 (.tail _ hz)) with e | hz'
   ·subst e; exact absurd (h2.1 z hz) (irr _)
   ·exact hz'
abbrev Mv := Int × Int × Int
def lt3 (a b : Mv) : Prop := a.1 < b.1 ∨ a.1 = b.1 ∧ (a.2.1 < b.2.1 ∨ a.2.1 = b.2.1 ∧ a.2.2 < b.2.2)
instance (a b : Mv) : Decidable (lt3 a b) := by unfold lt3; infer_instance
theorem lt3_asy (x y : Mv) (h : lt3 x y) : ¬ lt3 y x := by unfold lt3 at *; omega
theorem lt3_tr (a b c : Mv) (h1 : (!decide (lt3 b a)) = true) (h2 : (!decide (lt3 c b)) = true) : (!decide (lt3 c a)) = true := by
 simp only [Bool.not_eq_true', decide_eq_false_iff_not] at h1 h2 ⊢
 unfold lt3 at *
 omega
theorem lt3_tot (a b : Mv) : ((!decide (lt3 b a)) || !decide (lt3 a b)) = true := by
 simp only [Bool.or_eq_true, Bool.not_eq_true', decide_eq_false_iff_not]
 unfold lt3
 omega
def srt3 (l : List Mv) : List Mv := l.mergeSort fun x y => !decide (lt3 y x)
theorem srt3_perm (l : List Mv) : (srt3 l).Perm l := List.mergeSort_perm _ _
theorem srt3_le (l : List Mv) : (srt3 l).Pairwise (fun x y => ¬ lt3 y x) := by
 have h := List.pairwise_mergeSort (le := fun x y : Mv => !decide (lt3 y x)) lt3_tr lt3_tot l
 exact h.imp (fun h => by simpa using h)
theorem lt3_of : ∀ {l : List Mv}, l.Pairwise (fun x y => ¬ lt3 y x) → l.Nodup → l.Pairwise lt3
 | [], _, _ => .nil
 | x :: l, h1, h2 => by
  rw [List.pairwise_cons] at h1
  rw [List.nodup_cons] at h2
  rw [List.pairwise_cons]
  refine ⟨fun y hy => ?_, lt3_of h1.2 h2.2⟩
  have h3 := h1.1 y hy
  have hne : x ≠ y := fun e => h2.1 (by rw [e]; exact hy)
  obtain ⟨x1, x2, x3⟩ := x
  obtain ⟨y1, y2, y3⟩ := y
  have : ¬ (x1 = y1 ∧ x2 = y2 ∧ x3 = y3) := fun ⟨a, b, c⟩ => hne (by rw [a, b, c])
  unfold lt3 at *
  simp only at *
  omega
theorem srt3_is {l r : List Mv} (h : l.Nodup) (hr : r.Pairwise lt3) (hm : ∀ x, x ∈ l ↔ x ∈ r) : srt3 l = r :=
 rise_uniq3 lt3_asy (lt3_of (srt3_le l) ((srt3_perm l).nodup_iff.2 h)) hr fun x => (srt3_perm l).mem_iff.trans (hm x)
theorem sorted_uniq {α : Type} {r : α → α → Prop} (anti : ∀ x y, r x y → r y x → x = y) : ∀ {l1 l2 : List α}, l1.Perm l2 → l1.Pairwise r → l2.Pairwise r → l1 = l2
 | [], l2, h, _, _ => (List.Perm.nil_eq h)
 | x :: l1, [], h, _, _ => absurd h.length_eq (by simp)
 | x :: l1, y :: l2, h, h1, h2 => by
  rw [List.pairwise_cons] at h1 h2
  have e : x = y := by
   have hx := h.mem_iff.1 List.mem_cons_self
   have hy := h.mem_iff.2 List.mem_cons_self
   rcases List.mem_cons.1 hx with e | hx
   ·exact e
   ·rcases List.mem_cons.1 hy with e | hy
    ·exact e.symm
    ·exact anti _ _ (h1.1 y hy) (h2.1 x hx)
  subst e
  exact congrArg (x :: ·) (sorted_uniq anti (List.Perm.cons_inv h) h1.2 h2.2)
theorem srt3_uniq {l r : List Mv} (h : r.Perm l) (hs : r.Pairwise (fun x y => ¬ lt3 y x)) : r = srt3 l :=
 sorted_uniq (fun x y h1 h2 => by
  obtain ⟨x1, x2, x3⟩ := x
  obtain ⟨y1, y2, y3⟩ := y
  unfold lt3 at h1 h2
  simp only at h1 h2
  have e1 : x1 = y1 := by omega
  have e2 : x2 = y2 := by omega
  have e3 : x3 = y3 := by omega
  rw [e1, e2, e3]) (h.trans (srt3_perm l).symm) hs (srt3_le l)
def flat3 (l : List Mv) : List Int := l.flatMap fun m => [m.1, m.2.1, m.2.2]
theorem flat3_len : ∀ l : List Mv, (flat3 l).length = l.length * 3
 | [] => rfl
 | m :: l => by
  have := flat3_len l
  unfold flat3 at *
  rw [List.flatMap_cons, List.length_append, this]
  simp only [List.length_cons, List.length_nil]
  omega
end Go.Am
set_option linter.unusedVariables false
namespace Go.Am
open Go
def isI64 : S → Bool
 | .int .i64 _ => true
 | _ => false
def numOf : S → Int
 | .int _ n => n
 | _ => 0
def numsOf (g : Nat → S) (m : Nat) : List Int := (List.range m).map fun i => numOf (g i)
def layS (l : List Int) (g : Nat → S) : Nat → S := fun i => bif Nat.blt i l.length then .int .i64 (l.getD i 0) else g i
def srtPrim : List V → Heap → Option (V × Heap)
 | [.snil], σ => some (.tup [], σ)
 | [.sl b 0 m 1 .whole], σ => match σ[b]? with
  | some (.sc .grow q g) => bif allB m (fun i => isI64 (g i)) && Nat.blt m 4611686018427387904 then some (.tup [], σ.set b (.sc .grow q (layS (srtM (numsOf g m)) g))) else none
  | _ => none
 | _, _ => none
def mvOf (g : Nat → S) (m : Nat) : List Mv := (List.range m).map fun i => (numOf (g (3 * i)), numOf (g (3 * i + 1)), numOf (g (3 * i + 2)))
def srt3Prim (cmp : FuncId) : List V → Heap → Option (V × Heap)
 | [.snil, .fn f []], σ => if f = cmp then some (.tup [], σ) else none
 | [.sl b 0 m 3 .whole, .fn f []], σ => match σ[b]? with
  | some (.sc .grow q g) => bif decide (f = cmp) && (allB (m * 3) (fun i => isI64 (g i)) && Nat.blt m 4611686018427387904) then some (.tup [], σ.set b (.sc .grow q (layS (flat3 (srt3 (mvOf g m))) g))) else none
  | _ => none
 | _, _ => none
def ownS (h : Nat → S) (t : Int) : Bool := !(decide (numOf (h (t.toNat * 2)) = 0) && decide (numOf (h (t.toNat * 2 + 1)) = 0)) && decide (numOf (h (t.toNat * 2 + 1)) = numOf (h 135))
def delPrim (own : FuncId) : List V → Heap → Option (V × Heap)
 | [.snil, .fn f [.ptr c 0 136]], σ => if f = own then (match σ[c]? with
  | some (.sc _ 136 _) => some (.snil, σ)
  | _ => none) else none
 | [.sl b 0 m 1 .whole, .fn f [.ptr c 0 136]], σ => match σ[b]?, σ[c]? with
  | some (.sc .grow q g), some (.sc _ 136 h) => bif decide (f = own) && (decide (b ≠ c) && (allB m (fun i => isI64 (g i) && (decide (0 ≤ numOf (g i)) && decide (numOf (g i) < 64))) && (allB 136 (fun i => isI64 (h i)) && Nat.ble m 4611686018427387904))) then
   some (.sl σ.length 0 ((numsOf g m).filter fun t => !ownS h t).length 1 .whole, kill σ b ++ [.sc .grow ((numsOf g m).filter fun t => !ownS h t).length fun i => .int .i64 (((numsOf g m).filter fun t => !ownS h t).getD i 0)]) else none
  | _, _ => none
 | _, _ => none
def grwPrim : List V → Heap → Option (V × Heap)
 | [.snil, .s (.int .i64 n)], σ => if 0 < n ∧ n ≤ 1000000 then some (.sl σ.length 0 0 2 .whole, σ ++ [.sc .grow 0 fun _ => S.zero]) else none
 | _, _ => none
end Go.Am
namespace Go.Am
open Go
def primL : List (FuncId × (List V → Heap → Option (V × Heap))) := [(131, srtPrim), (93, (srt3Prim 94)), (113, (delPrim 112)), (126, grwPrim)]
def lookP (f : FuncId) : List (FuncId × (List V → Heap → Option (V × Heap))) → Option (List V → Heap → Option (V × Heap))
 | [] => none
 | (g, p) :: l => bif Nat.beq f g then some p else lookP f l
def primF (f : FuncId) : Option (List V → Heap → Option (V × Heap)) := lookP f primL
end Go.Am
namespace Go.Proofs.YtlkighkfkdpncaaGreat
open Go Go.Am
set_option maxRecDepth 100000
noncomputable def fnsL : List (FuncId × AF) := [(3, a3), (4, a4), (5, a5), (6, a6), (7, a7), (13, a13), (15, a15), (16, a16), (18, a18), (19, a19), (20, a20), (21, a21), (22, a22), (23, a23), (24, a24), (26, a26), (32, a32), (33, a33), (34, a34), (35, a35), (36, a36), (37, a37), (38, a38), (39, a39), (40, a40), (41, a41), (42, a42), (43, a43), (49, a49), (51, a51), (52, a52), (53, a53), (54, a54), (55, a55), (56, a56), (57, a57), (58, a58), (66, a66), (67, a67), (68, a68), (69, a69), (70, a70), (71, a71), (72, a72), (73, a73), (74, a74), (75, a75), (76, a76), (90, a90), (91, a91), (92, a92), (95, a95), (96, a96), (97, a97), (98, a98), (99, a99), (100, a100), (101, a101), (102, a102), (103, a103), (110, a110), (111, a111), (114, a114), (115, a115), (121, a121), (122, a122), (123, a123), (124, a124), (125, a125), (127, a127), (130, a130), (144, a144), (145, a145)]
theorem goodL : GoodL Tryz.prog fnsL := ⟨⟨_, _, Tryz.func3, c3⟩, ⟨_, _, Tryz.func4, c4⟩, ⟨_, _, Tryz.func5, c5⟩, ⟨_, _, Tryz.func6, c6⟩, ⟨_, _, Tryz.func7, c7⟩, ⟨_, _, Tryz.func13, c13⟩, ⟨_, _, Tryz.func15, c15⟩, ⟨_, _, Tryz.func16, c16⟩, ⟨_, _, Tryz.func18, c18⟩, ⟨_, _, Tryz.func19, c19⟩, ⟨_, _, Tryz.func20, c20⟩, ⟨_, _, Tryz.func21, c21⟩, ⟨_, _, Tryz.func22, c22⟩, ⟨_, _, Tryz.func23, c23⟩, ⟨_, _, Tryz.func24, c24⟩, ⟨_, _, Tryz.func26, c26⟩, ⟨_, _, Tryz.func32, c32⟩, ⟨_, _, Tryz.func33, c33⟩, ⟨_, _, Tryz.func34, c34⟩, ⟨_, _, Tryz.func35, c35⟩, ⟨_, _, Tryz.func36, c36⟩, ⟨_, _, Tryz.func37, c37⟩, ⟨_, _, Tryz.func38, c38⟩, ⟨_, _, Tryz.func39, c39⟩, ⟨_, _, Tryz.func40, c40⟩, ⟨_, _, Tryz.func41, c41⟩, ⟨_, _, Tryz.func42, c42⟩, ⟨_, _, Tryz.func43, c43⟩, ⟨_, _, Tryz.func49, c49⟩, ⟨_, _, Tryz.func51, c51⟩, ⟨_, _, Tryz.func52, c52⟩, ⟨_, _, Tryz.func53, c53⟩, ⟨_, _, Tryz.func54, c54⟩, ⟨_, _, Tryz.func55, c55⟩, ⟨_, _, Tryz.func56, c56⟩, ⟨_, _, Tryz.func57, c57⟩, ⟨_, _, Tryz.func58, c58⟩, ⟨_, _, Tryz.func66, c66⟩, ⟨_, _, Tryz.func67, c67⟩, ⟨_, _, Tryz.func68, c68⟩, ⟨_, _, Tryz.func69, c69⟩, ⟨_, _, Tryz.func70, c70⟩, ⟨_, _, Tryz.func71, c71⟩, ⟨_, _, Tryz.func72, c72⟩, ⟨_, _, Tryz.func73, c73⟩, ⟨_, _, Tryz.func74, c74⟩, ⟨_, _, Tryz.func75, c75⟩, ⟨_, _, Tryz.func76, c76⟩, ⟨_, _, Tryz.func90, c90⟩, ⟨_, _, Tryz.func91, c91⟩, ⟨_, _, Tryz.func92, c92⟩, ⟨_, _, Tryz.func95, c95⟩, ⟨_, _, Tryz.func96, c96⟩, ⟨_, _, Tryz.func97, c97⟩, ⟨_, _, Tryz.func98, c98⟩, ⟨_, _, Tryz.func99, c99⟩, ⟨_, _, Tryz.func100, c100⟩, ⟨_, _, Tryz.func101, c101⟩, ⟨_, _, Tryz.func102, c102⟩, ⟨_, _, Tryz.func103, c103⟩, ⟨_, _, Tryz.func110, c110⟩, ⟨_, _, Tryz.func111, c111⟩, ⟨_, _, Tryz.func114, c114⟩, ⟨_, _, Tryz.func115, c115⟩, ⟨_, _, Tryz.func121, c121⟩, ⟨_, _, Tryz.func122, c122⟩, ⟨_, _, Tryz.func123, c123⟩, ⟨_, _, Tryz.func124, c124⟩, ⟨_, _, Tryz.func125, c125⟩, ⟨_, _, Tryz.func127, c127⟩, ⟨_, _, Tryz.func130, c130⟩, ⟨_, _, Tryz.func144, c144⟩, ⟨_, _, Tryz.func145, c145⟩, trivial⟩
noncomputable def B20 : BF := ⟨rd20, [6, 7], g20, b20⟩
noncomputable def B25 : BF := ⟨rd25, [23, 24], g25, b25⟩
noncomputable def B33 : BF := ⟨rd33, [22], g33, b33⟩
noncomputable def B68 : BF := ⟨rd68, [6], g68, b68⟩
noncomputable def bodF (k : Nat) : Option BF := bif Nat.beq k 607 then some B20 else bif Nat.beq k 2324 then some B25 else bif Nat.beq k 22 then some B33 else bif Nat.beq k 6 then some B68 else none
noncomputable def AM : AP := { fns := fun f => lookF f fnsL, prims := primF, bods := bodF }
theorem bod20 : B20.rd.ps.toList = B20.ps ∧ compC Tryz.prog false B20.rd.asg = some B20.asg ∧ compC Tryz.prog false B20.rd.body = some B20.body ∧ nodef B20.rd.asg = true ∧ nodef B20.rd.body = true ∧ norf B20.rd.asg = true ∧ norf B20.rd.body = true := ⟨by kernel_rfl, by kernel_rfl, by kernel_rfl, by kernel_rfl, by kernel_rfl, by kernel_rfl, by kernel_rfl⟩
theorem bod25 : B25.rd.ps.toList = B25.ps ∧ compC Tryz.prog false B25.rd.asg = some B25.asg ∧ compC Tryz.prog false B25.rd.body = some B25.body ∧ nodef B25.rd.asg = true ∧ nodef B25.rd.body = true ∧ norf B25.rd.asg = true ∧ norf B25.rd.body = true := ⟨by kernel_rfl, by kernel_rfl, by kernel_rfl, by kernel_rfl, by kernel_rfl, by kernel_rfl, by kernel_rfl⟩
theorem bod33 : B33.rd.ps.toList = B33.ps ∧ compC Tryz.prog false B33.rd.asg = some B33.asg ∧ compC Tryz.prog false B33.rd.body = some B33.body ∧ nodef B33.rd.asg = true ∧ nodef B33.rd.body = true ∧ norf B33.rd.asg = true ∧ norf B33.rd.body = true := ⟨by kernel_rfl, by kernel_rfl, by kernel_rfl, by kernel_rfl, by kernel_rfl, by kernel_rfl, by kernel_rfl⟩
theorem bod68 : B68.rd.ps.toList = B68.ps ∧ compC Tryz.prog false B68.rd.asg = some B68.asg ∧ compC Tryz.prog false B68.rd.body = some B68.body ∧ nodef B68.rd.asg = true ∧ nodef B68.rd.body = true ∧ norf B68.rd.asg = true ∧ norf B68.rd.body = true := ⟨by kernel_rfl, by kernel_rfl, by kernel_rfl, by kernel_rfl, by kernel_rfl, by kernel_rfl, by kernel_rfl⟩
theorem bodsOK : BodsOK Tryz.prog AM := fun k B h => by
 have h : bodF k = some B := h
 unfold bodF at h
 cases h0 : Nat.beq k 607 with
 | true => rw [h0, cond_true] at h; injection h with h; subst h; exact bod20
 | false =>
 rw [h0, cond_false] at h
 cases h0 : Nat.beq k 2324 with
 | true => rw [h0, cond_true] at h; injection h with h; subst h; exact bod25
 | false =>
 rw [h0, cond_false] at h
 cases h0 : Nat.beq k 22 with
 | true => rw [h0, cond_true] at h; injection h with h; subst h; exact bod33
 | false =>
 rw [h0, cond_false] at h
 cases h0 : Nat.beq k 6 with
 | true => rw [h0, cond_true] at h; injection h with h; subst h; exact bod68
 | false =>
 rw [h0, cond_false] at h
 cases h
theorem fnsOK : FnsOK Tryz.prog AM := fun _ _ h => goodL_look goodL h
end Go.Proofs.YtlkighkfkdpncaaGreat
namespace Go.Proofs
open Go.Shelf
def Tryz.lays189_ren : Go.Shelf.Ren := ⟨fun | 189 => 131 | 125 => 117 | 257 => 146 | 128 => 140 | 129 => 141 | 294 => 152 | 295 => 153 | 296 => 154 | 297 => 155 | 298 => 156 | 299 => 157 | 216 => 158 | 300 => 159 | 301 => 160 | 328 => 162 | 329 => 148 | 330 => 149 | 331 => 163 | 332 => 164 | 215 => 142 | 343 => 165 | n => n, fun | 28 => 39 | 3 => 3 | 46 => 63 | 0 => 0 | 51 => 147 | 53 => 149 | 4 => 4 | 183 => 140 | 182 => 139 | 131 => 144 | 5 => 5 | 9 => 9 | 218 => 153 | 222 => 157 | 228 => 165 | 229 => 118 | n => n, fun | n => n⟩
theorem Tryz.lays189 : Go.Proofs.Lays.n189 Tryz.prog Tryz.lays189_ren := {
 mixed := by kernel_rfl
 f125 := Tryz.func117.trans (congrArg some (by kernel_rfl))
 f128 := Tryz.func140.trans (congrArg some (by kernel_rfl))
 f129 := Tryz.func141.trans (congrArg some (by kernel_rfl))
 f189 := Tryz.func131.trans (congrArg some (by kernel_rfl))
 f215 := Tryz.func142.trans (congrArg some (by kernel_rfl))
 f216 := Tryz.func158.trans (congrArg some (by kernel_rfl))
 f257 := Tryz.func146.trans (congrArg some (by kernel_rfl))
 f294 := Tryz.func152.trans (congrArg some (by kernel_rfl))
 f295 := Tryz.func153.trans (congrArg some (by kernel_rfl))
 f296 := Tryz.func154.trans (congrArg some (by kernel_rfl))
 f297 := Tryz.func155.trans (congrArg some (by kernel_rfl))
 f298 := Tryz.func156.trans (congrArg some (by kernel_rfl))
 f299 := Tryz.func157.trans (congrArg some (by kernel_rfl))
 f300 := Tryz.func159.trans (congrArg some (by kernel_rfl))
 f301 := Tryz.func160.trans (congrArg some (by kernel_rfl))
 f328 := Tryz.func162.trans (congrArg some (by kernel_rfl))
 f329 := Tryz.func148.trans (congrArg some (by kernel_rfl))
 f330 := Tryz.func149.trans (congrArg some (by kernel_rfl))
 f331 := Tryz.func163.trans (congrArg some (by kernel_rfl))
 f332 := Tryz.func164.trans (congrArg some (by kernel_rfl))
 f343 := Tryz.func165.trans (congrArg some (by kernel_rfl))
 t0 := Tryz.underlying0
 a0 := Tryz.isAgg0
 z0 := Tryz.sizeOf0
 v0 := Tryz.zeroValue0
 t3 := Tryz.underlying3
 a3 := Tryz.isAgg3
 z3 := Tryz.sizeOf3
 v3 := Tryz.zeroValue3
 t4 := Tryz.underlying4
 a4 := Tryz.isAgg4
 z4 := Tryz.sizeOf4
 v4 := Tryz.zeroValue4
 t5 := Tryz.underlying5
 a5 := Tryz.isAgg5
 z5 := Tryz.sizeOf5
 v5 := Tryz.zeroValue5
 t9 := Tryz.underlying9
 a9 := Tryz.isAgg9
 z9 := Tryz.sizeOf9
 v9 := Tryz.zeroValue9
 t28 := Tryz.underlying39
 a28 := Tryz.isAgg39
 z28 := Tryz.sizeOf39
 v28 := Tryz.zeroValue39
 t46 := Tryz.underlying63
 a46 := Tryz.isAgg63
 z46 := Tryz.sizeOf63
 v46 := Tryz.zeroValue63
 t51 := Tryz.underlying147
 a51 := Tryz.isAgg147
 z51 := Tryz.sizeOf147
 v51 := Tryz.zeroValue147
 t53 := Tryz.underlying149
 a53 := Tryz.isAgg149
 z53 := Tryz.sizeOf149
 v53 := Tryz.zeroValue149
 t131 := Tryz.underlying144
 a131 := Tryz.isAgg144
 z131 := Tryz.sizeOf144
 v131 := Tryz.zeroValue144
 t182 := Tryz.underlying139
 a182 := Tryz.isAgg139
 z182 := Tryz.sizeOf139
 v182 := Tryz.zeroValue139
 t183 := Tryz.underlying140
 a183 := Tryz.isAgg140
 z183 := Tryz.sizeOf140
 v183 := Tryz.zeroValue140
 t218 := Tryz.underlying153
 a218 := Tryz.isAgg153
 z218 := Tryz.sizeOf153
 v218 := Tryz.zeroValue153
 t222 := Tryz.underlying157
 a222 := Tryz.isAgg157
 z222 := Tryz.sizeOf157
 v222 := Tryz.zeroValue157
 t228 := Tryz.underlying165
 a228 := Tryz.isAgg165
 z228 := Tryz.sizeOf165
 v228 := Tryz.zeroValue165
 t229 := Tryz.underlying118
 a229 := Tryz.isAgg118
 z229 := Tryz.sizeOf118
 v229 := Tryz.zeroValue118 }
open Go.Sort Go.RowKit in
theorem Tryz.slices_Sort_int (blk off cap : Nat) (zs : List Int) (w : World) (hH : Holds (Value.int .i64) w blk off zs.toArray) (hblk : blk < w.heap.size) (hsz : zs.length < 4611686018427387904) :
 Calls Tryz.prog 131 #[.slice (some ⟨blk, off, none⟩) zs.length cap] w fun e w' =>
  e = .returned (.tuple #[]) ∧ ∃ n os, w' = grow (putRow (Value.int .i64) (Sort.ahead w n) blk off (zs.mergeSort fun x y => decide (x ≤ y)).toArray) os := Any.slices_Sort_int Tryz.lays189 blk off cap zs w hH hblk hsz
open Go.RowKit Go.Sort in
theorem Tryz.slices_Sort_int_none (p : Option Addr) (cap : Nat) (w : World) :
 Calls Tryz.prog 131 #[.slice p 0 cap] w fun e w' => e = .returned (.tuple #[]) ∧ w' = w := Any.slices_Sort_int_none Tryz.lays189 p cap w
def Tryz.laysSlH6_f66_ren : Go.Shelf.Ren := ⟨fun | 6 => 66 | n => n, fun | 22 => 39 | 23 => 3 | 25 => 64 | 3 => 3 | 0 => 0 | 4 => 4 | n => n, fun | n => n⟩
theorem Tryz.laysSlH6_f66 : Go.Proofs.SlLaysH.n6 Tryz.prog Tryz.laysSlH6_f66_ren := {
 mixed := by kernel_rfl
 f6 := ⟨Tryz.f66.name, by decide, Tryz.func66.trans (congrArg some (by kernel_rfl))⟩
 t0 := Tryz.underlying0
 a0 := Tryz.isAgg0
 z0 := Tryz.sizeOf0
 v0 := Tryz.zeroValue0
 t3 := Tryz.underlying3
 a3 := Tryz.isAgg3
 z3 := Tryz.sizeOf3
 v3 := Tryz.zeroValue3
 t4 := Tryz.underlying4
 a4 := Tryz.isAgg4
 z4 := Tryz.sizeOf4
 v4 := Tryz.zeroValue4
 t22 := Tryz.underlying39
 a22 := Tryz.isAgg39
 z22 := Tryz.sizeOf39
 v22 := Tryz.zeroValue39
 a23 := Tryz.isAgg3
 z23 := Tryz.sizeOf3
 t25 := Tryz.underlying64
 a25 := Tryz.isAgg64
 z25 := Tryz.sizeOf64
 v25 := Tryz.zeroValue64 }
open Go.RowKit Go.Lib in
theorem Tryz.slices_IndexFunc_empty {α : Type} [Inhabited α] (a : Option Addr) (c : Nat) (fv : Value) (w : World) :
 Calls Tryz.prog 66 #[.slice a 0 c, fv] w fun e w' => e = .returned (.int .i64 (-1)) ∧ w' = w := AnyE.slices_IndexFunc_empty Tryz.laysSlH6_f66 a c fv w
def Tryz.laysSlH10_f113_ren : Go.Shelf.Ren := ⟨fun | 10 => 113 | 6 => 66 | n => n, fun | 22 => 39 | 23 => 3 | 25 => 64 | 3 => 3 | 4 => 4 | 0 => 0 | n => n, fun | n => n⟩
theorem Tryz.laysSlH10_f113 : Go.Proofs.SlLaysH.n10 Tryz.prog Tryz.laysSlH10_f113_ren := {
 mixed := by kernel_rfl
 f6 := ⟨Tryz.f66.name, by decide, Tryz.func66.trans (congrArg some (by kernel_rfl))⟩
 f10 := ⟨Tryz.f113.name, by decide, Tryz.func113.trans (congrArg some (by kernel_rfl))⟩
 t0 := Tryz.underlying0
 a0 := Tryz.isAgg0
 z0 := Tryz.sizeOf0
 v0 := Tryz.zeroValue0
 t3 := Tryz.underlying3
 a3 := Tryz.isAgg3
 z3 := Tryz.sizeOf3
 v3 := Tryz.zeroValue3
 t4 := Tryz.underlying4
 a4 := Tryz.isAgg4
 z4 := Tryz.sizeOf4
 v4 := Tryz.zeroValue4
 t22 := Tryz.underlying39
 a22 := Tryz.isAgg39
 z22 := Tryz.sizeOf39
 v22 := Tryz.zeroValue39
 a23 := Tryz.isAgg3
 z23 := Tryz.sizeOf3
 t25 := Tryz.underlying64
 a25 := Tryz.isAgg64
 z25 := Tryz.sizeOf64
 v25 := Tryz.zeroValue64 }
open Go.RowKit Go.Lib Go.Sort in
theorem Tryz.slices_DeleteFunc {α : Type} [Inhabited α] (enc : α → Value) (hO : OneCell enc) (p : α → Bool) (g : Nat) (lb : Array Value) (eg : ∀ args w, (callFunc g args).run Tryz.prog w = .ok (.enter g args) w) (zr : α) (v23 : ∀ w, (zeroValue 3).run Tryz.prog w = .ok (enc zr) w) (blk off cap : Nat) (d : Array α) (w : World) (hp : PredAt Tryz.prog g lb enc p w) (hpo : PredOver Tryz.prog g lb enc p blk off d.size w) (hH : Holds enc w blk off d) (hsz : d.size ≤ 9223372036854775807) (hcap : d.size ≤ cap) :
 Calls Tryz.prog 113 #[.slice (some ⟨blk, off, none⟩) d.size cap, .func (.func g) #[] lb] w fun e w' => e = .returned (.slice (some ⟨blk, off, none⟩) (d.toList.filter fun x => !p x).length cap) ∧ ∃ q, w' = putRow enc (Sort.ahead w q) blk off ((d.toList.filter fun x => !p x) ++ List.replicate (d.size - (d.toList.filter fun x => !p x).length) zr).toArray := AnyE.slices_DeleteFunc Tryz.laysSlH10_f113 enc hO p g lb eg zr v23 blk off cap d w hp hpo hH hsz hcap
def Tryz.laysSF_ren : Go.Shelf.Ren := ⟨fun | 6 => 93 | 15 => 117 | 14 => 116 | 28 => 140 | 29 => 141 | 20 => 132 | 21 => 133 | 22 => 134 | 23 => 135 | 24 => 136 | 25 => 137 | 26 => 138 | 27 => 139 | 46 => 147 | 47 => 148 | 48 => 149 | 49 => 150 | 50 => 151 | 57 => 161 | n => n, fun | 22 => 41 | 24 => 49 | 25 => 106 | 3 => 3 | 39 => 63 | 0 => 0 | 53 => 147 | 55 => 149 | 4 => 4 | 46 => 140 | 45 => 139 | 50 => 144 | 5 => 5 | 9 => 9 | 66 => 153 | 70 => 157 | 76 => 165 | 77 => 118 | n => n, fun | n => n⟩
theorem Tryz.laysSF : Go.Proofs.SlLaysF0.n6 Tryz.prog Tryz.laysSF_ren := {
 mixed := by kernel_rfl
 f6 := ⟨Tryz.f93.name, by decide, Tryz.func93.trans (congrArg some (by kernel_rfl))⟩
 f14 := ⟨Tryz.f116.name, by decide, Tryz.func116.trans (congrArg some (by kernel_rfl))⟩
 f15 := Tryz.func117.trans (congrArg some (by kernel_rfl))
 f20 := ⟨Tryz.f132.name, by decide, Tryz.func132.trans (congrArg some (by kernel_rfl))⟩
 f21 := ⟨Tryz.f133.name, by decide, Tryz.func133.trans (congrArg some (by kernel_rfl))⟩
 f22 := ⟨Tryz.f134.name, by decide, Tryz.func134.trans (congrArg some (by kernel_rfl))⟩
 f23 := ⟨Tryz.f135.name, by decide, Tryz.func135.trans (congrArg some (by kernel_rfl))⟩
 f24 := ⟨Tryz.f136.name, by decide, Tryz.func136.trans (congrArg some (by kernel_rfl))⟩
 f25 := ⟨Tryz.f137.name, by decide, Tryz.func137.trans (congrArg some (by kernel_rfl))⟩
 f26 := ⟨Tryz.f138.name, by decide, Tryz.func138.trans (congrArg some (by kernel_rfl))⟩
 f27 := ⟨Tryz.f139.name, by decide, Tryz.func139.trans (congrArg some (by kernel_rfl))⟩
 f28 := Tryz.func140.trans (congrArg some (by kernel_rfl))
 f29 := Tryz.func141.trans (congrArg some (by kernel_rfl))
 f46 := ⟨Tryz.f147.name, by decide, Tryz.func147.trans (congrArg some (by kernel_rfl))⟩
 f47 := Tryz.func148.trans (congrArg some (by kernel_rfl))
 f48 := Tryz.func149.trans (congrArg some (by kernel_rfl))
 f49 := ⟨Tryz.f150.name, by decide, Tryz.func150.trans (congrArg some (by kernel_rfl))⟩
 f50 := ⟨Tryz.f151.name, by decide, Tryz.func151.trans (congrArg some (by kernel_rfl))⟩
 f57 := ⟨Tryz.f161.name, by decide, Tryz.func161.trans (congrArg some (by kernel_rfl))⟩
 t0 := Tryz.underlying0
 a0 := Tryz.isAgg0
 z0 := Tryz.sizeOf0
 v0 := Tryz.zeroValue0
 t3 := Tryz.underlying3
 a3 := Tryz.isAgg3
 z3 := Tryz.sizeOf3
 v3 := Tryz.zeroValue3
 t4 := Tryz.underlying4
 a4 := Tryz.isAgg4
 z4 := Tryz.sizeOf4
 v4 := Tryz.zeroValue4
 t5 := Tryz.underlying5
 a5 := Tryz.isAgg5
 z5 := Tryz.sizeOf5
 v5 := Tryz.zeroValue5
 t9 := Tryz.underlying9
 a9 := Tryz.isAgg9
 z9 := Tryz.sizeOf9
 v9 := Tryz.zeroValue9
 t22 := Tryz.underlying41
 a22 := Tryz.isAgg41
 z22 := Tryz.sizeOf41
 v22 := Tryz.zeroValue41
 t25 := Tryz.underlying106
 a25 := Tryz.isAgg106
 z25 := Tryz.sizeOf106
 v25 := Tryz.zeroValue106
 t39 := Tryz.underlying63
 a39 := Tryz.isAgg63
 z39 := Tryz.sizeOf63
 v39 := Tryz.zeroValue63
 t45 := Tryz.underlying139
 a45 := Tryz.isAgg139
 z45 := Tryz.sizeOf139
 v45 := Tryz.zeroValue139
 t46 := Tryz.underlying140
 a46 := Tryz.isAgg140
 z46 := Tryz.sizeOf140
 v46 := Tryz.zeroValue140
 t50 := Tryz.underlying144
 a50 := Tryz.isAgg144
 z50 := Tryz.sizeOf144
 v50 := Tryz.zeroValue144
 t53 := Tryz.underlying147
 a53 := Tryz.isAgg147
 z53 := Tryz.sizeOf147
 v53 := Tryz.zeroValue147
 t55 := Tryz.underlying149
 a55 := Tryz.isAgg149
 z55 := Tryz.sizeOf149
 v55 := Tryz.zeroValue149
 t66 := Tryz.underlying153
 a66 := Tryz.isAgg153
 z66 := Tryz.sizeOf153
 v66 := Tryz.zeroValue153
 t70 := Tryz.underlying157
 a70 := Tryz.isAgg157
 z70 := Tryz.sizeOf157
 v70 := Tryz.zeroValue157
 t76 := Tryz.underlying165
 a76 := Tryz.isAgg165
 z76 := Tryz.sizeOf165
 v76 := Tryz.zeroValue165
 t77 := Tryz.underlying118
 a77 := Tryz.isAgg118
 z77 := Tryz.sizeOf118
 v77 := Tryz.zeroValue118 }
def Tryz.laysGrow_ren : Go.Shelf.Ren := ⟨fun | 4 => 126 | n => n, fun | 22 => 116 | 25 => 75 | 3 => 3 | 4 => 4 | 9 => 9 | 20 => 20 | 0 => 0 | n => n, fun | n => n⟩
theorem Tryz.laysGrow : Go.Proofs.Lays8.n4 Tryz.prog Tryz.laysGrow_ren := {
 mixed := by kernel_rfl
 f4 := ⟨Tryz.f126.name, by decide, Tryz.func126.trans (congrArg some (by kernel_rfl))⟩
 t0 := Tryz.underlying0
 a0 := Tryz.isAgg0
 z0 := Tryz.sizeOf0
 v0 := Tryz.zeroValue0
 t3 := Tryz.underlying3
 a3 := Tryz.isAgg3
 z3 := Tryz.sizeOf3
 v3 := Tryz.zeroValue3
 t4 := Tryz.underlying4
 a4 := Tryz.isAgg4
 z4 := Tryz.sizeOf4
 v4 := Tryz.zeroValue4
 t9 := Tryz.underlying9
 a9 := Tryz.isAgg9
 z9 := Tryz.sizeOf9
 v9 := Tryz.zeroValue9
 t20 := Tryz.underlying20
 a20 := Tryz.isAgg20
 z20 := Tryz.sizeOf20
 v20 := Tryz.zeroValue20
 t22 := Tryz.underlying116
 a22 := Tryz.isAgg116
 z22 := Tryz.sizeOf116
 v22 := Tryz.zeroValue116 }
def Tryz.laysCmp_ren : Go.Shelf.Ren := ⟨fun | 5 => 119 | 7 => 142 | n => n, fun | 22 => 3 | 3 => 3 | 4 => 4 | n => n, fun | n => n⟩
theorem Tryz.laysCmp : Go.Proofs.SlLaysC2.n5 Tryz.prog Tryz.laysCmp_ren := {
 mixed := by kernel_rfl
 f5 := ⟨Tryz.f119.name, by decide, Tryz.func119.trans (congrArg some (by kernel_rfl))⟩
 f7 := ⟨Tryz.f142.name, by decide, Tryz.func142.trans (congrArg some (by kernel_rfl))⟩
 t3 := Tryz.underlying3
 a3 := Tryz.isAgg3
 z3 := Tryz.sizeOf3
 v3 := Tryz.zeroValue3
 t4 := Tryz.underlying4
 a4 := Tryz.isAgg4
 z4 := Tryz.sizeOf4
 v4 := Tryz.zeroValue4
 t22 := Tryz.underlying3
 a22 := Tryz.isAgg3
 z22 := Tryz.sizeOf3
 v22 := Tryz.zeroValue3 }
def Tryz.laysCmpK_ren : Go.Shelf.Ren := ⟨fun | 5 => 120 | 7 => 143 | n => n, fun | 22 => 22 | 3 => 3 | 4 => 4 | n => n, fun | n => n⟩
theorem Tryz.laysCmpK : Go.Proofs.SlLaysC2.n5 Tryz.prog Tryz.laysCmpK_ren := {
 mixed := by kernel_rfl
 f5 := ⟨Tryz.f120.name, by decide, Tryz.func120.trans (congrArg some (by kernel_rfl))⟩
 f7 := ⟨Tryz.f143.name, by decide, Tryz.func143.trans (congrArg some (by kernel_rfl))⟩
 t3 := Tryz.underlying3
 a3 := Tryz.isAgg3
 z3 := Tryz.sizeOf3
 v3 := Tryz.zeroValue3
 t4 := Tryz.underlying4
 a4 := Tryz.isAgg4
 z4 := Tryz.sizeOf4
 v4 := Tryz.zeroValue4
 t22 := Tryz.underlying22
 a22 := Tryz.isAgg22
 z22 := Tryz.sizeOf22
 v22 := Tryz.zeroValue22 }
end Go.Proofs
set_option linter.unusedVariables false
namespace Go.Proofs.YtlkighkfkdpncaaGreat
open Go Go.Am Go.RowKit
theorem eff_setG [Bas] {ι : Inj} {σ : Heap} {W W' : World} (hR : RelW ι σ W) {b : Nat} {p : Am.Place} {x x' : Blk} (hp : ι b = some p) (hb : σ[b]? = some x) (hm : x.mut = true)
  (hs : Same W W') (hh : ∀ c, c < W.heap.size → c ≠ p.c → W'.heap[c]? = W.heap[c]?) (hx : BlkR ι W' x' p) : Post ι σ W ι (σ.set b x') W' := by
 have hlt : b < σ.length := by
  rcases Nat.lt_or_ge b σ.length with h | h
  ·exact h
  ·rw [List.getElem?_eq_none h] at hb; simp at hb
 have hmut : ∀ c, mutb (σ.set b x') c → mutb σ c := by
  rintro c ⟨y, hy, hym⟩
  by_cases e : b = c
  ·subst e; exact ⟨x, hb, hm⟩
  ·rw [List.getElem?_set_ne e] at hy; exact ⟨y, hy, hym⟩
 have hlive : ∀ c, liveb (σ.set b x') c → liveb σ c := by
  rintro c ⟨y, hy, hym⟩
  by_cases e : b = c
  ·subst e; exact ⟨x, hb, mut_cases hm⟩
  ·rw [List.getElem?_set_ne e] at hy; exact ⟨y, hy, hym⟩
 refine ⟨hs, .refl ι, ⟨fun c q hq => Nat.lt_of_lt_of_le (hR.lt c q hq) hs.size, fun c q y hq hy => ?_, fun c c' q q' hq hq' hne h1 h2 => hR.sep c c' q q' hq hq' hne (hmut c h1) (hlive c' h2), fun c q hq h => hR.gap c q hq (hmut c h), Nat.le_trans hR.bsz hs.size, fun c hc => (hh c (Nat.lt_of_lt_of_le hc hR.bsz) (by have := hR.gap b p hp ⟨x, hb, hm⟩; omega)).trans (hR.bas c hc)⟩, by simp, fun c hc1 hc => ?_, fun c q hq hn => by simp [hq] at hn, fun c _ h => hmut c h, fun c _ h => hlive c h⟩
 ·by_cases e : b = c
  ·subst e
   rw [hp] at hq
   injection hq with hq
   subst hq
   rw [List.getElem?_set_self hlt] at hy
   injection hy with hy
   subst hy
   exact hx
  ·rw [List.getElem?_set_ne e] at hy
   have hold := hR.blk c q y hq hy
   cases hyl : y.live with
   | true => exact hold.keep (.refl ι) (hh _ (hR.lt c q hq) (fun hc => hR.sep b c p q hp hq e ⟨x, hb, hm⟩ ⟨y, hy, hyl⟩ hc.symm))
   | false => cases y <;> simp [Blk.live] at hyl; trivial
 ·exact hh c hc1 (fun e => hc b p hp ⟨x, hb, hm⟩ e.symm)
theorem row_put {α : Type} [Inhabited α] {ι : Inj} {W : World} {q : Nat} {g : Nat → S} {p : Am.Place} (hB : BlkR ι W (.sc .grow q g) p) (enc : α → Value) (d : Array α) (l : List Int) (hl : d.size = l.length) (hq : l.length ≤ q) (hd : ∀ i, i < l.length → enc d[i]! = .int .i64 (l.getD i 0)) (n : Nat) (os : Array Obj) (hlt : p.c < W.heap.size) :
  BlkR ι (Sort.grow (Sort.putRow enc (Sort.ahead W n) p.c p.base d) os) (.sc .grow q (layS l g)) p ∧ (∀ c, c < W.heap.size → c ≠ p.c → (Sort.grow (Sort.putRow enc (Sort.ahead W n) p.c p.base d) os).heap[c]? = W.heap[c]?) := by
 obtain ⟨h1, h2, h3⟩ := hB
 obtain ⟨hb0, hle, cs, T, hc, hs, hT⟩ := h3 rfl
 have hH : (Sort.putRow enc (Sort.ahead W n) p.c p.base d).heap = W.heap.modify p.c (Sort.onCells (Sort.putCells enc p.base d)) := rfl
 have hsz : (Sort.putRow enc (Sort.ahead W n) p.c p.base d).heap.size = W.heap.size := by rw [hH]; simp
 have hg : (Sort.grow (Sort.putRow enc (Sort.ahead W n) p.c p.base d) os).heap[p.c]? = some (.cells (Sort.putCells enc p.base d cs) T (0, 0)) := by
  rw [Sort.heap_grow_old _ _ (by rw [hsz]; exact hlt), hH, Array.getElem?_modify, if_pos rfl, hc]; rfl
 have hcell : ∀ i, (Sort.grow (Sort.putRow enc (Sort.ahead W n) p.c p.base d) os).cell? ⟨p.c, p.base + i, none⟩ = (Sort.putCells enc p.base d cs)[p.base + i]? := fun i => Lib.cell_of_heap hg _
 refine ⟨⟨h1, fun i hi => ?_, fun _ => ⟨hb0, hle, _, T, hg, ?_, hT⟩⟩, fun c hc1 hc2 => ?_⟩
 ·rw [hcell]
  have h0 := h2 i hi
  rw [Lib.cell_of_heap hc] at h0
  unfold Sort.putCells layS
  rw [Array.getElem?_mapIdx, h0, Option.map_some]
  by_cases hil : i < l.length
  ·rw [if_pos (by omega), show Nat.blt i l.length = true from Nat.ble_eq_true_of_le hil, cond_true, Nat.add_sub_cancel_left, hd i hil]; rfl
  ·have hbf : Nat.blt i l.length = false := by
    cases h : Nat.blt i l.length with
    | false => rfl
    | true => exact absurd (Nat.le_of_ble_eq_true h) (by omega)
   rw [if_neg (by omega), hbf, cond_false]
 ·unfold Sort.putCells
  rw [Array.size_mapIdx]; exact hs
 ·rw [Sort.heap_grow_old _ _ (by rw [hsz]; exact hc1), hH, Array.getElem?_modify, if_neg (fun e => hc2 e.symm)]
theorem isI64_val {x : S} (h : isI64 x = true) : x.val = .int .i64 (numOf x) := by
 cases x with
 | int k n => cases k <;> first | rfl | cases h
 | _ => cases h
theorem allB_get {p : Nat → Bool} : ∀ {n : Nat}, allB n p = true → ∀ i, i < n → p i = true
 | n + 1, h, i, hi => by
  have h : (allB n p && p n) = true := h
  rw [Bool.and_eq_true] at h
  by_cases e : i = n
  ·subst e; exact h.2
  ·exact allB_get h.1 i (by omega)
theorem numsOf_len (g : Nat → S) (m : Nat) : (numsOf g m).length = m := by simp [numsOf]
theorem numsOf_get (g : Nat → S) {m i : Nat} (hi : i < m) : (numsOf g m).getD i 0 = numOf (g i) := by
 unfold numsOf
 rw [List.getD_eq_getElem?_getD, List.getElem?_map, List.getElem?_range hi]; rfl
theorem arr_get (l : List Int) {i : Nat} (hi : i < l.length) : l.toArray[i]! = l.getD i 0 := by
 rw [List.getD_eq_getElem?_getD, List.getElem?_eq_getElem hi, getElem!_pos l.toArray i (by simpa using hi)]; simp
theorem row_holds {ι : Inj} {W : World} {q m : Nat} {g : Nat → S} {p : Am.Place} (hB : BlkR ι W (.sc .grow q g) p) (hm : m ≤ q) (hg : ∀ i, i < m → isI64 (g i) = true) : Sort.Holds (Value.int .i64) W p.c p.base (numsOf g m).toArray := by
 obtain ⟨h1, h2, h3⟩ := hB
 obtain ⟨hb0, hle, cs, T, hc, hs, hT⟩ := h3 rfl
 intro j hj
 have hj : j < m := by simpa [numsOf] using hj
 refine ⟨?_, Lib.frozen_of_heap hc _⟩
 rw [h2 j (by omega), isI64_val (hg j hj), arr_get _ (by rw [numsOf_len]; exact hj), numsOf_get g hj]
section
variable {σ σ' : Heap} {args : List V} {v : V} {ι : Inj} {W : World} {av : List Value}
theorem srt_ok [Bas] (h : srtPrim args σ = some (v, σ')) (hR : RelW ι σ W) (hD : Dom ι σ) (hv : VRL ι args av) :
  Calls Tryz.prog 131 av.toArray W fun e W' => ∃ ι' v', e = .returned v' ∧ VR ι' v v' ∧ Post ι σ W ι' σ' W' := by
 unfold srtPrim at h
 split at h
 ·injection h with h
  injection h with h1 h2
  subst h1; subst h2
  simp only [VRL, VR] at hv
  obtain ⟨_, _, rfl, rfl, rfl⟩ := hv
  refine (Tryz.slices_Sort_int_none none 0 W).mono ?_
  rintro e W' ⟨rfl, rfl⟩
  exact ⟨ι, _, rfl, ⟨[], rfl, rfl⟩, (QPost.refl hR).post⟩
 ·rename_i b m
  split at h
  ·rename_i q g hb
   cases hc : (allB m (fun i => isI64 (g i)) && Nat.blt m 4611686018427387904) with
   | false => rw [hc] at h; cases h
   | true =>
    rw [hc, cond_true] at h
    rw [Bool.and_eq_true] at hc
    injection h with h
    injection h with h1 h2
    subst h1; subst h2
    simp only [VRL, VR] at hv
    obtain ⟨_, _, rfl, ⟨p, c, hp, hle, rfl, hcap⟩, rfl⟩ := hv
    have hB := hR.blk b p _ hp hb
    have hlt := hR.lt b p hp
    have hmq : m ≤ q := by have := hB.1; omega
    have hm : m < 4611686018427387904 := Nat.le_of_ble_eq_true hc.2
    have hcon := Tryz.slices_Sort_int p.c p.base c (numsOf g m) W (row_holds hB hmq (allB_get hc.1)) hlt (by rw [numsOf_len]; exact hm)
    rw [numsOf_len] at hcon
    refine hcon.mono ?_
    rintro e W' ⟨rfl, n, os, rfl⟩
    have hsl : (srtM (numsOf g m)).length = m := by rw [(srtM_perm _).length_eq, numsOf_len]
    obtain ⟨r1, r2⟩ := row_put hB (Value.int .i64) (srtM (numsOf g m)).toArray (srtM (numsOf g m)) (by simp) (by omega) (fun i hi => congrArg (Value.int .i64) (arr_get _ hi)) n os hlt
    refine ⟨ι, _, rfl, ⟨[], rfl, rfl⟩, eff_setG hR hp hb rfl ⟨rfl, rfl, rfl, ?_⟩ r2 r1⟩
    simp [Sort.grow, Sort.putRow, Sort.mapBlock, Sort.ahead]
  ·cases h
 ·cases h
end
end Go.Proofs.YtlkighkfkdpncaaGreat
set_option linter.unusedVariables false
set_option linter.unusedSimpArgs false
namespace Go.Proofs.YtlkighkfkdpncaaGreat
open Go Go.Am Go.RowKit Go.Sort Go.Lib
set_option maxHeartbeats 4000000 in
theorem own_gives (H : Nat → Int) (t : Int) (ht : 0 ≤ t ∧ t < 64) (B o : Nat) (W : World) (hc : ∀ i, i < 136 → W.cell? ⟨B, o + i, none⟩ = some (.int .i64 (H i))) :
  FnGives Tryz.prog 112 #[.pointer (some ⟨B, o, none⟩)] #[.int .i64 t] (.bool (ownS (ia H) t)) W := by
 show Calls Tryz.prog 112 #[.int .i64 t, .pointer (some ⟨B, o, none⟩)] W _
 have h1 := hc (t.toNat * 2) (by omega)
 have h2 := hc (t.toNat * 2 + 1) (by omega)
 have h3 := hc 135 (by omega)
 have hr : ownS (ia H) t = (!(decide (H (t.toNat * 2) = 0) && decide (H (t.toNat * 2 + 1) = 0)) && decide (H (t.toNat * 2 + 1) = H 135)) := rfl
 rw [hr]
 clear hr hc
 obtain ⟨h0, h64⟩ := ht
 generalize H (t.toNat * 2) = a at *
 generalize H (t.toNat * 2 + 1) = b at *
 generalize H 135 = c at *
 have g2 : W.cell? ⟨B, o + t.toNat * 2 + 1, none⟩ = some (.int .i64 b) := h2
 have g3 : W.cell? ⟨B, o + 134 + 1, none⟩ = some (.int .i64 c) := h3
 by_cases e1 : a = 0 <;> by_cases e2 : b = 0 <;> by_cases e3 : b = c
 all_goals
  go_enter Tryz.func112, Tryz.ntmps112
  go_wp2
  go_quiet ((fail))
  go_wp2
  all_goals (go_ret; exact ⟨(by simp [*] <;> first | omega | (rw [Bool.eq_iff_iff]; simp <;> omega)), _, rfl⟩)
def enc64 (x : Fin 64) : Value := .int .i64 (x.val : Int)
theorem list64 : ∀ {l : List Int}, (∀ t ∈ l, 0 ≤ t ∧ t < 64) → ∃ d : List (Fin 64), d.map (fun x => (x.val : Int)) = l
 | [], _ => ⟨[], rfl⟩
 | t :: l, h => by
  obtain ⟨d, hd⟩ := list64 fun u hu => h u (.tail _ hu)
  have := h t (.head _)
  exact ⟨⟨t.toNat, by omega⟩ :: d, by rw [List.map_cons, hd]; simp; omega⟩
theorem filter64 {p : Int → Bool} (d : List (Fin 64)) : (d.map (fun x => (x.val : Int))).filter p = (d.filter fun x => p (x.val : Int)).map fun x => (x.val : Int) := by
 rw [List.filter_map]; rfl
theorem arr64 (D : List (Fin 64)) {i : Nat} (hi : i < D.length) : enc64 D.toArray[i]! = .int .i64 ((D.map fun x => (x.val : Int)).getD i 0) := by
 rw [List.getD_eq_getElem?_getD, List.getElem?_map, List.getElem?_eq_getElem hi, getElem!_pos D.toArray i (by simpa using hi)]
 simp [enc64]
theorem grow_none (w : World) : Sort.grow w #[] = w := by
 cases w; simp [Sort.grow]
theorem del_none (fv : Value) (W : World) : Calls Tryz.prog 113 #[.slice none 0 0, fv] W fun e w' => e = .returned (.slice none 0 0) ∧ w' = W := by
 go_enter Tryz.func113, Tryz.ntmps113
 go_wp2_with (go_at_call 66; refine (Tryz.slices_IndexFunc_empty (α := Int) none 0 fv W).mono ?_; rintro e w' ⟨rfl, rfl⟩)
 go_ret
 exact ⟨rfl, rfl⟩
section
variable {σ σ' : Heap} {args : List V} {v : V} {ι : Inj} {W : World} {av : List Value}
theorem del_ok [Bas] (h : delPrim 112 args σ = some (v, σ')) (hR : RelW ι σ W) (hD : Dom ι σ) (hv : VRL ι args av) :
  Calls Tryz.prog 113 av.toArray W fun e W' => ∃ ι' v', e = .returned v' ∧ VR ι' v v' ∧ Post ι σ W ι' σ' W' := by
 have eg : ∀ args w, (callFunc 112 args).run Tryz.prog w = .ok (.enter 112 args) w := enters_of Tryz.func112 (by kernel_rfl) rfl
 unfold delPrim at h
 split at h
 ·rename_i f c
  split at h
  ·rename_i hf
   subst hf
   split at h
   ·rename_i md hcell hc
    injection h with h
    injection h with h1 h2
    subst h1; subst h2
    simp only [VRL, VR] at hv
    obtain ⟨_, _, rfl, rfl, _, _, rfl, ⟨cs, rfl, _⟩, rfl⟩ := hv
    refine (del_none _ W).mono ?_
    rintro e W' ⟨rfl, rfl⟩
    exact ⟨ι, _, rfl, rfl, (QPost.refl hR).post⟩
   ·cases h
  ·cases h
 ·rename_i b m f c
  split at h
  ·rename_i q g md hh hb hc
   cases hcond : (decide (f = 112) && (decide (b ≠ c) && (allB m (fun i => isI64 (g i) && (decide (0 ≤ numOf (g i)) && decide (numOf (g i) < 64))) && (allB 136 (fun i => isI64 (hh i)) && Nat.ble m 4611686018427387904)))) with
   | false => rw [hcond] at h; cases h
   | true =>
    rw [hcond, cond_true] at h
    injection h with h
    injection h with h1 h2
    subst h1; subst h2
    simp only [Bool.and_eq_true, decide_eq_true_eq] at hcond
    obtain ⟨rfl, hne, hg, hh64, hm⟩ := hcond
    have hm := Nat.le_of_ble_eq_true hm
    have hg1 : ∀ i, i < m → isI64 (g i) = true ∧ 0 ≤ numOf (g i) ∧ numOf (g i) < 64 := fun i hi => by
     have := allB_get hg i hi
     simpa only [Bool.and_eq_true, decide_eq_true_eq] using this
    simp only [VRL, VR] at hv
    obtain ⟨_, _, rfl, ⟨p, cap, hp, hle, rfl, hcap⟩, _, _, rfl, ⟨cs, rfl, _, _, rfl, ⟨pc, hpc, hle2, rfl⟩, rfl⟩, rfl⟩ := hv
    obtain ⟨_, hb0, hcp, hmc, hsz, hmn⟩ := hcap
    have hB := hR.blk b p _ hp hb
    have hC := hR.blk c pc _ hpc hc
    have hlt := hR.lt b p hp
    have hltc := hR.lt c pc hpc
    have hpne : p.c ≠ pc.c := hR.sep b c p pc hp hpc hne ⟨_, hb, rfl⟩ ⟨_, hc, rfl⟩
    have hq : q = m := by have := hB.1; omega
    obtain ⟨d, hd⟩ := list64 (l := numsOf g m) (fun t ht => by
     unfold numsOf at ht
     obtain ⟨i, hi, rfl⟩ := List.mem_map.1 ht
     exact (hg1 i (List.mem_range.1 hi)).2)
    have hdl : d.length = m := by rw [← numsOf_len g m, ← hd, List.length_map]
    have hcell : ∀ i, i < 136 → W.cell? ⟨pc.c, pc.base + 0 + i, none⟩ = some (.int .i64 (numOf (hh i))) := fun i hi => by
     rw [Nat.add_zero, hC.2.1 i hi, isI64_val (allB_get hh64 i hi)]
    have hH : Sort.Holds enc64 W p.c (p.base + 0) d.toArray := fun j hj => by
     have hj : j < m := by simpa [hdl] using hj
     have h0 := row_holds (m := m) hB (by omega) (fun i hi => (hg1 i hi).1) j (by simpa [numsOf] using hj)
     refine ⟨?_, h0.2⟩
     rw [Nat.add_zero, h0.1, arr_get _ (by rw [numsOf_len]; exact hj)]
     have e : (numsOf g m).getD j 0 = ((d.toArray[j]!).val : Int) := by
      rw [← hd, List.getD_eq_getElem?_getD, List.getElem?_map, List.getElem?_eq_getElem (by omega), getElem!_pos d.toArray j (by simpa [hdl] using hj)]; simp
     rw [e]; rfl
    have hcon := Tryz.slices_DeleteFunc enc64 (fun _ => rfl) (fun x => ownS hh (x.val : Int)) 112 #[.pointer (some ⟨pc.c, pc.base + 0, none⟩)] eg 0 Tryz.zeroValue3 p.c (p.base + 0) cap d.toArray W
     (fun W' x hb' => own_gives (fun i => numOf (hh i)) (x.val : Int) (by omega) pc.c (pc.base + 0) W' (fun i hi => (hb'.cell (p := ⟨pc.c, pc.base + 0 + i, none⟩) hltc).trans (hcell i hi)))
     (fun n os dk x _ => own_gives (fun i => numOf (hh i)) (x.val : Int) (by omega) pc.c (pc.base + 0) _ (fun i hi => by
      unfold sortWorld
      rw [cell?_grow _ _ _ (by show pc.c < (putRow _ _ _ _ _).heap.size; rw [size_putRow]; exact hltc), cell?_putRow_other _ _ p.c (p.base + 0) _ _ (Or.inl (fun e => hpne e.symm))]
      exact hcell i hi)) hH (by simp [hdl]; omega) (by simp [hdl]; omega)
    rw [show d.toArray.size = m by simp [hdl]] at hcon
    rw [show d.toArray.toList = d from rfl] at hcon
    have hL : (d.filter fun x => !ownS hh (x.val : Int)).map (fun x => (x.val : Int)) = (numsOf g m).filter fun t => !ownS hh t := by
     rw [← hd, filter64 (p := fun t => !ownS hh t)]
    have hDm : (d.filter fun x => !ownS hh (x.val : Int)).length ≤ m := by rw [← hdl]; exact List.length_filter_le _ _
    generalize (d.filter fun x => !ownS hh (x.val : Int)) = D at hcon hL hDm
    generalize ((numsOf g m).filter fun t => !ownS hh t) = l at hL ⊢
    refine hcon.mono ?_
    rintro e W' ⟨rfl, n, rfl⟩
    have hlen : l.length = D.length := by rw [← hL, List.length_map]
    have hfull : (D ++ List.replicate (m - D.length) (0 : Fin 64)).map (fun x => (x.val : Int)) = l ++ List.replicate (m - D.length) 0 := by
     rw [List.map_append, hL, List.map_replicate]; rfl
    have hrp := row_put hB enc64 (D ++ List.replicate (m - D.length) (0 : Fin 64)).toArray (l ++ List.replicate (m - D.length) 0) (by simp [hlen]) (by simp [hlen]; omega)
     (fun i hi => by rw [← hfull]; exact arr64 _ (by rw [← hfull, List.length_map] at hi; exact hi)) n #[] hlt
    rw [grow_none] at hrp
    obtain ⟨⟨r1, r2, r3⟩, r4⟩ := hrp
    have hlt' : p.c < (putRow enc64 (Sort.ahead W n) p.c p.base (D ++ List.replicate (m - D.length) (0 : Fin 64)).toArray).heap.size := by rw [size_putRow]; exact hlt
    refine ⟨ι.put σ.length ⟨p.c, p.base, l.length, p.cap, p.sz⟩, _, rfl, ⟨⟨p.c, p.base, l.length, p.cap, p.sz⟩, cap, Inj.put_same _ _ _, by simp, by rw [hlen], rfl, hb0, hcp, by omega, hsz, by simp⟩, ?_⟩
    change Post _ _ _ _ _ (putRow enc64 (Sort.ahead W n) p.c p.base (D ++ List.replicate (m - D.length) (0 : Fin 64)).toArray)
    refine eff_new hR hD hp hb rfl ⟨rfl, rfl, rfl, by rw [size_putRow]; exact Nat.le_refl _⟩ r4 (.inl rfl) hlt' ⟨rfl, fun i hi => ?_, fun _ => ?_⟩
    ·have h0 := r2 i (by omega)
     rw [h0]
     have hi' : i < l.length := hi
     unfold layS
     rw [show Nat.blt i (l ++ List.replicate (m - D.length) (0 : Int)).length = true from Nat.ble_eq_true_of_le (by simp; omega), cond_true, List.getD_eq_getElem?_getD, List.getElem?_append_left hi', ← List.getD_eq_getElem?_getD]
    ·obtain ⟨x1, x2, x3⟩ := r3 rfl
     exact ⟨x1, by show l.length ≤ p.sz; omega, x3⟩
  ·cases h
 ·cases h
end
end Go.Proofs.YtlkighkfkdpncaaGreat
set_option linter.unusedVariables false
namespace Go.Proofs.YtlkighkfkdpncaaGreat
open Go Go.Am Go.RowKit Go.Sort Go.Lib
section
variable {σ σ' : Heap} {args : List V} {v : V} {ι : Inj} {W : World} {av : List Value}
theorem grw_ok [Bas] (h : grwPrim args σ = some (v, σ')) (hR : RelW ι σ W) (hD : Dom ι σ) (hv : VRL ι args av) :
  Calls Tryz.prog 126 av.toArray W fun e W' => ∃ ι' v', e = .returned v' ∧ VR ι' v v' ∧ Post ι σ W ι' σ' W' := by
 unfold grwPrim at h
 split at h
 ·rename_i n
  split at h
  ·rename_i hn
   injection h with h
   injection h with h1 h2
   subst h1; subst h2
   simp only [VRL, VR, S.val] at hv
   obtain ⟨_, _, rfl, rfl, _, _, rfl, rfl, rfl⟩ := hv
   obtain ⟨m, rfl⟩ : ∃ m : Nat, n = m := ⟨n.toNat, by omega⟩
   have h169 : (Tryz.laysGrow_ren).t 25 = 75 := rfl
   obtain ⟨i, zv, hi, hisz, hiby, hizero, hzv⟩ := info_of (P := Tryz.prog) (e := 75) (n := 2) (bytes := 16) (z := .ints 2) (by kernel_rfl) (by kernel_rfl) (by kernel_rfl)
   have hzc : zv.cells.size = 2 := by rw [← zeroZ_size hzv]; rfl
   have hcon := Any8.slices_Grow_grow Tryz.laysGrow i zv hi hizero (by omega) none 0 0 m [] W (Nat.le_refl _) (by omega) (by rw [hiby]; omega) (by omega) (by simp) (fun _ => rfl) (fun a e => by cases e)
   refine Calls.mono hcon ?_
   rintro e W' ⟨rfl, rfl⟩
   have hge := grownCap_ge W (0 + m) 0 75
   refine ⟨ι.put σ.length ⟨W.heap.size, 0, 0, grownCap W (0 + m) 0 75, grownCap W (0 + m) 0 75 * 2⟩, _, rfl, ⟨⟨W.heap.size, 0, 0, grownCap W (0 + m) 0 75, grownCap W (0 + m) 0 75 * 2⟩, _, Inj.put_same _ _ _, by simp, rfl, rfl, rfl, rfl, by omega, rfl, by simp⟩, ?_⟩
   refine grow_q hR hD _ _ _ _ rfl (fun W' hw => ⟨rfl, fun i hi => absurd hi (by simp), fun _ => ⟨rfl, Nat.zero_le _, _, _, hw, ?_, trivial⟩⟩)
   have hge' : m ≤ grownCap W m 0 75 := by simpa using hge
   simp [size_zeroCells, hzc, h169]
   omega
  ·cases h
 ·cases h
end
end Go.Proofs.YtlkighkfkdpncaaGreat
namespace Go.Proofs.YtlkighkfkdpncaaGreat
open Go Go.Am Go.RowKit Go.Sort Go.Lib
def or3M (a b c : Int) : Int := if a ≠ 0 then a else if b ≠ 0 then b else c
set_option maxHeartbeats 4000000 in
theorem or3 (a b c : Int) (B : Nat) (W : World) (h0 : W.cell? ⟨B, 0, none⟩ = some (.int .i64 a)) (h1 : W.cell? ⟨B, 0 + 1, none⟩ = some (.int .i64 b)) (h2 : W.cell? ⟨B, 0 + 2, none⟩ = some (.int .i64 c)) :
  Calls Tryz.prog 118 #[.slice (some ⟨B, 0, none⟩) 3 3] W fun e w' => e = .returned (.int .i64 (or3M a b c)) ∧ w' = W := by
 unfold or3M
 go_enter Tryz.func118, Tryz.ntmps118
 go_wp2
 go_loop [8] (fun i => ∃ k : Nat, k ≤ 3 ∧ i = .int .i64 k ∧ (0 < k → a = 0) ∧ (1 < k → b = 0) ∧ (2 < k → c = 0)) (fun i => 3 - (intOf i).toNat)
 case atStart => exact ⟨0, by omega, rfl, by omega, by omega, by omega⟩
 case round =>
  obtain ⟨k, hk, rfl, k0, k1, k2⟩ := hrel
  obtain rfl | rfl | rfl | rfl : k = 0 ∨ k = 1 ∨ k = 2 ∨ k = 3 := by omega
  ·by_cases e : a = 0
   ·go_wp2
    all_goals exact ⟨⟨1, by omega, rfl, fun _ => e, by omega, by omega⟩, by simp [intOf]⟩
   ·go_wp2
    all_goals (go_ret; exact ⟨by simp [*], rfl⟩)
  ·have k0 := k0 (by omega)
   subst k0
   by_cases e : b = 0
   ·go_wp2
    all_goals exact ⟨⟨2, by omega, rfl, by simp, fun _ => e, by omega⟩, by simp [intOf]⟩
   ·go_wp2
    all_goals (go_ret; exact ⟨by simp [*], rfl⟩)
  ·have k0 := k0 (by omega)
   have k1 := k1 (by omega)
   subst k0; subst k1
   by_cases e : c = 0
   ·go_wp2
    all_goals exact ⟨⟨3, by omega, rfl, by simp, by simp, fun _ => e⟩, by simp [intOf]⟩
   ·go_wp2
    all_goals (go_ret; exact ⟨by simp [*], rfl⟩)
  ·have k0 := k0 (by omega)
   have k1 := k1 (by omega)
   have k2 := k2 (by omega)
   subst k0; subst k1; subst k2
   go_wp2
   all_goals (go_ret; exact ⟨rfl, rfl⟩)
end Go.Proofs.YtlkighkfkdpncaaGreat
namespace Go.Proofs.YtlkighkfkdpncaaGreat
open Go Go.Am Go.RowKit Go.Sort Go.Lib
theorem still_tail_at {P : Program} {id : Nat} {Q : Exit → Act → World → Prop} {a : Act} {w W3 : World} {l : List Oper} (n : Nat) (hm : P.follows .mixedOrders = true) (hB : Region.lexTailB .any l.toArray n = true) (hw : W3 = w.drew)
  (h : wpStill P l.toArray W3 (fun a' => wpList P l.toArray Q (l.drop n) a' W3) (l.take n) a) : (Code.region id l.toArray true).wp P Q a w := by
 subst hw
 exact wp_region_still_tail n hm hB h
def enc3 (m : Mv) : List Value := [.int .i64 m.1, .int .i64 m.2.1, .int .i64 m.2.2]
def cmp3 (x y : Mv) : Int := or3M (Lib.compareInt x.1 y.1) (Lib.compareInt x.2.1 y.2.1) (Lib.compareInt x.2.2 y.2.2)
set_option maxRecDepth 100000 in
set_option maxHeartbeats 1000000 in
theorem cmp_gives (x y : Mv) (W : World) : Calls Tryz.prog 94 #[.agg (enc3 x).toArray, .agg (enc3 y).toArray] W fun e w' => e = .returned (.int .i64 (cmp3 x y)) ∧ ∃ q os', w' = grow (W.drewN q) os' := by
 obtain ⟨a, b, c⟩ := x
 obtain ⟨a', b', c'⟩ := y
 have hc := fun (x y : Int) (W' : World) => AnyG.cmp_Compare_int Tryz.laysCmp x y W'
 have hk := fun (x y : Int) (W' : World) => AnyG.cmp_Compare_int Tryz.laysCmpK x y W'
 change ∀ x y W', Calls Tryz.prog 119 _ _ _ at hc
 change ∀ x y W', Calls Tryz.prog 120 _ _ _ at hk
 show Calls _ _ #[.agg #[.int .i64 a, .int .i64 b, .int .i64 c], .agg #[.int .i64 a', .int .i64 b', .int .i64 c']] _ _
 unfold cmp3
 go_enter Tryz.func94, Tryz.ntmps94
 go_wp2
 obtain ⟨W3, hW3⟩ : ∃ W3, W3 = ((W.alloc (Obj.cells #[Value.int IntKind.i64 a, Value.int IntKind.i64 b, Value.int IntKind.i64 c] 49)).alloc (Obj.cells #[Value.int IntKind.i64 a', Value.int IntKind.i64 b', Value.int IntKind.i64 c'] 49)).drew := ⟨_, rfl⟩
 have c0 : W3.cell? ⟨W.heap.size, 0, none⟩ = some (.int .i64 a) := by subst hW3; simp
 have c1 : W3.cell? ⟨W.heap.size, 1, none⟩ = some (.int .i64 b) := by subst hW3; simp
 have c2 : W3.cell? ⟨W.heap.size, 2, none⟩ = some (.int .i64 c) := by subst hW3; simp
 have d0 : W3.cell? ⟨W.heap.size + 1, 0, none⟩ = some (.int .i64 a') := by subst hW3; simp
 have d1 : W3.cell? ⟨W.heap.size + 1, 1, none⟩ = some (.int .i64 b') := by subst hW3; simp
 have d2 : W3.cell? ⟨W.heap.size + 1, 2, none⟩ = some (.int .i64 c') := by subst hW3; simp
 refine still_tail_at 15 (by kernel_rfl) (by kernel_rfl) hW3 ?_
 simp only [List.take_succ_cons, List.take_zero, List.drop_succ_cons, List.drop_zero]
 repeat still_step
 still_call (hc _ _ _)
 repeat still_step
 still_call (hc _ _ _)
 repeat still_step
 still_call (hk _ _ _)
 repeat still_step
 refine wpStill_nil ?_
 clear hc hk c0 c1 c2 d0 d1 d2
 have hsz : W3.heap.size = W.heap.size + 2 := by subst hW3; simp
 have HW : Hid (W3 = ((W.alloc (Obj.cells #[Value.int IntKind.i64 a, Value.int IntKind.i64 b, Value.int IntKind.i64 c] 49)).alloc (Obj.cells #[Value.int IntKind.i64 a', Value.int IntKind.i64 b', Value.int IntKind.i64 c'] 49)).drew) := hW3
 clear hW3 hsz
 generalize hp : Lib.compareInt a a' = p
 generalize hq : Lib.compareInt b b' = q
 generalize hr : Lib.compareInt c c' = r
 go_wp2_with (go_at_call 118; refine (or3 p q r W3.heap.size (W3.alloc (Obj.cells #[Value.int IntKind.i64 p, Value.int IntKind.i64 q, Value.int IntKind.i64 r] 3)) (by simp) (by simp) (by simp)).mono ?_; rintro e w' ⟨rfl, rfl⟩)
 go_ret
 subst hp; subst hq; subst hr
 refine ⟨rfl, 1, #[Obj.cells #[Value.int IntKind.i64 a, Value.int IntKind.i64 b, Value.int IntKind.i64 c] 49, Obj.cells #[Value.int IntKind.i64 a', Value.int IntKind.i64 b', Value.int IntKind.i64 c'] 49, Obj.cells #[Value.int IntKind.i64 (Lib.compareInt a a'), Value.int IntKind.i64 (Lib.compareInt b b'), Value.int IntKind.i64 (Lib.compareInt c c')] 3], ?_⟩
 rw [HW.out, alloc_eq_grow, alloc_eq_grow, alloc_eq_grow, grow_grow, drew_grow, grow_grow]
 rfl
end Go.Proofs.YtlkighkfkdpncaaGreat
set_option linter.unusedVariables false
namespace Go.Proofs.YtlkighkfkdpncaaGreat
open Go Go.Am Go.RowKit Go.Sort Go.Lib Go.Shelf
set_option maxHeartbeats 2000000 in
theorem ins_nil (fv : Value) (W : World) : Calls Tryz.prog 132 #[.slice none 0 0, .int .i64 0, .int .i64 0, fv] W fun e w' => e = .returned (.tuple #[]) ∧ w' = W := by
 go_enter Tryz.func132, Tryz.ntmps132
 go_wp2
 refine wp_loop_rounds 1 ?_
 rw [rounds_succ]
 go_wp2
 go_end0
 exact ⟨rfl, rfl⟩
set_option maxHeartbeats 2000000 in
theorem pdq_nil (lim : Int) (fv : Value) (W : World) : Calls Tryz.prog 116 #[.slice none 0 0, .int .i64 0, .int .i64 0, .int .i64 lim, fv] W fun e w' => e = .returned (.tuple #[]) ∧ w' = W := by
 have hi := fun W => ins_nil fv W
 go_enter Tryz.func116, Tryz.ntmps116
 go_wp2
 refine wp_loop_rounds 1 ?_
 rw [rounds_succ]
 go_wp2_with (go_at_call 132; refine (hi _).mono ?_; rintro e w' ⟨rfl, rfl⟩)
 (try simp only [Exit.inBlock, Exit.then]); refine bodyPost_ret (results_none rfl _ _ _) rfl ?_
 exact ⟨rfl, rfl⟩
set_option maxHeartbeats 2000000 in
theorem sort_nil (fv : Value) (W : World) : Calls Tryz.prog 93 #[.slice none 0 0, fv] W fun e w' => e = .returned (.tuple #[]) ∧ w' = W := by
 have hp := fun lim W => pdq_nil lim fv W
 have hl : ∀ W, Calls Tryz.prog 117 #[.int .u64 0] W fun e w' => e = .returned (.int .i64 (Lib.bitLen 0 : Nat)) ∧ w' = W := fun W => by
  have h := Any.bits_Len (SlLaysF0.n15.bits (P := Tryz.prog) (ρ := Tryz.laysSF_ren) { Tryz.laysSF with }) 0 W (by omega) (by omega)
  exact h
 go_enter Tryz.func93, Tryz.ntmps93
 go_wp2_with (first | (go_at_call 117; refine (hl _).mono ?_; rintro e w' ⟨rfl, rfl⟩) | (go_at_call 116; refine (hp _ _).mono ?_; rintro e w' ⟨rfl, rfl⟩))
 go_end0
 exact ⟨rfl, rfl⟩
end Go.Proofs.YtlkighkfkdpncaaGreat
namespace Go.Proofs.YtlkighkfkdpncaaGreat
open Go Go.Am
set_option linter.unusedSimpArgs false
set_option linter.unusedVariables false
def ofL (x : Int) : List S := if 0 ≤ x ∧ x < 64 then [.int .i64 (x % 8), .int .i64 (x / 8), .bool true] else [.int .i64 (-1), .int .i64 (-1), .bool false]
theorem of_run (x : Int) : WR AM 58 [.s (.int .i64 x)] [] (fun v _ _ => v = .agg 3 (lc (ofL x))) := by
 refine WR_fn (a := a58) rfl rfl (entryF _) (entry_E (Nat.le_of_ble_eq_true rfl)) (m := 0) rfl (sq (os (WO_allocL rfl (nl (sq (sq (os (mI rfl (bB rfl rfl rfl (mB rfl (cs (t := 5) rfl (fun h1 => ?_) (fun h1 => ?_))))))))))))
 ·try simp only [NM] at h1
  refine gf rfl rfl (gf rfl rfl (pB rfl rfl (nl (cd rfl (fun _ => ?_) (fun h => nomatch h)))))
  refine sq (os (uI rfl (.one rfl (.one rfl .nil)) (WO_buildL rfl rfl (.part (v := .agg _ _) (ys := [_, _, _]) rfl rfl rfl rfl .nil) (WO_st (v := .agg _ _) rfl rfl rfl rfl rfl (over_spl (ys := [_, _, _]) rfl rfl) .here (nl (rt (⟨_, RS_cell rfl rfl (.head _) (RS_nil), ?_⟩)))))))
  first | (rw [show ofL x = [.int .i64 (-1), .int .i64 (-1), .bool false] from if_neg (by omega)]; rfl) | (rw [show ofL x = [.int .i64 (x % 8), .int .i64 (x / 8), .bool true] from if_pos (by omega)]; rfl)
 ·try simp only [NM] at h1
  refine gt rfl (mI rfl (gt rfl (bB rfl rfl rfl (pB rfl rfl (nl (cd rfl (fun h2 => ?_) (fun h2 => ?_)))))))
  ·try simp only [NM] at h2
   refine sq (os (uI rfl (.one rfl (.one rfl .nil)) (WO_buildL rfl rfl (.part (v := .agg _ _) (ys := [_, _, _]) rfl rfl rfl rfl .nil) (WO_st (v := .agg _ _) rfl rfl rfl rfl rfl (over_spl (ys := [_, _, _]) rfl rfl) .here (nl (rt (⟨_, RS_cell rfl rfl (.head _) (RS_nil), ?_⟩)))))))
   first | (rw [show ofL x = [.int .i64 (-1), .int .i64 (-1), .bool false] from if_neg (by omega)]; rfl) | (rw [show ofL x = [.int .i64 (x % 8), .int .i64 (x / 8), .bool true] from if_pos (by omega)]; rfl)
  ·try simp only [NM] at h2
   refine sk (sq (os (mI rfl (WO_rem rfl rfl (by omega) (mI rfl (WO_quo rfl rfl (by omega) (uI rfl (.one rfl (.one rfl .nil)) (WO_buildL rfl rfl (.part (v := .agg _ _) (ys := [_, _, _]) rfl rfl rfl rfl (.part (v := .s (.bool _)) (ys := [_, _, _]) rfl rfl rfl rfl .nil)) (WO_st (v := .agg _ _) rfl rfl rfl rfl rfl (over_spl (ys := [_, _, _]) rfl rfl) .here (nl (rt (⟨_, RS_cell rfl rfl (.head _) (RS_nil), ?_⟩))))))))))))
   first | (rw [show ofL x = [.int .i64 (-1), .int .i64 (-1), .bool false] from if_neg (by omega)]; rfl) | (rw [show ofL x = [.int .i64 (x % 8), .int .i64 (x / 8), .bool true] from if_pos (by omega)]; rfl)
theorem of_in (x : Int) (h : 0 ≤ x ∧ x < 64) : RF AM 58 [.s (.int .i64 x)] (.agg 3 (lc [.int .i64 (x % 8), .int .i64 (x / 8), .bool true])) := by
 have := RF_of (of_run x)
 rw [ofL, if_pos h] at this
 exact this
end Go.Proofs.YtlkighkfkdpncaaGreat
