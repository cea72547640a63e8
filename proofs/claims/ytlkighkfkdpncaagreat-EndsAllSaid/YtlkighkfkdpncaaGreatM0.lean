/- Texts of this seat, joined. -/
import Derived.Test.YtlkighkfkdpncaaGreatProg
import Derived.KernelRfl
import Derived.Test.YtlkighkfkdpncaaGreatAm0
import Derived.Test.YtlkighkfkdpncaaGreatAm1
import Derived.Test.YtlkighkfkdpncaaGreatAm2
namespace Go.Am
open Go
abbrev Zg (k:Nat) (l:List O):Ins:=.h (.call (.k (.fn k [])) l)
abbrev Zh (k:Nat) (l:List O):Ins:=.h (.callq (.k (.fn k [])) l)
abbrev ZQ (x:Int):O:=.k (.s (.int .i64 x))
abbrev ZR (x:Bool):O:=.k (.s (.bool x))
abbrev ZU (d x:Nat):I:=⟨some d,none,.p (.mv (.t x))⟩
abbrev ZV (d g:Nat) (b:Bool) (x:Nat):I:=⟨some d,some (g,b),.p (.mv (.t x))⟩
abbrev ZW (d:Nat) (x:Int):I:=⟨some d,none,.p (.mv (ZQ x))⟩
abbrev ZX (d:Nat) (x:Bool):I:=⟨some d,none,.p (.mv (ZR x))⟩
abbrev ZY (d:Nat) (a:Bool) (m x:Nat):I:=⟨some d,none,.h (.load a m (.t x))⟩
abbrev ZZ (d g:Nat) (b:Bool) (a:Bool) (m x:Nat):I:=⟨some d,some (g,b),.h (.load a m (.t x))⟩
abbrev Z0 (m x y:Nat):I:=⟨none,none,.h (.store m (.t x) (.t y))⟩
abbrev Z1 (d o m x:Nat):I:=⟨some d,none,.p (.fa o m (.t x))⟩
abbrev Z2 (d g:Nat) (b:Bool) (o m x:Nat):I:=⟨some d,some (g,b),.p (.fa o m (.t x))⟩
abbrev Z3 (d:Nat) (p:BinOp) (x y:Nat):I:=⟨some d,none,.p (.bin p (.t x) (.t y))⟩
abbrev Z4 (d:Nat) (p:BinOp) (x:Nat) (y:Int):I:=⟨some d,none,.p (.bin p (.t x) (ZQ y))⟩
abbrev Z5 (d g:Nat) (b:Bool) (p:BinOp) (x y:Nat):I:=⟨some d,some (g,b),.p (.bin p (.t x) (.t y))⟩
abbrev Z6 (d g:Nat) (b:Bool) (p:BinOp) (x:Nat) (y:Int):I:=⟨some d,some (g,b),.p (.bin p (.t x) (ZQ y))⟩
abbrev Z7 (d x y:Nat):I:=⟨some d,none,.p (.pick (.t x) (.t y) (ZR false))⟩
abbrev Z8 (d x y:Nat):I:=⟨some d,none,.p (.pick (.t x) (ZR true) (.t y))⟩
abbrev ZS (d g:Nat) (b:Bool) (i:Ins):I:=⟨some d,some (g,b),i⟩
abbrev ZT (d:Nat) (i:Ins):I:=⟨some d,none,i⟩
theorem ZH {a b:Bool} (h:a = b):V.s (S.bool a) = V.s (S.bool b):=congrArg (fun b=>V.s (S.bool b)) h
theorem ZI {a b:Int} (h:a = b):V.s (S.int .i64 a) = V.s (S.int .i64 b):=congrArg (fun b=>V.s (S.int .i64 b)) h
theorem ZJ {N:Nat} {f:FE} {L:HA} {x:Nat} {b:Bool} (h:rd N f x = .s (.bool b)):RS N f L [.tmp x] [.s (.bool b)]:=YK h YS
theorem ZK {N:Nat} {f:FE} {L:HA} {x:Nat} {k:IntKind} {b:Int} (h:rd N f x = .s (.int k b)):RS N f L [.tmp x] [.s (.int k b)]:=YK h YS
theorem ZL {α:Type} {a:α} {l:List α}:a∈a::l:=.head _
theorem ZM {α:Type} {a b:α} {l:List α}:b∈a::b::l:=.tail _ (.head _)
theorem ZN {α:Type} {a b c:α} {l:List α}:c∈a::b::c::l:=.tail _ (.tail _ (.head _))
theorem ZO {α:Type} {a b c d:α} {l:List α}:d∈a::b::c::d::l:=.tail _ (.tail _ (.tail _ (.head _)))
theorem ZP {a:AF} {xs:List V} (h:Nat.ble xs.length a.nt = true):Kp a xs = E a.nt (YH xs):=entry_E (Nat.le_of_ble_eq_true h)
section
variable {A:AP} {N:Nat} {l:List I} {f:FE} {n:Nat} {L:HA} {K:KN} {Zp:V→KN} {d:Nat}
theorem Zi {x:O} {kd:IntKind} {a:Int} (h:x.fv N f = .s (.int kd a)) (k:WO A N l (upd f d (.s (.int kd a))) n L K Zp):WO A N (⟨some d,none,.p (.mv x)⟩::l) f n L K Zp:=Tl h k
theorem Zj {x:O} {a:Bool} (h:x.fv N f = .s (.bool a)) (k:WO A N l (upd f d (.s (.bool a))) n L K Zp):WO A N (⟨some d,none,.p (.mv x)⟩::l) f n L K Zp:=Tl h k
theorem Zk {x:O} {b o z:Nat} (h:x.fv N f = .ptr b o z) (k:WO A N l (upd f d (.ptr b o z)) n L K Zp):WO A N (⟨some d,none,.p (.mv x)⟩::l) f n L K Zp:=Tl h k
theorem Zl {x:O} {b:Nat} {g:Nat→S} (h:x.fv N f = .agg b g) (k:WO A N l (upd f d (.agg b g)) n L K Zp):WO A N (⟨some d,none,.p (.mv x)⟩::l) f n L K Zp:=Tl h k
theorem Zm {x:O} {b o m z:Nat} {c:Cp} (h:x.fv N f = .sl b o m z c) (k:WO A N l (upd f d (.sl b o m z c)) n L K Zp):WO A N (⟨some d,none,.p (.mv x)⟩::l) f n L K Zp:=Tl h k
theorem Zn {x:O} {y:List V} (h:x.fv N f = .tup y) (k:WO A N l (upd f d (.tup y)) n L K Zp):WO A N (⟨some d,none,.p (.mv x)⟩::l) f n L K Zp:=Tl h k
def Za (N:Nat) (f:FE) (c a b:O):V:=match c.fv N f with
 | .s (.bool t)=>bif t then a.fv N f else b.fv N f
 | _=>.undef
theorem Zo {c a b:O} {r:Bool} (h:Za N f c a b = .s (.bool r)) (k:WO A N l (upd f d (.s (.bool r))) n L K Zp):WO A N (⟨some d,none,.p (.pick c a b)⟩::l) f n L K Zp:=by
 unfold Za at h
 split at h
 · rename_i t e
   exact WO_pick e h k
 · cases h
def Zb (N:Nat) (f:FE) (op:BinOp) (x y:O):Option S:=match x.fv N f,y.fv N f with
 | .s a,.s b=>WX op a b
 | _,_=>none
theorem Zq {op:BinOp} {x y:O} {r:Bool} (h:Zb N f op x y = some (.bool r)) (k:WO A N l (upd f d (.s (.bool r))) n L K Zp):WO A N (⟨some d,none,.p (.bin op x y)⟩::l) f n L K Zp:=by
 unfold Zb at h
 split at h
 · rename_i a b e1 e2
   exact JC e1 e2 h k
 · cases h
theorem Zr {x y:O} {a b:Int} (hx:x.fv N f = .s (.int .i64 a)) (hy:y.fv N f = .s (.int .i64 b)) (k:WO A N l (upd f d (.s (.int .i64 (a+b)))) n L K Zp) (hr:-9223372036854775808≤a+b∧a+b≤9223372036854775807:=by omega):WO A N (⟨some d,none,.p (.bin .add x y)⟩::l) f n L K Zp:=WZ hx hy hr k
theorem Zs {x y:O} {a b:Int} (hx:x.fv N f = .s (.int .i64 a)) (hy:y.fv N f = .s (.int .i64 b)) (k:WO A N l (upd f d (.s (.int .i64 (a - b)))) n L K Zp) (hr:-9223372036854775808≤a - b∧a - b≤9223372036854775807:=by omega):WO A N (⟨some d,none,.p (.bin .sub x y)⟩::l) f n L K Zp:=qR hx hy hr k
theorem Zt {x y:O} {a b:Int} (hx:x.fv N f = .s (.int .i64 a)) (hy:y.fv N f = .s (.int .i64 b)) (k:WO A N l (upd f d (.s (.int .i64 (a / b)))) n L K Zp) (hr:0≤a∧a≤9223372036854775807∧1≤b:=by omega):WO A N (⟨some d,none,.p (.bin .quo x y)⟩::l) f n L K Zp:=tv hx hy hr k
theorem Zu {x y:O} {a b:Int} (hx:x.fv N f = .s (.int .i64 a)) (hy:y.fv N f = .s (.int .i64 b)) (k:WO A N l (upd f d (.s (.int .i64 (a % b)))) n L K Zp) (hr:0≤a∧1≤b:=by omega):WO A N (⟨some d,none,.p (.bin .rem x y)⟩::l) f n L K Zp:=WO_rem hx hy hr k
theorem Zv {len z:Nat} {x i:O} {b o z':Nat} {kd:IntKind} {j:Int} (hx:x.fv N f = .ptr b o z') (hi:i.fv N f = .s (.int kd j)) (hz:Nat.ble (len*z) z' = true) (k:WO A N l (upd f d (.ptr b (o+j.toNat*z) z)) n L K Zp) (hj:0≤j∧j < len:=by omega):WO A N (⟨some d,none,.p (.ixa len z x i)⟩::l) f n L K Zp:=XL hx hi hz hj k
theorem Zw {z:Nat} {x i:O} {b o m:Nat} {c:Cp} {kd:IntKind} {j:Int} (hx:x.fv N f = .sl b o m z c) (hi:i.fv N f = .s (.int kd j)) (k:WO A N l (upd f d (.ptr b (o+j.toNat*z) z)) n L K Zp) (hj:0≤j∧j < m:=by omega):WO A N (⟨some d,none,.p (.ixs z x i)⟩::l) f n L K Zp:=T2 hx hi hj k
def Zc (N:Nat) (f:FE) (x:O) (off z:Nat):Option (Nat × Nat):=match x.fv N f with
 | .ptr b o z'=>bif Nat.ble (off+z) z' then some (b,o+off) else none
 | _=>none
theorem Zx {off z:Nat} {x:O} {b:Nat} (h:Zc N f x off z = some (b,0)) (k:WO A N l (upd f d (.ptr b 0 z)) n L K Zp):WO A N (⟨some d,none,.p (.fa off z x)⟩::l) f n L K Zp:=by
 unfold Zc at h
 split at h
 · rename_i b o z' e
   cases hb:Nat.ble (off+z) z' with
   | true =>
    rw [hb,cond_true] at h
    injection h with h
    injection h with h1 h2
    subst h1
    exact vU e hb h2 k
   | false=>rw [hb] at h; cases h
 · cases h
theorem Zy {off z:Nat} {x:O} {b:Nat} (h:Zc N f x off z = some (b,1)) (k:WO A N l (upd f d (.ptr b 1 z)) n L K Zp):WO A N (⟨some d,none,.p (.fa off z x)⟩::l) f n L K Zp:=by
 unfold Zc at h
 split at h
 · rename_i b o z' e
   cases hb:Nat.ble (off+z) z' with
   | true =>
    rw [hb,cond_true] at h
    injection h with h
    injection h with h1 h2
    subst h1
    exact vU e hb h2 k
   | false=>rw [hb] at h; cases h
 · cases h
theorem Zz {X:Nat→KN} {R:KN} {c:O} {a b:AC} (hc:c.fv N f = .s (.bool true)) (h:WP A N a f n L K X R Zp):WP A N (.cond c a b) f n L K X R Zp:=yF hc (fun _=>h) (fun h=>nomatch h)
theorem ZA {X:Nat→KN} {R:KN} {c:O} {a b:AC} (hc:c.fv N f = .s (.bool false)) (h:WP A N b f n L K X R Zp):WP A N (.cond c a b) f n L K X R Zp:=yF hc (fun h=>nomatch h) (fun _=>h)
def ZF (N:Nat) (f:FE) (t:Nat) (w:Bool):Bool:=match rd N f t with
 | .s (.bool b)=>!(b == w)
 | _=>false
theorem ZG {d:Option Nat} {t:Nat} {w:Bool} {i:Ins} (h:ZF N f t w = true) (k:WO A N l (Y8 f d (.tup [])) n L K Zp):WO A N (⟨d,some (t,w),i⟩::l) f n L K Zp:=by
 unfold ZF at h
 split at h
 · rename_i b e
   exact WO_gf e (by simpa using h) k
 · cases h
theorem ZB {d0:Option Nat} {t0:Nat} {w0:Bool} {i0:Ins} (h:(ZF N f t0 w0) = true) (k:WO A N l (Y8 f d0 (.tup [])) n L K Zp):WO A N (⟨d0,some (t0,w0),i0⟩::l) f n L K Zp:=by
 exact ZG h k
theorem ZC {d0 d1:Option Nat} {t0 t1:Nat} {w0 w1:Bool} {i0 i1:Ins} (h:(ZF N f t0 w0 && ZF N (Y8 f d0 (.tup [])) t1 w1) = true) (k:WO A N l (Y8 (Y8 f d0 (.tup [])) d1 (.tup [])) n L K Zp):WO A N (⟨d0,some (t0,w0),i0⟩::⟨d1,some (t1,w1),i1⟩::l) f n L K Zp:=by
 simp only [Bool.and_eq_true] at h
 exact ZG h.1 (ZG h.2 k)
theorem ZD {d0 d1 d2 d3:Option Nat} {t0 t1 t2 t3:Nat} {w0 w1 w2 w3:Bool} {i0 i1 i2 i3:Ins} (h:(ZF N f t0 w0 && ZF N (Y8 f d0 (.tup [])) t1 w1 && ZF N (Y8 (Y8 f d0 (.tup [])) d1 (.tup [])) t2 w2 && ZF N (Y8 (Y8 (Y8 f d0 (.tup [])) d1 (.tup [])) d2 (.tup [])) t3 w3) = true) (k:WO A N l (Y8 (Y8 (Y8 (Y8 f d0 (.tup [])) d1 (.tup [])) d2 (.tup [])) d3 (.tup [])) n L K Zp):WO A N (⟨d0,some (t0,w0),i0⟩::⟨d1,some (t1,w1),i1⟩::⟨d2,some (t2,w2),i2⟩::⟨d3,some (t3,w3),i3⟩::l) f n L K Zp:=by
 simp only [Bool.and_eq_true] at h
 exact ZG h.1.1.1 (ZG h.1.1.2 (ZG h.1.2 (ZG h.2 k)))
theorem ZE {d0 d1 d2 d3 d4 d5 d6 d7:Option Nat} {t0 t1 t2 t3 t4 t5 t6 t7:Nat} {w0 w1 w2 w3 w4 w5 w6 w7:Bool} {i0 i1 i2 i3 i4 i5 i6 i7:Ins} (h:(ZF N f t0 w0 && ZF N (Y8 f d0 (.tup [])) t1 w1 && ZF N (Y8 (Y8 f d0 (.tup [])) d1 (.tup [])) t2 w2 && ZF N (Y8 (Y8 (Y8 f d0 (.tup [])) d1 (.tup [])) d2 (.tup [])) t3 w3 && ZF N (Y8 (Y8 (Y8 (Y8 f d0 (.tup [])) d1 (.tup [])) d2 (.tup [])) d3 (.tup [])) t4 w4 && ZF N (Y8 (Y8 (Y8 (Y8 (Y8 f d0 (.tup [])) d1 (.tup [])) d2 (.tup [])) d3 (.tup [])) d4 (.tup [])) t5 w5 && ZF N (Y8 (Y8 (Y8 (Y8 (Y8 (Y8 f d0 (.tup [])) d1 (.tup [])) d2 (.tup [])) d3 (.tup [])) d4 (.tup [])) d5 (.tup [])) t6 w6 && ZF N (Y8 (Y8 (Y8 (Y8 (Y8 (Y8 (Y8 f d0 (.tup [])) d1 (.tup [])) d2 (.tup [])) d3 (.tup [])) d4 (.tup [])) d5 (.tup [])) d6 (.tup [])) t7 w7) = true) (k:WO A N l (Y8 (Y8 (Y8 (Y8 (Y8 (Y8 (Y8 (Y8 f d0 (.tup [])) d1 (.tup [])) d2 (.tup [])) d3 (.tup [])) d4 (.tup [])) d5 (.tup [])) d6 (.tup [])) d7 (.tup [])) n L K Zp):WO A N (⟨d0,some (t0,w0),i0⟩::⟨d1,some (t1,w1),i1⟩::⟨d2,some (t2,w2),i2⟩::⟨d3,some (t3,w3),i3⟩::⟨d4,some (t4,w4),i4⟩::⟨d5,some (t5,w5),i5⟩::⟨d6,some (t6,w6),i6⟩::⟨d7,some (t7,w7),i7⟩::l) f n L K Zp:=by
 simp only [Bool.and_eq_true] at h
 exact ZG h.1.1.1.1.1.1.1 (ZG h.1.1.1.1.1.1.2 (ZG h.1.1.1.1.1.2 (ZG h.1.1.1.1.2 (ZG h.1.1.1.2 (ZG h.1.1.2 (ZG h.1.2 (ZG h.2 k)))))))
theorem pH {X:Nat→KN} {R:KN} {c:AC} (d:Nat) {v:V} (h:f d = v) (k:WP A N c (upd f d v) n L K X R Zp):WP A N c f n L K X R Zp:=pI h k
theorem Zd {X:Nat→KN} {R:KN} {c:AC} (h:WO A N l f n L (fun f n L=>WP A N c f n L K X R Zp) Zp):WP A N (.seq (.ops l) c) f n L K X R Zp:=zH (qi h)
theorem Ze {X:Nat→KN} {R:KN} {c:AC} {Zq:V→KN} (h:WO A N l f n L (fun f n L=>WP A N c f n L K X R Zp) Zp):WO A N [] f n L (fun f n L=>WP A N (.seq (.ops l) c) f n L K X R Zp) Zq:=qA (zH (qi h))
theorem Zf {X:Nat→KN} {R:KN} {Zq:V→KN} {Q:FE→Nat→HA→List V→Prop} {x:Nat} {b:Bool} (h:rd N f x = .s (.bool b)) (k:Q f n L [.s (.bool b)]):WO A N [] f n L (fun f n L=>WP A N .ret f n L R X (fun f n L=>∃ vs,RS N f L [.tmp x] vs∧Q f n L vs) Zp) Zq:=qA (u3 ⟨_,YK h YS,k⟩)
end
abbrev Z9:=@WO_gf
abbrev Ya:=@WO_gt
abbrev Yb:=@qA
abbrev Yc:=@vU
abbrev Yd:=@zH
abbrev Ye:=@qi
abbrev Yf:=@WP_par
abbrev Yg:=@WP_skip
abbrev Yh:=@u3
abbrev Yi:=@yF
abbrev Yj:=@rq
abbrev Yk:=@pI
abbrev Yl:=@WO_ldI
abbrev Ym:=@uL
abbrev Yn:=@WO_ldA0
abbrev Yo:=@WO_ldAI
abbrev Yp:=@Tl
abbrev Yq:=@JC
abbrev Yr:=@WO_case
abbrev Ys:=@s8
abbrev Yt:=@tt
abbrev Yu:=@WO_un
abbrev Yv:=@uW
abbrev Yw:=@WO_eqaC
abbrev Yx:=@ZaD
abbrev Yy:=@WO_stA
abbrev Yz:=@WO_stI
abbrev YA:=@uG
abbrev YB:=@WO_boxA
abbrev YC:=@WO_ext
abbrev YD:=@vT
abbrev YE:=@Nat.le_of_ble_eq_true
end Go.Am
namespace Go.Proofs.YtlkighkfkdpncaaGreat
open Go Go.Am
set_option maxRecDepth 100000
noncomputable def a3:AF:=⟨51,[.tmp 4],
 (.seq (.ops [ZT 2 (.h (.box (.t 0))),ZX 4 false])
 (.seq (.ops [ZY 10 true 133 2,ZT 11 (Zg 7 [(.t 10)]),ZU 9 11,ZT 12 (.p (.ext (.t 9) 0)),ZT 13 (.p (.ext (.t 9) 1)),ZU 5 12,ZU 6 13])
 (.seq (.ops [ZY 15 true 133 2,ZT 16 (Zg 8 [(.t 15)]),ZU 14 16,ZT 17 (.p (.ext (.t 14) 0)),ZT 18 (.p (.ext (.t 14) 1)),ZU 7 17,ZU 8 18])
 (.seq (.par [ZU 19 5,ZU 20 7,Z3 21 .eql 19 20,ZU 22 21,ZV 23 22 true 6,ZV 24 22 true 8,Z5 25 22 true .eql 23 24,Z7 26 22 25,ZU 27 26,ZZ 28 27 true true 133 2,ZS 29 27 true (Zh 9 [(.t 28)]),ZZ 30 27 true true 133 2,ZS 31 27 true (Zg 10 [(.t 30)]),ZS 32 27 true (.p (.eqb false (.t 29) (.t 31))),Z7 33 27 32,ZU 34 33,ZZ 35 34 true true 133 2,ZS 36 34 true (Zh 11 [(.t 35)]),ZZ 37 34 true true 133 2,ZS 38 34 true (Zg 12 [(.t 37)]),ZS 39 34 true (.p (.eqb false (.t 36) (.t 38))),Z7 40 34 39,ZU 41 40,ZV 42 41 true 1,ZS 43 41 true (Zg 13 [(.t 42)]),ZV 44 41 true 1,ZS 45 41 true (Zg 14 [(.t 44)]),Z5 46 41 true .eql 43 45,Z7 47 41 46,ZU 48 47,ZS 49 48 true (Zg 15 []),Z7 50 48 49,ZU 4 50])
 .ret))))⟩
noncomputable def a4:AF:=⟨97,[.tmp 0],
 (.seq (.ops [ZX 0 false])
 (.seq (.seq (.ops [ZW 1 0])
 (.block 0 (.loop (.seq (.seq (.ops [ZU 16 1,Z4 17 .lss 16 64])
 (.cond (.t 17)
 .skip
 (.exit 0)))
 (.seq (.block 1 (.seq (.ops [ZW 2 0])
 (.block 2 (.loop (.seq (.seq (.ops [ZU 20 2,Z4 21 .lss 20 5])
 (.cond (.t 21)
 .skip
 (.exit 2)))
 (.seq (.block 3 (.seq (.ops [ZT 24 (.h (.mksl 5 1 (.one (.s (.int .i64 0))) [(0,(ZQ 45)),(1,(ZQ 46)),(2,(ZQ 47)),(3,(ZQ 61)),(4,(ZQ 30))])),ZU 25 2,ZT 26 (.p (.ixs 1 (.t 24) (.t 25))),ZY 27 false 1 26,ZU 28 1,ZT 29 (Zg 16 [(.t 27),(ZQ 63),(.t 28)]),ZT 3 (.h (.alloc (.ints 133))),Z0 133 3 29])
 (.seq (.ops [ZY 30 true 133 3,ZT 4 (.h (.alloc (.ints 133))),Z0 133 4 30])
 (.seq (.ops [Z1 31 128 1 4,
 ⟨none,none,.h (.store 1 (.t 31) (ZQ 0))⟩])
 (.seq (.ops [ZY 33 true 133 3,ZT 34 (Zg 7 [(.t 33)]),ZU 32 34,ZT 35 (.p (.ext (.t 32) 0)),ZT 36 (.p (.ext (.t 32) 1)),ZU 5 35,ZU 6 36])
 (.seq (.ops [ZY 38 true 133 3,ZT 39 (Zg 8 [(.t 38)]),ZU 37 39,ZT 40 (.p (.ext (.t 37) 0)),ZT 41 (.p (.ext (.t 37) 1)),ZU 7 40,ZU 8 41])
 (.seq (.ops [ZY 43 true 133 4,ZT 44 (Zg 7 [(.t 43)]),ZU 42 44,ZT 45 (.p (.ext (.t 42) 0)),ZT 46 (.p (.ext (.t 42) 1)),ZU 9 45,ZU 10 46])
 (.seq (.ops [ZY 48 true 133 4,ZT 49 (Zg 8 [(.t 48)]),ZU 47 49,ZT 50 (.p (.ext (.t 47) 0)),ZT 51 (.p (.ext (.t 47) 1)),ZU 11 50,ZU 12 51])
 (.seq (.ops [ZU 52 5,ZU 53 7,Z3 54 .neq 52 53,ZU 55 54,ZV 56 55 false 6,ZV 57 55 false 8,Z5 58 55 false .neq 56 57,Z8 59 55 58,ZU 60 59,ZV 61 60 false 9,ZV 62 60 false 11,Z5 63 60 false .neq 61 62,Z8 64 60 63,ZU 65 64,ZV 66 65 false 10,ZV 67 65 false 12,Z5 68 65 false .neq 66 67,Z8 69 65 68])
 (.cond (.t 69)
 (.seq (.ops [ZX 0 false])
 .ret)
 .skip))))))))))
 (.ops [ZU 22 2,Z4 23 .add 22 1,ZU 2 23])))))))
 (.ops [ZU 18 1,Z4 19 .add 18 1,ZU 1 19]))))))
 (.seq (.ops [ZT 70 (.h (.mksl 10 1 (.one (.s (.int .i64 0))) [(0,(ZQ (-9223372036854775808))),(1,(ZQ (-1))),(2,(ZQ 0)),(3,(ZQ 99)),(4,(ZQ 100)),(5,(ZQ 149)),(6,(ZQ 150)),(7,(ZQ 1024)),(8,(ZQ 1025)),(9,(ZQ 9223372036854775807))])),ZU 13 70])
 (.seq (.seq (.ops [ZW 14 0])
 (.block 4 (.loop (.seq (.seq (.ops [ZU 71 14,ZU 72 13,ZT 73 (.p (.len (.t 72))),Z3 74 .lss 71 73])
 (.cond (.t 74)
 .skip
 (.exit 4)))
 (.seq (.block 5 (.seq (.ops [ZT 77 (Zg 17 []),ZT 15 (.h (.alloc (.ints 133))),Z0 133 15 77])
 (.seq (.ops [ZU 78 13,ZU 79 14,ZT 80 (.p (.ixs 1 (.t 78) (.t 79))),ZY 81 false 1 80,Z1 82 131 1 15,Z0 1 82 81])
 (.seq (.ops [ZY 83 true 133 15,ZU 84 14,Z4 85 .sub 84 1,ZT 86 (Zg 3 [(.t 83),(.t 85)]),ZT 87 (.p (.un .not (.t 86)))])
 (.cond (.t 87)
 (.seq (.ops [ZX 0 false])
 .ret)
 .skip)))))
 (.ops [ZU 75 14,Z4 76 .add 75 1,ZU 14 76]))))))
 (.seq (.ops [ZT 88 (Zg 16 [(ZQ 45),(ZQ 53),(ZQ 0)]),ZT 89 (Zg 3 [(.t 88),(ZQ 0)]),ZU 90 89,ZS 91 90 true (Zg 18 []),ZS 92 90 true (Zg 3 [(.t 91),(ZQ 1)]),Z7 93 90 92,ZU 94 93,ZS 95 94 true (Zg 15 []),Z7 96 94 95,ZU 0 96])
 .ret)))))⟩
noncomputable def a6:AF:=⟨88,[.tmp 2],
 (.seq (.ops [ZT 1 (.h (.box (.t 0))),ZX 2 false])
 (.seq (.seq (.ops [ZT 7 (Zg 15 []),ZT 8 (.p (.un .not (.t 7)))])
 (.cond (.t 8)
 (.seq (.ops [ZX 2 false])
 .ret)
 .skip))
 (.seq (.seq (.par [ZY 9 true 133 1,ZT 10 (Zg 11 [(.t 9)]),ZU 11 10,ZZ 12 11 true true 133 1,ZS 13 11 true (Zg 9 [(.t 12)]),ZS 14 11 true (.p (.un .not (.t 13))),Z7 15 11 14,ZU 16 15,ZZ 17 16 false true 133 1,ZS 18 16 false (Zh 9 [(.t 17)]),ZZ 19 16 false true 133 1,ZS 20 16 false (Zg 19 [(.t 19)]),ZV 21 16 false 20,Z2 22 21 true 131 1 1,ZZ 23 21 true false 1 22,Z6 24 21 true .geq 23 100,ZS 25 16 false (.p (.pick (.t 21) (.t 24) (ZR false))),ZS 26 16 false (.p (.eqb true (.t 18) (.t 25))),Z8 27 16 26])
 (.cond (.t 27)
 (.seq (.ops [ZX 2 false])
 .ret)
 .skip))
 (.seq (.ops [ZY 28 true 133 1,ZT 29 (Zg 20 [(.t 28)]),ZU 3 29])
 (.seq (.seq (.ops [ZW 4 0])
 (.block 0 (.loop (.seq (.seq (.ops [ZU 30 4,ZU 31 3,ZT 32 (.p (.len (.t 31))),Z3 33 .lss 30 32])
 (.cond (.t 33)
 .skip
 (.exit 0)))
 (.seq (.block 1 (.seq (.par [ZY 37 true 133 1,ZU 38 3,ZU 39 4,ZT 40 (.p (.ixs 3 (.t 38) (.t 39))),ZY 41 true 3 40,ZT 42 (.h (.mksl 1 3 (.ints 3) [(0,(.t 41))])),ZT 43 (Zh 25 [(.t 37),(.t 42)]),ZU 36 43,ZT 44 (.p (.ext (.t 36) 0)),ZT 45 (.p (.ext (.t 36) 1)),ZT 5 (.h (.alloc (.ints 133))),Z0 133 5 44,ZU 6 45])
 (.seq (.par [ZU 46 6,Z4 47 .neq 46 0,ZU 48 47,Z2 49 48 false 131 1 5,ZZ 50 48 false false 1 49,Z6 51 48 false .neq 50 0,ZV 52 48 false 51,Z2 53 52 true 131 1 5,ZZ 54 52 true false 1 53,Z2 55 52 true 131 1 1,ZZ 56 52 true false 1 55,Z6 57 52 true .add 56 1,ZS 58 52 true (.p (.mn [(.t 57),(ZQ 1024)])),Z5 59 52 true .neq 54 58,ZV 60 52 true 59,ZZ 61 60 false true 133 1,ZS 62 60 false (Zg 9 [(.t 61)]),ZV 63 60 false 62,ZZ 64 63 true true 133 5,ZS 65 63 true (Zg 9 [(.t 64)]),ZS 66 63 true (.p (.un .not (.t 65))),ZS 67 60 false (.p (.pick (.t 63) (.t 66) (ZR false))),ZS 68 52 true (.p (.pick (.t 60) (ZR true) (.t 67))),ZV 69 52 true 68,ZZ 70 69 false true 133 5,ZS 71 69 false (Zh 11 [(.t 70)]),Z2 72 69 false 131 1 1,ZZ 73 69 false false 1 72,Z6 74 69 false .geq 73 149,ZS 75 69 false (.p (.eqb true (.t 71) (.t 74))),ZS 76 52 true (.p (.pick (.t 69) (ZR true) (.t 75))),ZS 77 48 false (.p (.pick (.t 52) (.t 76) (ZR false))),Z8 78 48 77,ZU 79 78,Z2 80 79 false 131 1 5,ZZ 81 79 false false 1 80,Z6 82 79 false .eql 81 0,ZV 83 79 false 82,ZZ 84 83 true true 133 5,ZS 85 83 true (Zg 9 [(.t 84)]),ZS 86 79 false (.p (.pick (.t 83) (.t 85) (ZR false))),Z8 87 79 86])
 (.cond (.t 87)
 (.seq (.ops [ZX 2 false])
 .ret)
 .skip))))
 (.ops [ZU 34 4,Z4 35 .add 34 1,ZU 4 35]))))))
 (.seq (.ops [ZX 2 true])
 .ret))))))⟩
noncomputable def a7:AF:=⟨22,[.tmp 2,.tmp 3],
 (.seq (.ops [ZT 1 (.h (.box (.t 0))),ZW 2 0,ZW 3 0])
 (.seq (.seq (.ops [ZY 5 true 133 1,ZT 6 (.p (.build (.ints 133) [(0,133,(.t 5))])),ZT 4 (.h (.alloc (.ints 133))),Z0 133 4 6])
 (.block 0 (.seq (.ops [ZY 8 true 133 4,ZT 9 (Zg 26 [(.t 8)]),ZT 10 (.p (.un .not (.t 9))),ZU 7 10])
 (.cond (.t 7)
 (.seq (.ops [ZW 2 0,ZW 3 0])
 .ret)
 (.seq (.ops [ZY 12 true 133 1,Z1 13 0 133 4,Z1 14 128 1 13,ZY 15 false 1 14,ZT 16 (Zg 21 [(.t 12),(.t 15)]),ZU 11 16])
 (.cond (.t 11)
 (.seq (.ops [Z1 17 0 133 4,Z1 18 128 1 17,ZY 19 false 1 18,ZT 20 (Zg 22 [(.t 19)]),ZT 21 (Zg 13 [(.t 20)]),ZU 2 21,ZW 3 1])
 .ret)
 .skip))))))
 (.seq (.ops [ZW 2 3,ZW 3 2])
 .ret)))⟩
noncomputable def a8:AF:=⟨23,[.tmp 2,.tmp 3],
 (.seq (.ops [ZT 1 (.h (.box (.t 0))),ZW 2 0,ZW 3 0])
 (.seq (.ops [ZY 5 true 133 1,ZT 6 (Zg 27 [(.t 5)]),ZU 4 6])
 (.seq (.seq (.ops [ZY 7 true 133 1,ZT 8 (Zg 28 [(.t 7)]),ZT 9 (.p (.un .not (.t 8))),ZU 10 9,ZV 11 10 false 4,ZS 12 10 false (.p (.len (.t 11))),Z6 13 10 false .gtr 12 0,Z8 14 10 13])
 (.cond (.t 14)
 (.seq (.ops [ZW 2 0,ZW 3 0])
 .ret)
 .skip))
 (.seq (.seq (.ops [ZY 15 true 133 1,Z1 16 128 1 1,ZY 17 false 1 16,ZT 18 (Zg 29 [(.t 15),(.t 17)])])
 (.cond (.t 18)
 (.seq (.ops [Z1 19 128 1 1,ZY 20 false 1 19,ZT 21 (Zg 30 [(.t 20)]),ZT 22 (Zg 14 [(.t 21)]),ZU 2 22,ZW 3 1])
 .ret)
 .skip))
 (.seq (.ops [ZW 2 3,ZW 3 2])
 .ret)))))⟩
noncomputable def a9:AF:=⟨7,[.tmp 2],
 (.seq (.ops [ZT 1 (.h (.box (.t 0))),ZX 2 false])
 (.seq (.ops [ZY 3 true 133 1,ZT 4 (.p (.build (.ints 133) [(0,133,(.t 3))])),ZT 5 (.h (.mksl 1 1 (.one (.s (.int .i64 0))) [(0,(ZQ 100))])),ZT 6 (Zg 31 [(.t 4),(.t 5)]),ZU 2 6])
 .ret))⟩
noncomputable def a10:AF:=⟨10,[.tmp 2],
 (.seq (.ops [ZT 1 (.h (.box (.t 0))),ZX 2 false])
 (.seq (.ops [ZY 3 true 133 1,ZT 4 (Zg 28 [(.t 3)]),ZU 5 4,Z2 6 5 true 131 1 1,ZZ 7 5 true false 1 6,Z6 8 5 true .geq 7 100,Z7 9 5 8,ZU 2 9])
 .ret))⟩
noncomputable def a11:AF:=⟨7,[.tmp 2],
 (.seq (.ops [ZT 1 (.h (.box (.t 0))),ZX 2 false])
 (.seq (.ops [ZY 3 true 133 1,ZT 4 (.p (.build (.ints 133) [(0,133,(.t 3))])),ZT 5 (.h (.mksl 2 1 (.one (.s (.int .i64 0))) [(0,(ZQ 100)),(1,(ZQ 150))])),ZT 6 (Zg 31 [(.t 4),(.t 5)]),ZU 2 6])
 .ret))⟩
noncomputable def a12:AF:=⟨10,[.tmp 2],
 (.seq (.ops [ZT 1 (.h (.box (.t 0))),ZX 2 false])
 (.seq (.ops [ZY 3 true 133 1,ZT 4 (Zg 28 [(.t 3)]),ZU 5 4,Z2 6 5 true 131 1 1,ZZ 7 5 true false 1 6,Z6 8 5 true .geq 7 150,Z7 9 5 8,ZU 2 9])
 .ret))⟩
noncomputable def a13:AF:=⟨5,[.tmp 2],
 (.seq (.ops [ZW 2 0])
 (.seq (.seq (.ops [ZU 3 0,Z4 4 .eql 3 1])
 (.cond (.t 4)
 (.seq (.ops [ZW 2 2])
 .ret)
 .skip))
 (.seq (.ops [ZW 2 1])
 .ret)))⟩
noncomputable def a14:AF:=⟨5,[.tmp 2],
 (.seq (.ops [ZW 2 0])
 (.seq (.seq (.ops [ZU 3 0,Z4 4 .eql 3 1])
 (.cond (.t 4)
 (.seq (.ops [ZW 2 2])
 .ret)
 .skip))
 (.seq (.ops [ZW 2 1])
 .ret)))⟩
noncomputable def a15:AF:=⟨29,[.tmp 0],
 (.seq (.ops [ZX 0 false])
 (.seq (.ops [ZT 6 (Zg 16 [(ZQ 45),(ZQ 62),(ZQ 54)]),ZT 7 (Zg 7 [(.t 6)]),ZU 5 7,ZT 8 (.p (.ext (.t 5) 0)),ZT 9 (.p (.ext (.t 5) 1)),ZU 1 8,ZU 2 9])
 (.seq (.ops [ZT 11 (Zg 16 [(ZQ 45),(ZQ 63),(ZQ 53)]),ZT 12 (Zg 7 [(.t 11)]),ZU 10 12,ZT 13 (.p (.ext (.t 10) 0)),ZT 14 (.p (.ext (.t 10) 1)),ZU 3 13,ZU 4 14])
 (.seq (.ops [ZU 15 1,Z4 16 .eql 15 1,ZU 17 16,ZV 18 17 true 2,Z6 19 17 true .eql 18 1,Z7 20 17 19,ZU 21 20,ZV 22 21 true 3,Z6 23 21 true .eql 22 3,Z7 24 21 23,ZU 25 24,ZV 26 25 true 4,Z6 27 25 true .eql 26 2,Z7 28 25 27,ZU 0 28])
 .ret))))⟩
noncomputable def a16:AF:=⟨23,[.cell 6 true 133],
 (.seq (.ops [ZT 6 (.h (.alloc (.ints 133)))])
 (.seq (.ops [ZT 8 (Zg 18 []),ZT 7 (.h (.alloc (.ints 133))),Z0 133 7 8])
 (.seq (.ops [ZU 9 2,ZT 10 (.p (.build (.ints 2) [(0,1,(ZQ 5))])),Z1 11 0 128 7,ZT 12 (.p (.ixa 64 2 (.t 11) (.t 9))),Z0 2 12 10])
 (.seq (.ops [ZU 13 0,ZT 14 (.p (.build (.ints 2) [(0,1,(ZQ 6))])),Z1 15 0 128 7,ZT 16 (.p (.ixa 64 2 (.t 15) (.t 13))),Z0 2 16 14])
 (.seq (.ops [ZU 17 1,ZT 18 (.p (.build (.ints 2) [(0,1,(ZQ 6)),(1,1,(ZQ 1))])),Z1 19 0 128 7,ZT 20 (.p (.ixa 64 2 (.t 19) (.t 17))),Z0 2 20 18])
 (.seq (.ops [Z1 21 128 1 7,
 ⟨none,none,.h (.store 1 (.t 21) (ZQ 1))⟩])
 (.seq (.ops [ZY 22 true 133 7,Z0 133 6 22])
 .ret)))))))⟩
noncomputable def a17:AF:=⟨39,[.cell 0 true 133],
 (.seq (.ops [ZT 0 (.h (.alloc (.ints 133)))])
 (.seq (.ops [ZT 4 (Zg 18 []),ZT 1 (.h (.alloc (.ints 133))),Z0 133 1 4])
 (.seq (.ops [ZT 5 (.h (.mksl 8 1 (.one (.s (.int .i64 0))) [(0,(ZQ 4)),(1,(ZQ 2)),(2,(ZQ 3)),(3,(ZQ 5)),(4,(ZQ 6)),(5,(ZQ 3)),(6,(ZQ 2)),(7,(ZQ 4))])),ZU 2 5])
 (.seq (.seq (.ops [ZW 3 0])
 (.block 0 (.loop (.seq (.seq (.ops [ZU 6 3,Z4 7 .lss 6 8])
 (.cond (.t 7)
 .skip
 (.exit 0)))
 (.seq (.block 1 (.seq (.ops [ZU 10 3,ZU 11 2,ZU 12 3,ZT 13 (.p (.ixs 1 (.t 11) (.t 12))),ZY 14 false 1 13,ZT 15 (.p (.build (.ints 2) [(0,1,(.t 14)),(1,1,(ZQ 0))])),Z1 16 0 128 1,ZT 17 (.p (.ixa 64 2 (.t 16) (.t 10))),Z0 2 17 15])
 (.seq (.ops [ZU 18 3,ZT 19 (.p (.bin .add (ZQ 8) (.t 18))),ZT 20 (.p (.build (.ints 2) [(0,1,(ZQ 1)),(1,1,(ZQ 0))])),Z1 21 0 128 1,ZT 22 (.p (.ixa 64 2 (.t 21) (.t 19))),Z0 2 22 20])
 (.seq (.ops [ZU 23 3,ZT 24 (.p (.bin .add (ZQ 48) (.t 23))),ZT 25 (.p (.build (.ints 2) [(0,1,(ZQ 1)),(1,1,(ZQ 1))])),Z1 26 0 128 1,ZT 27 (.p (.ixa 64 2 (.t 26) (.t 24))),Z0 2 27 25])
 (.ops [ZU 28 3,ZT 29 (.p (.bin .add (ZQ 56) (.t 28))),ZU 30 2,ZU 31 3,ZT 32 (.p (.ixs 1 (.t 30) (.t 31))),ZY 33 false 1 32,ZT 34 (.p (.build (.ints 2) [(0,1,(.t 33)),(1,1,(ZQ 1))])),Z1 35 0 128 1,ZT 36 (.p (.ixa 64 2 (.t 35) (.t 29))),Z0 2 36 34])))))
 (.ops [ZU 8 3,Z4 9 .add 8 1,ZU 3 9]))))))
 (.seq (.ops [Z1 37 129 1 1,
 ⟨none,none,.h (.store 1 (.t 37) (ZQ 15))⟩])
 (.seq (.ops [ZY 38 true 133 1,Z0 133 0 38])
 .ret))))))⟩
noncomputable def a18:AF:=⟨2,[.cell 0 true 133],
 (.seq (.ops [ZT 0 (.h (.alloc (.ints 133)))])
 (.seq (.ops [ZT 1 (.p (.build (.ints 133) [(130,1,(ZQ (-1))),(132,1,(ZQ 1))])),Z0 133 0 1])
 .ret))⟩
noncomputable def a19:AF:=⟨13,[.tmp 2],
 (.seq (.ops [ZT 1 (.h (.box (.t 0))),ZX 2 false])
 (.seq (.par [ZY 3 true 133 1,ZT 4 (Zg 23 [(.t 3)]),ZU 5 4,ZZ 6 5 true true 133 1,Z2 7 5 true 128 1 1,ZZ 8 5 true false 1 7,ZS 9 5 true (Zh 22 [(.t 8)]),ZS 10 5 true (Zg 21 [(.t 6),(.t 9)]),ZS 11 5 true (.p (.un .not (.t 10))),Z7 12 5 11,ZU 2 12])
 .ret))⟩
noncomputable def Q8:RD:=rdOf Tryz.f20
noncomputable def g20:AC:=(.ops [ZT 3 (.h (.alloc (.ints 3))),Z0 3 3 6])
noncomputable def b20:AC:=(.block 1 (.ops [ZY 8 false 1 2,ZY 9 true 3 3,ZT 10 (.h (.mksl 1 3 (.ints 3) [(0,(.t 9))])),ZT 11 (.h (.append 3 24 (.t 8) (.t 10))),Z0 1 2 11]))
noncomputable def a20:AF:=⟨13,[.cell 2 false 1],
 (.seq (.ops [ZT 1 (.h (.box (.t 0))),ZT 2 (.h (.alloc (.one .snil)))])
 (.seq (.seq (.ops [ZY 4 true 133 1,ZT 5 (Zg 32 [(.t 4)])])
 (.block 0 (.rfn (.t 5) 607 Q8)))
 (.seq (.ops [ZY 12 false 1 2,Z0 1 2 12])
 .ret)))⟩
noncomputable def a21:AF:=⟨19,[.tmp 4],
 (.seq (.ops [ZT 2 (.h (.box (.t 0))),ZX 4 false])
 (.seq (.seq (.ops [ZU 5 1,Z4 6 .neq 5 0,ZU 7 6,ZV 8 7 true 1,Z6 9 7 true .neq 8 1,Z7 10 7 9])
 (.cond (.t 10)
 (.seq (.ops [ZX 4 false])
 .ret)
 .skip))
 (.seq (.par [ZY 11 true 133 2,ZU 12 1,ZT 13 (Zh 22 [(.t 12)]),ZY 14 true 133 2,ZU 15 1,ZT 16 (.p (.build (.ints 2) [(0,1,(ZQ 6)),(1,1,(.t 15))])),ZT 17 (Zh 34 [(.t 14),(.t 16)]),ZT 18 (Zg 33 [(.t 11),(.t 13),(.t 17)]),ZU 4 18])
 .ret)))⟩
noncomputable def a22:AF:=⟨5,[.tmp 2],
 (.seq (.ops [ZW 2 0])
 (.seq (.seq (.ops [ZU 3 0,Z4 4 .eql 3 0])
 (.cond (.t 4)
 (.seq (.ops [ZW 2 1])
 .ret)
 .skip))
 (.seq (.ops [ZW 2 0])
 .ret)))⟩
noncomputable def a23:AF:=⟨36,[.tmp 2],
 (.seq (.ops [ZT 1 (.h (.box (.t 0))),ZX 2 false])
 (.seq (.ops [ZY 4 true 133 1,ZT 5 (.p (.build (.ints 133) [(0,133,(.t 4))])),ZT 3 (.h (.alloc (.ints 133))),Z0 133 3 5])
 (.seq (.ops [ZY 6 true 133 3,ZT 7 (Zg 35 [(.t 6)]),ZU 8 7,ZZ 9 8 true true 133 3,ZS 10 8 true (Zg 36 [(.t 9)]),Z7 11 8 10,ZU 12 11,ZZ 13 12 true true 133 3,ZS 14 12 true (Zg 37 [(.t 13)]),Z7 15 12 14,ZU 16 15,Z2 17 16 true 131 1 1,ZZ 18 16 true false 1 17,Z6 19 16 true .geq 18 0,Z7 20 16 19,ZU 21 20,Z2 22 21 true 131 1 1,ZZ 23 21 true false 1 22,Z6 24 21 true .leq 23 1024,Z7 25 21 24,ZU 26 25,Z2 27 26 true 132 1 1,ZZ 28 26 true false 1 27,Z6 29 26 true .geq 28 1,Z7 30 26 29,ZU 31 30,Z2 32 31 true 132 1 1,ZZ 33 31 true false 1 32,Z6 34 31 true .leq 33 16384,Z7 35 31 34,ZU 2 35])
 .ret)))⟩
noncomputable def rd25:RD:=rdOf Tryz.f25
noncomputable def g25:AC:=(.seq (.ops [ZT 9 (.h (.alloc (.ints 3))),Z0 3 9 23])
 (.ops [ZT 10 (.h (.alloc (.ints 133))),Z0 133 10 24]))
noncomputable def b25:AC:=(.block 3 (.seq (.ops [ZY 25 true 3 9,ZY 26 true 3 7,ZT 27 (.p (.eqa false 3 (.t 25) (.t 26))),Z0 1 8 27])
 (.seq (.ops [ZY 28 false 1 8])
 (.cond (.t 28)
 (.seq (.ops [ZY 29 true 133 10,Z0 133 2 29])
 (.exit 2))
 .skip))))
noncomputable def a26:AF:=⟨13,[.tmp 2],
 (.seq (.ops [ZT 1 (.h (.box (.t 0))),ZX 2 false])
 (.seq (.ops [Z1 3 0 133 1,ZY 4 true 133 3,ZT 5 (Zg 19 [(.t 4)]),ZU 6 5,Z2 7 6 true 0 133 1,ZZ 8 6 true true 133 7,ZS 9 6 true (Zg 20 [(.t 8)]),ZS 10 6 true (.p (.len (.t 9))),Z6 11 6 true .eql 10 0,Z7 12 6 11,ZU 2 12])
 .ret))⟩
noncomputable def a27:AF:=⟨31,[.tmp 2],
 (.seq (.ops [ZT 1 (.h (.box (.t 0))),ZT 2 (.p (.mv (.k .snil)))])
 (.seq (.seq (.ops [ZY 6 true 133 1,ZT 7 (Zg 28 [(.t 6)]),ZT 8 (.p (.un .not (.t 7)))])
 (.cond (.t 8)
 (.seq (.ops [ZT 2 (.p (.mv (.k .snil)))])
 .ret)
 .skip))
 (.seq (.ops [ZT 3 (.p (.mv (.k .snil)))])
 (.seq (.ops [ZY 9 true 133 1,ZT 10 (Zg 44 [(.t 9)]),ZU 4 10])
 (.seq (.seq (.ops [ZW 5 0])
 (.block 0 (.loop (.seq (.seq (.ops [ZU 11 5,ZU 12 4,ZT 13 (.p (.len (.t 12))),Z3 14 .lss 11 13])
 (.cond (.t 14)
 .skip
 (.exit 0)))
 (.seq (.block 1 (.seq (.par [ZY 17 true 133 1,ZU 18 4,ZU 19 5,ZT 20 (.p (.ixs 3 (.t 18) (.t 19))),ZY 21 true 3 20,ZT 22 (Zg 45 [(.t 17),(.t 21)])])
 (.cond (.t 22)
 (.ops [ZU 23 3,ZU 24 4,ZU 25 5,ZT 26 (.p (.ixs 3 (.t 24) (.t 25))),ZY 27 true 3 26,ZT 28 (.h (.mksl 1 3 (.ints 3) [(0,(.t 27))])),ZT 29 (.h (.append 3 24 (.t 23) (.t 28))),ZU 3 29])
 .skip)))
 (.ops [ZU 15 5,Z4 16 .add 15 1,ZU 5 16]))))))
 (.seq (.ops [ZU 30 3,ZU 2 30])
 .ret))))))⟩
noncomputable def a28:AF:=⟨13,[.tmp 2],
 (.seq (.ops [ZT 1 (.h (.box (.t 0))),ZX 2 false])
 (.seq (.par [ZY 3 true 133 1,ZT 4 (Zg 46 [(.t 3)]),ZU 5 4,ZZ 6 5 true true 133 1,Z2 7 5 true 128 1 1,ZZ 8 5 true false 1 7,ZS 9 5 true (Zh 30 [(.t 8)]),ZS 10 5 true (Zg 29 [(.t 6),(.t 9)]),ZS 11 5 true (.p (.un .not (.t 10))),Z7 12 5 11,ZU 2 12])
 .ret))⟩
noncomputable def a29:AF:=⟨19,[.tmp 4],
 (.seq (.ops [ZT 2 (.h (.box (.t 0))),ZX 4 false])
 (.seq (.seq (.ops [ZU 5 1,Z4 6 .neq 5 0,ZU 7 6,ZV 8 7 true 1,Z6 9 7 true .neq 8 1,Z7 10 7 9])
 (.cond (.t 10)
 (.seq (.ops [ZX 4 false])
 .ret)
 .skip))
 (.seq (.par [ZY 11 true 133 2,ZU 12 1,ZT 13 (Zh 30 [(.t 12)]),ZY 14 true 133 2,ZU 15 1,ZT 16 (.p (.build (.ints 2) [(0,1,(ZQ 6)),(1,1,(.t 15))])),ZT 17 (Zh 48 [(.t 14),(.t 16)]),ZT 18 (Zg 47 [(.t 11),(.t 13),(.t 17)]),ZU 4 18])
 .ret)))⟩
noncomputable def a30:AF:=⟨5,[.tmp 2],
 (.seq (.ops [ZW 2 0])
 (.seq (.seq (.ops [ZU 3 0,Z4 4 .eql 3 0])
 (.cond (.t 4)
 (.seq (.ops [ZW 2 1])
 .ret)
 .skip))
 (.seq (.ops [ZW 2 0])
 .ret)))⟩
noncomputable def a31:AF:=⟨14,[.tmp 4],
 (.seq (.ops [ZT 2 (.h (.box (.t 0))),ZX 4 false])
 (.seq (.ops [Z1 5 0 133 2,ZY 6 true 133 5,ZT 7 (Zg 19 [(.t 6)]),ZU 8 7,ZV 9 8 true 1,ZS 10 8 true (.p (.mkfn 50 [(.t 2)])),ZS 11 8 true (Zg 49 [(.t 9),(.t 10)]),ZS 12 8 true (.p (.un .not (.t 11))),Z7 13 8 12,ZU 4 13])
 .ret))⟩
noncomputable def a32:AF:=⟨9,[.tmp 2],
 (.seq (.ops [ZT 1 (.h (.box (.t 0))),ZT 2 (.p (.mv (.k .fnil)))])
 (.seq (.seq (.ops [ZY 3 true 133 1,ZT 4 (Zg 19 [(.t 3)]),ZT 5 (.p (.un .not (.t 4)))])
 (.cond (.t 5)
 (.seq (.ops [ZT 2 (.p (.mv (.k (.fn 51 []))))])
 .ret)
 .skip))
 (.seq (.ops [ZY 6 true 133 1,ZT 7 (.p (.build (.ints 133) [(0,133,(.t 6))])),ZT 8 (Zg 52 [(.t 7)]),ZU 2 8])
 .ret)))⟩
noncomputable def yA:RD:=rdOf Tryz.f33
noncomputable def g33:AC:=.skip
noncomputable def b33:AC:=(.block 3 (.seq (.ops [⟨none,none,.h (.store 1 (.t 6) (ZR true))⟩])
 .ret))
noncomputable def a33:AF:=⟨24,[.cell 6 false 1],
 (.seq (.ops [ZT 3 (.h (.box (.t 0))),ZT 6 (.h (.alloc (.one (.s (.bool false)))))])
 (.seq (.ops [ZY 10 true 133 3,ZT 11 (.p (.build (.ints 133) [(0,133,(.t 10))])),ZT 7 (.h (.alloc (.ints 133))),Z0 133 7 11])
 (.seq (.seq (.ops [ZU 12 2,ZT 13 (.p (.len (.t 12))),ZW 14 0])
 (.block 0 (.loop (.seq (.ops [Z3 15 .lss 14 13])
 (.seq (.cond (.t 15)
 .skip
 (.exit 0))
 (.seq (.block 1 (.seq (.ops [ZT 16 (.p (.ixs 1 (.t 12) (.t 14))),ZY 17 false 1 16,ZU 9 17])
 (.seq (.ops [ZY 18 true 133 7,ZU 19 9,ZU 20 1,ZT 21 (Zg 53 [(.t 18),(.t 19),(.t 20)])])
 (.block 2 (.rfn (.t 21) 22 yA)))))
 (.ops [Z4 23 .add 14 1,ZU 14 23])))))))
 (.seq (.ops [⟨none,none,.h (.store 1 (.t 6) (ZR false))⟩])
 .ret))))⟩
noncomputable def a34:AF:=⟨22,[.tmp 4],
 (.seq (.ops [ZT 2 (.h (.box (.t 0))),ZT 3 (.h (.box (.t 1))),ZT 4 (.p (.mv (.k .snil)))])
 (.seq (.seq (.ops [Z1 7 0 128 2,ZY 8 true 128 7,ZW 9 0])
 (.block 0 (.loop (.seq (.ops [Z4 10 .lss 9 64])
 (.seq (.cond (.t 10)
 .skip
 (.exit 0))
 (.seq (.block 1 (.seq (.ops [ZU 11 9,ZT 12 (.p (.ix 64 2 true (.t 8) (.t 9))),ZT 6 (.h (.alloc (.ints 2))),ZU 5 11,Z0 2 6 12])
 (.seq (.ops [ZY 13 true 2 3,ZY 14 true 2 6,ZT 15 (.p (.eqa false 2 (.t 13) (.t 14)))])
 (.cond (.t 15)
 (.ops [ZU 16 4,ZU 17 5,ZT 18 (.h (.mksl 1 1 (.one (.s (.int .i64 0))) [(0,(.t 17))])),ZT 19 (.h (.append 1 8 (.t 16) (.t 18))),ZU 4 19])
 .skip))))
 (.ops [Z4 20 .add 9 1,ZU 9 20])))))))
 (.seq (.ops [ZU 21 4,ZU 4 21])
 .ret)))⟩
noncomputable def a35:AF:=⟨61,[.tmp 2],
 (.seq (.ops [ZT 1 (.h (.box (.t 0))),ZX 2 false])
 (.seq (.ops [ZT 3 (.h (.alloc (.ints 2)))])
 (.seq (.seq (.ops [Z1 7 0 133 1,Z1 8 0 128 7,ZY 9 true 128 8,ZW 10 0])
 (.block 0 (.loop (.seq (.ops [Z4 11 .lss 10 64])
 (.seq (.cond (.t 11)
 .skip
 (.exit 0))
 (.seq (.block 1 (.seq (.ops [ZU 12 10,ZT 13 (.p (.ix 64 2 true (.t 9) (.t 10))),ZT 5 (.h (.alloc (.ints 2))),ZU 4 12,Z0 2 5 13])
 (.seq (.seq (.ops [ZY 14 true 2 5,ZT 15 (.p (.build (.ints 2) [])),ZT 16 (.p (.eqa false 2 (.t 14) (.t 15)))])
 (.cond (.t 16)
 (.exit 1)
 .skip))
 (.seq (.ops [ZU 17 4,ZT 18 (Zg 41 [(.t 17)]),Z4 19 .eql 18 0,ZU 20 19,ZV 21 20 false 4,ZS 22 20 false (Zg 41 [(.t 21)]),Z6 23 20 false .eql 22 7,Z8 24 20 23,ZU 6 24])
 (.seq (.seq (.ops [ZY 25 true 2 5,ZT 26 (Zg 42 [(.t 25)]),ZT 27 (.p (.un .not (.t 26))),ZU 28 27,ZV 29 28 false 6,ZV 30 28 false 29,Z2 31 30 true 0 1 5,ZZ 32 30 true false 1 31,Z6 33 30 true .eql 32 1,ZS 34 28 false (.p (.pick (.t 30) (.t 33) (ZR false))),Z8 35 28 34])
 (.cond (.t 35)
 (.seq (.ops [ZX 2 false])
 .ret)
 .skip))
 (.seq (.ops [Z1 36 0 1 5,ZY 37 false 1 36,Z4 38 .eql 37 6])
 (.cond (.t 38)
 (.ops [Z1 39 1 1 5,ZY 40 false 1 39,ZT 41 (.p (.ixa 2 1 (.t 3) (.t 40))),ZY 42 false 1 41,Z4 43 .add 42 1,ZT 44 (.p (.ixa 2 1 (.t 3) (.t 40))),Z0 1 44 43])
 .skip)))))))
 (.ops [Z4 45 .add 10 1,ZU 10 45])))))))
 (.seq (.ops [ZY 46 true 2 3,ZT 47 (.p (.build (.ints 2) [(0,1,(ZQ 1)),(1,1,(ZQ 1))])),ZT 48 (.p (.eqa false 2 (.t 46) (.t 47))),ZU 49 48,Z2 50 49 true 0 133 1,Z2 51 49 true 128 1 50,ZZ 52 49 true false 1 51,Z6 53 49 true .eql 52 0,ZV 54 49 true 53,Z2 55 54 false 0 133 1,Z2 56 54 false 128 1 55,ZZ 57 54 false false 1 56,Z6 58 54 false .eql 57 1,ZS 59 49 true (.p (.pick (.t 54) (ZR true) (.t 58))),Z7 60 49 59,ZU 2 60])
 .ret))))⟩
noncomputable def a36:AF:=⟨46,[.tmp 2],
 (.seq (.ops [ZT 1 (.h (.box (.t 0))),ZX 2 false])
 (.seq (.seq (.ops [Z1 6 0 133 1,Z1 7 129 1 6,ZY 8 false 1 7,Z4 9 .lss 8 0,ZU 10 9,Z2 11 10 false 0 133 1,Z2 12 10 false 129 1 11,ZZ 13 10 false false 1 12,Z6 14 10 false .gtr 13 15,Z8 15 10 14])
 (.cond (.t 15)
 (.seq (.ops [ZX 2 false])
 .ret)
 .skip))
 (.seq (.seq (.ops [ZT 16 (.p (.build (.ints 4) [(0,1,(ZQ 7)),(1,1,(ZQ 0)),(2,1,(ZQ 63)),(3,1,(ZQ 56))])),ZW 17 0])
 (.block 0 (.loop (.seq (.ops [Z4 18 .lss 17 4])
 (.seq (.cond (.t 18)
 .skip
 (.exit 0))
 (.seq (.block 1 (.seq (.ops [ZU 19 17,ZT 20 (.p (.ix 4 1 false (.t 16) (.t 17))),ZU 3 19,ZU 4 20])
 (.seq (.seq (.ops [Z1 21 0 133 1,Z1 22 129 1 21,ZY 23 false 1 22,ZU 24 3,Z3 25 .shr 23 24,Z4 26 .and 25 1,Z4 27 .eql 26 0])
 (.cond (.t 27)
 (.exit 1)
 .skip))
 (.seq (.ops [ZU 28 3,Z4 29 .quo 28 2,ZU 5 29])
 (.seq (.ops [ZY 30 true 133 1,ZU 31 5,ZU 32 4,ZT 33 (Zg 54 [(.t 30),(ZQ 4),(.t 31),(.t 32)]),ZT 34 (.p (.un .not (.t 33))),ZU 35 34,ZZ 36 35 false true 133 1,ZV 37 35 false 5,ZV 38 35 false 4,Z6 39 35 false .quo 38 8,Z6 40 35 false .mul 39 8,Z6 41 35 false .add 40 4,ZS 42 35 false (Zg 54 [(.t 36),(ZQ 6),(.t 37),(.t 41)]),ZS 43 35 false (.p (.un .not (.t 42))),Z8 44 35 43])
 (.cond (.t 44)
 (.seq (.ops [ZX 2 false])
 .ret)
 .skip))))))
 (.ops [Z4 45 .add 17 1,ZU 17 45])))))))
 (.seq (.ops [ZX 2 true])
 .ret))))⟩
noncomputable def a37:AF:=⟨55,[.tmp 2],
 (.seq (.ops [ZT 1 (.h (.box (.t 0))),ZX 2 false])
 (.seq (.seq (.ops [Z1 6 0 133 1,Z1 7 130 1 6,ZY 8 false 1 7,Z4 9 .eql 8 (-1)])
 (.cond (.t 9)
 (.seq (.ops [ZX 2 true])
 .ret)
 .skip))
 (.seq (.ops [ZW 3 5,ZW 4 1])
 (.seq (.seq (.ops [Z1 10 0 133 1,Z1 11 128 1 10,ZY 12 false 1 11,Z4 13 .eql 12 1])
 (.cond (.t 13)
 (.ops [ZW 3 2,ZW 4 (-1)])
 .skip))
 (.seq (.seq (.ops [Z1 14 0 133 1,Z1 15 130 1 14,ZY 16 false 1 15,ZT 17 (Zg 41 [(.t 16)]),ZU 18 3,Z3 19 .neq 17 18,ZU 20 19,Z2 21 20 false 0 133 1,Z2 22 20 false 131 1 21,ZZ 23 20 false false 1 22,Z6 24 20 false .neq 23 0,Z8 25 20 24])
 (.cond (.t 25)
 (.seq (.ops [ZX 2 false])
 .ret)
 .skip))
 (.seq (.ops [ZT 26 (.p (.mkfn 55 [(.t 1)])),ZU 5 26])
 (.seq (.par [ZU 27 5,Z1 28 0 133 1,Z1 29 130 1 28,ZY 30 false 1 29,ZT 31 (.h (.call (.t 27) [(.t 30)])),ZU 32 31,ZV 33 32 true 5,Z2 34 32 true 0 133 1,Z2 35 32 true 130 1 34,ZZ 36 32 true false 1 35,ZV 37 32 true 4,ZS 38 32 true (Zg 56 [(.t 36),(ZQ 0),(.t 37)]),ZS 39 32 true (.h (.call (.t 33) [(.t 38)])),Z7 40 32 39,ZU 41 40,ZZ 42 41 true true 133 1,Z2 43 41 true 0 133 1,Z2 44 41 true 128 1 43,ZZ 45 41 true false 1 44,ZS 46 41 true (Zh 22 [(.t 45)]),Z2 47 41 true 0 133 1,Z2 48 41 true 130 1 47,ZZ 49 41 true false 1 48,ZV 50 41 true 4,ZS 51 41 true (.p (.un .neg (.t 50))),ZS 52 41 true (Zh 56 [(.t 49),(ZQ 0),(.t 51)]),ZS 53 41 true (Zg 54 [(.t 42),(ZQ 1),(.t 46),(.t 52)]),Z7 54 41 53,ZU 2 54])
 .ret)))))))⟩
noncomputable def a39:AF:=⟨9,[.tmp 4],
 (.seq (.ops [ZW 4 0])
 (.seq (.ops [ZU 5 0,ZU 6 1,ZT 7 (.p (.build (.ints 2) [(0,1,(.t 5)),(1,1,(.t 6))])),ZT 8 (Zg 57 [(.t 7)]),ZU 4 8])
 .ret))⟩
noncomputable def a40:AF:=⟨7,[.tmp 2],
 (.seq (.ops [ZW 2 0])
 (.seq (.ops [ZU 3 0,ZT 4 (Zg 58 [(.t 3)]),ZT 5 (.p (.fld true 0 2 (.t 4))),ZT 6 (.p (.fld false 0 1 (.t 5))),ZU 2 6])
 .ret))⟩
noncomputable def a41:AF:=⟨7,[.tmp 2],
 (.seq (.ops [ZW 2 0])
 (.seq (.ops [ZU 3 0,ZT 4 (Zg 58 [(.t 3)]),ZT 5 (.p (.fld true 0 2 (.t 4))),ZT 6 (.p (.fld false 1 1 (.t 5))),ZU 2 6])
 .ret))⟩
noncomputable def a42:AF:=⟨21,[.tmp 2],
 (.seq (.ops [ZT 1 (.h (.box (.t 0))),ZX 2 false])
 (.seq (.ops [Z1 3 0 1 1,ZY 4 false 1 3,Z4 5 .geq 4 1,ZU 6 5,Z2 7 6 true 0 1 1,ZZ 8 6 true false 1 7,Z6 9 6 true .leq 8 6,Z7 10 6 9,ZU 11 10,Z2 12 11 true 1 1 1,ZZ 13 11 true false 1 12,Z6 14 11 true .eql 13 0,ZV 15 11 true 14,Z2 16 15 false 1 1 1,ZZ 17 15 false false 1 16,Z6 18 15 false .eql 17 1,ZS 19 11 true (.p (.pick (.t 15) (ZR true) (.t 18))),Z7 20 11 19,ZU 2 20])
 .ret))⟩
noncomputable def a43:AF:=⟨6,[.tmp 2],
 (.seq (.ops [ZX 2 false])
 (.seq (.ops [ZU 3 0,ZT 4 (Zg 58 [(.t 3)]),ZT 5 (.p (.fld false 2 1 (.t 4))),ZU 2 5])
 .ret))⟩
noncomputable def a44:AF:=⟨15,[.tmp 2],
 (.seq (.ops [ZT 1 (.h (.box (.t 0))),ZT 2 (.p (.mv (.k .snil)))])
 (.seq (.ops [ZT 3 (.p (.mv (.k .snil)))])
 (.seq (.seq (.ops [ZW 4 0])
 (.block 0 (.loop (.seq (.seq (.ops [ZU 5 4,Z4 6 .lss 5 64])
 (.cond (.t 6)
 .skip
 (.exit 0)))
 (.seq (.block 1 (.ops [ZU 9 3,ZY 10 true 133 1,ZU 11 4,ZT 12 (Zg 59 [(.t 10),(.t 11)]),ZT 13 (.h (.append 3 24 (.t 9) (.t 12))),ZU 3 13]))
 (.ops [ZU 7 4,Z4 8 .add 7 1,ZU 4 8]))))))
 (.seq (.ops [ZU 14 3,ZU 2 14])
 .ret))))⟩
noncomputable def a45:AF:=⟨45,[.tmp 4],
 (.seq (.ops [ZT 2 (.h (.box (.t 0))),ZT 3 (.h (.box (.t 1))),ZX 4 false])
 (.seq (.ops [ZY 8 true 133 2,ZY 9 true 3 3,ZT 10 (Zg 60 [(.t 8),(.t 9)]),ZU 7 10,ZT 11 (.p (.ext (.t 7) 0)),ZT 12 (.p (.ext (.t 7) 1)),ZT 5 (.h (.alloc (.ints 133))),Z0 133 5 11,ZU 6 12])
 (.seq (.seq (.ops [ZU 13 6,Z4 14 .neq 13 0,ZU 15 14,ZZ 16 15 false true 133 5,Z2 17 15 false 128 1 2,ZZ 18 15 false false 1 17,ZS 19 15 false (Zg 29 [(.t 16),(.t 18)]),Z8 20 15 19])
 (.cond (.t 20)
 (.seq (.ops [ZX 4 false])
 .ret)
 .skip))
 (.seq (.seq (.ops [ZY 21 true 133 2,ZY 22 true 3 3,ZT 23 (Zg 61 [(.t 21),(.t 22)]),ZT 24 (.p (.un .not (.t 23)))])
 (.cond (.t 24)
 (.seq (.ops [ZX 4 true])
 .ret)
 .skip))
 (.seq (.par [ZY 25 true 133 2,Z1 26 128 1 2,ZY 27 false 1 26,ZT 28 (Zg 29 [(.t 25),(.t 27)]),ZT 29 (.p (.un .not (.t 28))),ZU 30 29,ZZ 31 30 true true 133 2,Z2 32 30 true 128 1 2,ZZ 33 30 true false 1 32,ZS 34 30 true (Zh 30 [(.t 33)]),Z2 35 30 true 0 1 3,ZZ 36 30 true false 1 35,Z2 37 30 true 1 1 3,ZZ 38 30 true false 1 37,Z5 39 30 true .add 36 38,Z6 40 30 true .quo 39 2,ZS 41 30 true (.h (.mksl 1 1 (.one (.s (.int .i64 0))) [(0,(.t 40))])),ZS 42 30 true (Zg 47 [(.t 31),(.t 34),(.t 41)]),ZS 43 30 true (.p (.un .not (.t 42))),Z7 44 30 43,ZU 4 44])
 .ret)))))⟩
noncomputable def a46:AF:=⟨33,[.tmp 2],
 (.seq (.ops [ZT 1 (.h (.box (.t 0))),ZX 2 false])
 (.seq (.ops [ZY 3 true 133 1,ZT 4 (Zg 62 [(.t 3)]),ZU 5 4,ZZ 6 5 true true 133 1,ZS 7 5 true (Zg 63 [(.t 6)]),Z7 8 5 7,ZU 9 8,ZZ 10 9 true true 133 1,ZS 11 9 true (Zg 64 [(.t 10)]),Z7 12 9 11,ZU 13 12,Z2 14 13 true 131 1 1,ZZ 15 13 true false 1 14,Z6 16 13 true .geq 15 0,Z7 17 13 16,ZU 18 17,Z2 19 18 true 131 1 1,ZZ 20 18 true false 1 19,Z6 21 18 true .leq 20 1024,Z7 22 18 21,ZU 23 22,Z2 24 23 true 132 1 1,ZZ 25 23 true false 1 24,Z6 26 23 true .geq 25 1,Z7 27 23 26,ZU 28 27,Z2 29 28 true 132 1 1,ZZ 30 28 true false 1 29,Z6 31 28 true .leq 30 16384,Z7 32 28 31,ZU 2 32])
 .ret))⟩
noncomputable def a47:AF:=⟨25,[.tmp 6],
 (.seq (.ops [ZT 3 (.h (.box (.t 0))),ZX 6 false])
 (.seq (.seq (.ops [ZW 7 0])
 (.block 0 (.loop (.seq (.seq (.ops [ZU 9 7,ZU 10 2,ZT 11 (.p (.len (.t 10))),Z3 12 .lss 9 11])
 (.cond (.t 12)
 .skip
 (.exit 0)))
 (.seq (.block 1 (.seq (.par [ZY 15 true 133 3,ZU 16 2,ZU 17 7,ZT 18 (.p (.ixs 1 (.t 16) (.t 17))),ZY 19 false 1 18,ZU 20 1,ZT 21 (Zg 65 [(.t 15),(.t 19),(.t 20)]),ZU 8 21])
 (.seq (.ops [ZU 22 8,ZT 23 (.p (.len (.t 22))),Z4 24 .gtr 23 0])
 (.cond (.t 24)
 (.seq (.ops [ZX 6 true])
 .ret)
 .skip))))
 (.ops [ZU 13 7,Z4 14 .add 13 1,ZU 7 14]))))))
 (.seq (.ops [ZX 6 false])
 .ret)))⟩
noncomputable def a48:AF:=⟨22,[.tmp 4],
 (.seq (.ops [ZT 2 (.h (.box (.t 0))),ZT 3 (.h (.box (.t 1))),ZT 4 (.p (.mv (.k .snil)))])
 (.seq (.ops [ZT 5 (.p (.mv (.k .snil)))])
 (.seq (.seq (.ops [ZW 6 0])
 (.block 0 (.loop (.seq (.seq (.ops [ZU 7 6,Z4 8 .lss 7 64])
 (.cond (.t 8)
 .skip
 (.exit 0)))
 (.seq (.block 1 (.seq (.par [ZU 11 6,Z1 12 0 128 2,ZT 13 (.p (.ixa 64 2 (.t 12) (.t 11))),ZY 14 true 2 13,ZY 15 true 2 3,ZT 16 (.p (.eqa false 2 (.t 14) (.t 15)))])
 (.cond (.t 16)
 (.ops [ZU 17 5,ZU 18 6,ZT 19 (.h (.mksl 1 1 (.one (.s (.int .i64 0))) [(0,(.t 18))])),ZT 20 (.h (.append 1 8 (.t 17) (.t 19))),ZU 5 20])
 .skip)))
 (.ops [ZU 9 6,Z4 10 .add 9 1,ZU 6 10]))))))
 (.seq (.ops [ZU 21 5,ZU 4 21])
 .ret))))⟩
noncomputable def a49:AF:=⟨9,[.tmp 4],
 (.seq (.ops [ZX 4 false])
 (.seq (.ops [ZU 5 0,ZU 6 1,ZT 7 (Zg 66 [(.t 5),(.t 6)]),Z4 8 .geq 7 0,ZU 4 8])
 .ret))⟩
noncomputable def a50:AF:=⟨9,[.tmp 3],
 (.seq (.ops [ZX 3 false])
 (.seq (.ops [Z1 4 0 133 1,Z1 5 131 1 4,ZY 6 false 1 5,ZU 7 0,Z3 8 .lss 6 7,ZU 3 8])
 .ret))⟩
noncomputable def a51:AF:=⟨2,[],
 .skip⟩
noncomputable def a52:AF:=⟨4,[.tmp 2],
 (.seq (.ops [ZT 1 (.h (.box (.t 0))),ZT 2 (.p (.mv (.k .fnil)))])
 (.seq (.ops [ZT 3 (.p (.mkfn 67 [(.t 1)])),ZU 2 3])
 .ret))⟩
noncomputable def a53:AF:=⟨8,[.tmp 6],
 (.seq (.ops [ZT 3 (.h (.box (.t 0))),ZT 4 (.h (.box (.t 1))),ZT 5 (.h (.box (.t 2))),ZT 6 (.p (.mv (.k .fnil)))])
 (.seq (.ops [ZT 7 (.p (.mkfn 72 [(.t 3),(.t 5),(.t 4)])),ZU 6 7])
 .ret))⟩
noncomputable def a54:AF:=⟨18,[.tmp 8],
 (.seq (.ops [ZT 4 (.h (.box (.t 0))),ZX 8 false])
 (.seq (.ops [ZU 9 3,Z1 10 0 133 4,Z1 11 0 128 10,ZT 12 (.p (.ixa 64 2 (.t 11) (.t 9))),ZY 13 true 2 12,ZU 14 1,ZU 15 2,ZT 16 (.p (.build (.ints 2) [(0,1,(.t 14)),(1,1,(.t 15))])),ZT 17 (.p (.eqa false 2 (.t 13) (.t 16))),ZU 8 17])
 .ret))⟩
noncomputable def a55:AF:=⟨11,[.tmp 3],
 (.seq (.ops [ZX 3 false])
 (.seq (.ops [ZU 4 0,Z1 5 0 133 1,Z1 6 0 128 5,ZT 7 (.p (.ixa 64 2 (.t 6) (.t 4))),ZY 8 true 2 7,ZT 9 (.p (.build (.ints 2) [])),ZT 10 (.p (.eqa false 2 (.t 8) (.t 9))),ZU 3 10])
 .ret))⟩
noncomputable def a56:AF:=⟨13,[.tmp 6],
 (.seq (.ops [ZW 6 0])
 (.seq (.ops [ZU 7 0,ZT 8 (Zg 58 [(.t 7)]),ZU 9 1,ZU 10 2,ZT 11 (Zg 75 [(.t 8),(.t 9),(.t 10)]),ZT 12 (Zg 57 [(.t 11)]),ZU 6 12])
 .ret))⟩
noncomputable def a57:AF:=⟨12,[.tmp 2],
 (.seq (.ops [ZT 1 (.h (.box (.t 0))),ZW 2 0])
 (.seq (.seq (.ops [ZY 3 true 2 1,ZT 4 (Zg 76 [(.t 3)]),ZT 5 (.p (.un .not (.t 4)))])
 (.cond (.t 5)
 (.seq (.ops [ZW 2 (-1)])
 .ret)
 .skip))
 (.seq (.ops [Z1 6 1 1 1,ZY 7 false 1 6,Z4 8 .mul 7 8,Z1 9 0 1 1,ZY 10 false 1 9,Z3 11 .add 8 10,ZU 2 11])
 .ret)))⟩
noncomputable def a58:AF:=⟨17,[.cell 2 true 3],
 (.seq (.ops [ZT 2 (.h (.alloc (.scl [(.int .i64 0),(.int .i64 0),(.bool false)])))])
 (.seq (.seq (.ops [ZU 3 0,Z4 4 .lss 3 0,ZU 5 4,ZV 6 5 false 0,Z6 7 5 false .geq 6 64,Z8 8 5 7])
 (.cond (.t 8)
 (.seq (.ops [ZT 9 (.p (.build (.ints 2) [(0,1,(ZQ (-1))),(1,1,(ZQ (-1)))])),ZT 10 (.p (.build (.scl [(.int .i64 0),(.int .i64 0),(.bool false)]) [(0,2,(.t 9))])),Z0 3 2 10])
 .ret)
 .skip))
 (.seq (.ops [ZU 11 0,Z4 12 .rem 11 8,ZU 13 0,Z4 14 .quo 13 8,ZT 15 (.p (.build (.ints 2) [(0,1,(.t 12)),(1,1,(.t 14))])),ZT 16 (.p (.build (.scl [(.int .i64 0),(.int .i64 0),(.bool false)]) [(0,2,(.t 15)),(2,1,(ZR true))])),Z0 3 2 16])
 .ret)))⟩
noncomputable def a59:AF:=⟨71,[.tmp 4],
 (.seq (.ops [ZT 2 (.h (.box (.t 0))),ZT 4 (.p (.mv (.k .snil)))])
 (.seq (.ops [ZT 5 (.p (.mv (.k .snil)))])
 (.seq (.seq (.ops [ZW 6 0])
 (.block 0 (.loop (.seq (.seq (.ops [ZU 9 6,Z4 10 .lss 9 64,ZU 11 10,ZV 12 11 true 1,Z6 13 11 true .geq 12 0,Z7 14 11 13,ZU 15 14,ZV 16 15 true 1,Z6 17 15 true .lss 16 64,Z7 18 15 17])
 (.cond (.t 18)
 .skip
 (.exit 0)))
 (.seq (.block 1 (.seq (.seq (.ops [ZY 21 true 133 2,ZU 22 1,ZU 23 6,ZT 24 (Zg 77 [(.t 21),(.t 22),(.t 23)]),ZT 25 (.p (.un .not (.t 24)))])
 (.cond (.t 25)
 (.exit 1)
 .skip))
 (.seq (.ops [ZU 26 1,Z1 27 0 128 2,ZT 28 (.p (.ixa 64 2 (.t 27) (.t 26))),ZY 29 true 2 28,ZT 7 (.h (.alloc (.ints 2))),Z0 2 7 29])
 (.seq (.ops [Z1 30 0 1 7,ZY 31 false 1 30,Z4 32 .eql 31 1,ZU 33 32,Z2 34 33 true 1 1 7,ZZ 35 33 true false 1 34,Z6 36 33 true .eql 35 0,ZV 37 33 true 36,ZV 38 37 true 6,Z6 39 37 true .quo 38 8,Z6 40 37 true .eql 39 7,ZS 41 33 true (.p (.pick (.t 37) (.t 40) (ZR false))),ZV 42 33 true 41,Z2 43 42 false 1 1 7,ZZ 44 42 false false 1 43,Z6 45 42 false .eql 44 1,ZV 46 42 false 45,ZV 47 46 true 6,Z6 48 46 true .quo 47 8,Z6 49 46 true .eql 48 0,ZS 50 42 false (.p (.pick (.t 46) (.t 49) (ZR false))),ZS 51 33 true (.p (.pick (.t 42) (ZR true) (.t 50))),Z7 52 33 51])
 (.cond (.t 52)
 (.seq (.ops [ZW 8 2])
 (.block 2 (.loop (.seq (.seq (.ops [ZU 53 8,Z4 54 .leq 53 5])
 (.cond (.t 54)
 .skip
 (.exit 2)))
 (.seq (.block 3 (.ops [ZU 57 5,ZU 58 1,ZU 59 6,ZU 60 8,ZT 61 (.p (.build (.ints 3) [(0,1,(.t 58)),(1,1,(.t 59)),(2,1,(.t 60))])),ZT 62 (.h (.mksl 1 3 (.ints 3) [(0,(.t 61))])),ZT 63 (.h (.append 3 24 (.t 57) (.t 62))),ZU 5 63]))
 (.ops [ZU 55 8,Z4 56 .add 55 1,ZU 8 56]))))))
 (.ops [ZU 64 5,ZU 65 1,ZU 66 6,ZT 67 (.p (.build (.ints 3) [(0,1,(.t 65)),(1,1,(.t 66))])),ZT 68 (.h (.mksl 1 3 (.ints 3) [(0,(.t 67))])),ZT 69 (.h (.append 3 24 (.t 64) (.t 68))),ZU 5 69]))))))
 (.ops [ZU 19 6,Z4 20 .add 19 1,ZU 6 20]))))))
 (.seq (.ops [ZU 70 5,ZU 4 70])
 .ret))))⟩
noncomputable def a60:AF:=⟨150,[.cell 4 true 133,.tmp 5],
 (.seq (.ops [ZT 2 (.h (.box (.t 0))),ZT 3 (.h (.box (.t 1))),ZT 4 (.h (.alloc (.ints 133))),ZW 5 0])
 (.seq (.seq (.ops [Z1 9 0 1 3,ZY 10 false 1 9,ZT 11 (Zg 78 [(.t 10)]),ZT 12 (.p (.un .not (.t 11))),ZU 13 12,Z2 14 13 false 1 1 3,ZZ 15 13 false false 1 14,ZS 16 13 false (Zg 78 [(.t 15)]),ZS 17 13 false (.p (.un .not (.t 16))),Z8 18 13 17,ZU 19 18,Z2 20 19 false 0 1 3,ZZ 21 19 false false 1 20,Z2 22 19 false 1 1 3,ZZ 23 19 false false 1 22,Z5 24 19 false .eql 21 23,Z8 25 19 24])
 (.cond (.t 25)
 (.seq (.ops [ZT 26 (.p (.build (.ints 133) [])),Z0 133 4 26,ZW 5 6])
 .ret)
 .skip))
 (.seq (.seq (.ops [ZY 27 true 133 2,ZY 28 true 3 3,ZT 29 (Zg 79 [(.t 27),(.t 28)]),ZT 30 (.p (.un .not (.t 29)))])
 (.cond (.t 30)
 (.seq (.ops [ZT 31 (.p (.build (.ints 133) [])),Z0 133 4 31,ZW 5 8])
 .ret)
 .skip))
 (.seq (.ops [Z1 32 0 1 3,ZY 33 false 1 32,Z1 34 0 128 2,ZT 35 (.p (.ixa 64 2 (.t 34) (.t 33))),ZY 36 true 2 35,ZT 6 (.h (.alloc (.ints 2))),Z0 2 6 36])
 (.seq (.ops [ZY 37 true 133 2,ZT 7 (.h (.alloc (.ints 133))),Z0 133 7 37])
 (.seq (.ops [ZY 38 true 133 2,ZY 39 true 3 3,ZT 40 (Zg 80 [(.t 38),(.t 39)]),ZU 8 40])
 (.seq (.seq (.ops [ZU 41 8,Z4 42 .geq 41 0])
 (.cond (.t 42)
 (.ops [ZU 43 8,ZT 44 (.p (.build (.ints 2) [])),Z1 45 0 128 7,ZT 46 (.p (.ixa 64 2 (.t 45) (.t 43))),Z0 2 46 44])
 .skip))
 (.seq (.ops [Z1 47 0 1 3,ZY 48 false 1 47,ZT 49 (.p (.build (.ints 2) [])),Z1 50 0 128 7,ZT 51 (.p (.ixa 64 2 (.t 50) (.t 48))),Z0 2 51 49])
 (.seq (.ops [Z1 52 1 1 3,ZY 53 false 1 52,ZY 54 true 2 6,Z1 55 0 128 7,ZT 56 (.p (.ixa 64 2 (.t 55) (.t 53))),Z0 2 56 54])
 (.seq (.seq (.ops [Z1 57 2 1 3,ZY 58 false 1 57,Z4 59 .neq 58 0])
 (.cond (.t 59)
 (.ops [Z1 60 1 1 3,ZY 61 false 1 60,Z1 62 2 1 3,ZY 63 false 1 62,Z1 64 0 128 7,ZT 65 (.p (.ixa 64 2 (.t 64) (.t 61))),Z1 66 0 1 65,Z0 1 66 63])
 .skip))
 (.seq (.seq (.ops [ZY 67 true 133 2,ZY 68 true 3 3,ZT 69 (Zg 81 [(.t 67),(.t 68)])])
 (.block 0 (.seq (.ops [Z4 71 .eql 69 1,ZU 70 71])
 (.cond (.t 70)
 (.seq (.ops [Z1 72 0 1 3,ZY 73 false 1 72,Z4 74 .add 73 3,ZT 75 (.p (.build (.ints 2) [])),Z1 76 0 128 7,ZT 77 (.p (.ixa 64 2 (.t 76) (.t 74))),Z0 2 77 75])
 (.ops [Z1 78 0 1 3,ZY 79 false 1 78,Z4 80 .add 79 1,Z1 81 1 1 6,ZY 82 false 1 81,ZT 83 (.p (.build (.ints 2) [(0,1,(ZQ 4)),(1,1,(.t 82))])),Z1 84 0 128 7,ZT 85 (.p (.ixa 64 2 (.t 84) (.t 80))),Z0 2 85 83]))
 (.seq (.ops [Z4 87 .eql 69 (-1),ZU 86 87])
 (.cond (.t 86)
 (.seq (.ops [Z1 88 0 1 3,ZY 89 false 1 88,Z4 90 .sub 89 4,ZT 91 (.p (.build (.ints 2) [])),Z1 92 0 128 7,ZT 93 (.p (.ixa 64 2 (.t 92) (.t 90))),Z0 2 93 91])
 (.ops [Z1 94 0 1 3,ZY 95 false 1 94,Z4 96 .sub 95 1,Z1 97 1 1 6,ZY 98 false 1 97,ZT 99 (.p (.build (.ints 2) [(0,1,(ZQ 4)),(1,1,(.t 98))])),Z1 100 0 128 7,ZT 101 (.p (.ixa 64 2 (.t 100) (.t 96))),Z0 2 101 99]))
 .skip))))))
 (.seq (.ops [Z1 102 128 1 2,ZY 103 false 1 102,ZT 104 (Zg 30 [(.t 103)]),Z1 105 128 1 7,Z0 1 105 104])
 (.seq (.par [ZY 106 true 133 2,ZT 107 (Zh 83 [(.t 106)]),Z1 108 0 1 3,ZY 109 false 1 108,ZT 110 (Zh 84 [(.t 109)]),ZT 111 (Zh 82 [(.t 107),(.t 110)]),Z1 112 1 1 3,ZY 113 false 1 112,ZT 114 (Zg 84 [(.t 113)]),ZT 115 (Zg 82 [(.t 111),(.t 114)]),Z1 116 129 1 7,Z0 1 116 115])
 (.seq (.ops [Z1 117 130 1 7,
 ⟨none,none,.h (.store 1 (.t 117) (ZQ (-1)))⟩])
 (.seq (.seq (.ops [ZY 118 true 2 6,ZY 119 true 3 3,ZT 120 (Zg 85 [(.t 118),(.t 119)])])
 (.cond (.t 120)
 (.ops [Z1 121 0 1 3,ZY 122 false 1 121,Z1 123 1 1 3,ZY 124 false 1 123,Z3 125 .add 122 124,Z4 126 .quo 125 2,Z1 127 130 1 7,Z0 1 127 126])
 .skip))
 (.seq (.ops [Z1 128 131 1 2,ZY 129 false 1 128,ZT 130 (.p (.mn [(.t 129),(ZQ 1023)])),Z4 131 .add 130 1,Z1 132 131 1 7,Z0 1 132 131])
 (.seq (.seq (.ops [Z1 133 0 1 6,ZY 134 false 1 133,Z4 135 .eql 134 1,ZU 136 135,ZV 137 136 false 8,Z6 138 136 false .geq 137 0,Z8 139 136 138])
 (.cond (.t 139)
 (.ops [Z1 140 131 1 7,
 ⟨none,none,.h (.store 1 (.t 140) (ZQ 0))⟩])
 .skip))
 (.seq (.seq (.ops [Z1 141 128 1 2,ZY 142 false 1 141,Z4 143 .eql 142 1])
 (.cond (.t 143)
 (.ops [Z1 144 132 1 2,ZY 145 false 1 144,ZT 146 (.p (.mn [(.t 145),(ZQ 16383)])),Z4 147 .add 146 1,Z1 148 132 1 7,Z0 1 148 147])
 .skip))
 (.seq (.ops [ZY 149 true 133 7,Z0 133 4 149,ZW 5 0])
 .ret)))))))))))))))))))⟩
noncomputable def a61:AF:=⟨28,[.tmp 4],
 (.seq (.ops [ZT 2 (.h (.box (.t 0))),ZT 3 (.h (.box (.t 1))),ZX 4 false])
 (.seq (.ops [Z1 5 0 1 3,ZY 6 false 1 5,Z1 7 0 128 2,ZT 8 (.p (.ixa 64 2 (.t 7) (.t 6))),Z1 9 0 1 8,ZY 10 false 1 9,Z4 11 .eql 10 6,ZU 12 11,Z2 13 12 true 1 1 3,ZZ 14 12 true false 1 13,Z2 15 12 true 0 1 3,ZZ 16 12 true false 1 15,Z6 17 12 true .add 16 2,Z5 18 12 true .eql 14 17,ZV 19 12 true 18,Z2 20 19 false 1 1 3,ZZ 21 19 false false 1 20,Z2 22 19 false 0 1 3,ZZ 23 19 false false 1 22,Z6 24 19 false .sub 23 2,Z5 25 19 false .eql 21 24,ZS 26 12 true (.p (.pick (.t 19) (ZR true) (.t 25))),Z7 27 12 26,ZU 4 27])
 .ret))⟩
noncomputable def a62:AF:=⟨63,[.tmp 2],
 (.seq (.ops [ZT 1 (.h (.box (.t 0))),ZX 2 false])
 (.seq (.ops [ZT 6 (.p (.build (.ints 2) [])),ZT 3 (.h (.alloc (.ints 2))),Z0 2 3 6])
 (.seq (.seq (.ops [ZW 4 0])
 (.block 0 (.loop (.seq (.seq (.ops [ZU 7 4,Z4 8 .lss 7 64])
 (.cond (.t 8)
 .skip
 (.exit 0)))
 (.seq (.block 1 (.seq (.ops [ZU 11 4,Z1 12 0 128 1,ZT 13 (.p (.ixa 64 2 (.t 12) (.t 11))),ZY 14 true 2 13,ZT 5 (.h (.alloc (.ints 2))),Z0 2 5 14])
 (.seq (.seq (.ops [ZY 15 true 2 5,ZT 16 (Zg 86 [(.t 15)]),ZT 17 (.p (.un .not (.t 16))),ZU 18 17,ZZ 19 18 true true 2 5,ZS 20 18 true (Zg 87 [(.t 19)]),ZS 21 18 true (.p (.un .not (.t 20))),Z7 22 18 21,ZU 23 22,Z2 24 23 false 0 1 5,ZZ 25 23 false false 1 24,Z6 26 23 false .eql 25 1,ZV 27 23 false 26,ZV 28 27 true 4,Z6 29 27 true .lss 28 8,ZV 30 27 true 29,ZV 31 30 false 4,Z6 32 30 false .geq 31 56,ZS 33 27 true (.p (.pick (.t 30) (ZR true) (.t 32))),ZS 34 23 false (.p (.pick (.t 27) (.t 33) (ZR false))),Z8 35 23 34])
 (.cond (.t 35)
 (.seq (.ops [ZX 2 false])
 .ret)
 .skip))
 (.seq (.ops [Z1 36 0 1 5,ZY 37 false 1 36,Z4 38 .eql 37 6])
 (.cond (.t 38)
 (.ops [Z1 39 1 1 5,ZY 40 false 1 39,ZT 41 (.p (.ixa 2 1 (.t 3) (.t 40))),ZY 42 false 1 41,Z4 43 .add 42 1,ZT 44 (.p (.ixa 2 1 (.t 3) (.t 40))),Z0 1 44 43])
 .skip)))))
 (.ops [ZU 9 4,Z4 10 .add 9 1,ZU 4 10]))))))
 (.seq (.ops [ZT 45 (.p (.ixa 2 1 (.t 3) (ZQ 0))),ZY 46 false 1 45,Z4 47 .eql 46 1,ZU 48 47,ZS 49 48 true (.p (.ixa 2 1 (.t 3) (ZQ 1))),ZZ 50 48 true false 1 49,Z6 51 48 true .eql 50 1,Z7 52 48 51,ZU 53 52,Z2 54 53 true 128 1 1,ZZ 55 53 true false 1 54,Z6 56 53 true .eql 55 0,ZV 57 53 true 56,Z2 58 57 false 128 1 1,ZZ 59 57 false false 1 58,Z6 60 57 false .eql 59 1,ZS 61 53 true (.p (.pick (.t 57) (ZR true) (.t 60))),Z7 62 53 61,ZU 2 62])
 .ret))))⟩
noncomputable def a63:AF:=⟨48,[.tmp 2],
 (.seq (.ops [ZT 1 (.h (.box (.t 0))),ZX 2 false])
 (.seq (.ops [Z1 4 129 1 1,ZY 5 false 1 4,ZU 3 5])
 (.seq (.seq (.ops [ZU 6 3,Z4 7 .lss 6 0,ZU 8 7,ZV 9 8 false 3,Z6 10 8 false .gtr 9 15,Z8 11 8 10])
 (.cond (.t 11)
 (.seq (.ops [ZX 2 false])
 .ret)
 .skip))
 (.seq (.ops [ZU 12 3,Z4 13 .rem 12 2,Z4 14 .eql 13 0,ZU 15 14,ZZ 16 15 false true 133 1,ZS 17 15 false (Zg 88 [(.t 16),(ZQ 0),(ZQ 4),(ZQ 7)]),Z8 18 15 17,ZU 19 18,ZV 20 19 true 3,Z6 21 19 true .quo 20 2,Z6 22 19 true .rem 21 2,Z6 23 19 true .eql 22 0,ZV 24 19 true 23,ZZ 25 24 false true 133 1,ZS 26 24 false (Zg 88 [(.t 25),(ZQ 0),(ZQ 4),(ZQ 0)]),ZS 27 19 true (.p (.pick (.t 24) (ZR true) (.t 26))),Z7 28 19 27,ZU 29 28,ZV 30 29 true 3,Z6 31 29 true .quo 30 4,Z6 32 29 true .rem 31 2,Z6 33 29 true .eql 32 0,ZV 34 29 true 33,ZZ 35 34 false true 133 1,ZS 36 34 false (Zg 88 [(.t 35),(ZQ 1),(ZQ 60),(ZQ 63)]),ZS 37 29 true (.p (.pick (.t 34) (ZR true) (.t 36))),Z7 38 29 37,ZU 39 38,ZV 40 39 true 3,Z6 41 39 true .quo 40 8,Z6 42 39 true .eql 41 0,ZV 43 39 true 42,ZZ 44 43 false true 133 1,ZS 45 43 false (Zg 88 [(.t 44),(ZQ 1),(ZQ 60),(ZQ 56)]),ZS 46 39 true (.p (.pick (.t 43) (ZR true) (.t 45))),Z7 47 39 46,ZU 2 47])
 .ret))))⟩
noncomputable def a64:AF:=⟨61,[.tmp 2],
 (.seq (.ops [ZT 1 (.h (.box (.t 0))),ZX 2 false])
 (.seq (.seq (.ops [Z1 6 130 1 1,ZY 7 false 1 6,Z4 8 .eql 7 (-1)])
 (.cond (.t 8)
 (.seq (.ops [ZX 2 true])
 .ret)
 .skip))
 (.seq (.seq (.ops [Z1 9 130 1 1,ZY 10 false 1 9,Z4 11 .lss 10 0,ZU 12 11,Z2 13 12 false 130 1 1,ZZ 14 12 false false 1 13,Z6 15 12 false .gtr 14 63,Z8 16 12 15,ZU 17 16,Z2 18 17 false 131 1 1,ZZ 19 17 false false 1 18,Z6 20 17 false .neq 19 0,Z8 21 17 20])
 (.cond (.t 21)
 (.seq (.ops [ZX 2 false])
 .ret)
 .skip))
 (.seq (.ops [ZT 22 (.p (.build (.ints 2) [(0,1,(ZQ 1)),(1,1,(ZQ 1))])),ZT 5 (.h (.alloc (.ints 2))),ZW 3 5,ZW 4 8,Z0 2 5 22])
 (.seq (.seq (.ops [Z1 23 128 1 1,ZY 24 false 1 23,Z4 25 .eql 24 1])
 (.cond (.t 25)
 (.ops [ZT 26 (.p (.build (.ints 2) [(0,1,(ZQ 1)),(1,1,(ZQ 0))])),ZW 3 2,ZW 4 (-8),Z0 2 5 26])
 .skip))
 (.seq (.par [Z1 27 130 1 1,ZY 28 false 1 27,Z4 29 .quo 28 8,ZU 30 3,Z3 31 .eql 29 30,ZU 32 31,Z2 33 32 true 130 1 1,ZZ 34 32 true false 1 33,Z2 35 32 true 0 128 1,ZS 36 32 true (.p (.ixa 64 2 (.t 35) (.t 34))),ZZ 37 32 true true 2 36,ZS 38 32 true (Zg 86 [(.t 37)]),Z7 39 32 38,ZU 40 39,Z2 41 40 true 130 1 1,ZZ 42 40 true false 1 41,ZV 43 40 true 4,Z5 44 40 true .add 42 43,Z2 45 40 true 0 128 1,ZS 46 40 true (.p (.ixa 64 2 (.t 45) (.t 44))),ZZ 47 40 true true 2 46,ZS 48 40 true (Zg 86 [(.t 47)]),Z7 49 40 48,ZU 50 49,Z2 51 50 true 130 1 1,ZZ 52 50 true false 1 51,ZV 53 50 true 4,Z5 54 50 true .sub 52 53,Z2 55 50 true 0 128 1,ZS 56 50 true (.p (.ixa 64 2 (.t 55) (.t 54))),ZZ 57 50 true true 2 56,ZZ 58 50 true true 2 5,ZS 59 50 true (.p (.eqa false 2 (.t 57) (.t 58))),Z7 60 50 59,ZU 2 60])
 .ret))))))⟩
noncomputable def a65:AF:=⟨39,[.tmp 6],
 (.seq (.ops [ZT 3 (.h (.box (.t 0))),ZT 6 (.p (.mv (.k .snil)))])
 (.seq (.ops [ZT 7 (.p (.mv (.k .snil)))])
 (.seq (.seq (.ops [ZW 8 0])
 (.block 0 (.loop (.seq (.seq (.ops [ZU 9 8,Z4 10 .lss 9 64,ZU 11 10,ZV 12 11 true 1,Z6 13 11 true .geq 12 0,Z7 14 11 13,ZU 15 14,ZV 16 15 true 1,Z6 17 15 true .lss 16 64,Z7 18 15 17])
 (.cond (.t 18)
 .skip
 (.exit 0)))
 (.seq (.block 1 (.seq (.ops [ZU 21 8,Z1 22 0 128 3,ZT 23 (.p (.ixa 64 2 (.t 22) (.t 21))),Z1 24 1 1 23,ZY 25 false 1 24,ZU 26 2,Z3 27 .eql 25 26,ZU 28 27,ZZ 29 28 true true 133 3,ZV 30 28 true 8,ZV 31 28 true 1,ZS 32 28 true (Zg 89 [(.t 29),(.t 30),(.t 31)]),Z7 33 28 32])
 (.cond (.t 33)
 (.ops [ZU 34 7,ZU 35 8,ZT 36 (.h (.mksl 1 1 (.one (.s (.int .i64 0))) [(0,(.t 35))])),ZT 37 (.h (.append 1 8 (.t 34) (.t 36))),ZU 7 37])
 .skip)))
 (.ops [ZU 19 8,Z4 20 .add 19 1,ZU 8 20]))))))
 (.seq (.ops [ZU 38 7,ZU 6 38])
 .ret))))⟩
noncomputable def a66:AF:=⟨19,[.tmp 4],
 (.seq (.ops [ZW 4 0])
 (.seq (.seq (.ops [ZU 6 0,ZT 7 (.p (.len (.t 6))),ZW 8 0])
 (.block 0 (.loop (.seq (.ops [Z3 9 .lss 8 7])
 (.seq (.cond (.t 9)
 .skip
 (.exit 0))
 (.seq (.block 1 (.seq (.ops [ZU 10 8,ZU 5 10])
 (.seq (.ops [ZU 11 1,ZU 12 0,ZU 13 5,ZT 14 (.p (.ixs 1 (.t 12) (.t 13))),ZY 15 false 1 14,ZT 16 (.h (.call (.t 11) [(.t 15)]))])
 (.cond (.t 16)
 (.seq (.ops [ZU 17 5,ZU 4 17])
 .ret)
 .skip))))
 (.ops [Z4 18 .add 8 1,ZU 8 18])))))))
 (.seq (.ops [ZW 4 (-1)])
 .ret)))⟩
noncomputable def a67:AF:=⟨57,[],
 (.seq (.ops [Z1 7 0 133 1,ZY 8 true 133 7,ZT 9 (Zg 68 [(.t 8)]),ZT 10 (.p (.len (.t 9))),ZW 11 0])
 (.block 0 (.loop (.seq (.ops [Z3 12 .lss 11 10])
 (.seq (.cond (.t 12)
 .skip
 (.exit 0))
 (.seq (.block 1 (.seq (.ops [ZT 13 (.p (.ixs 3 (.t 9) (.t 11))),ZY 14 true 3 13,ZT 4 (.h (.alloc (.ints 3))),Z0 3 4 14])
 (.seq (.seq (.ops [ZY 15 true 133 1,ZY 16 true 3 4,ZT 17 (Zg 69 [(.t 15),(.t 16)]),ZU 18 17,ZZ 19 18 true true 133 1,Z2 20 18 true 0 1 4,ZZ 21 18 true false 1 20,Z2 22 18 true 0 1 4,ZZ 23 18 true false 1 22,Z2 24 18 true 1 1 4,ZZ 25 18 true false 1 24,Z5 26 18 true .add 23 25,Z6 27 18 true .quo 26 2,ZS 28 18 true (.h (.mksl 2 1 (.one (.s (.int .i64 0))) [(0,(.t 21)),(1,(.t 27))])),ZS 29 18 true (Zg 70 [(.t 19),(.t 28)]),ZS 30 18 true (.p (.un .not (.t 29))),Z7 31 18 30])
 (.cond (.t 31)
 (.exit 1)
 .skip))
 (.seq (.ops [Z1 33 0 133 1,ZY 34 true 133 33,ZY 35 true 3 4,ZT 36 (Zg 71 [(.t 34),(.t 35)]),ZU 32 36,ZT 37 (.p (.ext (.t 32) 0)),ZT 38 (.p (.ext (.t 32) 1)),ZT 5 (.h (.alloc (.ints 133))),Z0 133 5 37,ZU 6 38])
 (.seq (.ops [ZU 39 6,Z4 40 .eql 39 0,ZU 41 40,ZZ 42 41 true true 133 5,Z2 43 41 true 0 133 1,Z2 44 41 true 128 1 43,ZZ 45 41 true false 1 44,ZS 46 41 true (Zg 21 [(.t 42),(.t 45)]),ZS 47 41 true (.p (.un .not (.t 46))),Z7 48 41 47,ZU 49 48,ZV 50 49 true 0,ZZ 51 49 true true 3 4,ZZ 52 49 true true 133 5,ZS 53 49 true (.h (.call (.t 50) [(.t 51),(.t 52)])),ZS 54 49 true (.p (.un .not (.t 53))),Z7 55 49 54])
 (.cond (.t 55)
 .ret
 .skip))))))
 (.ops [Z4 56 .add 11 1,ZU 11 56])))))))⟩
noncomputable def Jx:RD:=rdOf Tryz.f68
noncomputable def g68:AC:=(.ops [ZT 3 (.h (.alloc (.ints 136))),Z0 136 3 6])
noncomputable def b68:AC:=(.block 1 (.par [ZY 7 false 1 2,ZY 8 true 136 3,ZY 9 true 136 3,ZT 10 (Zh 92 [(.t 9)]),ZT 11 (Zh 91 [(.t 8),(.t 10)]),ZT 12 (.h (.append 3 24 (.t 7) (.t 11))),Z0 1 2 12]))
noncomputable def a68:AF:=⟨16,[.cell 2 false 1],
 (.seq (.ops [ZT 1 (.h (.box (.t 0))),ZT 2 (.h (.alloc (.one .snil)))])
 (.seq (.seq (.ops [ZY 4 true 133 1,ZT 5 (Zg 90 [(.t 4)])])
 (.block 0 (.rfn (.t 5) 6 Jx)))
 (.seq (.ops [ZY 13 false 1 2,ZT 14 (.h (.call (.k (.fn 93 [])) [(.t 13),(.k (.fn 94 []))]))])
 (.seq (.ops [ZY 15 false 1 2,Z0 1 2 15])
 .ret))))⟩
noncomputable def a69:AF:=⟨27,[.tmp 4],
 (.seq (.ops [ZT 2 (.h (.box (.t 0))),ZT 3 (.h (.box (.t 1))),ZX 4 false])
 (.seq (.ops [Z1 6 1 1 3,ZY 7 false 1 6,Z1 8 0 1 3,ZY 9 false 1 8,Z3 10 .sub 7 9,ZU 5 10])
 (.seq (.ops [Z1 11 0 1 3,ZY 12 false 1 11,Z1 13 0 133 2,Z1 14 0 128 13,ZT 15 (.p (.ixa 64 2 (.t 14) (.t 12))),Z1 16 0 1 15,ZY 17 false 1 16,Z4 18 .eql 17 6,ZU 19 18,ZV 20 19 true 5,Z6 21 19 true .eql 20 2,ZV 22 19 true 21,ZV 23 22 false 5,Z6 24 22 false .eql 23 (-2),ZS 25 19 true (.p (.pick (.t 22) (ZR true) (.t 24))),Z7 26 19 25,ZU 4 26])
 .ret)))⟩
noncomputable def a70:AF:=⟨14,[.tmp 4],
 (.seq (.ops [ZT 2 (.h (.box (.t 0))),ZX 4 false])
 (.seq (.par [Z1 5 0 133 2,ZY 6 true 133 5,Z1 7 0 133 2,Z1 8 128 1 7,ZY 9 false 1 8,ZT 10 (Zh 22 [(.t 9)]),ZU 11 1,ZT 12 (Zg 33 [(.t 6),(.t 10),(.t 11)]),ZT 13 (.p (.un .not (.t 12))),ZU 4 13])
 .ret))⟩
noncomputable def a71:AF:=⟨20,[.cell 4 true 133,.tmp 5],
 (.seq (.ops [ZT 2 (.h (.box (.t 0))),ZT 3 (.h (.box (.t 1))),ZT 4 (.h (.alloc (.ints 133))),ZW 5 0])
 (.seq (.ops [ZY 9 true 133 2,ZY 10 true 3 3,ZT 11 (Zg 95 [(.t 9),(.t 10)]),ZU 8 11,ZT 12 (.p (.ext (.t 8) 0)),ZT 13 (.p (.ext (.t 8) 1)),ZU 6 12,ZU 7 13])
 (.seq (.seq (.ops [ZU 14 7,Z4 15 .neq 14 0])
 (.cond (.t 15)
 (.seq (.ops [ZT 16 (.p (.build (.ints 133) [])),ZU 17 7,Z0 133 4 16,ZU 5 17])
 .ret)
 .skip))
 (.seq (.ops [ZU 18 6,ZT 19 (Zg 96 [(.t 18)]),Z0 133 4 19,ZW 5 0])
 .ret))))⟩
noncomputable def a72:AF:=⟨32,[],
 (.seq (.ops [Z1 7 0 133 1,Z1 8 0 128 7,ZY 9 true 128 8,ZW 10 0])
 (.block 0 (.loop (.seq (.ops [Z4 11 .lss 10 64])
 (.seq (.cond (.t 11)
 .skip
 (.exit 0))
 (.seq (.block 1 (.seq (.ops [ZU 12 10,ZT 13 (.p (.ix 64 2 true (.t 9) (.t 10))),ZT 6 (.h (.alloc (.ints 2))),ZU 5 12,Z0 2 6 13])
 (.seq (.parc [[0,1,2,3,4,5,6,7,8,9,10,11,12,13,14,15,16],[0,1,2,3,4,5,6,7,8,9,10,11,13,12,14,15,16],[0,1,2,3,4,5,6,8,7,9,10,11,12,13,14,15,16],[0,1,2,3,4,5,6,8,7,9,10,11,13,12,14,15,16],[0,1,2,3,4,5,8,6,7,9,10,11,12,13,14,15,16],[0,1,2,3,4,5,8,6,7,9,10,11,13,12,14,15,16],[0,1,2,3,4,6,5,7,8,9,10,11,12,13,14,15,16],[0,1,2,3,4,6,5,7,8,9,10,11,13,12,14,15,16],[0,1,2,3,4,6,5,8,7,9,10,11,12,13,14,15,16],[0,1,2,3,4,6,5,8,7,9,10,11,13,12,14,15,16],[0,1,2,3,4,6,8,5,7,9,10,11,12,13,14,15,16],[0,1,2,3,4,6,8,5,7,9,10,11,13,12,14,15,16],[0,1,2,3,4,8,5,6,7,9,10,11,12,13,14,15,16],[0,1,2,3,4,8,5,6,7,9,10,11,13,12,14,15,16],[0,1,2,3,4,8,6,5,7,9,10,11,12,13,14,15,16],[0,1,2,3,4,8,6,5,7,9,10,11,13,12,14,15,16],[0,2,1,3,4,5,6,7,8,9,10,11,12,13,14,15,16],[0,2,1,3,4,5,6,7,8,9,10,11,13,12,14,15,16],[0,2,1,3,4,5,6,8,7,9,10,11,12,13,14,15,16],[0,2,1,3,4,5,6,8,7,9,10,11,13,12,14,15,16],[0,2,1,3,4,5,8,6,7,9,10,11,12,13,14,15,16],[0,2,1,3,4,5,8,6,7,9,10,11,13,12,14,15,16],[0,2,1,3,4,6,5,7,8,9,10,11,12,13,14,15,16],[0,2,1,3,4,6,5,7,8,9,10,11,13,12,14,15,16],[0,2,1,3,4,6,5,8,7,9,10,11,12,13,14,15,16],[0,2,1,3,4,6,5,8,7,9,10,11,13,12,14,15,16],[0,2,1,3,4,6,8,5,7,9,10,11,12,13,14,15,16],[0,2,1,3,4,6,8,5,7,9,10,11,13,12,14,15,16],[0,2,1,3,4,8,5,6,7,9,10,11,12,13,14,15,16],[0,2,1,3,4,8,5,6,7,9,10,11,13,12,14,15,16],[0,2,1,3,4,8,6,5,7,9,10,11,12,13,14,15,16],[0,2,1,3,4,8,6,5,7,9,10,11,13,12,14,15,16],[2,0,1,3,4,5,6,7,8,9,10,11,12,13,14,15,16],[2,0,1,3,4,5,6,7,8,9,10,11,13,12,14,15,16],[2,0,1,3,4,5,6,8,7,9,10,11,12,13,14,15,16],[2,0,1,3,4,5,6,8,7,9,10,11,13,12,14,15,16],[2,0,1,3,4,5,8,6,7,9,10,11,12,13,14,15,16],[2,0,1,3,4,5,8,6,7,9,10,11,13,12,14,15,16],[2,0,1,3,4,6,5,7,8,9,10,11,12,13,14,15,16],[2,0,1,3,4,6,5,7,8,9,10,11,13,12,14,15,16],[2,0,1,3,4,6,5,8,7,9,10,11,12,13,14,15,16],[2,0,1,3,4,6,5,8,7,9,10,11,13,12,14,15,16],[2,0,1,3,4,6,8,5,7,9,10,11,12,13,14,15,16],[2,0,1,3,4,6,8,5,7,9,10,11,13,12,14,15,16],[2,0,1,3,4,8,5,6,7,9,10,11,12,13,14,15,16],[2,0,1,3,4,8,5,6,7,9,10,11,13,12,14,15,16],[2,0,1,3,4,8,6,5,7,9,10,11,12,13,14,15,16],[2,0,1,3,4,8,6,5,7,9,10,11,13,12,14,15,16]] [Z1 14 1 1 6,ZY 15 false 1 14,ZY 16 false 1 2,Z3 17 .eql 15 16,ZU 18 17,ZZ 19 18 true true 133 1,ZV 20 18 true 5,ZS 21 18 true (Zg 74 [(.t 19),(.t 20)]),ZZ 22 18 true false 1 3,ZS 23 18 true (Zg 73 [(.t 21),(.t 22)]),Z7 24 18 23,ZU 25 24,ZV 26 25 true 0,ZV 27 25 true 5,ZS 28 25 true (.h (.call (.t 26) [(.t 27)])),ZS 29 25 true (.p (.un .not (.t 28))),Z7 30 25 29])
 (.cond (.t 30)
 .ret
 .skip))))
 (.ops [Z4 31 .add 10 1,ZU 10 31])))))))⟩
noncomputable def a73:AF:=⟨9,[.tmp 4],
 (.seq (.ops [ZX 4 false])
 (.seq (.ops [ZU 5 0,ZU 6 1,ZT 7 (Zg 97 [(.t 5),(.t 6)]),Z4 8 .geq 7 0,ZU 4 8])
 .ret))⟩
noncomputable def a74:AF:=⟨69,[.tmp 4],
 (.seq (.ops [ZT 2 (.h (.box (.t 0))),ZT 4 (.p (.mv (.k .snil)))])
 (.seq (.ops [ZU 10 1,Z1 11 0 133 2,Z1 12 0 128 11,ZT 13 (.p (.ixa 64 2 (.t 12) (.t 10))),ZY 14 true 2 13,ZT 5 (.h (.alloc (.ints 2))),Z0 2 5 14])
 (.seq (.ops [ZW 6 1])
 (.seq (.seq (.ops [Z1 15 1 1 5,ZY 16 false 1 15])
 (.block 0 (.seq (.ops [Z4 18 .eql 16 1,ZU 17 18])
 (.cond (.t 17)
 (.ops [ZW 6 (-1)])
 (.seq (.ops [Z4 20 .eql 16 0,ZU 19 20])
 (.cond (.t 19)
 .skip
 (.seq (.ops [ZT 4 (.p (.mv (.k .snil)))])
 .ret)))))))
 (.seq (.ops [ZT 21 (Zg 98 []),ZT 22 (Zg 99 []),ZT 7 (.h (.alloc (.ints 8))),ZT 8 (.h (.alloc (.ints 8))),Z0 8 7 21,Z0 8 8 22])
 (.seq (.seq (.ops [Z1 23 0 1 5,ZY 24 false 1 23])
 (.block 1 (.seq (.ops [Z4 26 .eql 24 1,ZU 25 26])
 (.cond (.t 25)
 (.seq (.ops [ZU 27 1,ZU 28 6,ZT 29 (.p (.build (.ints 2) [(0,1,(ZQ (-1))),(1,1,(.t 28))])),ZU 30 6,ZT 31 (.p (.build (.ints 2) [(0,1,(ZQ 1)),(1,1,(.t 30))])),ZT 32 (.h (.mksl 2 2 (.ints 2) [(0,(.t 29)),(1,(.t 31))])),ZT 33 (Zg 100 [(.t 27),(.t 32)]),ZU 4 33])
 .ret)
 (.seq (.ops [Z4 35 .eql 24 2,ZU 34 35])
 (.cond (.t 34)
 (.seq (.ops [ZT 36 (Zg 101 []),ZT 9 (.h (.alloc (.ints 16))),Z0 16 9 36])
 (.seq (.ops [ZU 37 1,ZT 38 (.p (.slA 8 2 (.t 9) none none)),ZT 39 (Zg 100 [(.t 37),(.t 38)]),ZU 4 39])
 .ret))
 (.seq (.ops [Z4 41 .eql 24 6,ZU 40 41])
 (.cond (.t 40)
 (.seq (.par [ZU 42 1,ZT 43 (.p (.slA 4 2 (.t 7) none none)),ZT 44 (.p (.slA 4 2 (.t 8) none none)),ZT 45 (.h (.mksl 2 1 (.one .snil) [(0,(.t 43)),(1,(.t 44))])),ZT 46 (Zg 102 [(.t 45)]),ZT 47 (Zg 100 [(.t 42),(.t 46)]),ZU 4 47])
 .ret)
 (.seq (.ops [Z4 49 .eql 24 4,ZU 48 49])
 (.cond (.t 48)
 (.seq (.par [ZY 50 true 133 2,ZU 51 1,ZT 52 (.p (.slA 4 2 (.t 7) none none)),ZT 53 (Zg 103 [(.t 50),(.t 51),(.t 52)]),ZU 4 53])
 .ret)
 (.seq (.ops [Z4 55 .eql 24 3,ZU 54 55])
 (.cond (.t 54)
 (.seq (.par [ZY 56 true 133 2,ZU 57 1,ZT 58 (.p (.slA 4 2 (.t 8) none none)),ZT 59 (Zg 103 [(.t 56),(.t 57),(.t 58)]),ZU 4 59])
 .ret)
 (.seq (.ops [Z4 61 .eql 24 5,ZU 60 61])
 (.cond (.t 60)
 (.seq (.par [ZY 62 true 133 2,ZU 63 1,ZT 64 (.p (.slA 4 2 (.t 7) none none)),ZT 65 (.p (.slA 4 2 (.t 8) none none)),ZT 66 (.h (.mksl 2 1 (.one .snil) [(0,(.t 64)),(1,(.t 65))])),ZT 67 (Zh 102 [(.t 66)]),ZT 68 (Zg 103 [(.t 62),(.t 63),(.t 67)]),ZU 4 68])
 .ret)
 .skip))))))))))))))
 (.seq (.ops [ZT 4 (.p (.mv (.k .snil)))])
 .ret)))))))⟩
noncomputable def a75:AF:=⟨34,[.cell 6 true 2],
 (.seq (.ops [ZT 3 (.h (.box (.t 0))),ZT 6 (.h (.alloc (.ints 2)))])
 (.seq (.seq (.ops [Z1 7 2 1 3,ZY 8 false 1 7,ZT 9 (.p (.un .not (.t 8))),ZU 10 9,ZV 11 10 false 1,ZV 12 10 false 2,ZS 13 10 false (.p (.mx [(.t 11),(.t 12)])),Z6 14 10 false .geq 13 8,Z8 15 10 14,ZU 16 15,ZV 17 16 false 1,ZV 18 16 false 2,ZS 19 16 false (.p (.mn [(.t 17),(.t 18)])),Z6 20 16 false .leq 19 (-8),Z8 21 16 20])
 (.cond (.t 21)
 (.seq (.ops [ZT 22 (.p (.build (.ints 2) [(0,1,(ZQ (-1))),(1,1,(ZQ (-1)))])),Z0 2 6 22])
 .ret)
 .skip))
 (.seq (.ops [Z1 23 0 2 3,Z1 24 0 1 23,ZY 25 false 1 24,ZU 26 1,Z3 27 .add 25 26,Z1 28 0 2 3,Z1 29 1 1 28,ZY 30 false 1 29,ZU 31 2,Z3 32 .add 30 31,ZT 33 (.p (.build (.ints 2) [(0,1,(.t 27)),(1,1,(.t 32))])),Z0 2 6 33])
 .ret)))⟩
noncomputable def a76:AF:=⟨13,[.tmp 2],
 (.seq (.ops [ZT 1 (.h (.box (.t 0))),ZX 2 false])
 (.seq (.ops [Z1 3 0 1 1,ZY 4 false 1 3,ZT 5 (.p (.conv .u64 (.t 4))),ZT 6 (.p (.bin .lss (.t 5) (.k (.s (.int .u64 8))))),ZU 7 6,Z2 8 7 true 1 1 1,ZZ 9 7 true false 1 8,ZS 10 7 true (.p (.conv .u64 (.t 9))),ZS 11 7 true (.p (.bin .lss (.t 10) (.k (.s (.int .u64 8))))),Z7 12 7 11,ZU 2 12])
 .ret))⟩
end Go.Proofs.YtlkighkfkdpncaaGreat
