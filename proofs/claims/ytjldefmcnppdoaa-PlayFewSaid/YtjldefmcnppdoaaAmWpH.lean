/- The abstract machine by assertions: the steps that touch blocks. -/
import Derived.Test.YtjldefmcnppdoaaAmWpP
namespace Go.Am
open Go

section
variable {A : AP} {N : Nat} {f : FE} {n : Nat} {L : HA} {K : KN} {l : List I} {d : Nat}

theorem WO_allocB {z : Z} {B : Blk} (hB : z.blk = B) (k : WO A N l (upd f d (.ptr n 0 z.size)) (n + 1) ((n, B) :: L) K) : WO A N (⟨some d, none, .h (.alloc z)⟩ :: l) f n L K :=
  WO_h (v := .ptr n 0 z.size) (fun σ h => ⟨σ ++ [B], by simp only [heapV, h.1, hB], h.new B⟩) k

theorem WO_allocI {m : Nat} (k : WO A N l (upd f d (.ptr n 0 m)) (n + 1) ((n, .sc .var m (ia fun _ => 0)) :: L) K) : WO A N (⟨some d, none, .h (.alloc (.ints m))⟩ :: l) f n L K :=
  WO_allocB (z := .ints m) rfl k

theorem WO_allocL {xs : List S} {m : Nat} (hm : xs.length = m) (k : WO A N l (upd f d (.ptr n 0 m)) (n + 1) ((n, .sc .var m (lc xs)) :: L) K) : WO A N (⟨some d, none, .h (.alloc (.scl xs))⟩ :: l) f n L K := by
  subst hm
  exact WO_allocB (z := .scl xs) rfl k

theorem WO_allocS {x : S} (k : WO A N l (upd f d (.ptr n 0 1)) (n + 1) ((n, .sc .var 1 (fun _ => x)) :: L) K) : WO A N (⟨some d, none, .h (.alloc (.one (.s x)))⟩ :: l) f n L K :=
  WO_allocB (z := .one (.s x)) rfl k

theorem WO_boxA {x : O} {m : Nat} {g : Nat → S} (hx : x.fv N f = .agg m g) (k : WO A N l (upd f d (.ptr n 0 m)) (n + 1) ((n, .sc .var m g) :: L) K) : WO A N (⟨some d, none, .h (.box x)⟩ :: l) f n L K :=
  WO_h (v := .ptr n 0 m) (fun σ h => ⟨σ ++ [.sc .var m g], by simp only [heapV, ev_E, hx, boxB, h.1], h.new _⟩) k

theorem WO_boxI {x : O} {kd : IntKind} {a : Int} (hx : x.fv N f = .s (.int kd a)) (k : WO A N l (upd f d (.ptr n 0 1)) (n + 1) ((n, .sc .var 1 (fun _ => .int kd a)) :: L) K) : WO A N (⟨some d, none, .h (.box x)⟩ :: l) f n L K :=
  WO_h (v := .ptr n 0 1) (fun σ h => ⟨σ ++ [.sc .var 1 fun _ => .int kd a], by simp only [heapV, ev_E, hx, boxB, h.1], h.new _⟩) k

theorem WO_boxS {x : O} {a : S} (hx : x.fv N f = .s a) (k : WO A N l (upd f d (.ptr n 0 1)) (n + 1) ((n, .sc .var 1 (fun _ => a)) :: L) K) : WO A N (⟨some d, none, .h (.box x)⟩ :: l) f n L K :=
  WO_h (v := .ptr n 0 1) (fun σ h => ⟨σ ++ [.sc .var 1 fun _ => a], by simp only [heapV, ev_E, hx, boxB, h.1], h.new _⟩) k

theorem WO_boxV {x : O} {v : V} (hx : x.fv N f = v) (hv : boxB v = some (.vs .var [v])) (k : WO A N l (upd f d (.ptr n 0 1)) (n + 1) ((n, .vs .var [v]) :: L) K) : WO A N (⟨some d, none, .h (.box x)⟩ :: l) f n L K :=
  WO_h (v := .ptr n 0 1) (fun σ h => ⟨σ ++ [.vs .var [v]], by simp [heapV, ev_E, hx, hv, h.1], h.new _⟩) k

theorem WO_ldA {m : Nat} {a : O} {b o z : Nat} {md : Md} {q : Nat} {g g' : Nat → S} (ha : a.fv N f = .ptr b o z) (hz : Nat.ble m z = true) (hm : (b, Blk.sc md q g) ∈ L) (hg : (fun i => g (o + i)) = g') (k : WO A N l (upd f d (.agg m g')) n L K) : WO A N (⟨some d, none, .h (.load true m a)⟩ :: l) f n L K :=
  WO_h (v := .agg m g') (fun σ h => ⟨σ, by simp only [heapV, ev_E, ha, if_pos (Nat.le_of_ble_eq_true hz), rdV, (h.2.mem hm).2, cond_true, Option.map_some, hg], h⟩) k

/-- A part of cells that are whole numbers. -/
abbrev dp (P : Nat → Int) (o : Nat) : Nat → Int := fun i => P (o + i)

theorem WO_ldAI {m : Nat} {a : O} {b o z : Nat} {md : Md} {q : Nat} {P : Nat → Int} (ha : a.fv N f = .ptr b o z) (hz : Nat.ble m z = true) (hm : (b, Blk.sc md q (ia P)) ∈ L) (k : WO A N l (upd f d (.agg m (ia (dp P o)))) n L K) : WO A N (⟨some d, none, .h (.load true m a)⟩ :: l) f n L K :=
  WO_ldA ha hz hm rfl k

theorem WO_ldA0 {m : Nat} {a : O} {b z : Nat} {md : Md} {q : Nat} {g : Nat → S} (ha : a.fv N f = .ptr b 0 z) (hz : Nat.ble m z = true) (hm : (b, Blk.sc md q g) ∈ L) (k : WO A N l (upd f d (.agg m g)) n L K) : WO A N (⟨some d, none, .h (.load true m a)⟩ :: l) f n L K :=
  WO_ldA ha hz hm (by simp) k

theorem WO_ldS {a : O} {b o z : Nat} {md : Md} {q : Nat} {g : Nat → S} {x : S} (ha : a.fv N f = .ptr b o z) (hz : Nat.ble 1 z = true) (hm : (b, Blk.sc md q g) ∈ L) (hg : g o = x) (k : WO A N l (upd f d (.s x)) n L K) : WO A N (⟨some d, none, .h (.load false 1 a)⟩ :: l) f n L K :=
  WO_h (v := .s x) (fun σ h => ⟨σ, by simp only [heapV, ev_E, ha, if_pos (Nat.le_of_ble_eq_true hz), rdV, (h.2.mem hm).2, cond_false, Option.map_some, hg], h⟩) k

theorem WO_ldI {a : O} {b o z : Nat} {md : Md} {q : Nat} {P : Nat → Int} {x : Int} (ha : a.fv N f = .ptr b o z) (hz : Nat.ble 1 z = true) (hm : (b, Blk.sc md q (ia P)) ∈ L) (hg : P o = x) (k : WO A N l (upd f d (.s (.int .i64 x))) n L K) : WO A N (⟨some d, none, .h (.load false 1 a)⟩ :: l) f n L K :=
  WO_ldS ha hz hm (by rw [← hg]) k

theorem WO_ldV {a : O} {b o z : Nat} {md : Md} {vs : List V} {v : V} (ha : a.fv N f = .ptr b o z) (hz : Nat.ble 1 z = true) (hm : (b, Blk.vs md vs) ∈ L) (hg : vs[o]? = some v) (k : WO A N l (upd f d v) n L K) : WO A N (⟨some d, none, .h (.load false 1 a)⟩ :: l) f n L K :=
  WO_h (v := v) (fun σ h => ⟨σ, by simp only [heapV, ev_E, ha, if_pos (Nat.le_of_ble_eq_true hz), rdV, (h.2.mem hm).2, cond_false, Option.map_some, hg], h⟩) k

theorem WO_st {m : Nat} {a x : O} {b o z : Nat} {md : Md} {q : Nat} {g h g' : Nat → S} {v : V} {L' : HA} (ha : a.fv N f = .ptr b o z) (hx : x.fv N f = v) (hv : v.scells m = some h) (hz : Nat.ble m z = true) (hmd : md.mut = true) (hg : over g o m h = g')
    (hm : At b (.sc md q g) (.sc md q g') L L') (k : WO A N l f n L' K) : WO A N (⟨none, none, .h (.store m a x)⟩ :: l) f n L K :=
  WO_h (v := .undef) (fun σ hσ => ⟨σ.set b (.sc md q g'), by simp only [heapV, ev_E, ha, if_pos (Nat.le_of_ble_eq_true hz), wrV, (hσ.2.mem hm.mem).2, hmd, if_true, hx, hv, Option.map_some, hg], hσ.set hm⟩) k

theorem WO_stI {a x : O} {b o z : Nat} {md : Md} {q : Nat} {P : Nat → Int} {y : Int} {L' : HA} (ha : a.fv N f = .ptr b o z) (hx : x.fv N f = .s (.int .i64 y)) (hz : Nat.ble 1 z = true) (hmd : md.mut = true)
    (hm : At b (.sc md q (ia P)) (.sc md q (ia (ov P o y))) L L') (k : WO A N l f n L' K) : WO A N (⟨none, none, .h (.store 1 a x)⟩ :: l) f n L K :=
  WO_st ha hx (by simp [V.scells]) hz hmd (over_one P o y) hm k

theorem WO_stA {m : Nat} {a x : O} {b o z : Nat} {md : Md} {q : Nat} {P Q : Nat → Int} {L' : HA} (ha : a.fv N f = .ptr b o z) (hx : x.fv N f = .agg m (ia Q)) (hz : Nat.ble m z = true) (hmd : md.mut = true)
    (hm : At b (.sc md q (ia P)) (.sc md q (ia (ovA P o m Q))) L L') (k : WO A N l f n L' K) : WO A N (⟨none, none, .h (.store m a x)⟩ :: l) f n L K :=
  WO_st ha hx (by simp [V.scells]) hz hmd (over_ia P o m Q) hm k

/-- One scalar over a block of one cell. -/
theorem WO_st1 {a x : O} {b z : Nat} {md : Md} {y w : S} {L' : HA} (ha : a.fv N f = .ptr b 0 z) (hx : x.fv N f = .s y) (hz : Nat.ble 1 z = true) (hmd : md.mut = true)
    (hm : At b (.sc md 1 (fun _ => w)) (.sc md 1 (over (fun _ => w) 0 1 fun _ => y)) L L') (k : WO A N l f n L' K) : WO A N (⟨none, none, .h (.store 1 a x)⟩ :: l) f n L K :=
  WO_st ha hx (by simp [V.scells]) hz hmd rfl hm k

/-- A whole block of mixed cells. -/
theorem over_whole {g h : Nat → S} {m : Nat} (hout : ∀ i, m ≤ i → g i = h i) : over g 0 m h = h := by
  funext i
  unfold over
  cases hb : Nat.ble 0 i && Nat.blt i (0 + m) with
  | true => rfl
  | false =>
    refine hout i (Nat.le_of_not_lt fun hi => ?_)
    have h1 : Nat.ble 0 i = true := Nat.ble_eq_true_of_le (Nat.zero_le _)
    have h2 : Nat.blt i (0 + m) = true := Nat.ble_eq_true_of_le (by omega)
    rw [h1, h2] at hb
    cases hb

theorem WO_stV {a x : O} {b o z : Nat} {md : Md} {vs vs' : List V} {v : V} {L' : HA} (ha : a.fv N f = .ptr b o z) (hx : x.fv N f = v) (hv : v.vcells 1 = some [v]) (h1 : v.one = true) (hz : Nat.ble 1 z = true) (hmd : md.mut = true) (ho : Nat.ble (o + 1) vs.length = true) (hvs : vs.take o ++ [v] ++ vs.drop (o + 1) = vs')
    (hm : At b (.vs md vs) (.vs md vs') L L') (k : WO A N l f n L' K) : WO A N (⟨none, none, .h (.store 1 a x)⟩ :: l) f n L K :=
  WO_h (v := .undef) (fun σ hσ => ⟨σ.set b (.vs md vs'), by
    simp only [heapV, ev_E, ha, if_pos (Nat.le_of_ble_eq_true hz), wrV, (hσ.2.mem hm.mem).2, hmd, if_true, hx, hv, Option.bind_some]
    rw [if_pos ⟨Nat.le_of_ble_eq_true ho, by simp [h1]⟩, hvs]; rfl, hσ.set hm⟩) k

theorem WO_mkslI {len z : Nat} {ps : List (Nat × O)} {P : Nat → Int} (hi : inside (len * z) (ps.map fun p => (p.1 * z, z, p.2)) = true) (h : Fill N f (ps.map fun p => (p.1 * z, z, p.2)) (fun _ => 0) P)
    (k : WO A N l (upd f d (.sl n 0 len z (.ex len))) (n + 1) ((n, .sc .var (len * z) (ia P)) :: L) K) : WO A N (⟨some d, none, .h (.mksl len z (.ints z) ps)⟩ :: l) f n L K :=
  WO_h (v := .sl n 0 len z (.ex len)) (fun σ hσ => ⟨σ ++ [.sc .var (len * z) (ia P)], by
    simp only [heapV, Z.row, fillRow, hi, if_true]
    rw [show (fun _ => S.zero : Nat → S) = ia (fun _ => 0) from rfl, fillI_fillS h]
    simp only [Option.map_some, hσ.1], hσ.new _⟩) k

theorem WO_mkslS {len : Nat} {ps : List (Nat × O)} {P : Nat → Int} (hi : inside len (ps.map fun p => (p.1 * 1, 1, p.2)) = true) (h : Fill N f (ps.map fun p => (p.1 * 1, 1, p.2)) (fun _ => 0) P)
    (k : WO A N l (upd f d (.sl n 0 len 1 (.ex len))) (n + 1) ((n, .sc .var len (ia P)) :: L) K) : WO A N (⟨some d, none, .h (.mksl len 1 (.one (.s (.int .i64 0))) ps)⟩ :: l) f n L K :=
  WO_h (v := .sl n 0 len 1 (.ex len)) (fun σ hσ => ⟨σ ++ [.sc .var len (ia P)], by
    simp only [heapV, Z.row, fillRow, hi, if_true]
    rw [show (fun _ => S.int .i64 0 : Nat → S) = ia (fun _ => 0) from rfl, fillI_fillS h]
    simp only [Option.map_some, hσ.1], hσ.new _⟩) k

theorem WO_append0 {z bytes : Nat} {s x : O} {b o : Nat} {md : Md} {q : Nat} {R : Nat → Int} {L' : HA} (hs : s.fv N f = .sl b o 0 z (.ex 0)) (hx : x.fv N f = .snil) (hmd : md.mut = true) (hm : At b (.sc md q (ia R)) (.sc md q (ia (ovA R (o + 0 * z) (0 * z) fun _ => 0))) L L')
    (k : WO A N l (upd f d (.sl b o 0 z (.ex 0))) n L' K) : WO A N (⟨some d, none, .h (.append z bytes s x)⟩ :: l) f n L K :=
  WO_h (v := .sl b o 0 z (.ex 0)) (fun σ hσ => ⟨σ.set b (.sc md q (ia (ovA R (o + 0 * z) (0 * z) fun _ => 0))), by
    simp only [heapV, ev_E, hs, hx, appendV, srcOf, if_true, Nat.le_refl, Nat.add_zero, wrV, (hσ.2.mem hm.mem).2, hmd, V.scells, Option.map_some]
    rw [← over_ia]
    rfl, hσ.set hm⟩) k

theorem WO_append0Z {z bytes : Nat} {s x : O} {b o : Nat} {md : Md} {q : Nat} {R : Nat → Int} {L' : HA} (hs : s.fv N f = .sl b o 0 z (.ex 0)) (hx : x.fv N f = .slz) (hmd : md.mut = true) (hm : At b (.sc md q (ia R)) (.sc md q (ia (ovA R (o + 0 * z) (0 * z) fun _ => 0))) L L')
    (k : WO A N l (upd f d (.sl b o 0 z (.ex 0))) n L' K) : WO A N (⟨some d, none, .h (.append z bytes s x)⟩ :: l) f n L K :=
  WO_h (v := .sl b o 0 z (.ex 0)) (fun σ hσ => ⟨σ.set b (.sc md q (ia (ovA R (o + 0 * z) (0 * z) fun _ => 0))), by
    simp only [heapV, ev_E, hs, hx, appendV, srcOf, if_true, Nat.le_refl, Nat.add_zero, wrV, (hσ.2.mem hm.mem).2, hmd, V.scells, Option.map_some]
    rw [← over_ia]
    rfl, hσ.set hm⟩) k

theorem WO_append00 {z bytes : Nat} {s x : O} {b o b' o' : Nat} {c : Cp} {md md' : Md} {q q' : Nat} {R R' : Nat → Int} {L' : HA} (hs : s.fv N f = .sl b o 0 z (.ex 0)) (hx : x.fv N f = .sl b' o' 0 z c) (hb : (b', Blk.sc md' q' (ia R')) ∈ L) (hmd : md.mut = true) (hm : At b (.sc md q (ia R)) (.sc md q (ia (ovA R (o + 0 * z) (0 * z) fun i => R' (o' + i)))) L L')
    (k : WO A N l (upd f d (.sl b o 0 z (.ex 0))) n L' K) : WO A N (⟨some d, none, .h (.append z bytes s x)⟩ :: l) f n L K :=
  WO_h (v := .sl b o 0 z (.ex 0)) (fun σ hσ => ⟨σ.set b (.sc md q (ia (ovA R (o + 0 * z) (0 * z) fun i => R' (o' + i)))), by
    simp only [heapV, ev_E, hs, hx, appendV, srcOf, (hσ.2.mem hb).2, if_true, Nat.le_refl, Nat.add_zero, wrV, (hσ.2.mem hm.mem).2, hmd, V.scells, Option.map_some]
    rw [← over_ia], hσ.set hm⟩) k

theorem WO_appendN {z bytes m : Nat} {s x : O} {b o b' o' : Nat} {c : Cp} {md md' : Md} {q q' : Nat} {g : Nat → S} {R : Nat → Int} (hs : s.fv N f = .sl b o 0 z (.ex 0)) (hx : x.fv N f = .sl b' o' m z c) (hm : (b, Blk.sc md q g) ∈ L) (hb : (b', Blk.sc md' q' (ia R)) ∈ L) (h0 : 0 < m) (hr : roomy m bytes = true)
    (k : WO A N l (upd f d (.sl n 0 m z .whole)) (n + 1) ((n, .sc .grow (m * z) (ia fun i => R (o' + i))) :: L) K) : WO A N (⟨some d, none, .h (.append z bytes s x)⟩ :: l) f n L K :=
  WO_h (v := .sl n 0 m z .whole) (fun σ hσ => ⟨σ ++ [.sc .grow (m * z) (ia fun i => R (o' + i))], by
    have hb0 : ∀ i, Nat.blt i 0 = false := fun i => by
      cases h : Nat.blt i 0 with
      | false => rfl
      | true => exact absurd (Nat.le_of_ble_eq_true h) (by omega)
    simp only [heapV, ev_E, hs, hx, appendV, srcOf, (hσ.2.mem hb).2, (hσ.2.mem hm).2, if_true, Nat.zero_add]
    rw [if_neg (by omega), hr]
    simp only [cond_true, joinSrc, Option.map_some, Nat.zero_mul, Nat.zero_add, hb0, cond_false, Nat.sub_zero, hσ.1], hσ.new _⟩) k

/-! Cells that are laid once, in open order. -/

theorem WO_allocd {m : Nat} (k : WO A N l (upd f d (.ptr n 0 m)) (n + 1) ((n, .dead) :: L) K) : WO A N (⟨some d, none, .h (.allocd m)⟩ :: l) f n L K :=
  WO_h (v := .ptr n 0 m) (fun σ h => ⟨σ ++ [.dead], by simp only [heapV, h.1], h.new .dead⟩) k

theorem WO_init0 {m : Nat} {a x : O} {b o z : Nat} {v : V} {h : Nat → S} (ha : a.fv N f = .ptr b o z) (hx : x.fv N f = v) (hv : v.scells m = some h) (hm : (b, Blk.dead) ∈ L) (k : WO A N l f n L K) : WO A N (⟨none, none, .h (.init0 m a x)⟩ :: l) f n L K :=
  WO_h (v := .undef) (fun σ hσ => ⟨σ, by simp only [heapV, ev_E, ha, hx, hv, (hσ.2.mem hm).2], hσ⟩) k

theorem WO_revive {m : Nat} {a x : O} {b o z : Nat} {v : V} {h : Nat → S} {L' : HA} (ha : a.fv N f = .ptr b o z) (hx : x.fv N f = v) (hv : v.scells m = some h) (hm : At b .dead (.sc .var m h) L L') (k : WO A N l f n L' K) : WO A N (⟨none, none, .h (.revive m a x)⟩ :: l) f n L K :=
  WO_h (v := .undef) (fun σ hσ => ⟨σ.set b (.sc .var m h), by simp only [heapV, ev_E, ha, hx, hv, (hσ.2.mem hm.mem).2], hσ.set hm⟩) k

theorem At_self {b : Nat} {B : Blk} : ∀ {L : HA}, (b, B) ∈ L → At b B B L L
  | (c, C) :: L, h => by
    by_cases hc : (b, B) = (c, C)
    · injection hc with h1 h2
      subst h1; subst h2
      exact .here
    · rcases List.mem_cons.1 h with h | h
      · exact absurd h hc
      · exact .there (At_self h)

end
end Go.Am
