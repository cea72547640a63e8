/- Texts of this seat, joined. -/
import Derived.IntWalk
import Derived.Test.YtlaogmemhephnaaGreatDoorAm0
import Derived.Test.YtlaogmemhephnaaGreatDoorAm1
namespace Go.Am
open Go
abbrev ia (P : Nat → Int) : Nat → S := fun i => .int .i64 (P i)
abbrev lc (l : List S) : Nat → S := fun i => l.getD i S.zero
section
variable {A : AP} {N : Nat} {f : FE} {n : Nat} {L : HA} {K : KN} {Zp : V → KN} {l : List I} {d : Nat}
theorem WO_mv {x : O} {v : V} (h : x.fv N f = v) (k : WO A N l (upd f d v) n L K Zp) : WO A N (⟨some d, none, .p (.mv x)⟩ :: l) f n L K Zp :=
 WO_p (v := v) (by rw [pureV, ev_E, h]) k
theorem WO_pick {c a b : O} {t : Bool} {v : V} (hc : c.fv N f = .s (.bool t)) (hv : (bif t then a.fv N f else b.fv N f) = v) (k : WO A N l (upd f d v) n L K Zp) : WO A N (⟨some d, none, .p (.pick c a b)⟩ :: l) f n L K Zp :=
 WO_p (v := v) (by simp only [pureV, ev_E, hc, hv]) k
theorem WO_nilckP {x : O} {b o z : Nat} (h : x.fv N f = .ptr b o z) (k : WO A N l (upd f d (.ptr b o z)) n L K Zp) : WO A N (⟨some d, none, .p (.nilck x)⟩ :: l) f n L K Zp :=
 WO_p (v := .ptr b o z) (by simp only [pureV, ev_E, h]) k
theorem WO_bin {op : BinOp} {x y : O} {a b r : S} (hx : x.fv N f = .s a) (hy : y.fv N f = .s b) (hr : binS op a b = some r) (k : WO A N l (upd f d (.s r)) n L K Zp) : WO A N (⟨some d, none, .p (.bin op x y)⟩ :: l) f n L K Zp :=
 WO_p (v := .s r) (by simp only [pureV, ev_E, hx, hy, hr, Option.map_some]) k
theorem WO_add {x y : O} {a b : Int} (hx : x.fv N f = .s (.int .i64 a)) (hy : y.fv N f = .s (.int .i64 b)) (hr : -9223372036854775808 ≤ a + b ∧ a + b ≤ 9223372036854775807) (k : WO A N l (upd f d (.s (.int .i64 (a + b)))) n L K Zp) : WO A N (⟨some d, none, .p (.bin .add x y)⟩ :: l) f n L K Zp :=
 WO_bin hx hy (by show binInt .add .i64 a b = _; rw [binInt, IntWalk.i64_in _ hr]) k
theorem WO_sub {x y : O} {a b : Int} (hx : x.fv N f = .s (.int .i64 a)) (hy : y.fv N f = .s (.int .i64 b)) (hr : -9223372036854775808 ≤ a - b ∧ a - b ≤ 9223372036854775807) (k : WO A N l (upd f d (.s (.int .i64 (a - b)))) n L K Zp) : WO A N (⟨some d, none, .p (.bin .sub x y)⟩ :: l) f n L K Zp :=
 WO_bin hx hy (by show binInt .sub .i64 a b = _; rw [binInt, IntWalk.i64_in _ hr]) k
theorem WO_mul {x y : O} {a b : Int} (hx : x.fv N f = .s (.int .i64 a)) (hy : y.fv N f = .s (.int .i64 b)) (hr : -9223372036854775808 ≤ a * b ∧ a * b ≤ 9223372036854775807) (k : WO A N l (upd f d (.s (.int .i64 (a * b)))) n L K Zp) : WO A N (⟨some d, none, .p (.bin .mul x y)⟩ :: l) f n L K Zp :=
 WO_bin hx hy (by show binInt .mul .i64 a b = _; rw [binInt, IntWalk.i64_in _ hr]) k
theorem WO_quo {x y : O} {a b : Int} (hx : x.fv N f = .s (.int .i64 a)) (hy : y.fv N f = .s (.int .i64 b)) (hr : 0 ≤ a ∧ a ≤ 9223372036854775807 ∧ 1 ≤ b) (k : WO A N l (upd f d (.s (.int .i64 (a / b)))) n L K Zp) : WO A N (⟨some d, none, .p (.bin .quo x y)⟩ :: l) f n L K Zp :=
 WO_bin hx hy (by show binInt .quo .i64 a b = _; rw [binInt, if_neg (by omega), IntWalk.i64_quo _ _ hr]) k
theorem WO_rem {x y : O} {a b : Int} (hx : x.fv N f = .s (.int .i64 a)) (hy : y.fv N f = .s (.int .i64 b)) (hr : 0 ≤ a ∧ 1 ≤ b) (k : WO A N l (upd f d (.s (.int .i64 (a % b)))) n L K Zp) : WO A N (⟨some d, none, .p (.bin .rem x y)⟩ :: l) f n L K Zp :=
 WO_bin hx hy (by show binInt .rem .i64 a b = _; rw [binInt, if_neg (by omega), Int.tmod_eq_emod_of_nonneg hr.1]) k
def eqI (n : Nat) (P Q : Nat → Int) : Bool := allB n fun i => decide (P i = Q i)
theorem eqI_iff {P Q : Nat → Int} : ∀ {n : Nat}, eqI n P Q = true ↔ ∀ i, i < n → P i = Q i
 | 0 => by simp [eqI, allB]
 | n + 1 => by
  have ih := eqI_iff (P := P) (Q := Q) (n := n)
  unfold eqI at ih ⊢
  simp only [allB, Bool.and_eq_true, ih, decide_eq_true_eq]
  exact ⟨fun ⟨h1, h2⟩ i hi => by
   by_cases he : i = n
   ·subst he; exact h2
   ·exact h1 i (by omega), fun h => ⟨fun i hi => h i (by omega), h n (by omega)⟩⟩
theorem allB_true {g : Nat → Bool} (h : ∀ i, g i = true) : ∀ n, allB n g = true
 | 0 => rfl
 | n + 1 => by simp [allB, allB_true h n, h n]
theorem WO_eqa {neg : Bool} {m : Nat} {x y : O} {P Q : Nat → Int} (hx : x.fv N f = .agg m (ia P)) (hy : y.fv N f = .agg m (ia Q)) (k : WO A N l (upd f d (.s (.bool (bif neg then !(eqI m P Q) else eqI m P Q)))) n L K Zp) : WO A N (⟨some d, none, .p (.eqa neg m x y)⟩ :: l) f n L K Zp :=
 WO_p (v := .s (.bool (bif neg then !(eqI m P Q) else eqI m P Q))) (by
  simp only [pureV, ev_E, hx, hy]
  rw [if_pos ⟨trivial, trivial⟩, allB_true (fun i => by simp [S.fits])]
  rfl) k
theorem WO_un {op : UnOp} {x : O} {a r : S} (hx : x.fv N f = .s a) (hr : unS op a = some r) (k : WO A N l (upd f d (.s r)) n L K Zp) : WO A N (⟨some d, none, .p (.un op x)⟩ :: l) f n L K Zp :=
 WO_p (v := .s r) (by simp only [pureV, ev_E, hx, hr, Option.map_some]) k
theorem WO_neg {x : O} {a : Int} (hx : x.fv N f = .s (.int .i64 a)) (hr : -9223372036854775807 ≤ a ∧ a ≤ 9223372036854775807) (k : WO A N l (upd f d (.s (.int .i64 (-a)))) n L K Zp) : WO A N (⟨some d, none, .p (.un .neg x)⟩ :: l) f n L K Zp :=
 WO_un hx (by show some (S.int .i64 (IntKind.i64.wrap (0 - a))) = _; rw [IntWalk.i64_in _ (by omega)]; simp) k
theorem WO_conv {kd kd' : IntKind} {x : O} {a : Int} (hx : x.fv N f = .s (.int kd' a)) (hr : kd.wrap a = a) (k : WO A N l (upd f d (.s (.int kd a))) n L K Zp) : WO A N (⟨some d, none, .p (.conv kd x)⟩ :: l) f n L K Zp :=
 WO_p (v := .s (.int kd a)) (by simp only [pureV, ev_E, hx, hr]) k
theorem WO_fa {off z : Nat} {x : O} {b o z' o' : Nat} (hx : x.fv N f = .ptr b o z') (hz : Nat.ble (off + z) z' = true) (ho : o + off = o') (k : WO A N l (upd f d (.ptr b o' z)) n L K Zp) : WO A N (⟨some d, none, .p (.fa off z x)⟩ :: l) f n L K Zp :=
 WO_p (v := .ptr b o' z) (by simp only [pureV, ev_E, hx, if_pos (Nat.le_of_ble_eq_true hz), ho]) k
theorem WO_fldA {off m : Nat} {x : O} {m' : Nat} {g : Nat → S} (hx : x.fv N f = .agg m' g) (hz : Nat.ble (off + m) m' = true) (k : WO A N l (upd f d (.agg m fun i => g (off + i))) n L K Zp) : WO A N (⟨some d, none, .p (.fld true off m x)⟩ :: l) f n L K Zp :=
 WO_p (v := .agg m fun i => g (off + i)) (by simp only [pureV, ev_E, hx, if_pos (Nat.le_of_ble_eq_true hz), cond_true]) k
theorem WO_fldS {off m : Nat} {x : O} {m' : Nat} {g : Nat → S} {a : S} (hx : x.fv N f = .agg m' g) (hz : Nat.ble (off + m) m' = true) (ha : g off = a) (k : WO A N l (upd f d (.s a)) n L K Zp) : WO A N (⟨some d, none, .p (.fld false off m x)⟩ :: l) f n L K Zp :=
 WO_p (v := .s a) (by simp only [pureV, ev_E, hx, if_pos (Nat.le_of_ble_eq_true hz), cond_false, ha]) k
theorem WO_ixa {len z : Nat} {x i : O} {b o z' : Nat} {kd : IntKind} {j : Int} (hx : x.fv N f = .ptr b o z') (hi : i.fv N f = .s (.int kd j)) (hz : Nat.ble (len * z) z' = true) (hj : 0 ≤ j ∧ j < len) (k : WO A N l (upd f d (.ptr b (o + j.toNat * z) z)) n L K Zp) : WO A N (⟨some d, none, .p (.ixa len z x i)⟩ :: l) f n L K Zp :=
 WO_p (v := .ptr b (o + j.toNat * z) z) (by simp only [pureV, ev_E, hx, hi, if_pos (Nat.le_of_ble_eq_true hz), if_pos hj]) k
theorem WO_ixs {z : Nat} {x i : O} {b o m : Nat} {c : Cp} {kd : IntKind} {j : Int} (hx : x.fv N f = .sl b o m z c) (hi : i.fv N f = .s (.int kd j)) (hj : 0 ≤ j ∧ j < m) (k : WO A N l (upd f d (.ptr b (o + j.toNat * z) z)) n L K Zp) : WO A N (⟨some d, none, .p (.ixs z x i)⟩ :: l) f n L K Zp :=
 WO_p (v := .ptr b (o + j.toNat * z) z) (by simp only [pureV, ev_E, hx, hi, if_true, if_pos hj]) k
theorem WO_ixS {len z : Nat} {x i : O} {m : Nat} {g : Nat → S} {kd : IntKind} {j : Int} {a : S} (hx : x.fv N f = .agg m g) (hi : i.fv N f = .s (.int kd j)) (hz : Nat.ble (len * z) m = true) (hj : 0 ≤ j ∧ j < len) (ha : g (j.toNat * z) = a) (k : WO A N l (upd f d (.s a)) n L K Zp) : WO A N (⟨some d, none, .p (.ix len z false x i)⟩ :: l) f n L K Zp :=
 WO_p (v := .s a) (by simp only [pureV, ev_E, hx, hi, if_pos (Nat.le_of_ble_eq_true hz), if_pos hj, cond_false, ha]) k
theorem WO_ixA {len z : Nat} {x i : O} {m : Nat} {g : Nat → S} {kd : IntKind} {j : Int} (hx : x.fv N f = .agg m g) (hi : i.fv N f = .s (.int kd j)) (hz : Nat.ble (len * z) m = true) (hj : 0 ≤ j ∧ j < len) (k : WO A N l (upd f d (.agg z fun i => g (j.toNat * z + i))) n L K Zp) : WO A N (⟨some d, none, .p (.ix len z true x i)⟩ :: l) f n L K Zp :=
 WO_p (v := .agg z fun i => g (j.toNat * z + i)) (by simp only [pureV, ev_E, hx, hi, if_pos (Nat.le_of_ble_eq_true hz), if_pos hj, cond_true]) k
theorem WO_ixstr {x i : O} {s : ByteArray} {kd : IntKind} {j : Int} (hx : x.fv N f = .s (.str s)) (hi : i.fv N f = .s (.int kd j)) (hj : 0 ≤ j ∧ j < s.size) (k : WO A N l (upd f d (.s (.int .u8 (s.data.getD j.toNat 0).toNat))) n L K Zp) : WO A N (⟨some d, none, .p (.ixstr x i)⟩ :: l) f n L K Zp :=
 WO_p (v := .s (.int .u8 (s.data.getD j.toNat 0).toNat)) (by simp only [pureV, ev_E, hx, hi, if_pos hj]) k
theorem WO_len {x : O} {b o m z : Nat} {c : Cp} (hx : x.fv N f = .sl b o m z c) (k : WO A N l (upd f d (.s (.int .i64 m))) n L K Zp) : WO A N (⟨some d, none, .p (.len x)⟩ :: l) f n L K Zp :=
 WO_p (v := .s (.int .i64 m)) (by simp only [pureV, ev_E, hx]) k
theorem WO_lenS {x : O} {s : ByteArray} (hx : x.fv N f = .s (.str s)) (k : WO A N l (upd f d (.s (.int .i64 s.size))) n L K Zp) : WO A N (⟨some d, none, .p (.lenS x)⟩ :: l) f n L K Zp :=
 WO_p (v := .s (.int .i64 s.size)) (by simp only [pureV, ev_E, hx]) k
theorem WO_ext {x : O} {i : Nat} {vs : List V} {v : V} (hx : x.fv N f = .tup vs) (hv : vs[i]? = some v) (k : WO A N l (upd f d v) n L K Zp) : WO A N (⟨some d, none, .p (.ext x i)⟩ :: l) f n L K Zp :=
 WO_p (v := v) (by simp only [pureV, ev_E, hx, hv]) k
theorem WO_mn {xs : List O} {vs : List V} {v : V} (hx : xs.map (O.fv N f) = vs) (hv : foldInts (fun a b => if b < a then b else a) vs = some v) (k : WO A N l (upd f d v) n L K Zp) : WO A N (⟨some d, none, .p (.mn xs)⟩ :: l) f n L K Zp :=
 WO_p (v := v) (by simp only [pureV, evs_E, hx, hv]) k
theorem WO_mx {xs : List O} {vs : List V} {v : V} (hx : xs.map (O.fv N f) = vs) (hv : foldInts (fun a b => if a < b then b else a) vs = some v) (k : WO A N l (upd f d v) n L K Zp) : WO A N (⟨some d, none, .p (.mx xs)⟩ :: l) f n L K Zp :=
 WO_p (v := v) (by simp only [pureV, evs_E, hx, hv]) k
theorem if_max (a b : Int) : (if a < b then b else a) = max a b := by rw [Int.max_def]; split <;> split <;> omega
theorem if_min (a b : Int) : (if b < a then b else a) = min a b := by rw [Int.min_def]; split <;> split <;> omega
theorem WO_mx2 {xa xb : O} {a b : Int} (ha : xa.fv N f = .s (.int .i64 a)) (hb : xb.fv N f = .s (.int .i64 b)) (k : WO A N l (upd f d (.s (.int .i64 (max a b)))) n L K Zp) : WO A N (⟨some d, none, .p (.mx [xa, xb])⟩ :: l) f n L K Zp :=
 WO_mx (vs := [.s (.int .i64 a), .s (.int .i64 b)]) (by simp only [List.map_cons, List.map_nil, ha, hb]) (by simp only [foldInts, foldInt, if_max]) k
theorem WO_mn2 {xa xb : O} {a b : Int} (ha : xa.fv N f = .s (.int .i64 a)) (hb : xb.fv N f = .s (.int .i64 b)) (k : WO A N l (upd f d (.s (.int .i64 (min a b)))) n L K Zp) : WO A N (⟨some d, none, .p (.mn [xa, xb])⟩ :: l) f n L K Zp :=
 WO_mn (vs := [.s (.int .i64 a), .s (.int .i64 b)]) (by simp only [List.map_cons, List.map_nil, ha, hb]) (by simp only [foldInts, foldInt, if_min]) k
theorem WO_mkfn {g : FuncId} {xs : List O} {vs : List V} (hx : xs.map (O.fv N f) = vs) (k : WO A N l (upd f d (.fn g vs)) n L K Zp) : WO A N (⟨some d, none, .p (.mkfn g xs)⟩ :: l) f n L K Zp :=
 WO_p (v := .fn g vs) (by simp only [pureV, evs_E, hx]) k
def fvb (N : Nat) (f : FE) (x : Option O) (d : Nat) : Option Int :=
 match x with
 | none => some d
 | some x => num? (x.fv N f)
theorem bound_E (x : Option O) (e : Nat) : bound (E N f) x e = fvb N f x e := by
 cases x with
 | none => rfl
 | some x => simp only [bound, fvb, ev_E]
theorem WO_slS {x : O} {lo hi : Option O} {s : ByteArray} {a b : Int} (hx : x.fv N f = .s (.str s)) (hl : fvb N f lo 0 = some a) (hh : fvb N f hi s.size = some b) (hab : 0 ≤ a ∧ a ≤ b ∧ b ≤ s.size) (k : WO A N l (upd f d (.s (.str (s.extract a.toNat b.toNat)))) n L K Zp) : WO A N (⟨some d, none, .p (.slS x lo hi)⟩ :: l) f n L K Zp :=
 WO_p (v := .s (.str (s.extract a.toNat b.toNat))) (by simp only [pureV, ev_E, hx, bound_E, hl, hh, if_pos hab]) k
theorem WO_build {z : Z} {ps : List (Nat × Nat × O)} {v : V} (h : ebuild (E N f) z ps = some v) (k : WO A N l (upd f d v) n L K Zp) : WO A N (⟨some d, none, .p (.build z ps)⟩ :: l) f n L K Zp :=
 WO_p (v := v) (by rw [pureV, h]) k
abbrev ov (P : Nat → Int) (o : Nat) (x : Int) : Nat → Int := fun i => bif Nat.beq i o then x else P i
abbrev ovA (P : Nat → Int) (o m : Nat) (Q : Nat → Int) : Nat → Int := fun i => bif Nat.ble o i && Nat.blt i (o + m) then Q (i - o) else P i
theorem over_ia (P : Nat → Int) (o m : Nat) (Q : Nat → Int) : over (ia P) o m (ia Q) = ia (ovA P o m Q) := by
 funext i
 unfold over
 show _ = S.int .i64 (bif Nat.ble o i && Nat.blt i (o + m) then Q (i - o) else P i)
 cases Nat.ble o i && Nat.blt i (o + m) <;> rfl
theorem over_one (P : Nat → Int) (o : Nat) (x : Int) : over (ia P) o 1 (fun _ => .int .i64 x) = ia (ov P o x) := by
 funext i
 unfold over
 have : (Nat.ble o i && Nat.blt i (o + 1)) = Nat.beq i o := by
  rw [Bool.eq_iff_iff]
  simp only [Bool.and_eq_true, Nat.ble_eq, Nat.blt_eq, Nat.beq_eq]
  omega
 rw [this]
 show _ = S.int .i64 (bif Nat.beq i o then x else P i)
 cases Nat.beq i o <;> rfl
abbrev cut (m : Nat) (Q : Nat → Int) : Nat → Int := ovA (fun _ => 0) 0 m Q
inductive Fill (N : Nat) (f : FE) : List (Nat × Nat × O) → (Nat → Int) → (Nat → Int) → Prop
 | nil {P : Nat → Int} : Fill N f [] P P
 | one {off : Nat} {x : O} {a : Int} {r : List (Nat × Nat × O)} {P Q : Nat → Int} (h : x.fv N f = .s (.int .i64 a)) (hr : Fill N f r (ov P off a) Q) : Fill N f ((off, 1, x) :: r) P Q
 | agg {off m : Nat} {x : O} {R : Nat → Int} {r : List (Nat × Nat × O)} {P Q : Nat → Int} (h : x.fv N f = .agg m (ia R)) (hr : Fill N f r (ovA P off m R) Q) : Fill N f ((off, m, x) :: r) P Q
theorem fillI_fillS {ps : List (Nat × Nat × O)} {P Q : Nat → Int} (h : Fill N f ps P Q) : fillS (E N f) ps (ia P) = some (ia Q) := by
 induction h with
 | nil => rfl
 | one h _ ih => simp only [fillS, ev_E, h, V.scells, if_true, over_one, ih]
 | agg h _ ih => simp only [fillS, ev_E, h, V.scells, if_true, over_ia, ih]
theorem WO_buildI {m : Nat} {ps : List (Nat × Nat × O)} {Q : Nat → Int} (hi : inside m ps = true) (h : Fill N f ps (fun _ => 0) Q) (k : WO A N l (upd f d (.agg m (ia Q))) n L K Zp) : WO A N (⟨some d, none, .p (.build (.ints m) ps)⟩ :: l) f n L K Zp :=
 WO_build (v := .agg m (ia Q)) (by
  simp only [ebuild, Z.size, hi, if_true, Z.sc, Option.bind_some]
  rw [show (fun _ => S.zero : Nat → S) = ia (fun _ => 0) from rfl, fillI_fillS h]) k
theorem lc_getD (xs : List S) (i : Nat) : lc xs i = xs[i]?.getD S.zero := List.getD_eq_getElem?_getD
def spl (xs : List S) (off : Nat) (l : List S) : List S := xs.take off ++ l ++ xs.drop (off + l.length)
theorem over_spl {xs ys : List S} {off m : Nat} {h : Nat → S} (hb : Nat.ble (off + m) xs.length = true) (hy : spl xs off ((List.range m).map h) = ys) : over (lc xs) off m h = lc ys := by
 subst hy
 have hb := Nat.le_of_ble_eq_true hb
 funext i
 unfold over
 rw [lc_getD, lc_getD]
 unfold spl
 simp only [List.length_map, List.length_range]
 by_cases h1 : i < off
 ·have e : (Nat.ble off i && Nat.blt i (off + m)) = false := by
   cases hq : Nat.ble off i with
   | false => rfl
   | true => have := Nat.le_of_ble_eq_true hq; omega
  rw [e, List.append_assoc, List.getElem?_append_left (by rw [List.length_take]; omega), List.getElem?_take, if_pos h1]
  rfl
 ·by_cases h2 : i < off + m
  ·have e : (Nat.ble off i && Nat.blt i (off + m)) = true := by
    rw [Nat.ble_eq_true_of_le (show off ≤ i by omega), show Nat.blt i (off + m) = true from Nat.ble_eq_true_of_le h2]; rfl
   have hl : (xs.take off).length = off := by rw [List.length_take]; omega
   rw [e, List.append_assoc, List.getElem?_append_right (by omega), List.getElem?_append_left (by simp; omega), hl, List.getElem?_map, List.getElem?_range (by omega)]
   rfl
  ·have e : (Nat.ble off i && Nat.blt i (off + m)) = false := by
    cases hq : Nat.blt i (off + m) with
    | false => simp
    | true => exact absurd (Nat.le_of_ble_eq_true hq) (by omega)
   have hl : (xs.take off ++ (List.range m).map h).length = off + m := by rw [List.length_append, List.length_take, List.length_map, List.length_range]; omega
   rw [e, List.getElem?_append_right (by omega), hl, List.getElem?_drop, show off + m + (i - (off + m)) = i by omega]
   rfl
inductive FillL (N : Nat) (f : FE) : List (Nat × Nat × O) → List S → List S → Prop
 | nil {xs : List S} : FillL N f [] xs xs
 | part {off m : Nat} {x : O} {v : V} {h : Nat → S} {r : List (Nat × Nat × O)} {xs ys zs : List S} (hx : x.fv N f = v) (hv : v.scells m = some h) (hb : Nat.ble (off + m) xs.length = true) (hy : spl xs off ((List.range m).map h) = ys) (hr : FillL N f r ys zs) : FillL N f ((off, m, x) :: r) xs zs
theorem FillL_fillS {ps : List (Nat × Nat × O)} {xs zs : List S} (h : FillL N f ps xs zs) : fillS (E N f) ps (lc xs) = some (lc zs) := by
 induction h with
 | nil => rfl
 | part hx hv hb hy _ ih => simp only [fillS, ev_E, hx, hv, over_spl hb hy, ih]
theorem WO_buildL {m : Nat} {xs zs : List S} {ps : List (Nat × Nat × O)} (hm : xs.length = m) (hi : inside m ps = true) (h : FillL N f ps xs zs) (k : WO A N l (upd f d (.agg m (lc zs))) n L K Zp) : WO A N (⟨some d, none, .p (.build (.scl xs) ps)⟩ :: l) f n L K Zp :=
 WO_build (v := .agg m (lc zs)) (by
  subst hm
  simp only [ebuild, Z.size, hi, if_true, Z.sc, Option.bind_some]
  rw [FillL_fillS h]) k
end
end Go.Am
namespace Go.Am
open Go
section
variable {A : AP} {N : Nat} {f : FE} {n : Nat} {L : HA} {K : KN} {Zp : V → KN} {l : List I} {d : Nat}
theorem WO_allocB {z : Z} {B : Blk} (hB : z.blk = B) (k : WO A N l (upd f d (.ptr n 0 z.size)) (n + 1) ((n, B) :: L) K Zp) : WO A N (⟨some d, none, .h (.alloc z)⟩ :: l) f n L K Zp :=
 WO_h (v := .ptr n 0 z.size) (fun σ h => ⟨σ ++ [B], by simp only [heapV, h.1, hB], h.new B⟩) k
theorem WO_allocI {m : Nat} (k : WO A N l (upd f d (.ptr n 0 m)) (n + 1) ((n, .sc .var m (ia fun _ => 0)) :: L) K Zp) : WO A N (⟨some d, none, .h (.alloc (.ints m))⟩ :: l) f n L K Zp :=
 WO_allocB (z := .ints m) rfl k
theorem WO_allocL {xs : List S} {m : Nat} (hm : xs.length = m) (k : WO A N l (upd f d (.ptr n 0 m)) (n + 1) ((n, .sc .var m (lc xs)) :: L) K Zp) : WO A N (⟨some d, none, .h (.alloc (.scl xs))⟩ :: l) f n L K Zp := by
 subst hm
 exact WO_allocB (z := .scl xs) rfl k
theorem WO_allocS {x : S} (k : WO A N l (upd f d (.ptr n 0 1)) (n + 1) ((n, .sc .var 1 (fun _ => x)) :: L) K Zp) : WO A N (⟨some d, none, .h (.alloc (.one (.s x)))⟩ :: l) f n L K Zp :=
 WO_allocB (z := .one (.s x)) rfl k
theorem WO_boxA {x : O} {m : Nat} {g : Nat → S} (hx : x.fv N f = .agg m g) (k : WO A N l (upd f d (.ptr n 0 m)) (n + 1) ((n, .sc .var m g) :: L) K Zp) : WO A N (⟨some d, none, .h (.box x)⟩ :: l) f n L K Zp :=
 WO_h (v := .ptr n 0 m) (fun σ h => ⟨σ ++ [.sc .var m g], by simp only [heapV, ev_E, hx, boxB, h.1], h.new _⟩) k
theorem WO_boxV {x : O} {v : V} (hx : x.fv N f = v) (hv : boxB v = some (.vs .var [v])) (k : WO A N l (upd f d (.ptr n 0 1)) (n + 1) ((n, .vs .var [v]) :: L) K Zp) : WO A N (⟨some d, none, .h (.box x)⟩ :: l) f n L K Zp :=
 WO_h (v := .ptr n 0 1) (fun σ h => ⟨σ ++ [.vs .var [v]], by simp [heapV, ev_E, hx, hv, h.1], h.new _⟩) k
theorem WO_ldA {m : Nat} {a : O} {b o z : Nat} {md : Md} {q : Nat} {g g' : Nat → S} (ha : a.fv N f = .ptr b o z) (hz : Nat.ble m z = true) (hm : (b, Blk.sc md q g) ∈ L) (hg : (fun i => g (o + i)) = g') (k : WO A N l (upd f d (.agg m g')) n L K Zp) : WO A N (⟨some d, none, .h (.load true m a)⟩ :: l) f n L K Zp :=
 WO_h (v := .agg m g') (fun σ h => ⟨σ, by simp only [heapV, ev_E, ha, if_pos (Nat.le_of_ble_eq_true hz), rdV, (h.2.mem hm).2, cond_true, Option.map_some, hg], h⟩) k
abbrev dp (P : Nat → Int) (o : Nat) : Nat → Int := fun i => P (o + i)
theorem WO_ldAI {m : Nat} {a : O} {b o z : Nat} {md : Md} {q : Nat} {P : Nat → Int} (ha : a.fv N f = .ptr b o z) (hz : Nat.ble m z = true) (hm : (b, Blk.sc md q (ia P)) ∈ L) (k : WO A N l (upd f d (.agg m (ia (dp P o)))) n L K Zp) : WO A N (⟨some d, none, .h (.load true m a)⟩ :: l) f n L K Zp :=
 WO_ldA ha hz hm rfl k
theorem WO_ldA0 {m : Nat} {a : O} {b z : Nat} {md : Md} {q : Nat} {g : Nat → S} (ha : a.fv N f = .ptr b 0 z) (hz : Nat.ble m z = true) (hm : (b, Blk.sc md q g) ∈ L) (k : WO A N l (upd f d (.agg m g)) n L K Zp) : WO A N (⟨some d, none, .h (.load true m a)⟩ :: l) f n L K Zp :=
 WO_ldA ha hz hm (by simp) k
theorem WO_ldS {a : O} {b o z : Nat} {md : Md} {q : Nat} {g : Nat → S} {x : S} (ha : a.fv N f = .ptr b o z) (hz : Nat.ble 1 z = true) (hm : (b, Blk.sc md q g) ∈ L) (hg : g o = x) (k : WO A N l (upd f d (.s x)) n L K Zp) : WO A N (⟨some d, none, .h (.load false 1 a)⟩ :: l) f n L K Zp :=
 WO_h (v := .s x) (fun σ h => ⟨σ, by simp only [heapV, ev_E, ha, if_pos (Nat.le_of_ble_eq_true hz), rdV, (h.2.mem hm).2, cond_false, Option.map_some, hg], h⟩) k
theorem WO_ldI {a : O} {b o z : Nat} {md : Md} {q : Nat} {P : Nat → Int} {x : Int} (ha : a.fv N f = .ptr b o z) (hz : Nat.ble 1 z = true) (hm : (b, Blk.sc md q (ia P)) ∈ L) (hg : P o = x) (k : WO A N l (upd f d (.s (.int .i64 x))) n L K Zp) : WO A N (⟨some d, none, .h (.load false 1 a)⟩ :: l) f n L K Zp :=
 WO_ldS ha hz hm (by rw [← hg]) k
theorem WO_ldV {a : O} {b o z : Nat} {md : Md} {vs : List V} {v : V} (ha : a.fv N f = .ptr b o z) (hz : Nat.ble 1 z = true) (hm : (b, Blk.vs md vs) ∈ L) (hg : vs[o]? = some v) (k : WO A N l (upd f d v) n L K Zp) : WO A N (⟨some d, none, .h (.load false 1 a)⟩ :: l) f n L K Zp :=
 WO_h (v := v) (fun σ h => ⟨σ, by simp only [heapV, ev_E, ha, if_pos (Nat.le_of_ble_eq_true hz), rdV, (h.2.mem hm).2, cond_false, Option.map_some, hg], h⟩) k
theorem WO_st {m : Nat} {a x : O} {b o z : Nat} {md : Md} {q : Nat} {g h g' : Nat → S} {v : V} {L' : HA} (ha : a.fv N f = .ptr b o z) (hx : x.fv N f = v) (hv : v.scells m = some h) (hz : Nat.ble m z = true) (hmd : md.mut = true) (hg : over g o m h = g')
  (hm : At b (.sc md q g) (.sc md q g') L L') (k : WO A N l f n L' K Zp) : WO A N (⟨none, none, .h (.store m a x)⟩ :: l) f n L K Zp :=
 WO_h (v := .undef) (fun σ hσ => ⟨σ.set b (.sc md q g'), by simp only [heapV, ev_E, ha, if_pos (Nat.le_of_ble_eq_true hz), wrV, (hσ.2.mem hm.mem).2, hmd, if_true, hx, hv, Option.map_some, hg], hσ.set hm⟩) k
theorem WO_stI {a x : O} {b o z : Nat} {md : Md} {q : Nat} {P : Nat → Int} {y : Int} {L' : HA} (ha : a.fv N f = .ptr b o z) (hx : x.fv N f = .s (.int .i64 y)) (hz : Nat.ble 1 z = true) (hmd : md.mut = true)
  (hm : At b (.sc md q (ia P)) (.sc md q (ia (ov P o y))) L L') (k : WO A N l f n L' K Zp) : WO A N (⟨none, none, .h (.store 1 a x)⟩ :: l) f n L K Zp :=
 WO_st ha hx (by simp [V.scells]) hz hmd (over_one P o y) hm k
theorem WO_stA {m : Nat} {a x : O} {b o z : Nat} {md : Md} {q : Nat} {P Q : Nat → Int} {L' : HA} (ha : a.fv N f = .ptr b o z) (hx : x.fv N f = .agg m (ia Q)) (hz : Nat.ble m z = true) (hmd : md.mut = true)
  (hm : At b (.sc md q (ia P)) (.sc md q (ia (ovA P o m Q))) L L') (k : WO A N l f n L' K Zp) : WO A N (⟨none, none, .h (.store m a x)⟩ :: l) f n L K Zp :=
 WO_st ha hx (by simp [V.scells]) hz hmd (over_ia P o m Q) hm k
theorem WO_st1 {a x : O} {b z : Nat} {md : Md} {y w : S} {L' : HA} (ha : a.fv N f = .ptr b 0 z) (hx : x.fv N f = .s y) (hz : Nat.ble 1 z = true) (hmd : md.mut = true)
  (hm : At b (.sc md 1 (fun _ => w)) (.sc md 1 (over (fun _ => w) 0 1 fun _ => y)) L L') (k : WO A N l f n L' K Zp) : WO A N (⟨none, none, .h (.store 1 a x)⟩ :: l) f n L K Zp :=
 WO_st ha hx (by simp [V.scells]) hz hmd rfl hm k
theorem WO_stV {a x : O} {b o z : Nat} {md : Md} {vs vs' : List V} {v : V} {L' : HA} (ha : a.fv N f = .ptr b o z) (hx : x.fv N f = v) (hv : v.vcells 1 = some [v]) (h1 : v.one = true) (hz : Nat.ble 1 z = true) (hmd : md.mut = true) (ho : Nat.ble (o + 1) vs.length = true) (hvs : vs.take o ++ [v] ++ vs.drop (o + 1) = vs')
  (hm : At b (.vs md vs) (.vs md vs') L L') (k : WO A N l f n L' K Zp) : WO A N (⟨none, none, .h (.store 1 a x)⟩ :: l) f n L K Zp :=
 WO_h (v := .undef) (fun σ hσ => ⟨σ.set b (.vs md vs'), by
  simp only [heapV, ev_E, ha, if_pos (Nat.le_of_ble_eq_true hz), wrV, (hσ.2.mem hm.mem).2, hmd, if_true, hx, hv, Option.bind_some]
  rw [if_pos ⟨Nat.le_of_ble_eq_true ho, by simp [h1]⟩, hvs]; rfl, hσ.set hm⟩) k
theorem WO_mkslS {len : Nat} {ps : List (Nat × O)} {P : Nat → Int} (hi : inside len (ps.map fun p => (p.1 * 1, 1, p.2)) = true) (h : Fill N f (ps.map fun p => (p.1 * 1, 1, p.2)) (fun _ => 0) P)
  (k : WO A N l (upd f d (.sl n 0 len 1 (.ex len))) (n + 1) ((n, .sc .var len (ia P)) :: L) K Zp) : WO A N (⟨some d, none, .h (.mksl len 1 (.one (.s (.int .i64 0))) ps)⟩ :: l) f n L K Zp :=
 WO_h (v := .sl n 0 len 1 (.ex len)) (fun σ hσ => ⟨σ ++ [.sc .var len (ia P)], by
  simp only [heapV, Z.row, fillRow, hi, if_true]
  rw [show (fun _ => S.int .i64 0 : Nat → S) = ia (fun _ => 0) from rfl, fillI_fillS h]
  simp only [Option.map_some, hσ.1], hσ.new _⟩) k
theorem At_self {b : Nat} {B : Blk} : ∀ {L : HA}, (b, B) ∈ L → At b B B L L
 | (c, C) :: L, h => by
  by_cases hc : (b, B) = (c, C)
  ·injection hc with h1 h2
   subst h1; subst h2
   exact .here
  ·rcases List.mem_cons.1 h with h | h
   ·exact absurd h hc
   ·exact .there (At_self h)
end
end Go.Am
namespace Go.Am
open Go
mutual
def V.loose : V → Bool
 | .ptr _ _ _ => false
 | .sl _ _ _ _ _ => false
 | .map _ => false
 | .aggv l => V.looseL l
 | .fn _ l => V.looseL l
 | .tup l => V.looseL l
 | .iface _ x => V.loose x
 | .bm _ x => V.loose x
 | .pan _ => false
 | _ => true
def V.looseL : List V → Bool
 | [] => true
 | x :: l => V.loose x && V.looseL l
end
mutual
theorem V.loose_refs : ∀ (v : V), v.loose = true → v.refs = []
 | .s _, _ => by simp [V.refs]
 | .agg _ _, _ => by simp [V.refs]
 | .aggv l, h => by simp only [V.loose] at h; simp only [V.refs]; exact V.looseL_refs l h
 | .ptr _ _ _, h => by simp [V.loose] at h
 | .pnil, _ => by simp [V.refs]
 | .sl _ _ _ _ _, h => by simp [V.loose] at h
 | .slz, _ => by simp [V.refs]
 | .snil, _ => by simp [V.refs]
 | .map _, h => by simp [V.loose] at h
 | .mnil, _ => by simp [V.refs]
 | .fn _ l, h => by simp only [V.loose] at h; simp only [V.refs]; exact V.looseL_refs l h
 | .fnil, _ => by simp [V.refs]
 | .iface _ x, h => by simp only [V.loose] at h; simp only [V.refs]; exact V.loose_refs x h
 | .inil, _ => by simp [V.refs]
 | .tup l, h => by simp only [V.loose] at h; simp only [V.refs]; exact V.looseL_refs l h
 | .undef, _ => by simp [V.refs]
 | .bm _ x, h => by simp only [V.loose] at h; simp only [V.refs]; exact V.loose_refs x h
 | .pan _, h => by simp [V.loose] at h
theorem V.looseL_refs : ∀ (l : List V), V.looseL l = true → V.refsL l = []
 | [], _ => by simp [V.refsL]
 | x :: l, h => by
  simp only [V.looseL, Bool.and_eq_true] at h
  simp only [V.refsL, V.loose_refs x h.1, V.looseL_refs l h.2, List.append_nil]
end
mutual
theorem V.loose_ren (g : Nat → Option Nat) : ∀ (v : V), v.loose = true → v.ren g = some v
 | .s _, _ => by simp [V.ren]
 | .agg _ _, _ => by simp [V.ren]
 | .aggv l, h => by simp only [V.loose] at h; simp only [V.ren, V.looseL_ren g l h, Option.map_some]
 | .ptr _ _ _, h => by simp [V.loose] at h
 | .pnil, _ => by simp [V.ren]
 | .sl _ _ _ _ _, h => by simp [V.loose] at h
 | .slz, _ => by simp [V.ren]
 | .snil, _ => by simp [V.ren]
 | .map _, h => by simp [V.loose] at h
 | .mnil, _ => by simp [V.ren]
 | .fn _ l, h => by simp only [V.loose] at h; simp only [V.ren, V.looseL_ren g l h, Option.map_some]
 | .fnil, _ => by simp [V.ren]
 | .iface _ x, h => by simp only [V.loose] at h; simp only [V.ren, V.loose_ren g x h, Option.map_some]
 | .inil, _ => by simp [V.ren]
 | .tup l, h => by simp only [V.loose] at h; simp only [V.ren, V.looseL_ren g l h, Option.map_some]
 | .undef, _ => by simp [V.ren]
 | .bm _ x, h => by simp only [V.loose] at h; simp only [V.ren, V.loose_ren g x h, Option.map_some]
 | .pan _, h => by simp [V.loose] at h
theorem V.looseL_ren (g : Nat → Option Nat) : ∀ (l : List V), V.looseL l = true → V.renL g l = some l
 | [], _ => by simp [V.renL]
 | x :: l, h => by
  simp only [V.looseL, Bool.and_eq_true] at h
  simp only [V.renL, V.loose_ren g x h.1, V.looseL_ren g l h.2]
end
theorem reach_nil (σ : Heap) (acc : List Nat) : ∀ k, reach σ k [] acc = acc
 | 0 => rfl
 | _ + 1 => rfl
theorem call_flat {A : AP} {q : Bool} {fid : FuncId} {av : List V} {v : V} (ha : V.looseL av = true) (hv : v.loose = true) {σ1 : Heap} (hr : Run A fid av [] = some (v, σ1)) (σ : Heap) : callWith (Run A) q (.fn fid []) av σ = some (v, σ) := by
 have hrefs : V.refsL (av ++ []) = [] := by rw [List.append_nil]; exact V.looseL_refs av ha
 have hen : enterC q (av ++ []) σ = some ([], av, []) := by
  unfold enterC
  rw [List.append_nil] at hrefs ⊢
  simp only [hrefs, reach_nil, V.looseL_ren _ av ha, pickB]
 have hns : newIds q 0 v σ1 = [] := by
  unfold newIds
  cases q <;> simp [V.loose_refs v hv, reach_nil]
 simp only [callWith, target, hen, Option.bind_some, hr, leaveC, List.length_nil, hns]
 have hb0 : Nat.ble 0 σ1.length = true := rfl
 cases q <;> simp [nodup, V.loose_ren _ v hv, pickB, putB, hb0]
def RF (A : AP) (fid : FuncId) (av : List V) (v : V) : Prop := ∃ σ1, Run A fid av [] = some (v, σ1)
theorem RF_of {A : AP} {fid : FuncId} {av : List V} {v : V} (h : WR A fid av [] fun v' _ _ => v' = v) : RF A fid av v := by
 obtain ⟨v', σ', n', L', h1, _, h2⟩ := h
 subst h2
 exact ⟨σ', h1⟩
section
variable {A : AP} {N : Nat} {f : FE} {n : Nat} {L : HA} {K : KN} {Zp : V → KN} {l : List I} {d : Nat}
theorem WO_call0 {x : O} {xs : List O} {fid : FuncId} {av : List V} {v : V} (hf : x.fv N f = .fn fid []) (hs : RF A fid av v) (ha : xs.map (O.fv N f) = av) (h1 : V.looseL av = true) (h2 : v.loose = true)
  (k : WO A N l (upd f d v) n L K Zp) : WO A N (⟨some d, none, .h (.call x xs)⟩ :: l) f n L K Zp := by
 obtain ⟨σ1, hs⟩ := hs
 exact WO_h (v := v) (fun σ h => ⟨σ, by simp only [heapV, ev_E, hf, ha]; exact call_flat h1 h2 hs σ, h⟩) k
theorem WO_callq0 {x : O} {xs : List O} {fid : FuncId} {av : List V} {v : V} (hf : x.fv N f = .fn fid []) (hs : RF A fid av v) (ha : xs.map (O.fv N f) = av) (h1 : V.looseL av = true) (h2 : v.loose = true)
  (k : WO A N l (upd f d v) n L K Zp) : WO A N (⟨some d, none, .h (.callq x xs)⟩ :: l) f n L K Zp := by
 obtain ⟨σ1, hs⟩ := hs
 exact WO_h (v := v) (fun σ h => ⟨σ, by simp only [heapV, ev_E, hf, ha]; exact call_flat h1 h2 hs σ, h⟩) k
def rnL (rs : List Nat) (av : List V) : Option (List V) := V.renL (pos · rs) av
def scs (L : HA) : List Nat → List Blk → Prop
 | [], [] => True
 | b :: rs, B :: Bs => (b, B) ∈ L ∧ (∃ md m g, B = .sc md m g) ∧ scs L rs Bs
 | _, _ => False
def dedup : List Nat → List Nat → List Nat
 | [], acc => acc
 | b :: l, acc => bif acc.contains b then dedup l acc else dedup l (acc ++ [b])
theorem scs_mem {σ : Heap} {n : Nat} {L : HA} (h : Hp σ n L) : ∀ {rs : List Nat} {Bs : List Blk}, scs L rs Bs → ∀ b ∈ rs, b < n ∧ ∃ md m g, σ[b]? = some (.sc md m g)
 | b :: rs, B :: Bs, hs, c, hc => by
  obtain ⟨h1, ⟨md, m, g, rfl⟩, h2⟩ := hs
  rcases List.mem_cons.1 hc with e | hc
  ·subst e
   have := h.2.mem h1
   exact ⟨this.1, md, m, g, this.2⟩
  ·exact scs_mem h h2 c hc
theorem reach_sc {σ : Heap} : ∀ (k : Nat) (w acc : List Nat), (∀ b ∈ w, ∃ md m g, σ[b]? = some (.sc md m g)) → w.length < k → reach σ k w acc = dedup w acc
 | 0, _, _, _, h => by omega
 | k + 1, [], acc, _, _ => rfl
 | k + 1, b :: w, acc, hs, hl => by
  obtain ⟨md, m, g, hb⟩ := hs b (.head _)
  have hd : σ.getD b .dead = .sc md m g := by rw [List.getD_eq_getElem?_getD, hb]; rfl
  simp only [reach, dedup, hd, Blk.refs, List.nil_append]
  simp only [List.length_cons] at hl
  cases acc.contains b
  ·simp only [cond_false]
   exact reach_sc k w (acc ++ [b]) (fun c hc => hs c (.tail _ hc)) (by omega)
  ·simp only [cond_true]
   exact reach_sc k w acc (fun c hc => hs c (.tail _ hc)) (by omega)
def lowB (q : Bool) : Blk → Blk
 | .sc md m g => .sc (lower q md) m g
 | b => b
theorem pick_scs {σ : Heap} {n : Nat} {L : HA} (h : Hp σ n L) (q : Bool) (g : Nat → Option Nat) : ∀ {rs : List Nat} {Bs : List Blk}, scs L rs Bs → pickB q g σ rs = some (Bs.map (lowB q))
 | [], [], _ => rfl
 | b :: rs, B :: Bs, hs => by
  obtain ⟨h1, ⟨md, m, g', rfl⟩, h2⟩ := hs
  simp only [pickB, (h.2.mem h1).2, Option.bind_some, Blk.ren, pick_scs h q g h2, List.map_cons, lowB]
theorem nodup_of {rs : List Nat} (h : rs.Nodup) : nodup rs = true := by
 induction rs with
 | nil => rfl
 | cons b l ih =>
  rw [List.nodup_cons] at h
  simp [nodup, ih h.2, h.1]
theorem dedup_nodup : ∀ (w acc : List Nat), acc.Nodup → (dedup w acc).Nodup
 | [], acc, h => h
 | b :: w, acc, h => by
  unfold dedup
  cases hc : acc.contains b with
  | true => exact dedup_nodup w acc h
  | false =>
   refine dedup_nodup w _ ?_
   rw [List.nodup_append]
   refine ⟨h, by simp, fun a ha c hc' => ?_⟩
   simp only [List.mem_singleton] at hc'
   subst hc'
   intro e
   subst e
   rw [List.contains_iff_mem.2 ha] at hc
   cases hc
def after (σ1 : Heap) : Nat → List Blk → Prop
 | _, [] => True
 | k, B :: Bs => σ1[k]? = some B ∧ (∃ md m g, B = .sc md m g) ∧ after σ1 (k + 1) Bs
inductive AtL : List Nat → List Blk → List Blk → HA → HA → Prop
 | nil {L : HA} : AtL [] [] [] L L
 | cons {b : Nat} {rs : List Nat} {B B' : Blk} {Bs Bs' : List Blk} {L L' L'' : HA} : At b B B' L L' → AtL rs Bs Bs' L' L'' → AtL (b :: rs) (B :: Bs) (B' :: Bs') L L''
theorem Hp.putL {rs : List Nat} {Bs Bs' : List Blk} {L L' : HA} (ha : AtL rs Bs Bs' L L') : ∀ {σ : Heap} {n : Nat}, Hp σ n L → Hp (putB σ rs Bs') n L' := by
 induction ha with
 | nil => exact fun h => h
 | cons h1 _ ih => exact fun h => ih (h.set h1)
theorem after_len {σ1 : Heap} : ∀ {Bs : List Blk} {k : Nat}, after σ1 k Bs → k ≤ σ1.length → k + Bs.length ≤ σ1.length
 | [], k, _, h => h
 | B :: Bs, k, ha, h => by
  have h1 : k < σ1.length := by
   rcases Nat.lt_or_ge k σ1.length with h | h
   ·exact h
   ·have h0 := ha.1
    rw [List.getElem?_eq_none h] at h0; simp at h0
  have := after_len ha.2.2 h1
  simp only [List.length_cons]; omega
theorem pick_after {σ1 : Heap} (g : Nat → Option Nat) : ∀ {Bs : List Blk} {k : Nat}, after σ1 k Bs → pickB false g σ1 (List.range' k Bs.length) = some Bs
 | [], k, _ => rfl
 | B :: Bs, k, h => by
  obtain ⟨h1, ⟨md, m, g', rfl⟩, h2⟩ := h
  simp only [List.length_cons, List.range'_succ, pickB, h1, Option.bind_some, Blk.ren, lower, cond_false, pick_after g h2]
theorem take_refs {σ1 : Heap} : ∀ {Bs : List Blk} {k : Nat}, after σ1 k Bs → ((σ1.drop k).take Bs.length).flatMap Blk.refs = []
 | [], k, _ => by simp
 | B :: Bs, k, h => by
  obtain ⟨h1, ⟨md, m, g', rfl⟩, h2⟩ := h
  have hk : k < σ1.length := by
   rcases Nat.lt_or_ge k σ1.length with h | h
   ·exact h
   ·rw [List.getElem?_eq_none h] at h1; simp at h1
  rw [List.drop_eq_getElem_cons hk, List.length_cons, List.take_succ_cons, List.flatMap_cons, take_refs h2]
  rw [List.getElem?_eq_getElem hk] at h1
  injection h1 with h1
  rw [h1]; rfl
theorem call_sc {fid : FuncId} {av av' : List V} {rs : List Nat} {Bs Bs' : List Blk} {v : V} {σ1 : Heap} {L' : HA} (hrs : dedup (V.refsL av) [] = rs) (hl : (V.refsL av).length < 64) (hsub : ∀ b ∈ V.refsL av, b ∈ rs) (hren : rnL rs av = some av') (hB : scs L rs Bs) (hv : v.loose = true)
  (hr : Run A fid av' (Bs.map (lowB false)) = some (v, σ1)) (ha : after σ1 0 Bs') (hlen : Bs'.length = rs.length) (hat : AtL rs Bs Bs' L L') {σ : Heap} (h : Hp σ n L) : ∃ σ', callWith (Run A) false (.fn fid []) av σ = some (v, σ') ∧ Hp σ' n L' := by
 have hre : reach σ 64 (V.refsL av) [] = rs := by
  rw [reach_sc 64 _ _ (fun b hb => (scs_mem h hB b (hsub b hb)).2) hl, hrs]
 have hen : enterC false av σ = some (rs, av', Bs.map (lowB false)) := by
  unfold enterC
  simp only [hre, pick_scs h false _ hB]
  unfold rnL at hren
  rw [hren]
 have hle : rs.length ≤ σ1.length := by have := after_len ha (Nat.zero_le _); omega
 have hns : newIds false rs.length v σ1 = [] := by
  unfold newIds
  have := take_refs ha
  rw [List.drop_zero, hlen] at this
  simp [V.loose_refs v hv, this, reach_nil]
 refine ⟨putB σ rs Bs', ?_, h.putL hat⟩
 have hnd : nodup rs = true := nodup_of (by rw [← hrs]; exact dedup_nodup _ _ (by simp))
 have hp : pickB false (backF rs [] σ.length rs.length) σ1 (List.range rs.length) = some Bs' := by
  rw [← hlen, List.range_eq_range']
  exact pick_after _ ha
 have hble : Nat.ble rs.length σ1.length = true := Nat.ble_eq_true_of_le hle
 simp only [callWith, target, List.append_nil, Option.bind_some, hen, hr, leaveC, hns, hnd, hble, nodup, Bool.and_self, cond_true, V.loose_ren _ v hv, pickB, cond_false, hp]
end
def RB (A : AP) (fid : FuncId) (av : List V) (Bs : List Blk) (v : V) (Bs' : List Blk) : Prop := ∃ σ1, Run A fid av Bs = some (v, σ1) ∧ after σ1 0 Bs'
section
variable {A : AP} {N : Nat} {f : FE} {n : Nat} {L : HA} {K : KN} {Zp : V → KN} {l : List I} {d : Nat}
theorem RB_of1 {fid : FuncId} {av : List V} {B : Blk} {v : V} {md : Md} {m : Nat} {g : Nat → S} (h : WR A fid av [B] fun v' _ L' => v' = v ∧ (0, Blk.sc md m g) ∈ L') : RB A fid av [B] v [.sc md m g] := by
 obtain ⟨v', σ', n', L', h1, h2, rfl, h3⟩ := h
 exact ⟨σ', h1, (h2.2.mem h3).2, ⟨md, m, g, rfl⟩, trivial⟩
end
end Go.Am
namespace Go.Am
open Go
def RN (A : AP) (fid : FuncId) (av : List V) (Bs : List Blk) (mk : Nat → V) (B : Blk) (Bs' : List Blk) : Prop :=
 ∃ b σ1, Run A fid av Bs = some (mk b, σ1) ∧ Bs.length ≤ b ∧ σ1[b]? = some B ∧ after σ1 0 Bs'
structure One (mk : Nat → V) : Prop where
 refs : ∀ b, (mk b).refs = [b]
 ren : ∀ g b, (mk b).ren g = (g b).map mk
theorem One_sl {o m z : Nat} {c : Cp} : One fun b => .sl b o m z c := ⟨fun _ => by simp [V.refs], fun _ _ => by simp [V.ren]⟩
section
variable {A : AP} {N : Nat} {f : FE} {n : Nat} {L : HA} {K : KN} {Zp : V → KN} {l : List I} {d : Nat}
theorem new_one {mk : Nat → V} (hmk : One mk) {k b : Nat} (hb : k ≤ b) {σ1 : Heap} {md : Md} {m : Nat} {g : Nat → S} (h1 : σ1[b]? = some (.sc md m g)) {W : List Nat} (hW : W = []) :
  (reach σ1 64 ((mk b).refs ++ W) []).filter (fun b => Nat.ble k b) = [b] := by
 subst hW
 have hd : σ1.getD b .dead = .sc md m g := by rw [List.getD_eq_getElem?_getD, h1]; rfl
 rw [hmk.refs, List.append_nil]
 have : reach σ1 64 [b] [] = [b] := by
  show (bif ([] : List Nat).contains b then reach σ1 63 [] [] else reach σ1 63 ((σ1.getD b .dead).refs ++ []) ([] ++ [b])) = [b]
  rw [hd]
  rfl
 rw [this]
 simp [hb]
theorem back_one {rs : List Nat} {b n k : Nat} (hb : k ≤ b) : backF rs [b] n k b = some n := by
 have h : Nat.blt b k = false := by
  cases h : Nat.blt b k with
  | false => rfl
  | true => exact absurd (Nat.le_of_ble_eq_true h) (by omega)
 unfold backF
 rw [h]
 simp [pos]
theorem enter_sc {q : Bool} {av av' : List V} {rs : List Nat} {Bs : List Blk} (hrs : dedup (V.refsL av) [] = rs) (hl : (V.refsL av).length < 64) (hsub : ∀ b ∈ V.refsL av, b ∈ rs) (hren : rnL rs av = some av') (hB : scs L rs Bs) {σ : Heap} (h : Hp σ n L) :
  enterC q av σ = some (rs, av', Bs.map (lowB q)) := by
 have hre : reach σ 64 (V.refsL av) [] = rs := by
  rw [reach_sc 64 _ _ (fun b hb => (scs_mem h hB b (hsub b hb)).2) hl, hrs]
 unfold enterC
 simp only [hre, pick_scs h q _ hB]
 unfold rnL at hren
 rw [hren]
theorem scs_len : ∀ {rs : List Nat} {Bs : List Blk}, scs L rs Bs → rs.length = Bs.length
 | [], [], _ => rfl
 | _ :: _, _ :: _, h => by simp [scs_len h.2.2]
theorem WO_callN {x : O} {xs : List O} {fid : FuncId} {caps av av' : List V} {rs : List Nat} {Bs Bs' : List Blk} {mk : Nat → V} {md : Md} {m : Nat} {g : Nat → S} {L' : HA} (hmk : One mk) (hf : x.fv N f = .fn fid caps) (hs : RN A fid av' Bs mk (.sc md m g) Bs') (ha : xs.map (O.fv N f) ++ caps = av) (hrs : dedup (V.refsL av) [] = rs) (hl : (V.refsL av).length < 64) (hsub : ∀ b ∈ V.refsL av, b ∈ rs)
  (hren : rnL rs av = some av') (hB : scs L rs Bs) (hlow : Bs.map (lowB false) = Bs) (hlen : Bs'.length = rs.length) (hat : AtL rs Bs Bs' L L') (k : WO A N l (upd f d (mk n)) (n + 1) ((n, .sc md m g) :: L') K Zp) : WO A N (⟨some d, none, .h (.call x xs)⟩ :: l) f n L K Zp := by
 obtain ⟨b, σ1, hr, hb, h1, haf⟩ := hs
 refine WO_h (v := mk n) (fun σ h => ?_) k
 have hen := enter_sc (q := false) hrs hl hsub hren hB h
 rw [hlow] at hen
 have hk := scs_len hB
 have hle : rs.length ≤ σ1.length := by have := after_len haf (Nat.zero_le _); omega
 have hns : newIds false rs.length (mk b) σ1 = [b] := by
  unfold newIds
  have := take_refs haf
  rw [List.drop_zero, hlen] at this
  exact new_one hmk (by omega) h1 (by simp [this])
 have hnd : nodup rs = true := nodup_of (by rw [← hrs]; exact dedup_nodup _ _ (by simp))
 have hp : pickB false (backF rs [b] σ.length rs.length) σ1 (List.range rs.length) = some Bs' := by
  rw [← hlen, List.range_eq_range']
  exact pick_after _ haf
 have hble : Nat.ble rs.length σ1.length = true := Nat.ble_eq_true_of_le hle
 have hre : (mk b).ren (backF rs [b] σ.length rs.length) = some (mk n) := by
  rw [hmk.ren, back_one (by omega), h.1]; rfl
 refine ⟨putB σ rs Bs' ++ [.sc md m g], ?_, (h.putL hat).new _⟩
 simp only [heapV, ev_E, hf, callWith, target, Option.bind_some, ha, hen, hr, leaveC, hns, hnd, hble, nodup, Bool.and_self, cond_true, hre, pickB, h1, Blk.ren, lower, cond_false, hp, List.contains_nil, Bool.not_false]
theorem WO_callC {x : O} {xs : List O} {fid : FuncId} {caps av av' : List V} {rs : List Nat} {Bs Bs' : List Blk} {v : V} {L' : HA} (hf : x.fv N f = .fn fid caps) (hs : RB A fid av' Bs v Bs') (ha : xs.map (O.fv N f) ++ caps = av) (hrs : dedup (V.refsL av) [] = rs) (hl : (V.refsL av).length < 64) (hsub : ∀ b ∈ V.refsL av, b ∈ rs)
  (hren : rnL rs av = some av') (hB : scs L rs Bs) (hlow : Bs.map (lowB false) = Bs) (hlen : Bs'.length = rs.length) (hv : v.loose = true) (hat : AtL rs Bs Bs' L L') (k : WO A N l (upd f d v) n L' K Zp) : WO A N (⟨some d, none, .h (.call x xs)⟩ :: l) f n L K Zp := by
 obtain ⟨σ1, hs, haf⟩ := hs
 refine WO_h (v := v) (fun σ h => ?_) k
 have hl' : (V.refsL av).length < 64 := hl
 have := call_sc (A := A) (fid := fid) hrs hl' hsub hren hB hv (by rw [hlow]; exact hs) haf hlen hat h
 simp only [heapV, ev_E, hf, callWith, target, Option.bind_some, ha]
 simp only [callWith, target, Option.bind_some, List.append_nil] at this
 exact this
theorem WP_cut {a b : AC} {X : Nat → KN} {R : KN} (I : KN) (h1 : WP A N a f n L (fun f n L => ∃ L', List.Sublist L' L ∧ I f n L') X R Zp) (h2 : ∀ f n L, I f n L → WP A N b f n L K X R Zp) : WP A N (.seq a b) f n L K X R Zp :=
 WP_seq (WP_mono h1 (fun f n _ ⟨_, hs, hI⟩ => WP_sub hs (h2 f n _ hI)) (fun _ _ _ _ h => h) (fun _ _ _ h => h))
theorem WP_unroll {b : AC} {X : Nat → KN} {R : KN} (h : WP A N b f n L (fun f n L => WP A N (.loop b) f n L K X R Zp) X R Zp) : WP A N (.loop b) f n L K X R Zp := fun σ hσ => by
 obtain ⟨x, f', σ', n', L', h1, h2, h3⟩ := h σ hσ
 rw [Exec_loop]
 cases x with
 | normal =>
  obtain ⟨x, f2, σ2, n2, L2, h4, h5, h6⟩ := h3 σ' h2
  exact ⟨x, f2, σ2, n2, L2, by rw [h1, then_normal, h4], h5, h6⟩
 | exit j => exact ⟨.exit j, f', σ', n', L', by rw [h1, then_exit], h2, h3⟩
 | ret => exact ⟨.ret, f', σ', n', L', by rw [h1, then_ret], h2, h3⟩
 | panic v => exact ⟨.panic v, f', σ', n', L', by rw [h1, then_panic], h2, h3⟩
theorem WP_unrollI {b : AC} {X : Nat → KN} {R : KN} (I : KN) (h1 : WP A N b f n L (fun f n L => ∃ L', List.Sublist L' L ∧ I f n L') X R Zp) (h2 : ∀ f n L, I f n L → WP A N (.loop b) f n L K X R Zp) : WP A N (.loop b) f n L K X R Zp :=
 WP_unroll (WP_mono h1 (fun f n _ ⟨_, hs, hI⟩ => WP_sub hs (h2 f n _ hI)) (fun _ _ _ _ h => h) (fun _ _ _ h => h))
theorem RN_of0 {fid : FuncId} {av : List V} {mk : Nat → V} {md : Md} {m : Nat} {g : Nat → S} (h : WR A fid av [] fun v _ L' => ∃ b, v = mk b ∧ (b, Blk.sc md m g) ∈ L') : RN A fid av [] mk (.sc md m g) [] := by
 obtain ⟨v, σ', n', L', h1, h2, b, rfl, h3⟩ := h
 exact ⟨b, σ', h1, Nat.zero_le _, (h2.2.mem h3).2, trivial⟩
theorem WO_mkmap (k : WO A N l (upd f d (.map n)) (n + 1) ((n, .mp .var []) :: L) K Zp) : WO A N (⟨some d, none, .h .mkmap⟩ :: l) f n L K Zp :=
 WO_h (v := .map n) (fun σ h => ⟨σ ++ [.mp .var []], by simp only [heapV, h.1], h.new _⟩) k
theorem WO_mput {od : Option Nat} {m k v : O} {b : Nat} {j : S} {x : V} {md : Md} {ps qs : List (S × V)} {L' : HA} (hm : m.fv N f = .map b) (hk : k.fv N f = .s j) (hv : v.fv N f = x) (hmd : md.mut = true) (hall : (ps.all (fun p => p.1.fits j) && j.fits j) = true) (hq : mput j x ps = qs)
  (hat : At b (.mp md ps) (.mp md qs) L L') (kk : WO A N l (updO f od .undef) n L' K Zp) : WO A N (⟨od, none, .h (.mput m k v)⟩ :: l) f n L K Zp :=
 WO_h (v := .undef) (fun σ h => ⟨σ.set b (.mp md qs), by simp only [heapV, ev_E, hm, hk, hv, (h.2.mem hat.mem).2, hmd, if_true, hall, cond_true, hq], h.set hat⟩) kk
end
section
variable {A : AP} {N : Nat} {f : FE} {n : Nat} {L : HA} {K : KN} {Zp : V → KN} {l : List I} {d : Nat}
theorem WO_eqaC {neg : Bool} {m : Nat} {x y : O} {P Q : Nat → Int} {b : Bool} (hx : x.fv N f = .agg m (ia P)) (hy : y.fv N f = .agg m (ia Q)) (h : (bif neg then !(eqI m P Q) else eqI m P Q) = b) (k : WO A N l (upd f d (.s (.bool b))) n L K Zp) : WO A N (⟨some d, none, .p (.eqa neg m x y)⟩ :: l) f n L K Zp := by
 subst h
 exact WO_eqa hx hy k
end
end Go.Am
namespace Go.Am
open Go
def Blk.loose : Blk → Bool
 | .sc _ _ _ => true
 | .vs _ l => V.looseL l
 | .mp _ l => V.looseL (l.map (·.2))
 | .dead => true
 | .sit _ _ => false
def Blk.low (q : Bool) : Blk → Blk
 | .sc md m g => .sc (lower q md) m g
 | .vs md l => .vs (lower q md) l
 | .mp md l => .mp (lower q md) l
 | b => b
theorem Blk.low_false (B : Blk) : B.low false = B := by cases B <;> rfl
theorem lows_false (Bs : List Blk) : Bs.map (Blk.low false) = Bs := by
 induction Bs with
 | nil => rfl
 | cons B Bs ih => rw [List.map_cons, ih, Blk.low_false]
theorem Blk.loose_refs {B : Blk} (h : B.loose = true) : B.refs = [] := by
 cases B with
 | sc _ _ _ => rfl
 | vs md l => exact V.looseL_refs l h
 | mp md l => exact V.looseL_refs _ h
 | dead => rfl
 | sit _ _ => rfl
theorem looseM_ren (g : Nat → Option Nat) : ∀ (l : List (S × V)), V.looseL (l.map (·.2)) = true → renM g l = some l
 | [], _ => rfl
 | (k, x) :: l, h => by
  simp only [List.map_cons, V.looseL, Bool.and_eq_true] at h
  simp only [renM, V.loose_ren g x h.1, looseM_ren g l h.2]
theorem Blk.loose_ren {B : Blk} (h : B.loose = true) (q : Bool) (g : Nat → Option Nat) : Blk.ren q g B = some (B.low q) := by
 cases B with
 | sc _ _ _ => rfl
 | vs md l => simp only [Blk.ren, V.looseL_ren g l h, Option.map_some, Blk.low]
 | mp md l => simp only [Blk.ren, looseM_ren g l h, Option.map_some, Blk.low]
 | dead => rfl
 | sit _ _ => cases h
def lss (L : HA) : List Nat → List Blk → Prop
 | [], [] => True
 | b :: rs, B :: Bs => (b, B) ∈ L ∧ B.loose = true ∧ lss L rs Bs
 | _, _ => False
theorem lss_mem {σ : Heap} {n : Nat} {L : HA} (h : Hp σ n L) : ∀ {rs : List Nat} {Bs : List Blk}, lss L rs Bs → ∀ b ∈ rs, b < n ∧ ∃ B, σ[b]? = some B ∧ B.loose = true
 | b :: rs, B :: Bs, hs, c, hc => by
  obtain ⟨h1, hl, h2⟩ := hs
  rcases List.mem_cons.1 hc with e | hc
  ·subst e
   have := h.2.mem h1
   exact ⟨this.1, B, this.2, hl⟩
  ·exact lss_mem h h2 c hc
theorem reach_lss {σ : Heap} : ∀ (k : Nat) (w acc : List Nat), (∀ b ∈ w, ∃ B, σ[b]? = some B ∧ B.loose = true) → w.length < k → reach σ k w acc = dedup w acc
 | 0, _, _, _, h => by omega
 | k + 1, [], acc, _, _ => rfl
 | k + 1, b :: w, acc, hs, hl => by
  obtain ⟨B, hb, hBl⟩ := hs b (.head _)
  have hd : σ.getD b .dead = B := by rw [List.getD_eq_getElem?_getD, hb]; rfl
  simp only [reach, dedup, hd, Blk.loose_refs hBl, List.nil_append]
  simp only [List.length_cons] at hl
  cases acc.contains b
  ·simp only [cond_false]
   exact reach_lss k w (acc ++ [b]) (fun c hc => hs c (.tail _ hc)) (by omega)
  ·simp only [cond_true]
   exact reach_lss k w acc (fun c hc => hs c (.tail _ hc)) (by omega)
theorem pick_lss {σ : Heap} {n : Nat} {L : HA} (h : Hp σ n L) (q : Bool) (g : Nat → Option Nat) : ∀ {rs : List Nat} {Bs : List Blk}, lss L rs Bs → pickB q g σ rs = some (Bs.map (Blk.low q))
 | [], [], _ => rfl
 | b :: rs, B :: Bs, hs => by
  obtain ⟨h1, hl, h2⟩ := hs
  simp only [pickB, (h.2.mem h1).2, Option.bind_some, Blk.loose_ren hl, pick_lss h q g h2, List.map_cons]
def afterL (σ1 : Heap) : Nat → List Blk → Prop
 | _, [] => True
 | k, B :: Bs => σ1[k]? = some B ∧ B.loose = true ∧ afterL σ1 (k + 1) Bs
theorem afterL_len {σ1 : Heap} : ∀ {Bs : List Blk} {k : Nat}, afterL σ1 k Bs → k ≤ σ1.length → k + Bs.length ≤ σ1.length
 | [], k, _, h => h
 | B :: Bs, k, ha, h => by
  have h1 : k < σ1.length := by
   rcases Nat.lt_or_ge k σ1.length with h | h
   ·exact h
   ·have h0 := ha.1
    rw [List.getElem?_eq_none h] at h0; simp at h0
  have := afterL_len ha.2.2 h1
  simp only [List.length_cons]; omega
theorem pick_afterL {σ1 : Heap} (g : Nat → Option Nat) : ∀ {Bs : List Blk} {k : Nat}, afterL σ1 k Bs → pickB false g σ1 (List.range' k Bs.length) = some Bs
 | [], k, _ => rfl
 | B :: Bs, k, h => by
  obtain ⟨h1, hl, h2⟩ := h
  simp only [List.length_cons, List.range'_succ, pickB, h1, Option.bind_some, Blk.loose_ren hl, Blk.low_false, pick_afterL g h2]
theorem take_refsL {σ1 : Heap} : ∀ {Bs : List Blk} {k : Nat}, afterL σ1 k Bs → ((σ1.drop k).take Bs.length).flatMap Blk.refs = []
 | [], k, _ => by simp
 | B :: Bs, k, h => by
  obtain ⟨h1, hl, h2⟩ := h
  have hk : k < σ1.length := by
   rcases Nat.lt_or_ge k σ1.length with h | h
   ·exact h
   ·rw [List.getElem?_eq_none h] at h1; simp at h1
  rw [List.drop_eq_getElem_cons hk, List.length_cons, List.take_succ_cons, List.flatMap_cons, take_refsL h2]
  rw [List.getElem?_eq_getElem hk] at h1
  injection h1 with h1
  rw [h1, Blk.loose_refs hl]; rfl
def RL (A : AP) (fid : FuncId) (av : List V) (Bs : List Blk) (v : V) (Bs' : List Blk) : Prop := ∃ σ1, Run A fid av Bs = some (v, σ1) ∧ afterL σ1 0 Bs'
section
variable {A : AP} {N : Nat} {f : FE} {n : Nat} {L : HA} {K : KN} {Zp : V → KN} {l : List I} {d : Nat}
theorem enter_lss {q : Bool} {av av' : List V} {rs : List Nat} {Bs : List Blk} (hrs : dedup (V.refsL av) [] = rs) (hl : (V.refsL av).length < 64) (hsub : ∀ b ∈ V.refsL av, b ∈ rs) (hren : rnL rs av = some av') (hB : lss L rs Bs) {σ : Heap} (h : Hp σ n L) :
  enterC q av σ = some (rs, av', Bs.map (Blk.low q)) := by
 have hre : reach σ 64 (V.refsL av) [] = rs := by
  rw [reach_lss 64 _ _ (fun b hb => (lss_mem h hB b (hsub b hb)).2) hl, hrs]
 unfold enterC
 simp only [hre, pick_lss h q _ hB]
 unfold rnL at hren
 rw [hren]
theorem leave_lss {av : List V} {rs : List Nat} {Bs Bs' : List Blk} {v : V} {σ1 : Heap} {L' : HA} (hrs : dedup (V.refsL av) [] = rs) (hv : v.loose = true) (ha : afterL σ1 0 Bs') (hlen : Bs'.length = rs.length) (hat : AtL rs Bs Bs' L L') {σ : Heap} (h : Hp σ n L) :
  leaveC false σ rs v σ1 = some (v, putB σ rs Bs') ∧ Hp (putB σ rs Bs') n L' := by
 have hle : rs.length ≤ σ1.length := by have := afterL_len ha (Nat.zero_le _); omega
 have hns : newIds false rs.length v σ1 = [] := by
  unfold newIds
  have := take_refsL ha
  rw [List.drop_zero, hlen] at this
  simp [V.loose_refs v hv, this, reach_nil]
 refine ⟨?_, h.putL hat⟩
 have hnd : nodup rs = true := nodup_of (by rw [← hrs]; exact dedup_nodup _ _ (by simp))
 have hp : pickB false (backF rs [] σ.length rs.length) σ1 (List.range rs.length) = some Bs' := by
  rw [← hlen, List.range_eq_range']
  exact pick_afterL _ ha
 have hble : Nat.ble rs.length σ1.length = true := Nat.ble_eq_true_of_le hle
 simp only [leaveC, hns, hnd, hble, nodup, Bool.and_self, cond_true, V.loose_ren _ v hv, pickB, cond_false, hp, List.append_nil]
theorem WO_callL {x : O} {xs : List O} {fv : V} {fid : FuncId} {args av av' : List V} {rs : List Nat} {Bs Bs' : List Blk} {v : V} {L' : HA} {od : Option Nat} (hf : x.fv N f = fv) (ha : xs.map (O.fv N f) = args) (ht : target fv args = some (fid, av)) (hs : RL A fid av' Bs v Bs') (hrs : dedup (V.refsL av) [] = rs) (hl : (V.refsL av).length < 64) (hsub : ∀ b ∈ V.refsL av, b ∈ rs)
  (hren : rnL rs av = some av') (hB : lss L rs Bs) (hlen : Bs'.length = rs.length) (hv : v.loose = true) (hat : AtL rs Bs Bs' L L') (k : WO A N l (updO f od v) n L' K Zp) : WO A N (⟨od, none, .h (.call x xs)⟩ :: l) f n L K Zp := by
 obtain ⟨σ1, hs, haf⟩ := hs
 refine WO_h (v := v) (fun σ h => ?_) k
 have hen := enter_lss (q := false) hrs hl hsub hren hB h
 rw [lows_false] at hen
 obtain ⟨h1, h2⟩ := leave_lss hrs hv haf hlen hat h
 exact ⟨_, by simp only [heapV, ev_E, hf, callWith, ha, ht, Option.bind_some, hen, hs, h1], h2⟩
theorem WO_callqL {x : O} {xs : List O} {fv : V} {fid : FuncId} {args av av' : List V} {rs : List Nat} {Bs Bs0 Bs' : List Blk} {v : V} (hf : x.fv N f = fv) (ha : xs.map (O.fv N f) = args) (ht : target fv args = some (fid, av)) (hs : RL A fid av' Bs0 v Bs') (hrs : dedup (V.refsL av) [] = rs) (hl : (V.refsL av).length < 64) (hsub : ∀ b ∈ V.refsL av, b ∈ rs)
  (hren : rnL rs av = some av') (hB : lss L rs Bs) (hlow : Bs.map (Blk.low true) = Bs0) (hlen : Bs'.length = rs.length) (hv : v.loose = true) (k : WO A N l (upd f d v) n L K Zp) : WO A N (⟨some d, none, .h (.callq x xs)⟩ :: l) f n L K Zp := by
 obtain ⟨σ1, hs, haf⟩ := hs
 refine WO_h (v := v) (fun σ h => ?_) k
 have hen := enter_lss (q := true) hrs hl hsub hren hB h
 rw [hlow] at hen
 have hle : rs.length ≤ σ1.length := by have := afterL_len haf (Nat.zero_le _); omega
 have hns : newIds true rs.length v σ1 = [] := by
  unfold newIds
  simp [V.loose_refs v hv, reach_nil]
 have hnd : nodup rs = true := nodup_of (by rw [← hrs]; exact dedup_nodup _ _ (by simp))
 have hble : Nat.ble rs.length σ1.length = true := Nat.ble_eq_true_of_le hle
 refine ⟨σ, ?_, h⟩
 simp only [heapV, ev_E, hf, callWith, ha, ht, Option.bind_some, hen, hs, leaveC, hns, hnd, hble, nodup, Bool.and_self, cond_true, V.loose_ren _ v hv, pickB, List.append_nil]
theorem WO_callX {x : O} {xs : List O} {fv : V} {fid : FuncId} {args av av' : List V} {rs : List Nat} {Bs Bs' : List Blk} {p : V} {L' : HA} {od : Option Nat} (hf : x.fv N f = fv) (ha : xs.map (O.fv N f) = args) (ht : target fv args = some (fid, av)) (hs : RL A fid av' Bs (.pan p) Bs') (hrs : dedup (V.refsL av) [] = rs) (hl : (V.refsL av).length < 64) (hsub : ∀ b ∈ V.refsL av, b ∈ rs)
  (hren : rnL rs av = some av') (hB : lss L rs Bs) (hlen : Bs'.length = rs.length) (hv : p.loose = true) (hat : AtL rs Bs Bs' L L') (k : Zp p f n L') : WO A N (⟨od, none, .h (.call x xs)⟩ :: l) f n L K Zp := by
 obtain ⟨σ1, hs, haf⟩ := hs
 intro σ h
 have hen := enter_lss (q := false) hrs hl hsub hren hB h
 rw [lows_false] at hen
 obtain ⟨h1, h2⟩ := leave_lss hrs hv haf hlen hat h
 refine ⟨.panic p, f, _, n, L', ?_, h2, k⟩
 have hno : callWith (Run A) false fv args σ = none := by
  simp only [callWith, ht, Option.bind_some, hen, hs, leaveC, V.ren]
  cases (nodup rs && nodup (newIds false rs.length (.pan p) σ1) && Nat.ble rs.length σ1.length) <;> rfl
 simp only [opsX, stepI, insV, heapV, ev_E, hf, ha, hno, Option.map_none, panI, guardOK, cond_true, callPan, ht, Option.bind_some, hen, hs, h1, Option.map_some]
theorem WO_pnc {x : O} {t : TypeId} {y : V} {od : Option Nat} (hx : x.fv N f = .iface t y) (k : Zp (.iface t y) f n L) : WO A N (⟨od, none, .h (.pnc x)⟩ :: l) f n L K Zp := fun σ h => by
 refine ⟨.panic (.iface t y), f, σ, n, L, ?_, h, k⟩
 simp only [opsX, stepI, insV, heapV, Option.map_none, panI, guardOK, cond_true, ev_E, hx, Option.map_some]
end
theorem RL_of1 {A : AP} {fid : FuncId} {av : List V} {B B' : Blk} {v : V} (hl : B'.loose = true) (h : WR A fid av [B] fun v' _ L' => v' = v ∧ (0, B') ∈ L') : RL A fid av [B] v [B'] := by
 obtain ⟨v', σ', n', L', h1, h2, rfl, h3⟩ := h
 exact ⟨σ', h1, (h2.2.mem h3).2, hl, trivial⟩
theorem RL_of2 {A : AP} {fid : FuncId} {av : List V} {B C B' C' : Blk} {v : V} (hl : B'.loose = true) (hl2 : C'.loose = true) (h : WR A fid av [B, C] fun v' _ L' => v' = v ∧ (0, B') ∈ L' ∧ (1, C') ∈ L') : RL A fid av [B, C] v [B', C'] := by
 obtain ⟨v', σ', n', L', h1, h2, rfl, h3, h4⟩ := h
 exact ⟨σ', h1, (h2.2.mem h3).2, hl, (h2.2.mem h4).2, hl2, trivial⟩
def self (own : Bool) (b : Nat) : V := bif own then .ptr b 0 2 else .pnil
theorem self_refs (own : Bool) (b : Nat) : V.refsL [self own b, .snil] = [] ∨ V.refsL [self own b, .snil] = [b] := by
 cases own
 ·exact .inl rfl
 ·exact .inr rfl
theorem self_ren (own : Bool) {g : Nat → Option Nat} {b c : Nat} (h : g b = some c) : (self own b).ren g = some (self own c) := by
 cases own
 ·rfl
 ·show (V.ptr b 0 2).ren g = _
  simp only [V.ren, h, Option.map_some]; rfl
def BN (A : AP) (own : Bool) (fid : FuncId) (rest : List V) (T el : TypeId) (v : V) (m : Nat) (g : Nat → S) : Prop :=
 ∃ σ1 k, Run A fid (.ptr 0 0 2 :: rest) [.vs (.ty T) [self own 0, .snil]] = some (v, σ1) ∧ σ1[0]? = some (.vs (.ty T) [.ptr 0 0 2, .sl k 0 m 1 .whole]) ∧ 1 ≤ k ∧ σ1[k]? = some (.sc (.gty el) m g)
def BW (A : AP) (fid : FuncId) (rest : List V) (T el : TypeId) (m : Nat) (g : Nat → S) (v : V) (m' : Nat) (g' : Nat → S) : Prop :=
 ∃ σ1 k, Run A fid (.ptr 0 0 2 :: rest) [.vs (.ty T) [.ptr 0 0 2, .sl 1 0 m 1 .whole], .sc (.gty el) m g] = some (v, σ1) ∧ σ1[0]? = some (.vs (.ty T) [.ptr 0 0 2, .sl k 0 m' 1 .whole]) ∧ 2 ≤ k ∧ σ1[1]? = some .dead ∧ σ1[k]? = some (.sc (.gty el) m' g')
def BC (A : AP) (own : Bool) (fid : FuncId) (rest : List V) (T : TypeId) (v : V) : Prop :=
 ∃ σ1, Run A fid (.ptr 0 0 2 :: rest) [.vs (.ty T) [self own 0, .snil]] = some (v, σ1) ∧ σ1[0]? = some (.vs (.ty T) [.ptr 0 0 2, .snil])
def BU (A : AP) (fid : FuncId) (rest : List V) (T el : TypeId) (m : Nat) (g : Nat → S) (v : V) : Prop :=
 ∃ σ1, Run A fid (.ptr 0 0 2 :: rest) [.vs (.ty T) [.ptr 0 0 2, .sl 1 0 m 1 .whole], .sc (.gty el) m g] = some (v, σ1) ∧ σ1[0]? = some (.vs (.ty T) [.ptr 0 0 2, .sl 1 0 m 1 .whole]) ∧ σ1[1]? = some (.sc (.gty el) m g)
def BE (A : AP) (fid : FuncId) (rest : List V) (T el : TypeId) (m : Nat) (g : Nat → S) (v : V) : Prop :=
 ∃ σ1, Run A fid (.ptr 0 0 2 :: rest) [.vs (.ty T) [.ptr 0 0 2, .sl 1 0 m 1 .whole], .sc (.gty el) m g] = some (v, σ1) ∧ σ1[0]? = some (.vs (.ty T) [.ptr 0 0 2, .sl 1 0 m 1 .whole]) ∧ σ1[1]? = some .dead
section
variable {A : AP} {N : Nat} {f : FE} {n : Nat} {L : HA} {K : KN} {Zp : V → KN} {l : List I}
theorem ptr_refs {b : Nat} {rest : List V} (h : V.looseL rest = true) : V.refsL (.ptr b 0 2 :: rest) = [b] := by
 simp only [V.refsL, V.refs, V.looseL_refs rest h, List.append_nil]
theorem getD_of {σ : Heap} {b : Nat} {B : Blk} (h : σ[b]? = some B) : σ.getD b .dead = B := by rw [List.getD_eq_getElem?_getD, h]; rfl
theorem lt_of {σ : Heap} {b : Nat} {B : Blk} (h : σ[b]? = some B) : b < σ.length := by
 rcases Nat.lt_or_ge b σ.length with q | q
 ·exact q
 ·rw [List.getElem?_eq_none q] at h; cases h
theorem take1 {σ : Heap} {B : Blk} (h : σ[0]? = some B) : σ.take 1 = [B] := by
 cases σ with
 | nil => cases h
 | cons x l => simp only [List.getElem?_cons_zero, Option.some.injEq] at h; subst h; rfl
theorem take2 {σ : Heap} {B C : Blk} (h : σ[0]? = some B) (h2 : σ[1]? = some C) : σ.take 2 = [B, C] := by
 cases σ with
 | nil => cases h
 | cons x l =>
  simp only [List.getElem?_cons_zero, Option.some.injEq] at h; subst h
  simp only [List.getElem?_cons_succ] at h2
  rw [List.take_succ_cons, take1 h2]
theorem reach_two {σ : Heap} {b k : Nat} {c : List V} {md : Md} {B : Blk} (hb : σ[b]? = some (.vs md [.ptr b 0 2, .sl k 0 c.length 1 .whole])) (hk : σ[k]? = some B) (hl : B.refs = []) (hne : k ≠ b) : reach σ 64 [b] [] = [b, k] := by
 have e1 : ([b] : List Nat).contains b = true := by simp
 have e2 : ([b] : List Nat).contains k = false := by simp [hne]
 have h1 : reach σ 64 [b] [] = reach σ 63 ([b, k] ++ []) ([] ++ [b]) := by
  show (bif ([] : List Nat).contains b then reach σ 63 [] [] else reach σ 63 ((σ.getD b .dead).refs ++ []) ([] ++ [b])) = _
  rw [getD_of hb]
  rfl
 have h2 : reach σ 63 ([b, k] ++ []) ([] ++ [b]) = reach σ 62 [k] [b] := by
  show (bif ([b] : List Nat).contains b then reach σ 62 [k] [b] else reach σ 62 ((σ.getD b .dead).refs ++ [k]) ([b] ++ [b])) = _
  rw [e1]; rfl
 have h3 : reach σ 62 [k] [b] = [b, k] := by
  show (bif ([b] : List Nat).contains k then reach σ 61 [] [b] else reach σ 61 ((σ.getD k .dead).refs ++ []) ([b] ++ [k])) = _
  rw [e2, getD_of hk, hl]; rfl
 rw [h1, h2, h3]
theorem enter_bld {b k m : Nat} {rest : List V} {T el : TypeId} {g : Nat → S} (hr : V.looseL rest = true) (hb : (b, Blk.vs (.ty T) [.ptr b 0 2, .sl k 0 m 1 .whole]) ∈ L) (hk : (k, Blk.sc (.gty el) m g) ∈ L) {σ : Heap} (h : Hp σ n L) :
  k ≠ b ∧ enterC false (.ptr b 0 2 :: rest) σ = some ([b, k], .ptr 0 0 2 :: rest, [.vs (.ty T) [.ptr 0 0 2, .sl 1 0 m 1 .whole], .sc (.gty el) m g]) := by
 have hb' := (h.2.mem hb).2
 have hk' := (h.2.mem hk).2
 have hne : k ≠ b := fun e => by subst e; rw [hb'] at hk'; cases hk'
 refine ⟨hne, ?_⟩
 have hre : reach σ 64 (V.refsL (.ptr b 0 2 :: rest)) [] = [b, k] := by
  rw [ptr_refs hr]
  exact reach_two (c := List.replicate m .undef) (by simpa using hb') hk' rfl hne
 have p0 : pos b [b, k] = some 0 := by simp [pos]
 have p1 : pos k [b, k] = some 1 := by
  have e1 : (b == k) = false := by simpa using Ne.symm hne
  simp [pos, e1]
 unfold enterC
 rw [hre]
 simp only [V.renL, V.ren, p0, Option.map_some, V.looseL_ren _ rest hr, pickB, hb', hk', Option.bind_some, Blk.ren, p1, lower, cond_false]
theorem filter_ge {k j : Nat} (h : k ≤ j) : ([j] : List Nat).filter (fun b => Nat.ble k b) = [j] := by
 have : Nat.ble k j = true := Nat.ble_eq_true_of_le h
 simp [h]
theorem enter_bld0 {own : Bool} {b : Nat} {rest : List V} {T : TypeId} (hr : V.looseL rest = true) {σ : Heap} (hb : σ[b]? = some (.vs (.ty T) [self own b, .snil])) : enterC false (.ptr b 0 2 :: rest) σ = some ([b], .ptr 0 0 2 :: rest, [.vs (.ty T) [self own 0, .snil]]) := by
 have hre : reach σ 64 (V.refsL (.ptr b 0 2 :: rest)) [] = [b] := by
  rw [ptr_refs hr]
  show (bif ([] : List Nat).contains b then reach σ 63 [] [] else reach σ 63 ((σ.getD b .dead).refs ++ []) ([] ++ [b])) = _
  rw [getD_of hb]
  show reach σ 63 (V.refsL [self own b, .snil] ++ []) [b] = [b]
  rcases self_refs own b with h | h
  ·rw [h]; rfl
  ·rw [h]
   have e1 : ([b] : List Nat).contains b = true := by simp
   show (bif ([b] : List Nat).contains b then reach σ 62 [] [b] else _) = [b]
   rw [e1]; rfl
 have p0 : pos b [b] = some 0 := by simp [pos]
 unfold enterC
 rw [hre]
 simp only [V.renL, V.ren, p0, Option.map_some, V.looseL_ren _ rest hr, pickB, hb, Option.bind_some, Blk.ren, lower, cond_false, self_ren own (g := fun x => pos x [b]) p0]
theorem WO_bldN {x : O} {xs : List O} {fid : FuncId} {b m : Nat} {rest : List V} {T el : TypeId} {g : Nat → S} {v : V} {L' : HA} {od : Option Nat} {own : Bool} (hs : BN A own fid rest T el v m g) (hf : x.fv N f = .fn fid []) (ha : xs.map (O.fv N f) = .ptr b 0 2 :: rest) (hr : V.looseL rest = true) (hv : v.loose = true)
  (hat : At b (.vs (.ty T) [self own b, .snil]) (.vs (.ty T) [.ptr b 0 2, .sl n 0 m 1 .whole]) L L') (k : WO A N l (updO f od v) (n + 1) ((n, .sc (.gty el) m g) :: L') K Zp) : WO A N (⟨od, none, .h (.call x xs)⟩ :: l) f n L K Zp := by
 obtain ⟨σ1, j, hrun, h0, hj, h1⟩ := hs
 refine WO_h (v := v) (fun σ h => ?_) k
 have hb := (h.2.mem hat.mem).2
 have hen := enter_bld0 (own := own) hr hb
 have hns : newIds false 1 v σ1 = [j] := by
  unfold newIds
  have ht : (σ1.take 1).flatMap Blk.refs = [0, j] := by rw [take1 h0]; rfl
  have hre : reach σ1 64 [0, j] [] = [0, j] := by
   show reach σ1 63 ((σ1.getD 0 .dead).refs ++ [j]) [0] = _
   rw [getD_of h0]
   show reach σ1 62 [j, j] [0] = _
   have e2 : ([0] : List Nat).contains j = false := by simp; omega
   have e3 : ([0, j] : List Nat).contains j = true := by simp
   show (bif ([0] : List Nat).contains j then reach σ1 61 [j] [0] else reach σ1 61 ((σ1.getD j .dead).refs ++ [j]) ([0] ++ [j])) = _
   rw [e2, getD_of h1]
   show (bif ([0, j] : List Nat).contains j then reach σ1 60 [] [0, j] else reach σ1 60 ((σ1.getD j .dead).refs ++ []) ([0, j] ++ [j])) = _
   rw [e3]; rfl
  rw [V.loose_refs v hv, List.nil_append, cond_false, ht, hre]
  show List.filter (fun b => Nat.ble 1 b) ([0] ++ [j]) = [j]
  rw [List.filter_append, filter_ge hj]; rfl
 have hlt := lt_of h1
 have hble : Nat.ble 1 σ1.length = true := Nat.ble_eq_true_of_le (by omega)
 have hjb : Nat.blt j 1 = false := by
  cases hq : Nat.blt j 1 with
  | false => rfl
  | true => exact absurd (Nat.le_of_ble_eq_true hq) (by omega)
 have bk : backF [b] [j] σ.length 1 j = some n := by unfold backF; rw [hjb]; simp [pos, h.1]
 have b0 : backF [b] [j] σ.length 1 0 = some b := rfl
 refine ⟨putB σ [b] [.vs (.ty T) [.ptr b 0 2, .sl n 0 m 1 .whole]] ++ [.sc (.gty el) m g], ?_, (h.set hat).new _⟩
 simp only [heapV, ev_E, hf, callWith, target, List.append_nil, Option.bind_some, ha, hen, hrun, leaveC, List.length_cons, List.length_nil, Nat.zero_add, hns, nodup, List.contains_nil, Bool.not_false, hble, Bool.and_self, cond_true, V.loose_ren _ v hv, pickB, h1, Blk.ren, lower, cond_false, List.range_one, h0, V.renL, V.ren, b0, bk, Option.map_some]
theorem WO_bldW {x : O} {xs : List O} {fid : FuncId} {b k m m' : Nat} {rest : List V} {T el : TypeId} {g g' : Nat → S} {v : V} {L' L'' : HA} {od : Option Nat} (hs : BW A fid rest T el m g v m' g') (hf : x.fv N f = .fn fid []) (ha : xs.map (O.fv N f) = .ptr b 0 2 :: rest) (hr : V.looseL rest = true) (hv : v.loose = true)
  (hat : At b (.vs (.ty T) [.ptr b 0 2, .sl k 0 m 1 .whole]) (.vs (.ty T) [.ptr b 0 2, .sl n 0 m' 1 .whole]) L L') (hk : (k, Blk.sc (.gty el) m g) ∈ L) (hat2 : At k (.sc (.gty el) m g) .dead L' L'') (kk : WO A N l (updO f od v) (n + 1) ((n, .sc (.gty el) m' g') :: L'') K Zp) : WO A N (⟨od, none, .h (.call x xs)⟩ :: l) f n L K Zp := by
 obtain ⟨σ1, j, hrun, h0, hj, h1, h2⟩ := hs
 refine WO_h (v := v) (fun σ h => ?_) kk
 obtain ⟨hne, hen⟩ := enter_bld hr hat.mem hk h
 have hns : newIds false 2 v σ1 = [j] := by
  unfold newIds
  have ht : (σ1.take 2).flatMap Blk.refs = [0, j] := by rw [take2 h0 h1]; rfl
  have hre : reach σ1 64 [0, j] [] = [0, j] := by
   show reach σ1 63 ((σ1.getD 0 .dead).refs ++ [j]) [0] = _
   rw [getD_of h0]
   show reach σ1 62 [j, j] [0] = _
   have e2 : ([0] : List Nat).contains j = false := by simp; omega
   have e3 : ([0, j] : List Nat).contains j = true := by simp
   show (bif ([0] : List Nat).contains j then reach σ1 61 [j] [0] else reach σ1 61 ((σ1.getD j .dead).refs ++ [j]) ([0] ++ [j])) = _
   rw [e2, getD_of h2]
   show (bif ([0, j] : List Nat).contains j then reach σ1 60 [] [0, j] else reach σ1 60 ((σ1.getD j .dead).refs ++ []) ([0, j] ++ [j])) = _
   rw [e3]; rfl
  rw [V.loose_refs v hv, List.nil_append, cond_false, ht, hre]
  show List.filter (fun b => Nat.ble 2 b) ([0] ++ [j]) = [j]
  rw [List.filter_append, filter_ge hj]; rfl
 have hlt := lt_of h2
 have hble : Nat.ble 2 σ1.length = true := Nat.ble_eq_true_of_le (by omega)
 have hjb : Nat.blt j 2 = false := by
  cases hq : Nat.blt j 2 with
  | false => rfl
  | true => exact absurd (Nat.le_of_ble_eq_true hq) (by omega)
 have bk : backF [b, k] [j] σ.length 2 j = some n := by unfold backF; rw [hjb]; simp [pos, h.1]
 have b0 : backF [b, k] [j] σ.length 2 0 = some b := rfl
 have hnd : ([k] : List Nat).contains b = false := by simp [Ne.symm hne]
 have hrg : List.range 2 = [0, 1] := rfl
 refine ⟨putB σ [b, k] [.vs (.ty T) [.ptr b 0 2, .sl n 0 m' 1 .whole], .dead] ++ [.sc (.gty el) m' g'], ?_, ((h.set hat).set hat2).new _⟩
 simp only [heapV, ev_E, hf, callWith, target, List.append_nil, Option.bind_some, ha, hen, hrun, leaveC, List.length_cons, List.length_nil, Nat.zero_add, Nat.reduceAdd, hns, hnd, nodup, List.contains_nil, Bool.not_false, hble, Bool.and_self, cond_true, V.loose_ren _ v hv, pickB, h2, Blk.ren, lower, cond_false, hrg, h0, h1, V.renL, V.ren, b0, bk, Option.map_some]
theorem WO_bldE {x : O} {xs : List O} {fid : FuncId} {b k m : Nat} {rest : List V} {T el : TypeId} {g : Nat → S} {v : V} {L' : HA} {od : Option Nat} (hs : BE A fid rest T el m g v) (hf : x.fv N f = .fn fid []) (ha : xs.map (O.fv N f) = .ptr b 0 2 :: rest) (hr : V.looseL rest = true) (hv : v.loose = true)
  (hb : (b, Blk.vs (.ty T) [.ptr b 0 2, .sl k 0 m 1 .whole]) ∈ L) (hat : At k (.sc (.gty el) m g) .dead L L') (kk : WO A N l (updO f od v) n L' K Zp) : WO A N (⟨od, none, .h (.call x xs)⟩ :: l) f n L K Zp := by
 obtain ⟨σ1, hrun, h0, h1⟩ := hs
 refine WO_h (v := v) (fun σ h => ?_) kk
 obtain ⟨hne, hen⟩ := enter_bld hr hb hat.mem h
 have hns : newIds false 2 v σ1 = [] := by
  unfold newIds
  have ht : (σ1.take 2).flatMap Blk.refs = [0, 1] := by rw [take2 h0 h1]; rfl
  have hre : reach σ1 64 [0, 1] [] = [0, 1] := by
   show reach σ1 63 ((σ1.getD 0 .dead).refs ++ [1]) [0] = _
   rw [getD_of h0]
   show reach σ1 61 ((σ1.getD 1 .dead).refs ++ [1]) [0, 1] = _
   rw [getD_of h1]
   rfl
  rw [V.loose_refs v hv, List.nil_append, cond_false, ht, hre]
  rfl
 have hlt := lt_of h1
 have hble : Nat.ble 2 σ1.length = true := Nat.ble_eq_true_of_le (by omega)
 have b0 : backF [b, k] [] σ.length 2 0 = some b := rfl
 have b1 : backF [b, k] [] σ.length 2 1 = some k := rfl
 have hnd : ([k] : List Nat).contains b = false := by simp [Ne.symm hne]
 have hrg : List.range 2 = [0, 1] := rfl
 have hb' := (h.2.mem hb).2
 have hself : σ.set b (.vs (.ty T) [.ptr b 0 2, .sl k 0 m 1 .whole]) = σ := by
  refine List.ext_getElem? fun i => ?_
  by_cases e : b = i
  ·subst e; rw [List.getElem?_set_self (lt_of hb'), hb']
  ·rw [List.getElem?_set_ne e]
 refine ⟨σ.set k .dead, ?_, h.set hat⟩
 simp only [heapV, ev_E, hf, callWith, target, List.append_nil, Option.bind_some, ha, hen, hrun, leaveC, List.length_cons, List.length_nil, Nat.zero_add, Nat.reduceAdd, hns, hnd, nodup, List.contains_nil, Bool.not_false, hble, Bool.and_self, cond_true, V.loose_ren _ v hv, pickB, Blk.ren, lower, cond_false, hrg, h0, h1, V.renL, V.ren, b0, b1, Option.map_some, putB, hself]
theorem WO_bldC {x : O} {xs : List O} {fid : FuncId} {b : Nat} {rest : List V} {T : TypeId} {v : V} {L' : HA} {od : Option Nat} {own : Bool} (hs : BC A own fid rest T v) (hf : x.fv N f = .fn fid []) (ha : xs.map (O.fv N f) = .ptr b 0 2 :: rest) (hr : V.looseL rest = true) (hv : v.loose = true)
  (hat : At b (.vs (.ty T) [self own b, .snil]) (.vs (.ty T) [.ptr b 0 2, .snil]) L L') (k : WO A N l (updO f od v) n L' K Zp) : WO A N (⟨od, none, .h (.call x xs)⟩ :: l) f n L K Zp := by
 obtain ⟨σ1, hrun, h0⟩ := hs
 refine WO_h (v := v) (fun σ h => ?_) k
 have hb := (h.2.mem hat.mem).2
 have hen := enter_bld0 (own := own) hr hb
 have hns : newIds false 1 v σ1 = [] := by
  unfold newIds
  have ht : (σ1.take 1).flatMap Blk.refs = [0] := by rw [take1 h0]; rfl
  have hre : reach σ1 64 [0] [] = [0] := by
   show reach σ1 63 ((σ1.getD 0 .dead).refs ++ []) [0] = _
   rw [getD_of h0]; rfl
  rw [V.loose_refs v hv, List.nil_append, cond_false, ht, hre]
  rfl
 have hlt := lt_of h0
 have hble : Nat.ble 1 σ1.length = true := Nat.ble_eq_true_of_le (by omega)
 have b0 : backF [b] [] σ.length 1 0 = some b := rfl
 refine ⟨putB σ [b] [.vs (.ty T) [.ptr b 0 2, .snil]], ?_, h.set hat⟩
 simp only [heapV, ev_E, hf, callWith, target, List.append_nil, Option.bind_some, ha, hen, hrun, leaveC, List.length_cons, List.length_nil, Nat.zero_add, hns, nodup, List.contains_nil, Bool.not_false, hble, Bool.and_self, cond_true, V.loose_ren _ v hv, pickB, Blk.ren, lower, cond_false, List.range_one, h0, V.renL, V.ren, b0, Option.map_some]
theorem WO_bldU {x : O} {xs : List O} {fid : FuncId} {b k m : Nat} {rest : List V} {T el : TypeId} {g : Nat → S} {v : V} {od : Option Nat} (hs : BU A fid rest T el m g v) (hf : x.fv N f = .fn fid []) (ha : xs.map (O.fv N f) = .ptr b 0 2 :: rest) (hr : V.looseL rest = true) (hv : v.loose = true)
  (hb : (b, Blk.vs (.ty T) [.ptr b 0 2, .sl k 0 m 1 .whole]) ∈ L) (hk : (k, Blk.sc (.gty el) m g) ∈ L) (kk : WO A N l (updO f od v) n L K Zp) : WO A N (⟨od, none, .h (.call x xs)⟩ :: l) f n L K Zp := by
 obtain ⟨σ1, hrun, h0, h1⟩ := hs
 refine WO_h (v := v) (fun σ h => ?_) kk
 obtain ⟨hne, hen⟩ := enter_bld hr hb hk h
 have hns : newIds false 2 v σ1 = [] := by
  unfold newIds
  have ht : (σ1.take 2).flatMap Blk.refs = [0, 1] := by rw [take2 h0 h1]; rfl
  have hre : reach σ1 64 [0, 1] [] = [0, 1] := by
   show reach σ1 63 ((σ1.getD 0 .dead).refs ++ [1]) [0] = _
   rw [getD_of h0]
   show reach σ1 61 ((σ1.getD 1 .dead).refs ++ [1]) [0, 1] = _
   rw [getD_of h1]
   rfl
  rw [V.loose_refs v hv, List.nil_append, cond_false, ht, hre]
  rfl
 have hlt := lt_of h1
 have hble : Nat.ble 2 σ1.length = true := Nat.ble_eq_true_of_le (by omega)
 have b0 : backF [b, k] [] σ.length 2 0 = some b := rfl
 have b1 : backF [b, k] [] σ.length 2 1 = some k := rfl
 have hnd : ([k] : List Nat).contains b = false := by simp [Ne.symm hne]
 have hrg : List.range 2 = [0, 1] := rfl
 have hself : ∀ (i : Nat) B, σ[i]? = some B → σ.set i B = σ := fun i B hB => by
  refine List.ext_getElem? fun j => ?_
  by_cases e : i = j
  ·subst e; rw [List.getElem?_set_self (lt_of hB), hB]
  ·rw [List.getElem?_set_ne e]
 refine ⟨σ, ?_, h⟩
 simp only [heapV, ev_E, hf, callWith, target, List.append_nil, Option.bind_some, ha, hen, hrun, leaveC, List.length_cons, List.length_nil, Nat.zero_add, Nat.reduceAdd, hns, hnd, nodup, List.contains_nil, Bool.not_false, hble, Bool.and_self, cond_true, V.loose_ren _ v hv, pickB, Blk.ren, lower, cond_false, hrg, h0, h1, V.renL, V.ren, b0, b1, Option.map_some, putB, hself b _ (h.2.mem hb).2, hself k _ (h.2.mem hk).2]
theorem WO_appbN {el : TypeId} {bytes : Nat} {s x : O} {t : ByteArray} {d : Nat} (hs : s.fv N f = .snil) (hx : x.fv N f = .s (.str t)) (h0 : t.size ≠ 0) (hr : roomy t.size bytes = true) (k : WO A N l (upd f d (.sl n 0 t.size 1 .whole)) (n + 1) ((n, .sc (.gty el) t.size (strS t)) :: L) K Zp) : WO A N (⟨some d, none, .h (.appendb el bytes s x)⟩ :: l) f n L K Zp :=
 WO_h (v := .sl n 0 t.size 1 .whole) (fun σ h => ⟨σ ++ [.sc (.gty el) t.size (strS t)], by
  simp only [heapV, ev_E, hs, hx, appendB, if_neg h0, hr, cond_true, h.1], h.new _⟩) k
theorem WO_appbW {el : TypeId} {bytes : Nat} {s x : O} {t : ByteArray} {d b m q : Nat} {g : Nat → S} {L' : HA} (hs : s.fv N f = .sl b 0 m 1 .whole) (hx : x.fv N f = .s (.str t)) (hr : roomy (m + t.size) bytes = true) (hat : At b (.sc (.gty el) q g) .dead L L') (k : WO A N l (upd f d (.sl n 0 (m + t.size) 1 .whole)) (n + 1) ((n, .sc (.gty el) (m + t.size) (fun i => bif Nat.blt i m then g i else strS t (i - m))) :: L') K Zp) : WO A N (⟨some d, none, .h (.appendb el bytes s x)⟩ :: l) f n L K Zp :=
 WO_h (v := .sl n 0 (m + t.size) 1 .whole) (fun σ h => ⟨kill σ b ++ [.sc (.gty el) (m + t.size) (fun i => bif Nat.blt i m then g i else strS t (i - m))], by
  simp only [heapV, ev_E, hs, hx, appendB, (h.2.mem hat.mem).2, if_true, hr, cond_true, h.1], (h.set hat).new _⟩) k
theorem getD_append {a b : Array UInt8} (i : Nat) : (a ++ b).getD i 0 = bif Nat.blt i a.size then a.getD i 0 else b.getD (i - a.size) 0 := by
 rw [Array.getD_eq_getD_getElem?, Array.getElem?_append]
 by_cases h : i < a.size
 ·rw [if_pos h, show Nat.blt i a.size = true from Nat.ble_eq_true_of_le h, cond_true, Array.getD_eq_getD_getElem?]
 ·rw [if_neg h, show Nat.blt i a.size = false from Bool.eq_false_iff.2 fun e => h (Nat.le_of_ble_eq_true e), cond_false, Array.getD_eq_getD_getElem?]
theorem strS_append (s t : ByteArray) : (fun i => bif Nat.blt i s.size then strS s i else strS t (i - s.size)) = strS (s ++ t) := by
 funext i
 unfold strS
 have e : (s ++ t).data = s.data ++ t.data := by simp
 rw [e, getD_append]
 show _ = S.int .u8 ((bif Nat.blt i s.size then s.data.getD i 0 else t.data.getD (i - s.size) 0).toNat)
 cases Nat.blt i s.size <;> rfl
end
end Go.Am
namespace Go.Am
open Go
section
variable {A : AP} {N : Nat} {f : FE} {n : Nat} {L : HA} {K : KN} {Zp : V → KN} {l : List I} {d : Nat}
theorem WO_less {L' : HA} (hs : List.Sublist L' L) (k : WO A N l f n L' K Zp) : WO A N l f n L K Zp := fun σ hσ => k σ (hσ.sub hs)
theorem WO_appNilS {z bytes m : Nat} {s x : O} {b' o' : Nat} {c : Cp} {md' : Md} {q' : Nat} {g : Nat → S} (hs : s.fv N f = .snil) (hx : x.fv N f = .sl b' o' m z c) (hb : (b', Blk.sc md' q' g) ∈ L) (h0 : m ≠ 0) (hr : roomy m bytes = true)
  (k : WO A N l (upd f d (.sl n 0 m z .whole)) (n + 1) ((n, .sc .grow (m * z) (fun i => g (o' + i))) :: L) K Zp) : WO A N (⟨some d, none, .h (.append z bytes s x)⟩ :: l) f n L K Zp :=
 WO_h (v := .sl n 0 m z .whole) (fun σ hσ => ⟨σ ++ [.sc .grow (m * z) (fun i => g (o' + i))], by
  simp only [heapV, ev_E, hs, hx, appendV, srcOf, (hσ.2.mem hb).2, if_true]
  rw [if_neg h0, hr]
  simp only [cond_true, joinSrc, if_true, Option.map_some, hσ.1], hσ.new _⟩) k
theorem WO_appWS {z bytes m p : Nat} {s x : O} {b o b' o' : Nat} {c : Cp} {md' : Md} {q q' : Nat} {G R : Nat → S} {L' : HA} (hs : s.fv N f = .sl b o p z .whole) (hx : x.fv N f = .sl b' o' m z c) (hb : (b', Blk.sc md' q' R) ∈ L) (hat : At b (.sc .grow q G) .dead L L') (hr : roomy (p + m) bytes = true)
  (k : WO A N l (upd f d (.sl n 0 (p + m) z .whole)) (n + 1) ((n, .sc .grow (p * z + m * z) (fun i => bif Nat.blt i (p * z) then G (o + i) else R (o' + (i - p * z)))) :: L') K Zp) : WO A N (⟨some d, none, .h (.append z bytes s x)⟩ :: l) f n L K Zp :=
 WO_h (v := .sl n 0 (p + m) z .whole) (fun σ hσ => ⟨kill σ b ++ [.sc .grow (p * z + m * z) (fun i => bif Nat.blt i (p * z) then G (o + i) else R (o' + (i - p * z)))], by
  simp only [heapV, ev_E, hs, hx, appendV, srcOf, (hσ.2.mem hb).2, (hσ.2.mem hat.mem).2, if_true, hr, cond_true, joinSrc, Option.map_some, hσ.1], (hσ.set hat).new _⟩) k
inductive FillG (N : Nat) (f : FE) : List (Nat × Nat × O) → (Nat → S) → (Nat → S) → Prop
 | nil {g : Nat → S} : FillG N f [] g g
 | one {off : Nat} {x : O} {a : S} {r : List (Nat × Nat × O)} {g h : Nat → S} (hx : x.fv N f = .s a) (hr : FillG N f r (over g off 1 fun _ => a) h) : FillG N f ((off, 1, x) :: r) g h
theorem FillG_fillS {ps : List (Nat × Nat × O)} {g h : Nat → S} (hf : FillG N f ps g h) : fillS (E N f) ps g = some h := by
 induction hf with
 | nil => rfl
 | one hx _ ih => simp only [fillS, ev_E, hx, V.scells, if_true, ih]
theorem WO_mkslG {len : Nat} {z : S} {ps : List (Nat × O)} {g : Nat → S} (hi : inside len (ps.map fun p => (p.1 * 1, 1, p.2)) = true) (h : FillG N f (ps.map fun p => (p.1 * 1, 1, p.2)) (fun _ => z) g)
  (k : WO A N l (upd f d (.sl n 0 len 1 (.ex len))) (n + 1) ((n, .sc .var len g) :: L) K Zp) : WO A N (⟨some d, none, .h (.mksl len 1 (.one (.s z)) ps)⟩ :: l) f n L K Zp :=
 WO_h (v := .sl n 0 len 1 (.ex len)) (fun σ hσ => ⟨σ ++ [.sc .var len g], by
  simp only [heapV, Z.row, fillRow, hi, if_true, FillG_fillS h, Option.map_some, hσ.1], hσ.new _⟩) k
theorem WO_rng {x : O} {s : ByteArray} (hx : x.fv N f = .s (.str s)) (k : WO A N l (upd f d (.ptr n 0 0)) (n + 1) ((n, .sit s 0) :: L) K Zp) : WO A N (⟨some d, none, .h (.rng x)⟩ :: l) f n L K Zp :=
 WO_h (v := .ptr n 0 0) (fun σ hσ => ⟨σ ++ [.sit s 0], by simp only [heapV, ev_E, hx, hσ.1], hσ.new _⟩) k
theorem WO_nxtT {x : O} {b p : Nat} {s : ByteArray} {L' : HA} (hx : x.fv N f = .ptr b 0 0) (hp : p < s.size) (ha : (s.data.getD p 0).toNat < 128) (hat : At b (.sit s p) (.sit s (p + 1)) L L') (k : WO A N l (upd f d (.tup [.s (.bool true), .s (.int .i64 p), .s (.int .i32 (s.data.getD p 0).toNat)])) n L' K Zp) : WO A N (⟨some d, none, .h (.nxt x)⟩ :: l) f n L K Zp :=
 WO_h (v := .tup [.s (.bool true), .s (.int .i64 p), .s (.int .i32 (s.data.getD p 0).toNat)]) (fun σ hσ => ⟨σ.set b (.sit s (p + 1)), by
  simp only [heapV, ev_E, hx, (hσ.2.mem hat.mem).2]
  rw [if_pos hp, if_pos ha], hσ.set hat⟩) k
theorem WO_nxtF {x : O} {b p : Nat} {s : ByteArray} (hx : x.fv N f = .ptr b 0 0) (hp : s.size ≤ p) (hm : (b, Blk.sit s p) ∈ L) (k : WO A N l (upd f d (.tup [.s (.bool false)])) n L K Zp) : WO A N (⟨some d, none, .h (.nxt x)⟩ :: l) f n L K Zp :=
 WO_h (v := .tup [.s (.bool false)]) (fun σ hσ => ⟨σ, by
  simp only [heapV, ev_E, hx, (hσ.2.mem hm).2]
  rw [if_neg (by omega)], hσ⟩) k
end
end Go.Am
namespace Go.Am
open Go
def BX (A : AP) (fid : FuncId) (z : Nat) (md : Md) (m : Nat) (g : Nat → S) (v : V) (g' : Nat → S) : Prop :=
 ∃ σ1, Run A fid [.ptr 0 0 1] [.vs .var [.ptr 1 0 z], .sc md m g] = some (v, σ1) ∧ σ1[0]? = some (.vs .var [.ptr 1 0 z]) ∧ σ1[1]? = some (.sc md m g')
section
variable {A : AP} {N : Nat} {f : FE} {n : Nat} {L : HA} {K : KN} {Zp : V → KN} {l : List I}
theorem enter_box {b k z m : Nat} {md : Md} {g : Nat → S} (hb : (b, Blk.vs .var [.ptr k 0 z]) ∈ L) (hk : (k, Blk.sc md m g) ∈ L) {σ : Heap} (h : Hp σ n L) :
  k ≠ b ∧ enterC false [.ptr b 0 1] σ = some ([b, k], [.ptr 0 0 1], [.vs .var [.ptr 1 0 z], .sc md m g]) := by
 have hb' := (h.2.mem hb).2
 have hk' := (h.2.mem hk).2
 have hne : k ≠ b := fun e => by subst e; rw [hb'] at hk'; cases hk'
 refine ⟨hne, ?_⟩
 have hre : reach σ 64 (V.refsL [.ptr b 0 1]) [] = [b, k] := by
  have e2 : ([b] : List Nat).contains k = false := by simp [hne]
  show (bif ([] : List Nat).contains b then reach σ 63 [] [] else reach σ 63 ((σ.getD b .dead).refs ++ []) ([] ++ [b])) = _
  rw [getD_of hb']
  show (bif ([b] : List Nat).contains k then reach σ 62 [] [b] else reach σ 62 ((σ.getD k .dead).refs ++ []) ([b] ++ [k])) = _
  rw [e2, getD_of hk']; rfl
 have p0 : pos b [b, k] = some 0 := by simp [pos]
 have p1 : pos k [b, k] = some 1 := by
  have e1 : (b == k) = false := by simpa using Ne.symm hne
  simp [pos, e1]
 unfold enterC
 rw [hre]
 simp only [V.renL, V.ren, p0, Option.map_some, pickB, hb', hk', Option.bind_some, Blk.ren, p1, lower, cond_false]
theorem leave_box {b k z m : Nat} {md : Md} {g' : Nat → S} {v : V} (hv : v.loose = true) (hb : (b, Blk.vs .var [.ptr k 0 z]) ∈ L) {σ σ1 : Heap} (h : Hp σ n L) (hne : k ≠ b) (h0 : σ1[0]? = some (.vs .var [.ptr 1 0 z])) (h1 : σ1[1]? = some (.sc md m g')) :
  leaveC false σ [b, k] v σ1 = some (v, σ.set k (.sc md m g')) := by
 have hns : newIds false 2 v σ1 = [] := by
  unfold newIds
  have ht : (σ1.take 2).flatMap Blk.refs = [1] := by rw [take2 h0 h1]; rfl
  have hre : reach σ1 64 [1] [] = [1] := by
   show reach σ1 63 ((σ1.getD 1 .dead).refs ++ []) [1] = _
   rw [getD_of h1]; rfl
  rw [V.loose_refs v hv, List.nil_append, cond_false, ht, hre]
  rfl
 have hlt := lt_of h1
 have hble : Nat.ble 2 σ1.length = true := Nat.ble_eq_true_of_le (by omega)
 have b1 : backF [b, k] [] σ.length 2 1 = some k := rfl
 have hnd : ([k] : List Nat).contains b = false := by simp [Ne.symm hne]
 have hrg : List.range 2 = [0, 1] := rfl
 have hb' := (h.2.mem hb).2
 have hself : σ.set b (.vs .var [.ptr k 0 z]) = σ := by
  refine List.ext_getElem? fun i => ?_
  by_cases e : b = i
  ·subst e; rw [List.getElem?_set_self (lt_of hb'), hb']
  ·rw [List.getElem?_set_ne e]
 simp only [leaveC, List.length_cons, List.length_nil, Nat.zero_add, Nat.reduceAdd, hns, nodup, hnd, List.contains_nil, Bool.not_false, hble, Bool.and_self, cond_true, V.loose_ren _ v hv, pickB, Blk.ren, lower, cond_false, hrg, h0, h1, Option.bind_some, V.renL, V.ren, b1, Option.map_some, putB, hself, List.append_nil]
theorem WO_callBox {x : O} {fid : FuncId} {b k z m : Nat} {md : Md} {g g' : Nat → S} {v : V} {L' : HA} {od : Option Nat} (hs : BX A fid z md m g v g') (hf : x.fv N f = .fn fid [.ptr b 0 1]) (hv : v.loose = true)
  (hb : (b, Blk.vs .var [.ptr k 0 z]) ∈ L) (hat : At k (.sc md m g) (.sc md m g') L L') (kk : WO A N l (updO f od v) n L' K Zp) : WO A N (⟨od, none, .h (.call x [])⟩ :: l) f n L K Zp := by
 obtain ⟨σ1, hrun, h0, h1⟩ := hs
 refine WO_h (v := v) (fun σ h => ?_) kk
 obtain ⟨hne, hen⟩ := enter_box hb hat.mem h
 refine ⟨_, ?_, h.set hat⟩
 simp only [heapV, ev_E, hf, callWith, target, List.map_nil, List.nil_append, Option.bind_some, hen, hrun, leave_box hv hb h hne h0 h1]
theorem WO_callBoxX {x : O} {fid : FuncId} {b k z m : Nat} {md : Md} {g g' : Nat → S} {p : V} {L' : HA} {od : Option Nat} (hs : BX A fid z md m g (.pan p) g') (hf : x.fv N f = .fn fid [.ptr b 0 1]) (hv : p.loose = true)
  (hb : (b, Blk.vs .var [.ptr k 0 z]) ∈ L) (hat : At k (.sc md m g) (.sc md m g') L L') (kk : Zp p f n L') : WO A N (⟨od, none, .h (.call x [])⟩ :: l) f n L K Zp := by
 obtain ⟨σ1, hrun, h0, h1⟩ := hs
 intro σ h
 obtain ⟨hne, hen⟩ := enter_box hb hat.mem h
 refine ⟨.panic p, f, _, n, L', ?_, h.set hat, kk⟩
 have hno : callWith (Run A) false (.fn fid [.ptr b 0 1]) [] σ = none := by
  simp only [callWith, target, List.nil_append, Option.bind_some, hen, hrun, leaveC, V.ren]
  cases (nodup [b, k] && nodup (newIds false [b, k].length (.pan p) σ1) && Nat.ble [b, k].length σ1.length) <;> rfl
 simp only [opsX, stepI, insV, heapV, ev_E, hf, List.map_nil, hno, Option.map_none, panI, guardOK, cond_true, callPan, target, List.nil_append, Option.bind_some, hen, hrun, leave_box hv hb h hne h0 h1, Option.map_some]
end
end Go.Am
namespace Go.Am
open Go
def Reads (run : Runner) (a : I) (d : Nat) (x : V) (e : Env) (σ : Heap) : Prop := stepI run a e σ = some (e.set d x, σ)
theorem sameR_refl (r : Res) : sameR r r := by
 match r with
 | none => rfl
 | some (.panic x, e, σ) => exact ⟨rfl, rfl⟩
 | some (.normal, e, σ) => rfl
 | some (.exit _, e, σ) => rfl
 | some (.ret, e, σ) => rfl
theorem opsX_swap {run : Runner} {a b : I} {l : List I} {e : Env} {σ : Heap} {d : Nat} {x : V} (ha : Reads run a d x e σ)
  (hb : (∃ d' y σ2, d ≠ d' ∧ stepI run b (e.set d x) σ = some ((e.set d x).set d' y, σ2) ∧ stepI run b e σ = some (e.set d' y, σ2) ∧ Reads run a d x (e.set d' y) σ2) ∨
   (stepI run b (e.set d x) σ = none ∧ stepI run b e σ = none ∧ panI run b (e.set d x) σ = panI run b e σ)) : sameR (opsX run (b :: a :: l) e σ) (opsX run (a :: b :: l) e σ) := by
 rcases hb with ⟨d', y, σ2, hne, h1, h2, h3⟩ | ⟨h1, h2, h3⟩
 ·have : opsX run (b :: a :: l) e σ = opsX run (a :: b :: l) e σ := by
   simp only [opsX, h2]
   rw [show stepI run a (e.set d' y) σ2 = some ((e.set d' y).set d x, σ2) from h3, show stepI run a e σ = some (e.set d x, σ) from ha]
   simp only [h1]
   rw [List.set_comm _ _ (Ne.symm hne)]
  rw [this]
  exact sameR_refl _
 ·simp only [opsX, h2]
  rw [show stepI run a e σ = some (e.set d x, σ) from ha]
  simp only [h1, h3]
  cases panI run b e σ with
  | none => simp [sameR]
  | some r =>
   show sameR (some (.panic r.1, e, r.2)) (some (.panic r.1, e.set d x, r.2))
   exact ⟨rfl, rfl⟩
theorem sameR_trans {a b c : Res} (h : sameR a b) (k : sameR b c) : sameR a c := by
 match a, b, c, h, k with
 | some (.panic x, e, σ), some (.panic y, e2, σ2), some (.panic z, e3, σ3), h, k => exact ⟨h.1.trans k.1, h.2.trans k.2⟩
 | some (.panic x, e, σ), some (.panic y, e2, σ2), none, h, k => cases k
 | some (.panic x, e, σ), some (.panic y, e2, σ2), some (.normal, _, _), h, k => cases k
 | some (.panic x, e, σ), some (.panic y, e2, σ2), some (.exit _, _, _), h, k => cases k
 | some (.panic x, e, σ), some (.panic y, e2, σ2), some (.ret, _, _), h, k => cases k
 | some (.panic x, e, σ), none, c, h, k => cases h
 | some (.panic x, e, σ), some (.normal, _, _), c, h, k => cases h
 | some (.panic x, e, σ), some (.exit _, _, _), c, h, k => cases h
 | some (.panic x, e, σ), some (.ret, _, _), c, h, k => cases h
 | none, b, c, h, k => have h : none = b := h; subst h; exact k
 | some (.normal, e, σ), b, c, h, k => have h : some (.normal, e, σ) = b := h; subst h; exact k
 | some (.exit j, e, σ), b, c, h, k => have h : some (.exit j, e, σ) = b := h; subst h; exact k
 | some (.ret, e, σ), b, c, h, k => have h : some (.ret, e, σ) = b := h; subst h; exact k
theorem opsX_cons {run : Runner} {b : I} {r1 r2 : List I} {e : Env} {σ : Heap} (h : ∀ e' σ', stepI run b e σ = some (e', σ') → sameR (opsX run r1 e' σ') (opsX run r2 e' σ')) : sameR (opsX run (b :: r1) e σ) (opsX run (b :: r2) e σ) := by
 simp only [opsX]
 cases hs : stepI run b e σ with
 | none => exact sameR_refl _
 | some r => exact h r.1 r.2 hs
theorem WP_parcS {A : AP} {N : Nat} {f : FE} {n : Nat} {L : HA} {K : KN} {Zp : V → KN} {X : Nat → KN} {R : KN} {ps : List (List Nat)} {l : List I} (h : WO A N l f n L K Zp) (hs : ∀ σ, Hp σ n L → ∀ p ∈ ps, sameR (opsX (Run A) (pickL l p) (E N f) σ) (opsX (Run A) l (E N f) σ)) : WP A N (.parc ps l) f n L K X R Zp :=
 WP_parc fun σ hσ => by
  obtain ⟨x, f', σ', n', L', h1, h2, h3⟩ := h σ hσ
  exact ⟨x, f', σ', n', L', h1, fun p hp => by rw [← h1]; exact hs σ hσ p hp, h2, h3⟩
section
variable {A : AP} {n : Nat} {L : HA}
theorem callL_ex {fv : V} {fid : FuncId} {args av av' : List V} {rs : List Nat} {Bs Bs' : List Blk} {v : V} {L' : HA} (ht : target fv args = some (fid, av)) (hs : RL A fid av' Bs v Bs') (hrs : dedup (V.refsL av) [] = rs) (hl : (V.refsL av).length < 64) (hsub : ∀ b ∈ V.refsL av, b ∈ rs)
  (hren : rnL rs av = some av') (hB : lss L rs Bs) (hlen : Bs'.length = rs.length) (hv : v.loose = true) (hat : AtL rs Bs Bs' L L') {σ : Heap} (h : Hp σ n L) : ∃ σ', callWith (Run A) false fv args σ = some (v, σ') ∧ Hp σ' n L' := by
 obtain ⟨σ1, hs, haf⟩ := hs
 have hen := enter_lss (q := false) hrs hl hsub hren hB h
 rw [lows_false] at hen
 obtain ⟨h1, h2⟩ := leave_lss hrs hv haf hlen hat h
 exact ⟨_, by simp only [callWith, ht, Option.bind_some, hen, hs, h1], h2⟩
theorem callX_ex {fv : V} {fid : FuncId} {args av av' : List V} {rs : List Nat} {Bs Bs' : List Blk} {p : V} {L' : HA} (ht : target fv args = some (fid, av)) (hs : RL A fid av' Bs (.pan p) Bs') (hrs : dedup (V.refsL av) [] = rs) (hl : (V.refsL av).length < 64) (hsub : ∀ b ∈ V.refsL av, b ∈ rs)
  (hren : rnL rs av = some av') (hB : lss L rs Bs) (hlen : Bs'.length = rs.length) (hv : p.loose = true) (hat : AtL rs Bs Bs' L L') {σ : Heap} (h : Hp σ n L) : callWith (Run A) false fv args σ = none ∧ ∃ σ', callPan (Run A) fv args σ = some (p, σ') ∧ Hp σ' n L' := by
 obtain ⟨σ1, hs, haf⟩ := hs
 have hen := enter_lss (q := false) hrs hl hsub hren hB h
 rw [lows_false] at hen
 obtain ⟨h1, h2⟩ := leave_lss hrs hv haf hlen hat h
 refine ⟨?_, _, by simp only [callPan, ht, Option.bind_some, hen, hs, h1], h2⟩
 simp only [callWith, ht, Option.bind_some, hen, hs, leaveC, V.ren]
 cases (nodup rs && nodup (newIds false rs.length (.pan p) σ1) && Nat.ble rs.length σ1.length) <;> rfl
end
def Moves (run : Runner) (b : I) (d : Nat) : Prop :=
 ∀ (e : Env) (x : V) (σ : Heap), stepI run b (e.set d x) σ = (stepI run b e σ).map (fun r => (r.1.set d x, r.2)) ∧ panI run b (e.set d x) σ = panI run b e σ
theorem move_past {run : Runner} {a b : I} {l : List I} {e : Env} {σ : Heap} {d : Nat} {x : V} (hm : Moves run b d) (ha : Reads run a d x e σ) (hb : ∀ e1 σ1, stepI run b e σ = some (e1, σ1) → Reads run a d x e1 σ1) : sameR (opsX run (b :: a :: l) e σ) (opsX run (a :: b :: l) e σ) := by
 obtain ⟨h1, h2⟩ := hm e x σ
 simp only [opsX]
 rw [show stepI run a e σ = some (e.set d x, σ) from ha]
 simp only [h1, h2]
 cases hs : stepI run b e σ with
 | some r =>
  have := hb r.1 r.2 hs
  simp only [Option.map_some]
  rw [show stepI run a r.1 r.2 = some (r.1.set d x, r.2) from this]
  exact sameR_refl _
 | none =>
  simp only [Option.map_none]
  cases panI run b e σ with
  | none => simp [sameR]
  | some r => exact ⟨rfl, rfl⟩
def O.avoids (d : Nat) : O → Bool
 | .t n => !Nat.beq n d
 | .k _ => true
theorem avoids_ev {d : Nat} {o : O} (h : o.avoids d = true) (e : Env) (x : V) : o.ev (e.set d x) = o.ev e := by
 cases o with
 | k v => rfl
 | t n =>
  show (e.set d x).getD n .undef = e.getD n .undef
  have hne : d ≠ n := fun q => by
   subst q
   simp [O.avoids] at h
  rw [List.getD_eq_getElem?_getD, List.getD_eq_getElem?_getD, List.getElem?_set_ne hne]
theorem avoids_evs {d : Nat} : ∀ {os : List O}, os.all (O.avoids d) = true → ∀ (e : Env) (x : V), os.map (·.ev (e.set d x)) = os.map (·.ev e)
 | [], _, _, _ => rfl
 | o :: os, h, e, x => by
  simp only [List.all_cons, Bool.and_eq_true] at h
  simp only [List.map_cons, avoids_ev h.1, avoids_evs h.2]
theorem Moves_call {run : Runner} {d d' : Nat} {f : O} {args : List O} (hd : d ≠ d') (hf : f.avoids d = true) (ha : args.all (O.avoids d) = true) : Moves run ⟨some d', none, .h (.call f args)⟩ d := fun e x σ => by
 refine ⟨?_, ?_⟩
 ·simp only [stepI, insV, heapV, avoids_ev hf, avoids_evs ha, putT]
  cases callWith run false (f.ev e) (args.map (·.ev e)) σ with
  | none => rfl
  | some r => simp only [Option.map_some]; rw [List.set_comm _ _ hd]
 ·simp only [panI, guardOK, cond_true, avoids_ev hf, avoids_evs ha]
theorem Moves_load {run : Runner} {d d' n : Nat} {g : Bool} {a : O} (hd : d ≠ d') (ha : a.avoids d = true) : Moves run ⟨some d', none, .h (.load g n a)⟩ d := fun e x σ => by
 refine ⟨?_, rfl⟩
 simp only [stepI, insV, heapV, avoids_ev ha, putT, Option.map_map]
 congr 1
 funext r
 simp only [Function.comp]
 rw [List.set_comm _ _ hd]
theorem Moves_mksl {run : Runner} {d d' l z : Nat} {zz : Z} {v : V} {p : Nat} (hd : d ≠ d') : Moves run ⟨some d', none, .h (.mksl l z zz [(p, .k v)])⟩ d := fun e x σ => by
 refine ⟨?_, rfl⟩
 have : ∀ (e e' : Env) (b : Blk) (q w : Nat), fillRow e b [(q, w, .k v)] = fillRow e' b [(q, w, .k v)] := fun e e' b q w => by
  cases b <;> rfl
 simp only [stepI, insV, heapV, List.map_cons, List.map_nil, this (e.set d x) e, putT, Option.map_map]
 congr 1
 funext r
 simp only [Function.comp]
 rw [List.set_comm _ _ hd]
theorem WO_callN0 {A : AP} {N : Nat} {f : FE} {n : Nat} {L : HA} {K : KN} {Zp : V → KN} {l : List I} {d : Nat} {x : O} {fid : FuncId} {mk : Nat → V} {B : Blk} (hmk : One mk) (hl : B.loose = true) (hf : x.fv N f = .fn fid []) (hs : RN A fid [] [] mk B [])
  (k : WO A N l (upd f d (mk n)) (n + 1) ((n, B) :: L) K Zp) : WO A N (⟨some d, none, .h (.call x [])⟩ :: l) f n L K Zp := by
 obtain ⟨b, σ1, hr, _, h1, _⟩ := hs
 refine WO_h (v := mk n) (fun σ h => ?_) k
 have hns : newIds false 0 (mk b) σ1 = [b] := by
  unfold newIds
  have hre : reach σ1 64 ((mk b).refs ++ []) [] = [b] := by
   rw [hmk.refs]
   show (bif ([] : List Nat).contains b then reach σ1 63 [] [] else reach σ1 63 ((σ1.getD b .dead).refs ++ []) ([] ++ [b])) = [b]
   rw [getD_of h1, Blk.loose_refs hl]; rfl
  show List.filter (fun b => Nat.ble 0 b) (reach σ1 64 ((mk b).refs ++ (σ1.take 0).flatMap Blk.refs) []) = [b]
  rw [List.take_zero, List.flatMap_nil, hre, filter_ge (Nat.zero_le b)]
 have hre : (mk b).ren (backF [] [b] σ.length 0) = some (mk n) := by
  rw [hmk.ren, back_one (Nat.zero_le b), h.1]; rfl
 have hble : Nat.ble 0 σ1.length = true := rfl
 refine ⟨σ ++ [B], ?_, h.new _⟩
 simp only [heapV, ev_E, hf, callWith, target, List.map_nil, List.append_nil, Option.bind_some, enterC, V.refsL, reach_nil, V.renL, pickB, hr, leaveC, List.length_nil, hns, nodup, List.contains_nil, Bool.not_false, Bool.and_self, hble, cond_true, hre, h1, Blk.loose_ren hl, Blk.low_false, cond_false, List.range_zero, putB]
end Go.Am
namespace Go.Am
open Go
section
variable {A : AP} {N : Nat} {f : FE} {n : Nat} {L : HA} {K : KN} {Zp : V → KN} {l : List I} {d : Nat}
theorem WO_alloctV {T : TypeId} {vs : List V} {m : Nat} (hm : vs.length = m) (k : WO A N l (upd f d (.ptr n 0 m)) (n + 1) ((n, .vs (.ty T) vs) :: L) K Zp) : WO A N (⟨some d, none, .h (.alloct T vs)⟩ :: l) f n L K Zp := by
 subst hm
 exact WO_h (v := .ptr n 0 vs.length) (fun σ hσ => ⟨σ ++ [.vs (.ty T) vs], by simp only [heapV, hσ.1], hσ.new _⟩) k
theorem WO_ldVA {m : Nat} {a : O} {b o z : Nat} {md : Md} {vs : List V} {v : V} (ha : a.fv N f = .ptr b o z) (hz : Nat.ble m z = true) (hm : (b, Blk.vs md vs) ∈ L) (ho : Nat.ble (o + m) vs.length = true) (hg : mkAgg ((vs.drop o).take m) = v) (k : WO A N l (upd f d v) n L K Zp) : WO A N (⟨some d, none, .h (.load true m a)⟩ :: l) f n L K Zp :=
 WO_h (v := v) (fun σ hσ => ⟨σ, by
  simp only [heapV, ev_E, ha, if_pos (Nat.le_of_ble_eq_true hz), rdV, (hσ.2.mem hm).2, cond_true, if_pos (Nat.le_of_ble_eq_true ho), hg, Option.map_some], hσ⟩) k
theorem WO_stVA {m : Nat} {a x : O} {b o z : Nat} {md : Md} {vs vs' c : List V} {v : V} {L' : HA} (ha : a.fv N f = .ptr b o z) (hx : x.fv N f = v) (hv : v.vcells m = some c) (h1 : c.all V.one = true) (hz : Nat.ble m z = true) (hmd : md.mut = true) (ho : Nat.ble (o + m) vs.length = true) (hvs : vs.take o ++ c ++ vs.drop (o + m) = vs')
  (hat : At b (.vs md vs) (.vs md vs') L L') (k : WO A N l f n L' K Zp) : WO A N (⟨none, none, .h (.store m a x)⟩ :: l) f n L K Zp :=
 WO_h (v := .undef) (fun σ hσ => ⟨σ.set b (.vs md vs'), by
  simp only [heapV, ev_E, ha, hx, if_pos (Nat.le_of_ble_eq_true hz), wrV, (hσ.2.mem hat.mem).2, hmd, if_true, hv, Option.bind_some, if_pos (⟨Nat.le_of_ble_eq_true ho, h1⟩ : o + m ≤ vs.length ∧ c.all V.one = true), hvs, Option.map_some], hσ.set hat⟩) k
theorem WO_ixV {len z : Nat} {x i : O} {vs : List V} {kd : IntKind} {j : Int} {v : V} (hx : x.fv N f = .aggv vs) (hi : i.fv N f = .s (.int kd j)) (hz : Nat.ble (len * z) vs.length = true) (hj : 0 ≤ j ∧ j < len) (hv : vs[j.toNat * z]? = some v) (k : WO A N l (upd f d v) n L K Zp) : WO A N (⟨some d, none, .p (.ix len z false x i)⟩ :: l) f n L K Zp :=
 WO_p (v := v) (by simp only [pureV, ev_E, hx, hi, if_pos (Nat.le_of_ble_eq_true hz), if_pos hj, cond_false, hv]) k
end
theorem runF_ext {A B : AP} (hf : ∀ f a, A.fns f = some a → B.fns f = some a) (hp : ∀ f pf, A.prims f = some pf → B.prims f = some pf) (hn : ∀ f a, A.prims f = none → A.fns f = some a → B.prims f = none) : ∀ n, LeR (runF A n) (runF B n)
 | 0 => fun _ _ _ _ h => by simp [runF] at h
 | n + 1 => fun f as σ x h => by
  have ih := runF_ext hf hp hn n
  rw [runF] at h ⊢
  cases hq : A.prims f with
  | some pf =>
   rw [hq] at h
   rw [hp f pf hq]
   exact h
  | none =>
   rw [hq] at h
   simp only at h
   cases ha : A.fns f with
   | none => rw [ha] at h; cases h
   | some a =>
    rw [ha] at h
    rw [hn f a hq ha]
    simp only [hf f a ha]
    exact finish_mono (fun r hr => exec_mono ih (Nat.le_refl n) a.body hr) h
theorem Run_ext {A B : AP} (hf : ∀ f a, A.fns f = some a → B.fns f = some a) (hp : ∀ f pf, A.prims f = some pf → B.prims f = some pf) (hn : ∀ f a, A.prims f = none → A.fns f = some a → B.prims f = none) : LeR (Run A) (Run B) := fun f as σ x h => by
 obtain ⟨n, h⟩ := Run_to h
 exact Run_of (runF_ext hf hp hn n f as σ x h)
end Go.Am
