/- The abstract machine by assertions: the steps that touch no block. -/
import Derived.Test.YtjldefmcnppdoaaAmWp
import Derived.IntWalk
namespace Go.Am
open Go

/-- Cells that are whole numbers all. -/
abbrev ia (P : Nat → Int) : Nat → S := fun i => .int .i64 (P i)
/-- These cells, and zeros. -/
abbrev lc (l : List S) : Nat → S := fun i => l.getD i S.zero

section
variable {A : AP} {N : Nat} {f : FE} {n : Nat} {L : HA} {K : KN} {l : List I} {d : Nat}

theorem WO_mv {x : O} {v : V} (h : x.fv N f = v) (k : WO A N l (upd f d v) n L K) : WO A N (⟨some d, none, .p (.mv x)⟩ :: l) f n L K :=
  WO_p (v := v) (by rw [pureV, ev_E, h]) k

theorem WO_pick {c a b : O} {t : Bool} {v : V} (hc : c.fv N f = .s (.bool t)) (hv : (bif t then a.fv N f else b.fv N f) = v) (k : WO A N l (upd f d v) n L K) : WO A N (⟨some d, none, .p (.pick c a b)⟩ :: l) f n L K :=
  WO_p (v := v) (by simp only [pureV, ev_E, hc, hv]) k

theorem WO_nilckP {x : O} {b o z : Nat} (h : x.fv N f = .ptr b o z) (k : WO A N l (upd f d (.ptr b o z)) n L K) : WO A N (⟨some d, none, .p (.nilck x)⟩ :: l) f n L K :=
  WO_p (v := .ptr b o z) (by simp only [pureV, ev_E, h]) k

theorem WO_nilckF {x : O} {g : FuncId} {c : List V} (h : x.fv N f = .fn g c) (k : WO A N l (upd f d (.fn g c)) n L K) : WO A N (⟨some d, none, .p (.nilck x)⟩ :: l) f n L K :=
  WO_p (v := .fn g c) (by simp only [pureV, ev_E, h]) k

theorem WO_bin {op : BinOp} {x y : O} {a b r : S} (hx : x.fv N f = .s a) (hy : y.fv N f = .s b) (hr : binS op a b = some r) (k : WO A N l (upd f d (.s r)) n L K) : WO A N (⟨some d, none, .p (.bin op x y)⟩ :: l) f n L K :=
  WO_p (v := .s r) (by simp only [pureV, ev_E, hx, hy, hr, Option.map_some]) k

theorem WO_add {x y : O} {a b : Int} (hx : x.fv N f = .s (.int .i64 a)) (hy : y.fv N f = .s (.int .i64 b)) (hr : -9223372036854775808 ≤ a + b ∧ a + b ≤ 9223372036854775807) (k : WO A N l (upd f d (.s (.int .i64 (a + b)))) n L K) : WO A N (⟨some d, none, .p (.bin .add x y)⟩ :: l) f n L K :=
  WO_bin hx hy (by show binInt .add .i64 a b = _; rw [binInt, IntWalk.i64_in _ hr]) k

theorem WO_sub {x y : O} {a b : Int} (hx : x.fv N f = .s (.int .i64 a)) (hy : y.fv N f = .s (.int .i64 b)) (hr : -9223372036854775808 ≤ a - b ∧ a - b ≤ 9223372036854775807) (k : WO A N l (upd f d (.s (.int .i64 (a - b)))) n L K) : WO A N (⟨some d, none, .p (.bin .sub x y)⟩ :: l) f n L K :=
  WO_bin hx hy (by show binInt .sub .i64 a b = _; rw [binInt, IntWalk.i64_in _ hr]) k

theorem WO_mul {x y : O} {a b : Int} (hx : x.fv N f = .s (.int .i64 a)) (hy : y.fv N f = .s (.int .i64 b)) (hr : -9223372036854775808 ≤ a * b ∧ a * b ≤ 9223372036854775807) (k : WO A N l (upd f d (.s (.int .i64 (a * b)))) n L K) : WO A N (⟨some d, none, .p (.bin .mul x y)⟩ :: l) f n L K :=
  WO_bin hx hy (by show binInt .mul .i64 a b = _; rw [binInt, IntWalk.i64_in _ hr]) k

theorem WO_quo {x y : O} {a b : Int} (hx : x.fv N f = .s (.int .i64 a)) (hy : y.fv N f = .s (.int .i64 b)) (hr : 0 ≤ a ∧ a ≤ 9223372036854775807 ∧ 1 ≤ b) (k : WO A N l (upd f d (.s (.int .i64 (a / b)))) n L K) : WO A N (⟨some d, none, .p (.bin .quo x y)⟩ :: l) f n L K :=
  WO_bin hx hy (by show binInt .quo .i64 a b = _; rw [binInt, if_neg (by omega), IntWalk.i64_quo _ _ hr]) k

theorem WO_rem {x y : O} {a b : Int} (hx : x.fv N f = .s (.int .i64 a)) (hy : y.fv N f = .s (.int .i64 b)) (hr : 0 ≤ a ∧ 1 ≤ b) (k : WO A N l (upd f d (.s (.int .i64 (a % b)))) n L K) : WO A N (⟨some d, none, .p (.bin .rem x y)⟩ :: l) f n L K :=
  WO_bin hx hy (by show binInt .rem .i64 a b = _; rw [binInt, if_neg (by omega), Int.tmod_eq_emod_of_nonneg hr.1]) k

theorem WO_eqb {neg : Bool} {x y : O} {a b : Bool} (hx : x.fv N f = .s (.bool a)) (hy : y.fv N f = .s (.bool b)) (k : WO A N l (upd f d (.s (.bool (bif neg then !(a == b) else a == b)))) n L K) : WO A N (⟨some d, none, .p (.eqb neg x y)⟩ :: l) f n L K :=
  WO_p (v := .s (.bool (bif neg then !(a == b) else a == b))) (by simp only [pureV, ev_E, hx, hy]) k

theorem WO_eqbT {x y : O} {a b : Bool} (hx : x.fv N f = .s (.bool a)) (hy : y.fv N f = .s (.bool b)) (h : a = b) (k : WO A N l (upd f d (.s (.bool true))) n L K) : WO A N (⟨some d, none, .p (.eqb false x y)⟩ :: l) f n L K :=
  WO_p (v := .s (.bool true)) (by subst h; simp only [pureV, ev_E, hx, hy, cond_false, beq_self_eq_true]) k

theorem WO_eqbF {x y : O} {a b : Bool} (hx : x.fv N f = .s (.bool a)) (hy : y.fv N f = .s (.bool b)) (h : a = b) (k : WO A N l (upd f d (.s (.bool false))) n L K) : WO A N (⟨some d, none, .p (.eqb true x y)⟩ :: l) f n L K :=
  WO_p (v := .s (.bool false)) (by subst h; simp only [pureV, ev_E, hx, hy, cond_true, beq_self_eq_true, Bool.not_true]) k

theorem WO_remT {x y : O} {a b : Int} (hx : x.fv N f = .s (.int .i64 a)) (hy : y.fv N f = .s (.int .i64 b)) (hr : b ≠ 0) (k : WO A N l (upd f d (.s (.int .i64 (a.tmod b)))) n L K) : WO A N (⟨some d, none, .p (.bin .rem x y)⟩ :: l) f n L K :=
  WO_bin hx hy (by show binInt .rem .i64 a b = _; rw [binInt, if_neg hr]) k

/-- Are two runs of cells the same? -/
def eqI (n : Nat) (P Q : Nat → Int) : Bool := allB n fun i => decide (P i = Q i)

theorem eqI_iff {P Q : Nat → Int} : ∀ {n : Nat}, eqI n P Q = true ↔ ∀ i, i < n → P i = Q i
  | 0 => by simp [eqI, allB]
  | n + 1 => by
    have ih := eqI_iff (P := P) (Q := Q) (n := n)
    unfold eqI at ih ⊢
    simp only [allB, Bool.and_eq_true, ih, decide_eq_true_eq]
    exact ⟨fun ⟨h1, h2⟩ i hi => by
      by_cases he : i = n
      · subst he; exact h2
      · exact h1 i (by omega), fun h => ⟨fun i hi => h i (by omega), h n (by omega)⟩⟩

theorem allB_true {g : Nat → Bool} (h : ∀ i, g i = true) : ∀ n, allB n g = true
  | 0 => rfl
  | n + 1 => by simp [allB, allB_true h n, h n]

theorem WO_eqa {neg : Bool} {m : Nat} {x y : O} {P Q : Nat → Int} (hx : x.fv N f = .agg m (ia P)) (hy : y.fv N f = .agg m (ia Q)) (k : WO A N l (upd f d (.s (.bool (bif neg then !(eqI m P Q) else eqI m P Q)))) n L K) : WO A N (⟨some d, none, .p (.eqa neg m x y)⟩ :: l) f n L K :=
  WO_p (v := .s (.bool (bif neg then !(eqI m P Q) else eqI m P Q))) (by
    simp only [pureV, ev_E, hx, hy]
    rw [if_pos ⟨trivial, trivial⟩, allB_true (fun i => by simp [S.fits])]
    rfl) k

theorem WO_un {op : UnOp} {x : O} {a r : S} (hx : x.fv N f = .s a) (hr : unS op a = some r) (k : WO A N l (upd f d (.s r)) n L K) : WO A N (⟨some d, none, .p (.un op x)⟩ :: l) f n L K :=
  WO_p (v := .s r) (by simp only [pureV, ev_E, hx, hr, Option.map_some]) k

theorem WO_neg {x : O} {a : Int} (hx : x.fv N f = .s (.int .i64 a)) (hr : -9223372036854775807 ≤ a ∧ a ≤ 9223372036854775807) (k : WO A N l (upd f d (.s (.int .i64 (-a)))) n L K) : WO A N (⟨some d, none, .p (.un .neg x)⟩ :: l) f n L K :=
  WO_un hx (by show some (S.int .i64 (IntKind.i64.wrap (0 - a))) = _; rw [IntWalk.i64_in _ (by omega)]; simp) k

theorem WO_conv {kd kd' : IntKind} {x : O} {a : Int} (hx : x.fv N f = .s (.int kd' a)) (hr : kd.wrap a = a) (k : WO A N l (upd f d (.s (.int kd a))) n L K) : WO A N (⟨some d, none, .p (.conv kd x)⟩ :: l) f n L K :=
  WO_p (v := .s (.int kd a)) (by simp only [pureV, ev_E, hx, hr]) k

theorem WO_fa {off z : Nat} {x : O} {b o z' o' : Nat} (hx : x.fv N f = .ptr b o z') (hz : Nat.ble (off + z) z' = true) (ho : o + off = o') (k : WO A N l (upd f d (.ptr b o' z)) n L K) : WO A N (⟨some d, none, .p (.fa off z x)⟩ :: l) f n L K :=
  WO_p (v := .ptr b o' z) (by simp only [pureV, ev_E, hx, if_pos (Nat.le_of_ble_eq_true hz), ho]) k

theorem WO_fldA {off m : Nat} {x : O} {m' : Nat} {g : Nat → S} (hx : x.fv N f = .agg m' g) (hz : Nat.ble (off + m) m' = true) (k : WO A N l (upd f d (.agg m fun i => g (off + i))) n L K) : WO A N (⟨some d, none, .p (.fld true off m x)⟩ :: l) f n L K :=
  WO_p (v := .agg m fun i => g (off + i)) (by simp only [pureV, ev_E, hx, if_pos (Nat.le_of_ble_eq_true hz), cond_true]) k

theorem WO_fldS {off m : Nat} {x : O} {m' : Nat} {g : Nat → S} {a : S} (hx : x.fv N f = .agg m' g) (hz : Nat.ble (off + m) m' = true) (ha : g off = a) (k : WO A N l (upd f d (.s a)) n L K) : WO A N (⟨some d, none, .p (.fld false off m x)⟩ :: l) f n L K :=
  WO_p (v := .s a) (by simp only [pureV, ev_E, hx, if_pos (Nat.le_of_ble_eq_true hz), cond_false, ha]) k

theorem WO_ixa {len z : Nat} {x i : O} {b o z' : Nat} {kd : IntKind} {j : Int} (hx : x.fv N f = .ptr b o z') (hi : i.fv N f = .s (.int kd j)) (hz : Nat.ble (len * z) z' = true) (hj : 0 ≤ j ∧ j < len) (k : WO A N l (upd f d (.ptr b (o + j.toNat * z) z)) n L K) : WO A N (⟨some d, none, .p (.ixa len z x i)⟩ :: l) f n L K :=
  WO_p (v := .ptr b (o + j.toNat * z) z) (by simp only [pureV, ev_E, hx, hi, if_pos (Nat.le_of_ble_eq_true hz), if_pos hj]) k

theorem WO_ixs {z : Nat} {x i : O} {b o m : Nat} {c : Cp} {kd : IntKind} {j : Int} (hx : x.fv N f = .sl b o m z c) (hi : i.fv N f = .s (.int kd j)) (hj : 0 ≤ j ∧ j < m) (k : WO A N l (upd f d (.ptr b (o + j.toNat * z) z)) n L K) : WO A N (⟨some d, none, .p (.ixs z x i)⟩ :: l) f n L K :=
  WO_p (v := .ptr b (o + j.toNat * z) z) (by simp only [pureV, ev_E, hx, hi, if_true, if_pos hj]) k

theorem WO_ixS {len z : Nat} {x i : O} {m : Nat} {g : Nat → S} {kd : IntKind} {j : Int} {a : S} (hx : x.fv N f = .agg m g) (hi : i.fv N f = .s (.int kd j)) (hz : Nat.ble (len * z) m = true) (hj : 0 ≤ j ∧ j < len) (ha : g (j.toNat * z) = a) (k : WO A N l (upd f d (.s a)) n L K) : WO A N (⟨some d, none, .p (.ix len z false x i)⟩ :: l) f n L K :=
  WO_p (v := .s a) (by simp only [pureV, ev_E, hx, hi, if_pos (Nat.le_of_ble_eq_true hz), if_pos hj, cond_false, ha]) k

theorem WO_ixA {len z : Nat} {x i : O} {m : Nat} {g : Nat → S} {kd : IntKind} {j : Int} (hx : x.fv N f = .agg m g) (hi : i.fv N f = .s (.int kd j)) (hz : Nat.ble (len * z) m = true) (hj : 0 ≤ j ∧ j < len) (k : WO A N l (upd f d (.agg z fun i => g (j.toNat * z + i))) n L K) : WO A N (⟨some d, none, .p (.ix len z true x i)⟩ :: l) f n L K :=
  WO_p (v := .agg z fun i => g (j.toNat * z + i)) (by simp only [pureV, ev_E, hx, hi, if_pos (Nat.le_of_ble_eq_true hz), if_pos hj, cond_true]) k

theorem WO_ixstr {x i : O} {s : ByteArray} {kd : IntKind} {j : Int} (hx : x.fv N f = .s (.str s)) (hi : i.fv N f = .s (.int kd j)) (hj : 0 ≤ j ∧ j < s.size) (k : WO A N l (upd f d (.s (.int .u8 (s.data.getD j.toNat 0).toNat))) n L K) : WO A N (⟨some d, none, .p (.ixstr x i)⟩ :: l) f n L K :=
  WO_p (v := .s (.int .u8 (s.data.getD j.toNat 0).toNat)) (by simp only [pureV, ev_E, hx, hi, if_pos hj]) k

theorem WO_len {x : O} {b o m z : Nat} {c : Cp} (hx : x.fv N f = .sl b o m z c) (k : WO A N l (upd f d (.s (.int .i64 m))) n L K) : WO A N (⟨some d, none, .p (.len x)⟩ :: l) f n L K :=
  WO_p (v := .s (.int .i64 m)) (by simp only [pureV, ev_E, hx]) k

theorem WO_lenZ {x : O} (hx : x.fv N f = .slz) (k : WO A N l (upd f d (.s (.int .i64 0))) n L K) : WO A N (⟨some d, none, .p (.len x)⟩ :: l) f n L K :=
  WO_p (v := .s (.int .i64 0)) (by simp only [pureV, ev_E, hx]) k

theorem WO_lenN {x : O} (hx : x.fv N f = .snil) (k : WO A N l (upd f d (.s (.int .i64 0))) n L K) : WO A N (⟨some d, none, .p (.len x)⟩ :: l) f n L K :=
  WO_p (v := .s (.int .i64 0)) (by simp only [pureV, ev_E, hx]) k

theorem WO_lenS {x : O} {s : ByteArray} (hx : x.fv N f = .s (.str s)) (k : WO A N l (upd f d (.s (.int .i64 s.size))) n L K) : WO A N (⟨some d, none, .p (.lenS x)⟩ :: l) f n L K :=
  WO_p (v := .s (.int .i64 s.size)) (by simp only [pureV, ev_E, hx]) k

theorem WO_lenK {m : Nat} (k : WO A N l (upd f d (.s (.int .i64 m))) n L K) : WO A N (⟨some d, none, .p (.lenK m)⟩ :: l) f n L K :=
  WO_p (v := .s (.int .i64 m)) rfl k

theorem WO_ext {x : O} {i : Nat} {vs : List V} {v : V} (hx : x.fv N f = .tup vs) (hv : vs[i]? = some v) (k : WO A N l (upd f d v) n L K) : WO A N (⟨some d, none, .p (.ext x i)⟩ :: l) f n L K :=
  WO_p (v := v) (by simp only [pureV, ev_E, hx, hv]) k

theorem WO_mn {xs : List O} {vs : List V} {v : V} (hx : xs.map (O.fv N f) = vs) (hv : foldInts (fun a b => if b < a then b else a) vs = some v) (k : WO A N l (upd f d v) n L K) : WO A N (⟨some d, none, .p (.mn xs)⟩ :: l) f n L K :=
  WO_p (v := v) (by simp only [pureV, evs_E, hx, hv]) k

theorem WO_mx {xs : List O} {vs : List V} {v : V} (hx : xs.map (O.fv N f) = vs) (hv : foldInts (fun a b => if a < b then b else a) vs = some v) (k : WO A N l (upd f d v) n L K) : WO A N (⟨some d, none, .p (.mx xs)⟩ :: l) f n L K :=
  WO_p (v := v) (by simp only [pureV, evs_E, hx, hv]) k

theorem if_max (a b : Int) : (if a < b then b else a) = max a b := by rw [Int.max_def]; split <;> split <;> omega
theorem if_min (a b : Int) : (if b < a then b else a) = min a b := by rw [Int.min_def]; split <;> split <;> omega

theorem WO_mx2 {xa xb : O} {a b : Int} (ha : xa.fv N f = .s (.int .i64 a)) (hb : xb.fv N f = .s (.int .i64 b)) (k : WO A N l (upd f d (.s (.int .i64 (max a b)))) n L K) : WO A N (⟨some d, none, .p (.mx [xa, xb])⟩ :: l) f n L K :=
  WO_mx (vs := [.s (.int .i64 a), .s (.int .i64 b)]) (by simp only [List.map_cons, List.map_nil, ha, hb]) (by simp only [foldInts, foldInt, if_max]) k

theorem WO_mx3 {xa xb xc : O} {a b c : Int} (ha : xa.fv N f = .s (.int .i64 a)) (hb : xb.fv N f = .s (.int .i64 b)) (hc : xc.fv N f = .s (.int .i64 c)) (k : WO A N l (upd f d (.s (.int .i64 (max (max a b) c)))) n L K) : WO A N (⟨some d, none, .p (.mx [xa, xb, xc])⟩ :: l) f n L K :=
  WO_mx (vs := [.s (.int .i64 a), .s (.int .i64 b), .s (.int .i64 c)]) (by simp only [List.map_cons, List.map_nil, ha, hb, hc]) (by simp only [foldInts, foldInt, if_max]) k

theorem WO_mx4 {xa xb xc xe : O} {a b c e : Int} (ha : xa.fv N f = .s (.int .i64 a)) (hb : xb.fv N f = .s (.int .i64 b)) (hc : xc.fv N f = .s (.int .i64 c)) (he : xe.fv N f = .s (.int .i64 e)) (k : WO A N l (upd f d (.s (.int .i64 (max (max (max a b) c) e)))) n L K) : WO A N (⟨some d, none, .p (.mx [xa, xb, xc, xe])⟩ :: l) f n L K :=
  WO_mx (vs := [.s (.int .i64 a), .s (.int .i64 b), .s (.int .i64 c), .s (.int .i64 e)]) (by simp only [List.map_cons, List.map_nil, ha, hb, hc, he]) (by simp only [foldInts, foldInt, if_max]) k

theorem WO_mn2 {xa xb : O} {a b : Int} (ha : xa.fv N f = .s (.int .i64 a)) (hb : xb.fv N f = .s (.int .i64 b)) (k : WO A N l (upd f d (.s (.int .i64 (min a b)))) n L K) : WO A N (⟨some d, none, .p (.mn [xa, xb])⟩ :: l) f n L K :=
  WO_mn (vs := [.s (.int .i64 a), .s (.int .i64 b)]) (by simp only [List.map_cons, List.map_nil, ha, hb]) (by simp only [foldInts, foldInt, if_min]) k

theorem WO_mn3 {xa xb xc : O} {a b c : Int} (ha : xa.fv N f = .s (.int .i64 a)) (hb : xb.fv N f = .s (.int .i64 b)) (hc : xc.fv N f = .s (.int .i64 c)) (k : WO A N l (upd f d (.s (.int .i64 (min (min a b) c)))) n L K) : WO A N (⟨some d, none, .p (.mn [xa, xb, xc])⟩ :: l) f n L K :=
  WO_mn (vs := [.s (.int .i64 a), .s (.int .i64 b), .s (.int .i64 c)]) (by simp only [List.map_cons, List.map_nil, ha, hb, hc]) (by simp only [foldInts, foldInt, if_min]) k

theorem WO_mn4 {xa xb xc xe : O} {a b c e : Int} (ha : xa.fv N f = .s (.int .i64 a)) (hb : xb.fv N f = .s (.int .i64 b)) (hc : xc.fv N f = .s (.int .i64 c)) (he : xe.fv N f = .s (.int .i64 e)) (k : WO A N l (upd f d (.s (.int .i64 (min (min (min a b) c) e)))) n L K) : WO A N (⟨some d, none, .p (.mn [xa, xb, xc, xe])⟩ :: l) f n L K :=
  WO_mn (vs := [.s (.int .i64 a), .s (.int .i64 b), .s (.int .i64 c), .s (.int .i64 e)]) (by simp only [List.map_cons, List.map_nil, ha, hb, hc, he]) (by simp only [foldInts, foldInt, if_min]) k

theorem WO_mkfn {g : FuncId} {xs : List O} {vs : List V} (hx : xs.map (O.fv N f) = vs) (k : WO A N l (upd f d (.fn g vs)) n L K) : WO A N (⟨some d, none, .p (.mkfn g xs)⟩ :: l) f n L K :=
  WO_p (v := .fn g vs) (by simp only [pureV, evs_E, hx]) k

/-- The bounds of a part. -/
def fvb (N : Nat) (f : FE) (x : Option O) (d : Nat) : Option Int :=
  match x with
  | none => some d
  | some x => num? (x.fv N f)

theorem bound_E (x : Option O) (e : Nat) : bound (E N f) x e = fvb N f x e := by
  cases x with
  | none => rfl
  | some x => simp only [bound, fvb, ev_E]

theorem WO_slS {x : O} {lo hi : Option O} {s : ByteArray} {a b : Int} (hx : x.fv N f = .s (.str s)) (hl : fvb N f lo 0 = some a) (hh : fvb N f hi s.size = some b) (hab : 0 ≤ a ∧ a ≤ b ∧ b ≤ s.size) (k : WO A N l (upd f d (.s (.str (s.extract a.toNat b.toNat)))) n L K) : WO A N (⟨some d, none, .p (.slS x lo hi)⟩ :: l) f n L K :=
  WO_p (v := .s (.str (s.extract a.toNat b.toNat))) (by simp only [pureV, ev_E, hx, bound_E, hl, hh, if_pos hab]) k

theorem WO_slV {z : Nat} {x : O} {lo hi : Option O} {b o m : Nat} {c : Cp} {p q : Int} (hx : x.fv N f = .sl b o m z c) (hl : fvb N f lo 0 = some p) (hh : fvb N f hi m = some q) (hc : (match c with | .ex _ => false | _ => true) = true) (hab : 0 ≤ p ∧ p ≤ q ∧ q ≤ m ∧ p < m) (k : WO A N l (upd f d (.sl b (o + p.toNat * z) (q.toNat - p.toNat) z .unk)) n L K) : WO A N (⟨some d, none, .p (.slV z x lo hi)⟩ :: l) f n L K :=
  WO_p (v := .sl b (o + p.toNat * z) (q.toNat - p.toNat) z .unk) (by
    simp only [pureV, ev_E, hx, bound_E, hl, hh, if_true]
    cases c with
    | ex c => simp at hc
    | unk => simp only [if_pos (show 0 ≤ p ∧ p ≤ q ∧ q ≤ m from ⟨hab.1, hab.2.1, hab.2.2.1⟩), if_pos hab.2.2.2]
    | whole => simp only [if_pos (show 0 ≤ p ∧ p ≤ q ∧ q ≤ m from ⟨hab.1, hab.2.1, hab.2.2.1⟩), if_pos hab.2.2.2]) k

theorem WO_slVz {z : Nat} {x : O} {lo hi : Option O} {b o m : Nat} {c : Cp} {p q : Int} (hx : x.fv N f = .sl b o m z c) (hl : fvb N f lo 0 = some p) (hh : fvb N f hi m = some q) (hc : (match c with | .ex _ => false | _ => true) = true) (hab : p = m ∧ q = m) (k : WO A N l (upd f d .slz) n L K) : WO A N (⟨some d, none, .p (.slV z x lo hi)⟩ :: l) f n L K :=
  WO_p (v := .slz) (by
    simp only [pureV, ev_E, hx, bound_E, hl, hh, if_true]
    cases c with
    | ex c => simp at hc
    | unk => simp only [if_pos (show 0 ≤ p ∧ p ≤ q ∧ q ≤ m by omega), if_neg (show ¬ p < m by omega)]
    | whole => simp only [if_pos (show 0 ≤ p ∧ p ≤ q ∧ q ≤ m by omega), if_neg (show ¬ p < m by omega)]) k

theorem WO_slVnil {z : Nat} {x : O} {lo hi : Option O} {p q : Int} (hx : x.fv N f = .snil) (hl : fvb N f lo 0 = some p) (hh : fvb N f hi 0 = some q) (hab : p = 0 ∧ q = 0) (k : WO A N l (upd f d .snil) n L K) : WO A N (⟨some d, none, .p (.slV z x lo hi)⟩ :: l) f n L K :=
  WO_p (v := .snil) (by
    obtain ⟨rfl, rfl⟩ := hab
    simp only [pureV, ev_E, hx, bound_E, hl, hh]) k

theorem WO_build {z : Z} {ps : List (Nat × Nat × O)} {v : V} (h : ebuild (E N f) z ps = some v) (k : WO A N l (upd f d v) n L K) : WO A N (⟨some d, none, .p (.build z ps)⟩ :: l) f n L K :=
  WO_p (v := v) (by rw [pureV, h]) k

/-- One part laid over whole numbers. -/
abbrev ov (P : Nat → Int) (o : Nat) (x : Int) : Nat → Int := fun i => bif Nat.beq i o then x else P i
abbrev ovA (P : Nat → Int) (o m : Nat) (Q : Nat → Int) : Nat → Int := fun i => bif Nat.ble o i && Nat.blt i (o + m) then Q (i - o) else P i

theorem over_ia (P : Nat → Int) (o m : Nat) (Q : Nat → Int) : over (ia P) o m (ia Q) = ia (ovA P o m Q) := by
  funext i
  unfold over
  show _ = S.int .i64 (bif Nat.ble o i && Nat.blt i (o + m) then Q (i - o) else P i)
  cases Nat.ble o i && Nat.blt i (o + m) <;> rfl

theorem over_one (P : Nat → Int) (o : Nat) (x : Int) : over (ia P) o 1 (fun _ => .int .i64 x) = ia (ov P o x) := by
  funext i
  unfold over
  have : (Nat.ble o i && Nat.blt i (o + 1)) = Nat.beq i o := by
    rw [Bool.eq_iff_iff]
    simp only [Bool.and_eq_true, Nat.ble_eq, Nat.blt_eq, Nat.beq_eq]
    omega
  rw [this]
  show _ = S.int .i64 (bif Nat.beq i o then x else P i)
  cases Nat.beq i o <;> rfl

/-- Whole numbers, and zeros behind them. -/
abbrev cut (m : Nat) (Q : Nat → Int) : Nat → Int := ovA (fun _ => 0) 0 m Q

/-- The parts of a value of whole numbers. -/
inductive Fill (N : Nat) (f : FE) : List (Nat × Nat × O) → (Nat → Int) → (Nat → Int) → Prop
  | nil {P : Nat → Int} : Fill N f [] P P
  | one {off : Nat} {x : O} {a : Int} {r : List (Nat × Nat × O)} {P Q : Nat → Int} (h : x.fv N f = .s (.int .i64 a)) (hr : Fill N f r (ov P off a) Q) : Fill N f ((off, 1, x) :: r) P Q
  | agg {off m : Nat} {x : O} {R : Nat → Int} {r : List (Nat × Nat × O)} {P Q : Nat → Int} (h : x.fv N f = .agg m (ia R)) (hr : Fill N f r (ovA P off m R) Q) : Fill N f ((off, m, x) :: r) P Q

theorem fillI_fillS {ps : List (Nat × Nat × O)} {P Q : Nat → Int} (h : Fill N f ps P Q) : fillS (E N f) ps (ia P) = some (ia Q) := by
  induction h with
  | nil => rfl
  | one h _ ih => simp only [fillS, ev_E, h, V.scells, if_true, over_one, ih]
  | agg h _ ih => simp only [fillS, ev_E, h, V.scells, if_true, over_ia, ih]

theorem WO_buildI {m : Nat} {ps : List (Nat × Nat × O)} {Q : Nat → Int} (hi : inside m ps = true) (h : Fill N f ps (fun _ => 0) Q) (k : WO A N l (upd f d (.agg m (ia Q))) n L K) : WO A N (⟨some d, none, .p (.build (.ints m) ps)⟩ :: l) f n L K :=
  WO_build (v := .agg m (ia Q)) (by
    simp only [ebuild, Z.size, hi, if_true, Z.sc, Option.bind_some]
    rw [show (fun _ => S.zero : Nat → S) = ia (fun _ => 0) from rfl, fillI_fillS h]) k

theorem lc_getD (xs : List S) (i : Nat) : lc xs i = xs[i]?.getD S.zero := List.getD_eq_getElem?_getD

/-- Part of a list laid anew. -/
def spl (xs : List S) (off : Nat) (l : List S) : List S := xs.take off ++ l ++ xs.drop (off + l.length)

theorem over_spl {xs ys : List S} {off m : Nat} {h : Nat → S} (hb : Nat.ble (off + m) xs.length = true) (hy : spl xs off ((List.range m).map h) = ys) : over (lc xs) off m h = lc ys := by
  subst hy
  have hb := Nat.le_of_ble_eq_true hb
  funext i
  unfold over
  rw [lc_getD, lc_getD]
  unfold spl
  simp only [List.length_map, List.length_range]
  by_cases h1 : i < off
  · have e : (Nat.ble off i && Nat.blt i (off + m)) = false := by
      cases hq : Nat.ble off i with
      | false => rfl
      | true => have := Nat.le_of_ble_eq_true hq; omega
    rw [e, List.append_assoc, List.getElem?_append_left (by rw [List.length_take]; omega), List.getElem?_take, if_pos h1]
    rfl
  · by_cases h2 : i < off + m
    · have e : (Nat.ble off i && Nat.blt i (off + m)) = true := by
        rw [Nat.ble_eq_true_of_le (show off ≤ i by omega), show Nat.blt i (off + m) = true from Nat.ble_eq_true_of_le h2]; rfl
      have hl : (xs.take off).length = off := by rw [List.length_take]; omega
      rw [e, List.append_assoc, List.getElem?_append_right (by omega), List.getElem?_append_left (by simp; omega), hl, List.getElem?_map, List.getElem?_range (by omega)]
      rfl
    · have e : (Nat.ble off i && Nat.blt i (off + m)) = false := by
        cases hq : Nat.blt i (off + m) with
        | false => simp
        | true => exact absurd (Nat.le_of_ble_eq_true hq) (by omega)
      have hl : (xs.take off ++ (List.range m).map h).length = off + m := by rw [List.length_append, List.length_take, List.length_map, List.length_range]; omega
      rw [e, List.getElem?_append_right (by omega), hl, List.getElem?_drop, show off + m + (i - (off + m)) = i by omega]
      rfl

/-- The parts of a value of mixed cells. -/
inductive FillL (N : Nat) (f : FE) : List (Nat × Nat × O) → List S → List S → Prop
  | nil {xs : List S} : FillL N f [] xs xs
  | part {off m : Nat} {x : O} {v : V} {h : Nat → S} {r : List (Nat × Nat × O)} {xs ys zs : List S} (hx : x.fv N f = v) (hv : v.scells m = some h) (hb : Nat.ble (off + m) xs.length = true) (hy : spl xs off ((List.range m).map h) = ys) (hr : FillL N f r ys zs) : FillL N f ((off, m, x) :: r) xs zs

theorem FillL_fillS {ps : List (Nat × Nat × O)} {xs zs : List S} (h : FillL N f ps xs zs) : fillS (E N f) ps (lc xs) = some (lc zs) := by
  induction h with
  | nil => rfl
  | part hx hv hb hy _ ih => simp only [fillS, ev_E, hx, hv, over_spl hb hy, ih]

theorem WO_buildL {m : Nat} {xs zs : List S} {ps : List (Nat × Nat × O)} (hm : xs.length = m) (hi : inside m ps = true) (h : FillL N f ps xs zs) (k : WO A N l (upd f d (.agg m (lc zs))) n L K) : WO A N (⟨some d, none, .p (.build (.scl xs) ps)⟩ :: l) f n L K :=
  WO_build (v := .agg m (lc zs)) (by
    subst hm
    simp only [ebuild, Z.size, hi, if_true, Z.sc, Option.bind_some]
    rw [FillL_fillS h]) k

end
end Go.Am
