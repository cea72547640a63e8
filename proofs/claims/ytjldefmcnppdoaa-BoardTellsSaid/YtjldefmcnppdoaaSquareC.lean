/- The walks of squares: names, steps, ways, rings. -/
import Derived.Test.YtjldefmcnppdoaaSquareB
namespace Go.Am
open Go
section
variable {A : AP} {N : Nat} {f : FE} {n : Nat} {L : HA} {K : KN} {l : List I} {d : Nat}
def bytes2 (a b : Int) : Nat → S := over (over (fun _ => .int .u8 0) (0 * 1) 1 (fun _ => .int .u8 a)) (1 * 1) 1 (fun _ => .int .u8 b)
theorem WO_mksl2B {a b : Int} {xa xb : O} (ha : xa.fv N f = .s (.int .u8 a)) (hb : xb.fv N f = .s (.int .u8 b)) (k : WO A N l (upd f d (.sl n 0 2 1 (.ex 2))) (n + 1) ((n, .sc .var 2 (bytes2 a b)) :: L) K) : WO A N (⟨some d, none, .h (.mksl 2 1 (.one (.s (.int .u8 0))) [(0, xa), (1, xb)])⟩ :: l) f n L K :=
  WO_h (v := .sl n 0 2 1 (.ex 2)) (fun σ hσ => ⟨σ ++ [.sc .var 2 (bytes2 a b)], by
    simp only [heapV, Z.row, fillRow, if_true, List.map_cons, List.map_nil, fillS, ev_E, ha, hb, V.scells, hσ.1]
    rfl, hσ.new _⟩) k
theorem WO_b2s2 {x : O} {b q : Nat} {c : Cp} {md : Md} {g : Nat → S} {p r : Int} (hx : x.fv N f = .sl b 0 2 1 c) (hm : (b, Blk.sc md q g) ∈ L) (h0 : g 0 = .int .u8 p) (h1 : g 1 = .int .u8 r) (k : WO A N l (upd f d (.s (.str ⟨#[UInt8.ofNat p.toNat, UInt8.ofNat r.toNat]⟩))) n L K) : WO A N (⟨some d, none, .h (.b2s x)⟩ :: l) f n L K :=
  WO_h (v := .s (.str ⟨#[UInt8.ofNat p.toNat, UInt8.ofNat r.toNat]⟩)) (fun σ hσ => ⟨σ, by
    have hb : allB 2 (fun i => isByte (g (0 + i))) = true := by
      show ((true && isByte (g (0 + 0))) && isByte (g (0 + 1))) = true
      rw [Nat.zero_add, Nat.zero_add, h0, h1]; rfl
    simp only [heapV, ev_E, hx, (hσ.2.mem hm).2, if_true, hb, cond_true]
    have e : (List.range 2).map (fun i => UInt8.ofNat (byteOf (g (0 + i)))) = [UInt8.ofNat p.toNat, UInt8.ofNat r.toNat] := by
      show [UInt8.ofNat (byteOf (g (0 + 0))), UInt8.ofNat (byteOf (g (0 + 1)))] = _
      rw [Nat.zero_add, Nat.zero_add, h0, h1]; rfl
    rw [e], hσ⟩) k
end
theorem toList_loop (s : ByteArray) : ∀ (k i : Nat) (r : List UInt8), s.size - i = k → ByteArray.toList.loop s i r = r.reverse ++ (s.data.toList.drop i) := by
  intro k
  induction k with
  | zero =>
    intro i r h
    unfold ByteArray.toList.loop
    have : ¬ i < s.size := by omega
    simp only [this, if_false]
    rw [List.drop_of_length_le (by simp; show s.data.size ≤ i; have : s.size = s.data.size := rfl; omega)]
    simp
  | succ k ih =>
    intro i r h
    unfold ByteArray.toList.loop
    have hi : i < s.size := by omega
    simp only [hi, if_true]
    rw [ih (i+1) _ (by omega)]
    have hi2 : i < s.data.toList.length := by simpa using hi
    rw [List.drop_eq_getElem_cons hi2]
    simp [ByteArray.get!, getElem!_pos, hi]
theorem toList_is (s : ByteArray) : s.toList = s.data.toList := by
  unfold ByteArray.toList
  rw [toList_loop s (s.size) 0 [] (by omega)]
  simp
theorem str_inj {a b : ByteArray} (h : a.toList = b.toList) : a = b := by
  rw [toList_is, toList_is] at h
  exact ByteArray.ext (Array.toList_inj.1 h)
theorem seql_is {a b : ByteArray} {t : Bool} (h : (a.toList == b.toList) = t) : t = true ↔ a = b := by
  subst h
  rw [beq_iff_eq]
  exact ⟨str_inj, fun h => by rw [h]⟩
theorem sneq_self (a : ByteArray) : binS .neq (.str a) (.str a) = some (.bool false) := by
  show some (S.bool (!(a.toList == a.toList))) = _
  simp
end Go.Am

namespace Go.Proofs.Ytjldefmcnppdoaa
open Go Go.Am
set_option linter.unusedSimpArgs false
set_option linter.unusedVariables false
def darkM (x : Int) : Bool := decide ((0 ≤ x ∧ x < 64) ∧ (x % 8 + x / 8) % 2 = 0)
/-- A square's name. -/
def nameS (x : Int) : ByteArray := if 0 ≤ x ∧ x < 64 then ⟨#[UInt8.ofNat (97 + (x % 8).toNat), UInt8.ofNat (49 + (x / 8).toNat)]⟩ else ⟨#[]⟩
theorem name_in {x : Int} (h : 0 ≤ x ∧ x < 64) : nameS x = ⟨#[UInt8.ofNat (97 + (x % 8).toNat), UInt8.ofNat (49 + (x / 8).toNat)]⟩ := if_pos h
theorem letter_of : ∀ f : Fin 8, (⟨#[97, 98, 99, 100, 101, 102, 103, 104]⟩ : ByteArray).extract f.val (f.val + 1) = ⟨#[UInt8.ofNat (97 + f.val)]⟩ := by decide +kernel
theorem digit_of : ∀ f : Fin 8, (⟨#[49, 50, 51, 52, 53, 54, 55, 56]⟩ : ByteArray).extract f.val (f.val + 1) = ⟨#[UInt8.ofNat (49 + f.val)]⟩ := by decide +kernel
theorem name_add {x : Int} (h : 0 ≤ x ∧ x < 64) : binS .add (.str ((⟨#[97, 98, 99, 100, 101, 102, 103, 104]⟩ : ByteArray).extract (x % 8).toNat (x % 8 + 1).toNat)) (.str ((⟨#[49, 50, 51, 52, 53, 54, 55, 56]⟩ : ByteArray).extract (x / 8).toNat (x / 8 + 1).toNat)) = some (.str (nameS x)) := by
  have e1 := letter_of ⟨(x % 8).toNat, by omega⟩
  have e2 := digit_of ⟨(x / 8).toNat, by omega⟩
  simp only at e1 e2
  rw [show (x % 8 + 1).toNat = (x % 8).toNat + 1 by omega, show (x / 8 + 1).toNat = (x / 8).toNat + 1 by omega, e1, e2, name_in h]
  rfl

theorem Dark_in (x : Int) (h : 0 ≤ x ∧ x < 64) : WR AM 40 [.s (.int .i64 x)] [] (fun v _ _ => v = .s (.bool (darkM x))) := by
 refine WR_fn (a := a40) rfl rfl (entryF _) (entry_E (Nat.le_of_ble_eq_true rfl)) (m := 0) rfl ?_
 refine WP_seq ?_
 refine WP_ops ?_
 refine WO_mv rfl ?_
 refine WO_nil ?_
 refine WP_seq ?_
 refine WP_ops ?_
 refine WO_mv (v := .s (.int _ _)) rfl ?_
 refine WO_call0 rfl (of_in _ h) rfl rfl rfl ?_
 refine WO_allocL rfl ?_
 refine WO_st (v := .agg _ _) rfl rfl rfl rfl rfl (over_spl (ys := [_, _, _]) rfl rfl) .here ?_
 refine WO_nil ?_
 refine WP_seq ?_
 refine WP_ops ?_
 refine WO_fa (o' := 2) rfl rfl rfl ?_
 refine WO_ldS (x := .bool _) rfl rfl (.head _) rfl ?_
 refine WO_mv (v := .s (.bool _)) rfl ?_
 refine WO_gt rfl ?_
 refine WO_fa (o' := 0) rfl rfl rfl ?_
 refine WO_gt rfl ?_
 refine WO_fa (o' := 0) rfl rfl rfl ?_
 refine WO_gt rfl ?_
 refine WO_ldS (x := .int _ _) rfl rfl (.head _) rfl ?_
 refine WO_gt rfl ?_
 refine WO_fa (o' := 0) rfl rfl rfl ?_
 refine WO_gt rfl ?_
 refine WO_fa (o' := 1) rfl rfl rfl ?_
 refine WO_gt rfl ?_
 refine WO_ldS (x := .int _ _) rfl rfl (.head _) rfl ?_
 refine WO_gt rfl ?_
 refine WO_add rfl rfl (by omega) ?_
 refine WO_gt rfl ?_
 refine WO_rem rfl rfl (by omega) ?_
 refine WO_gt rfl ?_
 refine WO_bin (r := .bool _) rfl rfl rfl ?_
 refine WO_pick (v := .s (.bool _)) rfl rfl ?_
 refine WO_mv (v := .s (.bool _)) rfl ?_
 refine WO_nil ?_
 refine WP_ret ?_
 refine ⟨_, RS_tmp (v := .s (.bool _)) rfl (RS_nil), ?_⟩
 refine congrArg (fun b => V.s (S.bool b)) ?_
 rw [Bool.eq_iff_iff]
 simp only [beq_iff_eq, bne_iff_ne, ne_eq, decide_eq_true_eq, Bool.false_eq_true, true_iff, false_iff, isM, darkM, iff_true, iff_false]
 omega
theorem Dark_out (x : Int) (h : ¬ (0 ≤ x ∧ x < 64)) : WR AM 40 [.s (.int .i64 x)] [] (fun v _ _ => v = .s (.bool (darkM x))) := by
 refine WR_fn (a := a40) rfl rfl (entryF _) (entry_E (Nat.le_of_ble_eq_true rfl)) (m := 0) rfl ?_
 refine WP_seq ?_
 refine WP_ops ?_
 refine WO_mv rfl ?_
 refine WO_nil ?_
 refine WP_seq ?_
 refine WP_ops ?_
 refine WO_mv (v := .s (.int _ _)) rfl ?_
 refine WO_call0 rfl (of_out _ h) rfl rfl rfl ?_
 refine WO_allocL rfl ?_
 refine WO_st (v := .agg _ _) rfl rfl rfl rfl rfl (over_spl (ys := [_, _, _]) rfl rfl) .here ?_
 refine WO_nil ?_
 refine WP_seq ?_
 refine WP_ops ?_
 refine WO_fa (o' := 2) rfl rfl rfl ?_
 refine WO_ldS (x := .bool _) rfl rfl (.head _) rfl ?_
 refine WO_mv (v := .s (.bool _)) rfl ?_
 refine WO_gf rfl rfl ?_
 refine WO_gf rfl rfl ?_
 refine WO_gf rfl rfl ?_
 refine WO_gf rfl rfl ?_
 refine WO_gf rfl rfl ?_
 refine WO_gf rfl rfl ?_
 refine WO_gf rfl rfl ?_
 refine WO_gf rfl rfl ?_
 refine WO_gf rfl rfl ?_
 refine WO_pick (v := .s (.bool _)) rfl rfl ?_
 refine WO_mv (v := .s (.bool _)) rfl ?_
 refine WO_nil ?_
 refine WP_ret ?_
 refine ⟨_, RS_tmp (v := .s (.bool _)) rfl (RS_nil), ?_⟩
 refine congrArg (fun b => V.s (S.bool b)) ?_
 rw [Bool.eq_iff_iff]
 simp only [beq_iff_eq, bne_iff_ne, ne_eq, decide_eq_true_eq, Bool.false_eq_true, true_iff, false_iff, isM, darkM, iff_true, iff_false]
 omega
theorem Dark_run (x : Int) : RF AM 40 [.s (.int .i64 x)] (.s (.bool (darkM x))) := by
  by_cases h : 0 ≤ x ∧ x < 64
  · exact RF_of (Dark_in x h)
  · exact RF_of (Dark_out x h)

theorem Name_in (x : Int) (h : 0 ≤ x ∧ x < 64) : WR AM 35 [.s (.int .i64 x)] [] (fun v _ _ => v = .s (.str (nameS x))) := by
 refine WR_fn (a := a35) rfl rfl (entryF _) (entry_E (Nat.le_of_ble_eq_true rfl)) (m := 0) rfl ?_
 refine WP_seq ?_
 refine WP_ops ?_
 refine WO_mv rfl ?_
 refine WO_nil ?_
 refine WP_seq ?_
 refine WP_ops ?_
 refine WO_mv (v := .s (.int _ _)) rfl ?_
 refine WO_call0 rfl (of_in _ h) rfl rfl rfl ?_
 refine WO_allocL rfl ?_
 refine WO_st (v := .agg _ _) rfl rfl rfl rfl rfl (over_spl (ys := [_, _, _]) rfl rfl) .here ?_
 refine WO_nil ?_
 refine WP_seq ?_
 refine WP_seq ?_
 refine WP_ops ?_
 refine WO_fa (o' := 2) rfl rfl rfl ?_
 refine WO_ldS (x := .bool _) rfl rfl (.head _) rfl ?_
 refine WO_un (r := .bool _) rfl rfl ?_
 refine WO_nil ?_
 refine WP_cond rfl (fun h => nomatch h) (fun _ => ?_)
 refine WP_skip ?_
 refine WP_seq ?_
 refine WP_ops ?_
 refine WO_fa (o' := 0) rfl rfl rfl ?_
 refine WO_fa (o' := 0) rfl rfl rfl ?_
 refine WO_ldS (x := .int _ _) rfl rfl (.head _) rfl ?_
 refine WO_fa (o' := 0) rfl rfl rfl ?_
 refine WO_fa (o' := 0) rfl rfl rfl ?_
 refine WO_ldS (x := .int _ _) rfl rfl (.head _) rfl ?_
 refine WO_add rfl rfl (by omega) ?_
 refine WO_slS rfl rfl rfl (by show 0 ≤ _ ∧ _ ≤ _ ∧ _ ≤ ((8 : Nat) : Int); omega) ?_
 refine WO_fa (o' := 0) rfl rfl rfl ?_
 refine WO_fa (o' := 1) rfl rfl rfl ?_
 refine WO_ldS (x := .int _ _) rfl rfl (.head _) rfl ?_
 refine WO_fa (o' := 0) rfl rfl rfl ?_
 refine WO_fa (o' := 1) rfl rfl rfl ?_
 refine WO_ldS (x := .int _ _) rfl rfl (.head _) rfl ?_
 refine WO_add rfl rfl (by omega) ?_
 refine WO_slS rfl rfl rfl (by show 0 ≤ _ ∧ _ ≤ _ ∧ _ ≤ ((8 : Nat) : Int); omega) ?_
 refine WO_bin rfl rfl (name_add h) ?_
 refine WO_mv (v := .s _) rfl ?_
 refine WO_nil ?_
 refine WP_ret ?_
 refine ⟨_, RS_tmp (v := .s _) rfl (RS_nil), ?_⟩
 rfl
theorem Name_out (x : Int) (h : ¬ (0 ≤ x ∧ x < 64)) : WR AM 35 [.s (.int .i64 x)] [] (fun v _ _ => v = .s (.str (nameS x))) := by
 refine WR_fn (a := a35) rfl rfl (entryF _) (entry_E (Nat.le_of_ble_eq_true rfl)) (m := 0) rfl ?_
 refine WP_seq ?_
 refine WP_ops ?_
 refine WO_mv rfl ?_
 refine WO_nil ?_
 refine WP_seq ?_
 refine WP_ops ?_
 refine WO_mv (v := .s (.int _ _)) rfl ?_
 refine WO_call0 rfl (of_out _ h) rfl rfl rfl ?_
 refine WO_allocL rfl ?_
 refine WO_st (v := .agg _ _) rfl rfl rfl rfl rfl (over_spl (ys := [_, _, _]) rfl rfl) .here ?_
 refine WO_nil ?_
 refine WP_seq ?_
 refine WP_seq ?_
 refine WP_ops ?_
 refine WO_fa (o' := 2) rfl rfl rfl ?_
 refine WO_ldS (x := .bool _) rfl rfl (.head _) rfl ?_
 refine WO_un (r := .bool _) rfl rfl ?_
 refine WO_nil ?_
 refine WP_cond rfl (fun _ => ?_) (fun h => nomatch h)
 refine WP_seq ?_
 refine WP_ops ?_
 refine WO_mv rfl ?_
 refine WO_nil ?_
 refine WP_ret ?_
 refine ⟨_, RS_tmp (v := .s _) rfl (RS_nil), ?_⟩
 rw [nameS, if_neg h]; rfl
theorem Name_run (x : Int) : RF AM 35 [.s (.int .i64 x)] (.s (.str (nameS x))) := by
  by_cases h : 0 ≤ x ∧ x < 64
  · exact RF_of (Name_in x h)
  · exact RF_of (Name_out x h)

theorem dIs_run (x : Int) : WR AM 42 [.s (.int .i64 x)] [] (fun v _ _ => v = .s (.bool (isM x))) := by
 refine WR_fn (a := a42) rfl rfl (entryF _) (entry_E (Nat.le_of_ble_eq_true rfl)) (m := 0) rfl ?_
 refine WP_seq ?_
 refine WP_ops ?_
 refine WO_mv rfl ?_
 refine WO_nil ?_
 refine WP_seq ?_
 refine WP_ops ?_
 refine WO_mv (v := .s (.int _ _)) rfl ?_
 refine WO_bin (r := .bool _) rfl rfl rfl ?_
 refine WO_mv (v := .s (.bool _)) rfl ?_
 refine WO_case (t := 5) rfl (fun h1 => ?_) (fun h1 => ?_)
 ·try simp only [NM] at h1
  refine WO_gt rfl ?_
  refine WO_mv (v := .s (.int _ _)) rfl ?_
  refine WO_gt rfl ?_
  refine WO_bin (r := .bool _) rfl rfl rfl ?_
  refine WO_pick (v := .s (.bool _)) rfl rfl ?_
  refine WO_mv (v := .s (.bool _)) rfl ?_
  refine WO_nil ?_
  refine WP_ret ?_
  refine ⟨_, RS_tmp (v := .s (.bool _)) rfl (RS_nil), ?_⟩
  refine congrArg (fun b => V.s (S.bool b)) ?_
  rw [Bool.eq_iff_iff]
  simp only [beq_iff_eq, bne_iff_ne, ne_eq, decide_eq_true_eq, Bool.false_eq_true, true_iff, false_iff, isM, darkM, iff_true, iff_false]
  omega
 ·try simp only [NM] at h1
  refine WO_gf rfl rfl ?_
  refine WO_gf rfl rfl ?_
  refine WO_pick (v := .s (.bool _)) rfl rfl ?_
  refine WO_mv (v := .s (.bool _)) rfl ?_
  refine WO_nil ?_
  refine WP_ret ?_
  refine ⟨_, RS_tmp (v := .s (.bool _)) rfl (RS_nil), ?_⟩
  refine congrArg (fun b => V.s (S.bool b)) ?_
  rw [Bool.eq_iff_iff]
  simp only [beq_iff_eq, bne_iff_ne, ne_eq, decide_eq_true_eq, Bool.false_eq_true, true_iff, false_iff, isM, darkM, iff_true, iff_false]
  omega
theorem dAt_run (a b : Int) : WR AM 43 [.s (.int .i64 a), .s (.int .i64 b)] [] (fun v _ _ => v = .s (.int .i64 (atM a b))) := by
 refine WR_fn (a := a43) rfl rfl (entryF _) (entry_E (Nat.le_of_ble_eq_true rfl)) (m := 0) rfl ?_
 refine WP_seq ?_
 refine WP_ops ?_
 refine WO_mv rfl ?_
 refine WO_nil ?_
 refine WP_seq ?_
 refine WP_seq ?_
 refine WP_ops ?_
 refine WO_mv (v := .s (.int _ _)) rfl ?_
 refine WO_bin (r := .bool _) rfl rfl rfl ?_
 refine WO_mv (v := .s (.bool _)) rfl ?_
 refine WO_case (t := 7) rfl (fun h2 => ?_) (fun h2 => ?_)
 ·try simp only [NM] at h2
  refine WO_gf rfl rfl ?_
  refine WO_gf rfl rfl ?_
  refine WO_pick (v := .s (.bool _)) rfl rfl ?_
  refine WO_mv (v := .s (.bool _)) rfl ?_
  refine WO_gf rfl rfl ?_
  refine WO_gf rfl rfl ?_
  refine WO_pick (v := .s (.bool _)) rfl rfl ?_
  refine WO_mv (v := .s (.bool _)) rfl ?_
  refine WO_gf rfl rfl ?_
  refine WO_gf rfl rfl ?_
  refine WO_pick (v := .s (.bool _)) rfl rfl ?_
  refine WO_nil ?_
  refine WP_cond rfl (fun _ => ?_) (fun h => nomatch h)
  refine WP_seq ?_
  refine WP_ops ?_
  refine WO_mv rfl ?_
  refine WO_nil ?_
  refine WP_ret ?_
  refine ⟨_, RS_tmp (v := .s (.int _ _)) rfl (RS_nil), ?_⟩
  refine congrArg (fun b => V.s (S.int .i64 b)) ?_
  unfold atM
  split <;> omega
 ·try simp only [NM] at h2
  refine WO_gt rfl ?_
  refine WO_mv (v := .s (.int _ _)) rfl ?_
  refine WO_gt rfl ?_
  refine WO_bin (r := .bool _) rfl rfl rfl ?_
  refine WO_pick (v := .s (.bool _)) rfl rfl ?_
  refine WO_mv (v := .s (.bool _)) rfl ?_
  refine WO_case (t := 11) rfl (fun h3 => ?_) (fun h3 => ?_)
  ·try simp only [NM] at h3
   refine WO_gf rfl rfl ?_
   refine WO_gf rfl rfl ?_
   refine WO_pick (v := .s (.bool _)) rfl rfl ?_
   refine WO_mv (v := .s (.bool _)) rfl ?_
   refine WO_gf rfl rfl ?_
   refine WO_gf rfl rfl ?_
   refine WO_pick (v := .s (.bool _)) rfl rfl ?_
   refine WO_nil ?_
   refine WP_cond rfl (fun _ => ?_) (fun h => nomatch h)
   refine WP_seq ?_
   refine WP_ops ?_
   refine WO_mv rfl ?_
   refine WO_nil ?_
   refine WP_ret ?_
   refine ⟨_, RS_tmp (v := .s (.int _ _)) rfl (RS_nil), ?_⟩
   refine congrArg (fun b => V.s (S.int .i64 b)) ?_
   unfold atM
   split <;> omega
  ·try simp only [NM] at h3
   refine WO_gt rfl ?_
   refine WO_mv (v := .s (.int _ _)) rfl ?_
   refine WO_gt rfl ?_
   refine WO_bin (r := .bool _) rfl rfl rfl ?_
   refine WO_pick (v := .s (.bool _)) rfl rfl ?_
   refine WO_mv (v := .s (.bool _)) rfl ?_
   refine WO_case (t := 15) rfl (fun h4 => ?_) (fun h4 => ?_)
   ·try simp only [NM] at h4
    refine WO_gf rfl rfl ?_
    refine WO_gf rfl rfl ?_
    refine WO_pick (v := .s (.bool _)) rfl rfl ?_
    refine WO_nil ?_
    refine WP_cond rfl (fun _ => ?_) (fun h => nomatch h)
    refine WP_seq ?_
    refine WP_ops ?_
    refine WO_mv rfl ?_
    refine WO_nil ?_
    refine WP_ret ?_
    refine ⟨_, RS_tmp (v := .s (.int _ _)) rfl (RS_nil), ?_⟩
    refine congrArg (fun b => V.s (S.int .i64 b)) ?_
    unfold atM
    split <;> omega
   ·try simp only [NM] at h4
    refine WO_gt rfl ?_
    refine WO_mv (v := .s (.int _ _)) rfl ?_
    refine WO_gt rfl ?_
    refine WO_bin (r := .bool _) rfl rfl rfl ?_
    refine WO_pick (v := .s (.bool _)) rfl rfl ?_
    refine WO_nil ?_
    refine WP_cond rfl (fun h5 => ?_) (fun h5 => ?_)
    ·try simp only [NM] at h5
     refine WP_seq ?_
     refine WP_ops ?_
     refine WO_mv rfl ?_
     refine WO_nil ?_
     refine WP_ret ?_
     refine ⟨_, RS_tmp (v := .s (.int _ _)) rfl (RS_nil), ?_⟩
     refine congrArg (fun b => V.s (S.int .i64 b)) ?_
     unfold atM
     split <;> omega
    ·try simp only [NM] at h5
     refine WP_skip ?_
     refine WP_seq ?_
     refine WP_ops ?_
     refine WO_mv (v := .s (.int _ _)) rfl ?_
     refine WO_mul rfl rfl (by omega) ?_
     refine WO_mv (v := .s (.int _ _)) rfl ?_
     refine WO_add rfl rfl (by omega) ?_
     refine WO_mv (v := .s (.int _ _)) rfl ?_
     refine WO_nil ?_
     refine WP_ret ?_
     refine ⟨_, RS_tmp (v := .s (.int _ _)) rfl (RS_nil), ?_⟩
     refine congrArg (fun b => V.s (S.int .i64 b)) ?_
     unfold atM
     split <;> omega
theorem dFile_run (x : Int) : WR AM 44 [.s (.int .i64 x)] [] (fun v _ _ => v = .s (.int .i64 (fileM x))) := by
 refine WR_fn (a := a44) rfl rfl (entryF _) (entry_E (Nat.le_of_ble_eq_true rfl)) (m := 0) rfl ?_
 refine WP_seq ?_
 refine WP_ops ?_
 refine WO_mv rfl ?_
 refine WO_nil ?_
 refine WP_seq ?_
 refine WP_seq ?_
 refine WP_ops ?_
 refine WO_mv (v := .s (.int _ _)) rfl ?_
 refine WO_call0 rfl (RF_of (dIs_run _)) rfl rfl rfl ?_
 refine WO_un (r := .bool _) rfl rfl ?_
 refine WO_nil ?_
 refine WP_cond rfl (fun h6 => ?_) (fun h6 => ?_)
 ·try simp only [NM] at h6
  try simp only [isM, decide_eq_true_eq, decide_eq_false_iff_not] at h6
  refine WP_seq ?_
  refine WP_ops ?_
  refine WO_mv rfl ?_
  refine WO_nil ?_
  refine WP_ret ?_
  refine ⟨_, RS_tmp (v := .s (.int _ _)) rfl (RS_nil), ?_⟩
  refine congrArg (fun b => V.s (S.int .i64 b)) ?_
  unfold fileM
  split <;> omega
 ·try simp only [NM] at h6
  try simp only [isM, decide_eq_true_eq, decide_eq_false_iff_not] at h6
  refine WP_skip ?_
  refine WP_seq ?_
  refine WP_ops ?_
  refine WO_mv (v := .s (.int _ _)) rfl ?_
  refine WO_rem rfl rfl (by omega) ?_
  refine WO_mv (v := .s (.int _ _)) rfl ?_
  refine WO_nil ?_
  refine WP_ret ?_
  refine ⟨_, RS_tmp (v := .s (.int _ _)) rfl (RS_nil), ?_⟩
  refine congrArg (fun b => V.s (S.int .i64 b)) ?_
  unfold fileM
  split <;> omega
theorem dRank_run (x : Int) : WR AM 45 [.s (.int .i64 x)] [] (fun v _ _ => v = .s (.int .i64 (rankM x))) := by
 refine WR_fn (a := a45) rfl rfl (entryF _) (entry_E (Nat.le_of_ble_eq_true rfl)) (m := 0) rfl ?_
 refine WP_seq ?_
 refine WP_ops ?_
 refine WO_mv rfl ?_
 refine WO_nil ?_
 refine WP_seq ?_
 refine WP_seq ?_
 refine WP_ops ?_
 refine WO_mv (v := .s (.int _ _)) rfl ?_
 refine WO_call0 rfl (RF_of (dIs_run _)) rfl rfl rfl ?_
 refine WO_un (r := .bool _) rfl rfl ?_
 refine WO_nil ?_
 refine WP_cond rfl (fun h7 => ?_) (fun h7 => ?_)
 ·try simp only [NM] at h7
  try simp only [isM, decide_eq_true_eq, decide_eq_false_iff_not] at h7
  refine WP_seq ?_
  refine WP_ops ?_
  refine WO_mv rfl ?_
  refine WO_nil ?_
  refine WP_ret ?_
  refine ⟨_, RS_tmp (v := .s (.int _ _)) rfl (RS_nil), ?_⟩
  refine congrArg (fun b => V.s (S.int .i64 b)) ?_
  unfold rankM
  split <;> omega
 ·try simp only [NM] at h7
  try simp only [isM, decide_eq_true_eq, decide_eq_false_iff_not] at h7
  refine WP_skip ?_
  refine WP_seq ?_
  refine WP_ops ?_
  refine WO_mv (v := .s (.int _ _)) rfl ?_
  refine WO_quo rfl rfl (by omega) ?_
  refine WO_mv (v := .s (.int _ _)) rfl ?_
  refine WO_nil ?_
  refine WP_ret ?_
  refine ⟨_, RS_tmp (v := .s (.int _ _)) rfl (RS_nil), ?_⟩
  refine congrArg (fun b => V.s (S.int .i64 b)) ?_
  unfold rankM
  split <;> omega
theorem dDark_run (x : Int) : WR AM 46 [.s (.int .i64 x)] [] (fun v _ _ => v = .s (.bool (darkM x))) := by
 refine WR_fn (a := a46) rfl rfl (entryF _) (entry_E (Nat.le_of_ble_eq_true rfl)) (m := 0) rfl ?_
 refine WP_seq ?_
 refine WP_ops ?_
 refine WO_mv rfl ?_
 refine WO_nil ?_
 refine WP_seq ?_
 refine WP_ops ?_
 refine WO_mv (v := .s (.int _ _)) rfl ?_
 refine WO_call0 rfl (RF_of (dIs_run _)) rfl rfl rfl ?_
 refine WO_mv (v := .s (.bool _)) rfl ?_
 refine WO_case (t := 5) rfl (fun h8 => ?_) (fun h8 => ?_)
 ·try simp only [NM] at h8
  try simp only [isM, decide_eq_true_eq, decide_eq_false_iff_not] at h8
  refine WO_gt rfl ?_
  refine WO_mv (v := .s (.int _ _)) rfl ?_
  refine WO_gt rfl ?_
  refine WO_rem rfl rfl (by omega) ?_
  refine WO_gt rfl ?_
  refine WO_mv (v := .s (.int _ _)) rfl ?_
  refine WO_gt rfl ?_
  refine WO_quo rfl rfl (by omega) ?_
  refine WO_gt rfl ?_
  refine WO_add rfl rfl (by omega) ?_
  refine WO_gt rfl ?_
  refine WO_rem rfl rfl (by omega) ?_
  refine WO_gt rfl ?_
  refine WO_bin (r := .bool _) rfl rfl rfl ?_
  refine WO_pick (v := .s (.bool _)) rfl rfl ?_
  refine WO_mv (v := .s (.bool _)) rfl ?_
  refine WO_nil ?_
  refine WP_ret ?_
  refine ⟨_, RS_tmp (v := .s (.bool _)) rfl (RS_nil), ?_⟩
  refine congrArg (fun b => V.s (S.bool b)) ?_
  rw [Bool.eq_iff_iff]
  simp only [beq_iff_eq, bne_iff_ne, ne_eq, decide_eq_true_eq, Bool.false_eq_true, true_iff, false_iff, isM, darkM, iff_true, iff_false]
  omega
 ·try simp only [NM] at h8
  try simp only [isM, decide_eq_true_eq, decide_eq_false_iff_not] at h8
  refine WO_gf rfl rfl ?_
  refine WO_gf rfl rfl ?_
  refine WO_gf rfl rfl ?_
  refine WO_gf rfl rfl ?_
  refine WO_gf rfl rfl ?_
  refine WO_gf rfl rfl ?_
  refine WO_gf rfl rfl ?_
  refine WO_pick (v := .s (.bool _)) rfl rfl ?_
  refine WO_mv (v := .s (.bool _)) rfl ?_
  refine WO_nil ?_
  refine WP_ret ?_
  refine ⟨_, RS_tmp (v := .s (.bool _)) rfl (RS_nil), ?_⟩
  refine congrArg (fun b => V.s (S.bool b)) ?_
  rw [Bool.eq_iff_iff]
  simp only [beq_iff_eq, bne_iff_ne, ne_eq, decide_eq_true_eq, Bool.false_eq_true, true_iff, false_iff, isM, darkM, iff_true, iff_false]
  omega
theorem dName_run (x : Int) : WR AM 47 [.s (.int .i64 x)] [] (fun v _ _ => v = .s (.str (nameS x))) := by
 refine WR_fn (a := a47) rfl rfl (entryF _) (entry_E (Nat.le_of_ble_eq_true rfl)) (m := 0) rfl ?_
 refine WP_seq ?_
 refine WP_ops ?_
 refine WO_mv rfl ?_
 refine WO_nil ?_
 refine WP_seq ?_
 refine WP_seq ?_
 refine WP_ops ?_
 refine WO_mv (v := .s (.int _ _)) rfl ?_
 refine WO_call0 rfl (RF_of (dIs_run _)) rfl rfl rfl ?_
 refine WO_un (r := .bool _) rfl rfl ?_
 refine WO_nil ?_
 refine WP_cond rfl (fun h9 => ?_) (fun h9 => ?_)
 ·try simp only [NM] at h9
  try simp only [isM, decide_eq_true_eq, decide_eq_false_iff_not] at h9
  refine WP_seq ?_
  refine WP_ops ?_
  refine WO_mv rfl ?_
  refine WO_nil ?_
  refine WP_ret ?_
  refine ⟨_, RS_tmp (v := .s _) rfl (RS_nil), ?_⟩
  first | (rw [name_in (by omega), show (97 + x % 8).toNat = 97 + (x % 8).toNat by omega, show (49 + x / 8).toNat = 49 + (x / 8).toNat by omega]; rfl) | (rw [nameS, if_neg (by omega)]; rfl)
 ·try simp only [NM] at h9
  try simp only [isM, decide_eq_true_eq, decide_eq_false_iff_not] at h9
  refine WP_skip ?_
  refine WP_seq ?_
  refine WP_ops ?_
  refine WO_mv (v := .s (.int _ _)) rfl ?_
  refine WO_rem rfl rfl (by omega) ?_
  refine WO_add rfl rfl (by omega) ?_
  refine WO_conv rfl (IntWalk.u8_in _ (by omega)) ?_
  refine WO_mv (v := .s (.int _ _)) rfl ?_
  refine WO_quo rfl rfl (by omega) ?_
  refine WO_add rfl rfl (by omega) ?_
  refine WO_conv rfl (IntWalk.u8_in _ (by omega)) ?_
  refine WO_mksl2B rfl rfl ?_
  refine WO_b2s2 rfl (.head _) rfl rfl ?_
  refine WO_mv (v := .s _) rfl ?_
  refine WO_nil ?_
  refine WP_ret ?_
  refine ⟨_, RS_tmp (v := .s _) rfl (RS_nil), ?_⟩
  first | (rw [name_in (by omega), show (97 + x % 8).toNat = 97 + (x % 8).toNat by omega, show (49 + x / 8).toNat = 49 + (x / 8).toNat by omega]; rfl) | (rw [nameS, if_neg (by omega)]; rfl)
theorem step_found {s f r : Int} {t : Nat} (hs : 0 ≤ s ∧ s < 64) (ht : t < 64) (h1 : (t : Int) % 8 - s % 8 = f) (h2 : (t : Int) / 8 - s / 8 = r) : stepM s f r = t := by
  unfold stepM atM
  rw [if_pos ⟨hs, by omega, by omega⟩, if_pos (by omega)]
  omega
theorem step_none {s f r : Int} (h : ∀ t : Nat, t < 64 → ¬ ((t : Int) % 8 - s % 8 = f ∧ (t : Int) / 8 - s / 8 = r)) : stepM s f r = -1 := by
  unfold stepM atM
  by_cases c : (0 ≤ s ∧ s < 64) ∧ (-8 < f ∧ f < 8) ∧ (-8 < r ∧ r < 8)
  · rw [if_pos c]
    by_cases e : 0 ≤ s % 8 + f ∧ s % 8 + f < 8 ∧ 0 ≤ s / 8 + r ∧ s / 8 + r < 8
    · exact absurd ⟨by omega, by omega⟩ (h ((s / 8 + r) * 8 + (s % 8 + f)).toNat (by omega))
    · rw [if_neg e]
  · rw [if_neg c]

theorem dStep_walk (s p r : Int) : WR AM 48 [.s (.int .i64 s), .s (.int .i64 p), .s (.int .i64 r)] [] (fun v _ _ => v = .s (.int .i64 (stepM s p r))) := by
 refine WR_fn (a := a48) rfl rfl (entryF _) (entry_E (Nat.le_of_ble_eq_true rfl)) (m := 0) rfl ?_
 refine WP_seq ?_
 refine WP_ops ?_
 refine WO_mv rfl ?_
 refine WO_nil ?_
 refine WP_seq ?_
 refine WP_seq ?_
 refine WP_ops ?_
 refine WO_mv rfl ?_
 refine WO_nil ?_
 refine WP_block ?_
 refine WP_sub (L' := []) .slnil ?_
 refine WP_loop (fun m f _ L => ∃ (t : Nat), (t ≤ 64) ∧ (m = 64 - t) ∧ (∀ u : Nat, u < t → ¬ ((u : Int) % 8 - s % 8 = p ∧ (u : Int) / 8 - s / 8 = r)) ∧ (f 0 = .s (.int .i64 s)) ∧ (f 1 = .s (.int .i64 p)) ∧ (f 2 = .s (.int .i64 r)) ∧ (f 7 = .s (.int .i64 t)) ∧ (L = [])) (fun m f nb L hI => ?_) (64) ⟨0, by omega, rfl, fun u h => by omega, rfl, rfl, rfl, rfl, rfl⟩
 obtain ⟨t, ht, hm, hn, k0, k1, k2, k7, rfl⟩ := hI
 refine WP_know (d := 0) (v := .s (.int .i64 s)) k0 ?_
 refine WP_know (d := 1) (v := .s (.int .i64 p)) k1 ?_
 refine WP_know (d := 2) (v := .s (.int .i64 r)) k2 ?_
 refine WP_know (d := 7) (v := .s (.int .i64 t)) k7 ?_
 refine WP_seq ?_
 refine WP_seq ?_
 refine WP_ops ?_
 refine WO_mv (v := .s (.int _ _)) rfl ?_
 refine WO_bin (r := .bool _) rfl rfl rfl ?_
 refine WO_mv (v := .s (.bool _)) rfl ?_
 refine WO_case (t := 10) rfl (fun h10 => ?_) (fun h10 => ?_)
 ·try simp only [NM] at h10
  try simp only [isM, decide_eq_true_eq, decide_eq_false_iff_not] at h10
  refine WO_gt rfl ?_
  refine WO_mv (v := .s (.int _ _)) rfl ?_
  refine WO_gt rfl ?_
  refine WO_call0 rfl (RF_of (dIs_run _)) rfl rfl rfl ?_
  refine WO_pick (v := .s (.bool _)) rfl rfl ?_
  refine WO_nil ?_
  refine WP_cond rfl (fun h11 => ?_) (fun h11 => ?_)
  ·try simp only [NM] at h11
   try simp only [isM, decide_eq_true_eq, decide_eq_false_iff_not] at h11
   refine WP_skip ?_
   refine WP_seq ?_
   refine WP_block ?_
   refine WP_seq ?_
   refine WP_ops ?_
   refine WO_mv (v := .s (.int _ _)) rfl ?_
   refine WO_rem rfl rfl (by omega) ?_
   refine WO_mv (v := .s (.int _ _)) rfl ?_
   refine WO_rem rfl rfl (by omega) ?_
   refine WO_sub rfl rfl (by omega) ?_
   refine WO_mv (v := .s (.int _ _)) rfl ?_
   refine WO_bin (r := .bool _) rfl rfl rfl ?_
   refine WO_mv (v := .s (.bool _)) rfl ?_
   refine WO_case (t := 23) rfl (fun h12 => ?_) (fun h12 => ?_)
   ·try simp only [NM] at h12
    try simp only [isM, decide_eq_true_eq, decide_eq_false_iff_not] at h12
    refine WO_gt rfl ?_
    refine WO_mv (v := .s (.int _ _)) rfl ?_
    refine WO_gt rfl ?_
    refine WO_quo rfl rfl (by omega) ?_
    refine WO_gt rfl ?_
    refine WO_mv (v := .s (.int _ _)) rfl ?_
    refine WO_gt rfl ?_
    refine WO_quo rfl rfl (by omega) ?_
    refine WO_gt rfl ?_
    refine WO_sub rfl rfl (by omega) ?_
    refine WO_gt rfl ?_
    refine WO_mv (v := .s (.int _ _)) rfl ?_
    refine WO_gt rfl ?_
    refine WO_bin (r := .bool _) rfl rfl rfl ?_
    refine WO_pick (v := .s (.bool _)) rfl rfl ?_
    refine WO_nil ?_
    refine WP_cond rfl (fun h13 => ?_) (fun h13 => ?_)
    ·try simp only [NM] at h13
     try simp only [isM, decide_eq_true_eq, decide_eq_false_iff_not] at h13
     refine WP_seq ?_
     refine WP_ops ?_
     refine WO_mv (v := .s (.int _ _)) rfl ?_
     refine WO_mv (v := .s (.int _ _)) rfl ?_
     refine WO_nil ?_
     refine WP_ret ?_
     refine ⟨_, RS_tmp (v := .s (.int _ _)) rfl (RS_nil), ?_⟩
     refine congrArg (fun b => V.s (S.int .i64 b)) ?_
     first | exact (step_found (by omega) (by omega) (by omega) (by omega)).symm | (rw [step_none (fun u hu => hn u (by omega))]; done) | (rw [stepM, if_neg (by omega)]; done)
    ·try simp only [NM] at h13
     try simp only [isM, decide_eq_true_eq, decide_eq_false_iff_not] at h13
     refine WP_skip ?_
     refine WP_ops ?_
     refine WO_mv (v := .s (.int _ _)) rfl ?_
     refine WO_add rfl rfl (by omega) ?_
     refine WO_mv (v := .s (.int _ _)) rfl ?_
     refine WO_nil ?_
     refine ⟨64 - (t + 1), _, by omega, .slnil, t + 1, by omega, rfl, ?_, rfl, rfl, rfl, rfl, rfl⟩
     intro u hu
     by_cases e : u = t
     · subst e; omega
     · exact hn u (by omega)
   ·try simp only [NM] at h12
    try simp only [isM, decide_eq_true_eq, decide_eq_false_iff_not] at h12
    refine WO_gf rfl rfl ?_
    refine WO_gf rfl rfl ?_
    refine WO_gf rfl rfl ?_
    refine WO_gf rfl rfl ?_
    refine WO_gf rfl rfl ?_
    refine WO_gf rfl rfl ?_
    refine WO_gf rfl rfl ?_
    refine WO_pick (v := .s (.bool _)) rfl rfl ?_
    refine WO_nil ?_
    refine WP_cond rfl (fun h => nomatch h) (fun _ => ?_)
    refine WP_skip ?_
    refine WP_ops ?_
    refine WO_mv (v := .s (.int _ _)) rfl ?_
    refine WO_add rfl rfl (by omega) ?_
    refine WO_mv (v := .s (.int _ _)) rfl ?_
    refine WO_nil ?_
    refine ⟨64 - (t + 1), _, by omega, .slnil, t + 1, by omega, rfl, ?_, rfl, rfl, rfl, rfl, rfl⟩
    intro u hu
    by_cases e : u = t
    · subst e; omega
    · exact hn u (by omega)
  ·try simp only [NM] at h11
   try simp only [isM, decide_eq_true_eq, decide_eq_false_iff_not] at h11
   refine WP_exit ?_
   refine xhere ?_
   refine WP_seq ?_
   refine WP_ops ?_
   refine WO_mv rfl ?_
   refine WO_nil ?_
   refine WP_ret ?_
   refine ⟨_, RS_tmp (v := .s (.int _ _)) rfl (RS_nil), ?_⟩
   refine congrArg (fun b => V.s (S.int .i64 b)) ?_
   first | exact (step_found (by omega) (by omega) (by omega) (by omega)).symm | (rw [step_none (fun u hu => hn u (by omega))]; done) | (rw [stepM, if_neg (by omega)]; done)
 ·try simp only [NM] at h10
  try simp only [isM, decide_eq_true_eq, decide_eq_false_iff_not] at h10
  refine WO_gf rfl rfl ?_
  refine WO_gf rfl rfl ?_
  refine WO_pick (v := .s (.bool _)) rfl rfl ?_
  refine WO_nil ?_
  refine WP_cond rfl (fun h => nomatch h) (fun _ => ?_)
  refine WP_exit ?_
  refine xhere ?_
  refine WP_seq ?_
  refine WP_ops ?_
  refine WO_mv rfl ?_
  refine WO_nil ?_
  refine WP_ret ?_
  refine ⟨_, RS_tmp (v := .s (.int _ _)) rfl (RS_nil), ?_⟩
  refine congrArg (fun b => V.s (S.int .i64 b)) ?_
  first | exact (step_found (by omega) (by omega) (by omega) (by omega)).symm | (rw [step_none (fun u hu => hn u (by omega))]; done) | (rw [stepM, if_neg (by omega)]; done)
theorem dStep_run (s f r : Int) : RF AM 48 [.s (.int .i64 s), .s (.int .i64 f), .s (.int .i64 r)] (.s (.int .i64 (stepM s f r))) := RF_of (dStep_walk s f r)

end Go.Proofs.Ytjldefmcnppdoaa
