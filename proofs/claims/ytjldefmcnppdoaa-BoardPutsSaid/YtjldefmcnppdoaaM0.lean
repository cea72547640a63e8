/- Texts of this seat, joined. -/
import Derived.Test.YtjldefmcnppdoaaAmProg
import Derived.KernelRfl
/- The walks of places and colours. -/
namespace Go.Proofs.Ytjldefmcnppdoaa
open Go Go.Am
set_option linter.unusedSimpArgs false
set_option linter.unusedVariables false
/-- A square's file, rank, and that it is one. -/
def ofL (x : Int) : List S := if 0 ≤ x ∧ x < 64 then [.int .i64 (x % 8), .int .i64 (x / 8), .bool true] else [.int .i64 (-1), .int .i64 (-1), .bool false]

theorem of_run (x : Int) : WR AM 82 [.s (.int .i64 x)] [] (fun v _ _ => v = .agg 3 (lc (ofL x))) := by
 refine WR_fn (a := a82) rfl rfl (entryF _) (entry_E (Nat.le_of_ble_eq_true rfl)) (m := 0) rfl ?_
 refine WP_seq ?_
 refine WP_ops ?_
 refine WO_allocL rfl ?_
 refine WO_nil ?_
 refine WP_seq ?_
 refine WP_seq ?_
 refine WP_ops ?_
 refine WO_mv (v := .s (.int _ _)) rfl ?_
 refine WO_bin (r := .bool _) rfl rfl rfl ?_
 refine WO_mv (v := .s (.bool _)) rfl ?_
 refine WO_case (t := 5) rfl (fun h1 => ?_) (fun h1 => ?_)
 ·try simp only [NM] at h1
  refine WO_gf rfl rfl ?_
  refine WO_gf rfl rfl ?_
  refine WO_pick (v := .s (.bool _)) rfl rfl ?_
  refine WO_nil ?_
  refine WP_cond rfl (fun _ => ?_) (fun h => nomatch h)
  refine WP_seq ?_
  refine WP_ops ?_
  refine WO_buildI rfl (.one rfl (.one rfl .nil)) ?_
  refine WO_buildL rfl rfl (.part (v := .agg _ _) (ys := [_, _, _]) rfl rfl rfl rfl .nil) ?_
  refine WO_st (v := .agg _ _) rfl rfl rfl rfl rfl (over_spl (ys := [_, _, _]) rfl rfl) .here ?_
  refine WO_nil ?_
  refine WP_ret ?_
  refine ⟨_, RS_cell rfl rfl (.head _) (RS_nil), ?_⟩
  first | (rw [show ofL x = [.int .i64 (-1), .int .i64 (-1), .bool false] from if_neg (by omega)]; rfl) | (rw [show ofL x = [.int .i64 (x % 8), .int .i64 (x / 8), .bool true] from if_pos (by omega)]; rfl)
 ·try simp only [NM] at h1
  refine WO_gt rfl ?_
  refine WO_mv (v := .s (.int _ _)) rfl ?_
  refine WO_gt rfl ?_
  refine WO_bin (r := .bool _) rfl rfl rfl ?_
  refine WO_pick (v := .s (.bool _)) rfl rfl ?_
  refine WO_nil ?_
  refine WP_cond rfl (fun h2 => ?_) (fun h2 => ?_)
  ·try simp only [NM] at h2
   refine WP_seq ?_
   refine WP_ops ?_
   refine WO_buildI rfl (.one rfl (.one rfl .nil)) ?_
   refine WO_buildL rfl rfl (.part (v := .agg _ _) (ys := [_, _, _]) rfl rfl rfl rfl .nil) ?_
   refine WO_st (v := .agg _ _) rfl rfl rfl rfl rfl (over_spl (ys := [_, _, _]) rfl rfl) .here ?_
   refine WO_nil ?_
   refine WP_ret ?_
   refine ⟨_, RS_cell rfl rfl (.head _) (RS_nil), ?_⟩
   first | (rw [show ofL x = [.int .i64 (-1), .int .i64 (-1), .bool false] from if_neg (by omega)]; rfl) | (rw [show ofL x = [.int .i64 (x % 8), .int .i64 (x / 8), .bool true] from if_pos (by omega)]; rfl)
  ·try simp only [NM] at h2
   refine WP_skip ?_
   refine WP_seq ?_
   refine WP_ops ?_
   refine WO_mv (v := .s (.int _ _)) rfl ?_
   refine WO_rem rfl rfl (by omega) ?_
   refine WO_mv (v := .s (.int _ _)) rfl ?_
   refine WO_quo rfl rfl (by omega) ?_
   refine WO_buildI rfl (.one rfl (.one rfl .nil)) ?_
   refine WO_buildL rfl rfl (.part (v := .agg _ _) (ys := [_, _, _]) rfl rfl rfl rfl (.part (v := .s (.bool _)) (ys := [_, _, _]) rfl rfl rfl rfl .nil)) ?_
   refine WO_st (v := .agg _ _) rfl rfl rfl rfl rfl (over_spl (ys := [_, _, _]) rfl rfl) .here ?_
   refine WO_nil ?_
   refine WP_ret ?_
   refine ⟨_, RS_cell rfl rfl (.head _) (RS_nil), ?_⟩
   first | (rw [show ofL x = [.int .i64 (-1), .int .i64 (-1), .bool false] from if_neg (by omega)]; rfl) | (rw [show ofL x = [.int .i64 (x % 8), .int .i64 (x / 8), .bool true] from if_pos (by omega)]; rfl)
theorem of_in (x : Int) (h : 0 ≤ x ∧ x < 64) : RF AM 82 [.s (.int .i64 x)] (.agg 3 (lc [.int .i64 (x % 8), .int .i64 (x / 8), .bool true])) := by
  have := RF_of (of_run x)
  rw [ofL, if_pos h] at this
  exact this

end Go.Proofs.Ytjldefmcnppdoaa
/- The walks of squares, and of a position turned. -/
namespace Go.Proofs.Ytjldefmcnppdoaa
open Go Go.Am
set_option linter.unusedSimpArgs false
set_option linter.unusedVariables false
theorem of_out (x : Int) (h : ¬ (0 ≤ x ∧ x < 64)) : RF AM 82 [.s (.int .i64 x)] (.agg 3 (lc [.int .i64 (-1), .int .i64 (-1), .bool false])) := by
  have := RF_of (of_run x)
  rw [ofL, if_neg h] at this
  exact this

/-- A square's file, its rank, and whether it is one. -/
def fileM (x : Int) : Int := if 0 ≤ x ∧ x < 64 then x % 8 else -1
def rankM (x : Int) : Int := if 0 ≤ x ∧ x < 64 then x / 8 else -1
def isM (x : Int) : Bool := decide (0 ≤ x ∧ x < 64)
/-- The square of a file and a rank. -/
def atM (a b : Int) : Int := if 0 ≤ a ∧ a < 8 ∧ 0 ≤ b ∧ b < 8 then b * 8 + a else -1

theorem Rank_in (x : Int) (h : 0 ≤ x ∧ x < 64) : WR AM 38 [.s (.int .i64 x)] [] (fun v _ _ => v = .s (.int .i64 (rankM x))) := by
 refine WR_fn (a := a38) rfl rfl (entryF _) (entry_E (Nat.le_of_ble_eq_true rfl)) (m := 0) rfl ?_
 refine WP_seq ?_
 refine WP_ops ?_
 refine WO_mv rfl ?_
 refine WO_nil ?_
 refine WP_seq ?_
 refine WP_ops ?_
 refine WO_mv (v := .s (.int _ _)) rfl ?_
 refine WO_call0 rfl (of_in _ h) rfl rfl rfl ?_
 refine WO_fldA rfl rfl ?_
 refine WO_fldS (a := .int _ _) rfl rfl rfl ?_
 first | refine WO_mv (v := .s (.int _ _)) rfl ?_ | refine WO_mv (v := .s _) rfl ?_
 refine WO_nil ?_
 refine WP_ret ?_
 refine ⟨_, RS_tmp (v := _) rfl (RS_nil), ?_⟩
 rw [rankM, if_pos h]; rfl
theorem Rank_out (x : Int) (h : ¬ (0 ≤ x ∧ x < 64)) : WR AM 38 [.s (.int .i64 x)] [] (fun v _ _ => v = .s (.int .i64 (rankM x))) := by
 refine WR_fn (a := a38) rfl rfl (entryF _) (entry_E (Nat.le_of_ble_eq_true rfl)) (m := 0) rfl ?_
 refine WP_seq ?_
 refine WP_ops ?_
 refine WO_mv rfl ?_
 refine WO_nil ?_
 refine WP_seq ?_
 refine WP_ops ?_
 refine WO_mv (v := .s (.int _ _)) rfl ?_
 refine WO_call0 rfl (of_out _ h) rfl rfl rfl ?_
 refine WO_fldA rfl rfl ?_
 refine WO_fldS (a := .int _ _) rfl rfl rfl ?_
 first | refine WO_mv (v := .s (.int _ _)) rfl ?_ | refine WO_mv (v := .s _) rfl ?_
 refine WO_nil ?_
 refine WP_ret ?_
 refine ⟨_, RS_tmp (v := _) rfl (RS_nil), ?_⟩
 rw [rankM, if_neg h]; rfl
theorem Rank_run (x : Int) : RF AM 38 [.s (.int .i64 x)] (.s (.int .i64 (rankM x))) := by
  by_cases h : 0 ≤ x ∧ x < 64
  · exact RF_of (Rank_in x h)
  · exact RF_of (Rank_out x h)

theorem Is_in (x : Int) (h : 0 ≤ x ∧ x < 64) : WR AM 39 [.s (.int .i64 x)] [] (fun v _ _ => v = .s (.bool (isM x))) := by
 refine WR_fn (a := a39) rfl rfl (entryF _) (entry_E (Nat.le_of_ble_eq_true rfl)) (m := 0) rfl ?_
 refine WP_seq ?_
 refine WP_ops ?_
 refine WO_mv rfl ?_
 refine WO_nil ?_
 refine WP_seq ?_
 refine WP_ops ?_
 refine WO_mv (v := .s (.int _ _)) rfl ?_
 refine WO_call0 rfl (of_in _ h) rfl rfl rfl ?_
 refine WO_fldS (a := .bool _) rfl rfl rfl ?_
 first | refine WO_mv (v := .s (.int _ _)) rfl ?_ | refine WO_mv (v := .s _) rfl ?_
 refine WO_nil ?_
 refine WP_ret ?_
 refine ⟨_, RS_tmp (v := _) rfl (RS_nil), ?_⟩
 rw [isM, decide_eq_true h]; rfl
theorem Is_out (x : Int) (h : ¬ (0 ≤ x ∧ x < 64)) : WR AM 39 [.s (.int .i64 x)] [] (fun v _ _ => v = .s (.bool (isM x))) := by
 refine WR_fn (a := a39) rfl rfl (entryF _) (entry_E (Nat.le_of_ble_eq_true rfl)) (m := 0) rfl ?_
 refine WP_seq ?_
 refine WP_ops ?_
 refine WO_mv rfl ?_
 refine WO_nil ?_
 refine WP_seq ?_
 refine WP_ops ?_
 refine WO_mv (v := .s (.int _ _)) rfl ?_
 refine WO_call0 rfl (of_out _ h) rfl rfl rfl ?_
 refine WO_fldS (a := .bool _) rfl rfl rfl ?_
 first | refine WO_mv (v := .s (.int _ _)) rfl ?_ | refine WO_mv (v := .s _) rfl ?_
 refine WO_nil ?_
 refine WP_ret ?_
 refine ⟨_, RS_tmp (v := _) rfl (RS_nil), ?_⟩
 rw [isM, decide_eq_false h]; rfl
theorem SqIs_run (x : Int) : RF AM 39 [.s (.int .i64 x)] (.s (.bool (isM x))) := by
  by_cases h : 0 ≤ x ∧ x < 64
  · exact RF_of (Is_in x h)
  · exact RF_of (Is_out x h)

theorem WO_convW {A : AP} {N : Nat} {f : FE} {n : Nat} {L : HA} {K : KN} {l : List I} {d : Nat} {kd kd' : IntKind} {x : O} {a : Int} (hx : x.fv N f = .s (.int kd' a)) (k : WO A N l (upd f d (.s (.int kd (kd.wrap a)))) n L K) : WO A N (⟨some d, none, .p (.conv kd x)⟩ :: l) f n L K :=
  WO_p (v := .s (.int kd (kd.wrap a))) (by simp only [pureV, ev_E, hx]) k

theorem u64_lt8 {a : Int} (h : -9223372036854775808 ≤ a ∧ a ≤ 9223372036854775807) : IntKind.u64.wrap a < 8 ↔ 0 ≤ a ∧ a < 8 := by
  rw [IntKind.wrap_u64]
  omega

theorem within_run (P : Nat → Int) (ha : -9223372036854775808 ≤ P 0 ∧ P 0 ≤ 9223372036854775807) (hb : -9223372036854775808 ≤ P 1 ∧ P 1 ≤ 9223372036854775807) : WR AM 86 [.agg 2 (ia P)] [] (fun v _ _ => v = .s (.bool (decide (0 ≤ P 0 ∧ P 0 < 8 ∧ 0 ≤ P 1 ∧ P 1 < 8)))) := by
 refine WR_fn (a := a86) rfl rfl (entryF _) (entry_E (Nat.le_of_ble_eq_true rfl)) (m := 0) rfl ?_
 refine WP_seq ?_
 refine WP_ops ?_
 refine WO_boxA rfl ?_
 refine WO_mv rfl ?_
 refine WO_nil ?_
 refine WP_seq ?_
 refine WP_ops ?_
 refine WO_fa (o' := 0) rfl rfl rfl ?_
 refine WO_ldI rfl rfl (.head _) rfl ?_
 refine WO_convW rfl ?_
 refine WO_bin (r := .bool _) rfl rfl rfl ?_
 refine WO_mv (v := .s (.bool _)) rfl ?_
 refine WO_case (t := 7) rfl (fun h1 => ?_) (fun h1 => ?_)
 ·try simp only [NM] at h1
  refine WO_gt rfl ?_
  refine WO_fa (o' := 1) rfl rfl rfl ?_
  refine WO_gt rfl ?_
  refine WO_ldI rfl rfl (.head _) rfl ?_
  refine WO_gt rfl ?_
  refine WO_convW rfl ?_
  refine WO_gt rfl ?_
  refine WO_bin (r := .bool _) rfl rfl rfl ?_
  refine WO_pick (v := .s (.bool _)) rfl rfl ?_
  refine WO_mv (v := .s (.bool _)) rfl ?_
  refine WO_nil ?_
  refine WP_ret ?_
  refine ⟨_, RS_tmp (v := .s (.bool _)) rfl (RS_nil), ?_⟩
  refine congrArg (fun b => V.s (S.bool b)) ?_
  have e0 := u64_lt8 ha
  have e1 := u64_lt8 hb
  rw [Bool.eq_iff_iff]
  simp only [decide_eq_true_eq, Bool.false_eq_true, false_iff]
  omega
 ·try simp only [NM] at h1
  refine WO_gf rfl rfl ?_
  refine WO_gf rfl rfl ?_
  refine WO_gf rfl rfl ?_
  refine WO_gf rfl rfl ?_
  refine WO_pick (v := .s (.bool _)) rfl rfl ?_
  refine WO_mv (v := .s (.bool _)) rfl ?_
  refine WO_nil ?_
  refine WP_ret ?_
  refine ⟨_, RS_tmp (v := .s (.bool _)) rfl (RS_nil), ?_⟩
  refine congrArg (fun b => V.s (S.bool b)) ?_
  have e0 := u64_lt8 ha
  have e1 := u64_lt8 hb
  rw [Bool.eq_iff_iff]
  simp only [decide_eq_true_eq, Bool.false_eq_true, false_iff]
  omega
theorem number_run (P : Nat → Int) (ha : -9223372036854775808 ≤ P 0 ∧ P 0 ≤ 9223372036854775807) (hb : -9223372036854775808 ≤ P 1 ∧ P 1 ≤ 9223372036854775807) : WR AM 84 [.agg 2 (ia P)] [] (fun v _ _ => v = .s (.int .i64 (atM (P 0) (P 1)))) := by
 refine WR_fn (a := a84) rfl rfl (entryF _) (entry_E (Nat.le_of_ble_eq_true rfl)) (m := 0) rfl ?_
 refine WP_seq ?_
 refine WP_ops ?_
 refine WO_boxA rfl ?_
 refine WO_mv rfl ?_
 refine WO_nil ?_
 refine WP_seq ?_
 refine WP_seq ?_
 refine WP_ops ?_
 first | refine WO_ldA0 rfl rfl (.head _) ?_ | refine WO_ldAI rfl rfl (.head _) ?_
 refine WO_call0 rfl (RF_of (within_run _ ha hb)) rfl rfl rfl ?_
 refine WO_un (r := .bool _) rfl rfl ?_
 refine WO_nil ?_
 refine WP_cond rfl (fun h2 => ?_) (fun h2 => ?_)
 ·try simp only [NM] at h2
  refine WP_seq ?_
  refine WP_ops ?_
  refine WO_mv rfl ?_
  refine WO_nil ?_
  refine WP_ret ?_
  refine ⟨_, RS_tmp (v := .s (.int _ _)) rfl (RS_nil), ?_⟩
  refine congrArg (fun b => V.s (S.int .i64 b)) ?_
  unfold atM
  split <;> omega
 ·try simp only [NM] at h2
  refine WP_skip ?_
  refine WP_seq ?_
  refine WP_ops ?_
  refine WO_fa (o' := 1) rfl rfl rfl ?_
  refine WO_ldI rfl rfl (.head _) rfl ?_
  refine WO_mul rfl rfl (by omega) ?_
  refine WO_fa (o' := 0) rfl rfl rfl ?_
  refine WO_ldI rfl rfl (.head _) rfl ?_
  refine WO_add rfl rfl (by omega) ?_
  refine WO_mv (v := .s (.int _ _)) rfl ?_
  refine WO_nil ?_
  refine WP_ret ?_
  refine ⟨_, RS_tmp (v := .s (.int _ _)) rfl (RS_nil), ?_⟩
  refine congrArg (fun b => V.s (S.int .i64 b)) ?_
  unfold atM
  split <;> omega
/-- The other side; may a piece be; a square across. -/
def otherM (s : Int) : Int := if s = 0 then 1 else 0
def mayM (k s : Int) : Bool := decide (1 ≤ k ∧ k ≤ 6 ∧ (s = 0 ∨ s = 1))
def acrossM (x : Int) : Int := (7 - x / 8) * 8 + x % 8
def sideT (k s : Int) : Int := if mayM k s = true then otherM s else s

theorem ovA_out {P : Nat → Int} {o m : Nat} {Q : Nat → Int} {i : Nat} (h : i < o ∨ o + m ≤ i) : ovA P o m Q i = P i := by
  have e : (Nat.ble o i && Nat.blt i (o + m)) = false := by
    cases h1 : Nat.ble o i with
    | false => rfl
    | true =>
      cases h2 : Nat.blt i (o + m) with
      | false => rfl
      | true =>
        have := Nat.le_of_ble_eq_true h1
        have := Nat.le_of_ble_eq_true h2
        omega
  show (bif Nat.ble o i && Nat.blt i (o + m) then Q (i - o) else P i) = P i
  rw [e]; rfl

theorem ovA_at {P : Nat → Int} {o m : Nat} {Q : Nat → Int} {i : Nat} (h : o ≤ i ∧ i < o + m) : ovA P o m Q i = Q (i - o) := by
  have e : (Nat.ble o i && Nat.blt i (o + m)) = true := by
    rw [Nat.ble_eq_true_of_le h.1, show Nat.blt i (o + m) = true from Nat.ble_eq_true_of_le h.2]; rfl
  show (bif Nat.ble o i && Nat.blt i (o + m) then Q (i - o) else P i) = Q (i - o)
  rw [e]; rfl

theorem Other_run (s : Int) : WR AM 57 [.s (.int .i64 s)] [] (fun v _ _ => v = .s (.int .i64 (otherM s))) := by
 refine WR_fn (a := a57) rfl rfl (entryF _) (entry_E (Nat.le_of_ble_eq_true rfl)) (m := 0) rfl ?_
 refine WP_seq ?_
 refine WP_ops ?_
 refine WO_mv rfl ?_
 refine WO_nil ?_
 refine WP_seq ?_
 refine WP_seq ?_
 refine WP_ops ?_
 refine WO_mv (v := .s (.int _ _)) rfl ?_
 refine WO_bin (r := .bool _) rfl rfl rfl ?_
 refine WO_nil ?_
 refine WP_cond rfl (fun h3 => ?_) (fun h3 => ?_)
 ·try simp only [NM] at h3
  refine WP_seq ?_
  refine WP_ops ?_
  refine WO_mv rfl ?_
  refine WO_nil ?_
  refine WP_ret ?_
  refine ⟨_, RS_tmp (v := .s (.int _ _)) rfl (RS_nil), ?_⟩
  first | (rw [show otherM s = 1 from if_pos (by omega)]; rfl) | (rw [show otherM s = 0 from if_neg (by omega)]; rfl)
 ·try simp only [NM] at h3
  refine WP_skip ?_
  refine WP_seq ?_
  refine WP_ops ?_
  refine WO_mv rfl ?_
  refine WO_nil ?_
  refine WP_ret ?_
  refine ⟨_, RS_tmp (v := .s (.int _ _)) rfl (RS_nil), ?_⟩
  first | (rw [show otherM s = 1 from if_pos (by omega)]; rfl) | (rw [show otherM s = 0 from if_neg (by omega)]; rfl)
theorem may_run (P : Nat → Int) : WR AM 88 [.agg 2 (ia P)] [] (fun v _ _ => v = .s (.bool (mayM (P 0) (P 1)))) := by
 refine WR_fn (a := a88) rfl rfl (entryF _) (entry_E (Nat.le_of_ble_eq_true rfl)) (m := 0) rfl ?_
 refine WP_seq ?_
 refine WP_ops ?_
 refine WO_boxA rfl ?_
 refine WO_mv rfl ?_
 refine WO_nil ?_
 refine WP_seq ?_
 refine WP_ops ?_
 refine WO_fa (o' := 0) rfl rfl rfl ?_
 refine WO_ldI rfl rfl (.head _) rfl ?_
 refine WO_bin (r := .bool _) rfl rfl rfl ?_
 refine WO_mv (v := .s (.bool _)) rfl ?_
 refine WO_case (t := 6) rfl (fun h4 => ?_) (fun h4 => ?_)
 ·try simp only [NM] at h4
  refine WO_gt rfl ?_
  refine WO_fa (o' := 0) rfl rfl rfl ?_
  refine WO_gt rfl ?_
  refine WO_ldI rfl rfl (.head _) rfl ?_
  refine WO_gt rfl ?_
  refine WO_bin (r := .bool _) rfl rfl rfl ?_
  refine WO_pick (v := .s (.bool _)) rfl rfl ?_
  refine WO_mv (v := .s (.bool _)) rfl ?_
  refine WO_case (t := 11) rfl (fun h5 => ?_) (fun h5 => ?_)
  ·try simp only [NM] at h5
   refine WO_gt rfl ?_
   refine WO_fa (o' := 1) rfl rfl rfl ?_
   refine WO_gt rfl ?_
   refine WO_ldI rfl rfl (.head _) rfl ?_
   refine WO_gt rfl ?_
   refine WO_bin (r := .bool _) rfl rfl rfl ?_
   refine WO_gt rfl ?_
   refine WO_mv (v := .s (.bool _)) rfl ?_
   refine WO_case (t := 15) rfl (fun h6 => ?_) (fun h6 => ?_)
   ·try simp only [NM] at h6
    refine WO_gf rfl rfl ?_
    refine WO_gf rfl rfl ?_
    refine WO_gf rfl rfl ?_
    refine WO_gt rfl ?_
    refine WO_pick (v := .s (.bool _)) rfl rfl ?_
    refine WO_pick (v := .s (.bool _)) rfl rfl ?_
    refine WO_mv (v := .s (.bool _)) rfl ?_
    refine WO_nil ?_
    refine WP_ret ?_
    refine ⟨_, RS_tmp (v := .s (.bool _)) rfl (RS_nil), ?_⟩
    refine congrArg (fun b => V.s (S.bool b)) ?_
    unfold mayM
    rw [Bool.eq_iff_iff]
    simp only [beq_iff_eq, decide_eq_true_eq, Bool.false_eq_true, true_iff, false_iff]
    omega
   ·try simp only [NM] at h6
    refine WO_gt rfl ?_
    refine WO_fa (o' := 1) rfl rfl rfl ?_
    refine WO_gt rfl ?_
    refine WO_ldI rfl rfl (.head _) rfl ?_
    refine WO_gt rfl ?_
    refine WO_bin (r := .bool _) rfl rfl rfl ?_
    refine WO_gt rfl ?_
    refine WO_pick (v := .s (.bool _)) rfl rfl ?_
    refine WO_pick (v := .s (.bool _)) rfl rfl ?_
    refine WO_mv (v := .s (.bool _)) rfl ?_
    refine WO_nil ?_
    refine WP_ret ?_
    refine ⟨_, RS_tmp (v := .s (.bool _)) rfl (RS_nil), ?_⟩
    refine congrArg (fun b => V.s (S.bool b)) ?_
    unfold mayM
    rw [Bool.eq_iff_iff]
    simp only [beq_iff_eq, decide_eq_true_eq, Bool.false_eq_true, true_iff, false_iff]
    omega
  ·try simp only [NM] at h5
   refine WO_gf rfl rfl ?_
   refine WO_gf rfl rfl ?_
   refine WO_gf rfl rfl ?_
   refine WO_gf rfl rfl ?_
   refine WO_gu rfl ?_
   refine WO_gu rfl ?_
   refine WO_gu rfl ?_
   refine WO_gf rfl rfl ?_
   refine WO_pick (v := .s (.bool _)) rfl rfl ?_
   refine WO_mv (v := .s (.bool _)) rfl ?_
   refine WO_nil ?_
   refine WP_ret ?_
   refine ⟨_, RS_tmp (v := .s (.bool _)) rfl (RS_nil), ?_⟩
   refine congrArg (fun b => V.s (S.bool b)) ?_
   unfold mayM
   rw [Bool.eq_iff_iff]
   simp only [beq_iff_eq, decide_eq_true_eq, Bool.false_eq_true, true_iff, false_iff]
   omega
 ·try simp only [NM] at h4
  refine WO_gf rfl rfl ?_
  refine WO_gf rfl rfl ?_
  refine WO_gf rfl rfl ?_
  refine WO_pick (v := .s (.bool _)) rfl rfl ?_
  refine WO_mv (v := .s (.bool _)) rfl ?_
  refine WO_gf rfl rfl ?_
  refine WO_gf rfl rfl ?_
  refine WO_gf rfl rfl ?_
  refine WO_gf rfl rfl ?_
  refine WO_gu rfl ?_
  refine WO_gu rfl ?_
  refine WO_gu rfl ?_
  refine WO_gf rfl rfl ?_
  refine WO_pick (v := .s (.bool _)) rfl rfl ?_
  refine WO_mv (v := .s (.bool _)) rfl ?_
  refine WO_nil ?_
  refine WP_ret ?_
  refine ⟨_, RS_tmp (v := .s (.bool _)) rfl (RS_nil), ?_⟩
  refine congrArg (fun b => V.s (S.bool b)) ?_
  unfold mayM
  rw [Bool.eq_iff_iff]
  simp only [beq_iff_eq, decide_eq_true_eq, Bool.false_eq_true, true_iff, false_iff]
  omega
/-- A position turned: its castlings; the square gone over. -/
def castT (c : Int) : Int := if 0 ≤ c ∧ c ≤ 15 then c / 4 + c % 4 * 4 else c
def overT (x : Int) : Int := if isM x = true then acrossM x else x
def acr (s : Nat) : Nat := (7 - s / 8) * 8 + s % 8

/-- The squares turned, so far. -/
def Turned (P Q : Nat → Int) (i : Nat) : Prop := ∀ s : Nat, s < i → Q (acr s * 2) = P (s * 2) ∧ Q (acr s * 2 + 1) = sideT (P (s * 2)) (P (s * 2 + 1))

/-- A position and the same turned. -/
structure TurnOf (P Q : Nat → Int) : Prop where
  sq : Turned P Q 64
  side : Q 128 = otherM (P 128)
  castle : Q 129 = castT (P 129)
  over : Q 130 = overT (P 130)
  half : Q 131 = P 131
  full : Q 132 = P 132
  out : ∀ i, 133 ≤ i → Q i = 0

end Go.Proofs.Ytjldefmcnppdoaa
/- The walks of steps. -/
namespace Go.Proofs.Ytjldefmcnppdoaa
open Go Go.Am
set_option linter.unusedSimpArgs false
set_option linter.unusedVariables false
/-- The cell of a square. -/
abbrev sqI (x : Int) : Nat := 0 + x.toNat * 2
/-- The square so many files and ranks on. -/
def stepM (s f r : Int) : Int := if (0 ≤ s ∧ s < 64) ∧ (-8 < f ∧ f < 8) ∧ (-8 < r ∧ r < 8) then atM (s % 8 + f) (s / 8 + r) else -1
/-- The file and rank so many on. -/
def onM (s f r : Int) : Nat → Int := if (0 ≤ s ∧ s < 64) ∧ (-8 < f ∧ f < 8) ∧ (-8 < r ∧ r < 8) then (fun i => if i = 0 then s % 8 + f else if i = 1 then s / 8 + r else 0) else (fun i => if i = 0 then -1 else if i = 1 then -1 else 0)
theorem two_fn {x y : Int} : ovA (fun _ => 0) 0 2 (ov (ov (fun _ => 0) 0 x) 1 y) = fun i => if i = 0 then x else if i = 1 then y else 0 := by
  funext i
  by_cases h0 : i = 0
  · subst h0; rfl
  · by_cases h1 : i = 1
    · subst h1; rfl
    · rw [ovA_out (by omega), if_neg h0, if_neg h1]

theorem on_in (s f r : Int) (h : 0 ≤ s ∧ s < 64) : WR AM 83 [.agg 3 (lc [.int .i64 (s % 8), .int .i64 (s / 8), .bool true]), .s (.int .i64 f), .s (.int .i64 r)] [] (fun v _ _ => v = .agg 2 (ia (onM s f r))) := by
 refine WR_fn (a := a83) rfl rfl (entryF _) (entry_E (Nat.le_of_ble_eq_true rfl)) (m := 0) rfl ?_
 refine WP_seq ?_
 refine WP_ops ?_
 refine WO_boxA rfl ?_
 refine WO_allocI ?_
 refine WO_nil ?_
 refine WP_seq ?_
 refine WP_seq ?_
 refine WP_ops ?_
 refine WO_fa (o' := 2) rfl rfl rfl ?_
 refine WO_ldS (x := .bool _) rfl rfl (.tail _ (.head _)) rfl ?_
 refine WO_un (r := .bool _) rfl rfl ?_
 refine WO_mv (v := .s (.bool _)) rfl ?_
 refine WO_gt rfl ?_
 refine WO_mv (v := .s (.int _ _)) rfl ?_
 refine WO_gt rfl ?_
 refine WO_mv (v := .s (.int _ _)) rfl ?_
 refine WO_gt rfl ?_
 refine WO_mx2 rfl rfl ?_
 refine WO_gt rfl ?_
 refine WO_bin (r := .bool _) rfl rfl rfl ?_
 refine WO_pick (v := .s (.bool _)) rfl rfl ?_
 refine WO_mv (v := .s (.bool _)) rfl ?_
 refine WO_case (t := 16) rfl (fun h5 => ?_) (fun h5 => ?_)
 ·try simp only [NM] at h5
  refine WO_gf rfl rfl ?_
  refine WO_gf rfl rfl ?_
  refine WO_gf rfl rfl ?_
  refine WO_gf rfl rfl ?_
  refine WO_pick (v := .s (.bool _)) rfl rfl ?_
  refine WO_nil ?_
  refine WP_cond rfl (fun _ => ?_) (fun h => nomatch h)
  refine WP_seq ?_
  refine WP_ops ?_
  refine WO_buildI rfl (.one rfl (.one rfl .nil)) ?_
  refine WO_stA rfl rfl rfl rfl .here ?_
  refine WO_nil ?_
  refine WP_ret ?_
  refine ⟨_, RS_cell rfl rfl (.head _) (RS_nil), ?_⟩
  refine congrArg (fun g => V.agg 2 (ia g)) ?_
  rw [two_fn]
  first | exact (if_pos ⟨h, by omega, by omega⟩).symm | exact (if_neg (fun q => by omega)).symm
 ·try simp only [NM] at h5
  refine WO_gt rfl ?_
  refine WO_mv (v := .s (.int _ _)) rfl ?_
  refine WO_gt rfl ?_
  refine WO_mv (v := .s (.int _ _)) rfl ?_
  refine WO_gt rfl ?_
  refine WO_mn2 rfl rfl ?_
  refine WO_gt rfl ?_
  refine WO_bin (r := .bool _) rfl rfl rfl ?_
  refine WO_pick (v := .s (.bool _)) rfl rfl ?_
  refine WO_nil ?_
  refine WP_cond rfl (fun h6 => ?_) (fun h6 => ?_)
  ·try simp only [NM] at h6
   refine WP_seq ?_
   refine WP_ops ?_
   refine WO_buildI rfl (.one rfl (.one rfl .nil)) ?_
   refine WO_stA rfl rfl rfl rfl .here ?_
   refine WO_nil ?_
   refine WP_ret ?_
   refine ⟨_, RS_cell rfl rfl (.head _) (RS_nil), ?_⟩
   refine congrArg (fun g => V.agg 2 (ia g)) ?_
   rw [two_fn]
   first | exact (if_pos ⟨h, by omega, by omega⟩).symm | exact (if_neg (fun q => by omega)).symm
  ·try simp only [NM] at h6
   refine WP_skip ?_
   refine WP_seq ?_
   refine WP_ops ?_
   refine WO_fa (o' := 0) rfl rfl rfl ?_
   refine WO_fa (o' := 0) rfl rfl rfl ?_
   refine WO_ldS (x := .int _ _) rfl rfl (.tail _ (.head _)) rfl ?_
   refine WO_mv (v := .s (.int _ _)) rfl ?_
   refine WO_add rfl rfl (by omega) ?_
   refine WO_fa (o' := 0) rfl rfl rfl ?_
   refine WO_fa (o' := 1) rfl rfl rfl ?_
   refine WO_ldS (x := .int _ _) rfl rfl (.tail _ (.head _)) rfl ?_
   refine WO_mv (v := .s (.int _ _)) rfl ?_
   refine WO_add rfl rfl (by omega) ?_
   refine WO_buildI rfl (.one rfl (.one rfl .nil)) ?_
   refine WO_stA rfl rfl rfl rfl .here ?_
   refine WO_nil ?_
   refine WP_ret ?_
   refine ⟨_, RS_cell rfl rfl (.head _) (RS_nil), ?_⟩
   refine congrArg (fun g => V.agg 2 (ia g)) ?_
   rw [two_fn]
   first | exact (if_pos ⟨h, by omega, by omega⟩).symm | exact (if_neg (fun q => by omega)).symm
theorem on_out (s f r : Int) (h : ¬ (0 ≤ s ∧ s < 64)) : WR AM 83 [.agg 3 (lc [.int .i64 (-1), .int .i64 (-1), .bool false]), .s (.int .i64 f), .s (.int .i64 r)] [] (fun v _ _ => v = .agg 2 (ia (onM s f r))) := by
 refine WR_fn (a := a83) rfl rfl (entryF _) (entry_E (Nat.le_of_ble_eq_true rfl)) (m := 0) rfl ?_
 refine WP_seq ?_
 refine WP_ops ?_
 refine WO_boxA rfl ?_
 refine WO_allocI ?_
 refine WO_nil ?_
 refine WP_seq ?_
 refine WP_seq ?_
 refine WP_ops ?_
 refine WO_fa (o' := 2) rfl rfl rfl ?_
 refine WO_ldS (x := .bool _) rfl rfl (.tail _ (.head _)) rfl ?_
 refine WO_un (r := .bool _) rfl rfl ?_
 refine WO_mv (v := .s (.bool _)) rfl ?_
 refine WO_gf rfl rfl ?_
 refine WO_gf rfl rfl ?_
 refine WO_gf rfl rfl ?_
 refine WO_gf rfl rfl ?_
 refine WO_pick (v := .s (.bool _)) rfl rfl ?_
 refine WO_mv (v := .s (.bool _)) rfl ?_
 refine WO_gf rfl rfl ?_
 refine WO_gf rfl rfl ?_
 refine WO_gf rfl rfl ?_
 refine WO_gf rfl rfl ?_
 refine WO_pick (v := .s (.bool _)) rfl rfl ?_
 refine WO_nil ?_
 refine WP_cond rfl (fun _ => ?_) (fun h => nomatch h)
 refine WP_seq ?_
 refine WP_ops ?_
 refine WO_buildI rfl (.one rfl (.one rfl .nil)) ?_
 refine WO_stA rfl rfl rfl rfl .here ?_
 refine WO_nil ?_
 refine WP_ret ?_
 refine ⟨_, RS_cell rfl rfl (.head _) (RS_nil), ?_⟩
 refine congrArg (fun g => V.agg 2 (ia g)) ?_
 rw [two_fn]
 first | exact (if_pos ⟨h, by omega, by omega⟩).symm | exact (if_neg (fun q => by omega)).symm
theorem onM_bd (s : Int) {f r : Int} (i : Nat) : -9223372036854775808 ≤ onM s f r i ∧ onM s f r i ≤ 9223372036854775807 := by
  unfold onM
  split
  · dsimp only; split
    · omega
    · split <;> omega
  · dsimp only; split
    · omega
    · split <;> omega
theorem onM_at (s f r : Int) : atM (onM s f r 0) (onM s f r 1) = stepM s f r := by
  unfold onM stepM
  by_cases h : (0 ≤ s ∧ s < 64) ∧ (-8 < f ∧ f < 8) ∧ (-8 < r ∧ r < 8)
  · rw [if_pos h, if_pos h]; rfl
  · rw [if_neg h, if_neg h]; rfl

theorem Step_in (s f r : Int) (h : 0 ≤ s ∧ s < 64) : WR AM 33 [.s (.int .i64 s), .s (.int .i64 f), .s (.int .i64 r)] [] (fun v _ _ => v = .s (.int .i64 (stepM s f r))) := by
 refine WR_fn (a := a33) rfl rfl (entryF _) (entry_E (Nat.le_of_ble_eq_true rfl)) (m := 0) rfl ?_
 refine WP_seq ?_
 refine WP_ops ?_
 refine WO_mv rfl ?_
 refine WO_nil ?_
 refine WP_seq ?_
 refine WP_ops ?_
 refine WO_mv (v := .s (.int _ _)) rfl ?_
 refine WO_call0 rfl (of_in _ h) rfl rfl rfl ?_
 refine WO_mv (v := .s (.int _ _)) rfl ?_
 refine WO_mv (v := .s (.int _ _)) rfl ?_
 refine WO_call0 rfl (RF_of (on_in _ _ _ h)) rfl rfl rfl ?_
 refine WO_call0 rfl (RF_of (number_run _ (onM_bd s 0) (onM_bd s 1))) rfl rfl rfl ?_
 refine WO_mv (v := .s (.int _ _)) rfl ?_
 refine WO_nil ?_
 refine WP_ret ?_
 refine ⟨_, RS_tmp (v := .s (.int _ _)) rfl (RS_nil), ?_⟩
 exact congrArg (fun b => V.s (S.int .i64 b)) (onM_at s f r)
theorem Step_out (s f r : Int) (h : ¬ (0 ≤ s ∧ s < 64)) : WR AM 33 [.s (.int .i64 s), .s (.int .i64 f), .s (.int .i64 r)] [] (fun v _ _ => v = .s (.int .i64 (stepM s f r))) := by
 refine WR_fn (a := a33) rfl rfl (entryF _) (entry_E (Nat.le_of_ble_eq_true rfl)) (m := 0) rfl ?_
 refine WP_seq ?_
 refine WP_ops ?_
 refine WO_mv rfl ?_
 refine WO_nil ?_
 refine WP_seq ?_
 refine WP_ops ?_
 refine WO_mv (v := .s (.int _ _)) rfl ?_
 refine WO_call0 rfl (of_out _ h) rfl rfl rfl ?_
 refine WO_mv (v := .s (.int _ _)) rfl ?_
 refine WO_mv (v := .s (.int _ _)) rfl ?_
 refine WO_call0 rfl (RF_of (on_out _ _ _ h)) rfl rfl rfl ?_
 refine WO_call0 rfl (RF_of (number_run _ (onM_bd s 0) (onM_bd s 1))) rfl rfl rfl ?_
 refine WO_mv (v := .s (.int _ _)) rfl ?_
 refine WO_nil ?_
 refine WP_ret ?_
 refine ⟨_, RS_tmp (v := .s (.int _ _)) rfl (RS_nil), ?_⟩
 exact congrArg (fun b => V.s (S.int .i64 b)) (onM_at s f r)
theorem Step_run (s f r : Int) : RF AM 33 [.s (.int .i64 s), .s (.int .i64 f), .s (.int .i64 r)] (.s (.int .i64 (stepM s f r))) := by
  by_cases h : 0 ≤ s ∧ s < 64
  · exact RF_of (Step_in s f r h)
  · exact RF_of (Step_out s f r h)

/-- Some number below n. -/
def pickM (x n : Int) : Int := if x.tmod n < 0 then x.tmod n + n else x.tmod n

theorem tmod_bd (x : Int) {n : Int} (h : 1 ≤ n) : -n < x.tmod n ∧ x.tmod n < n :=
  ⟨by have h1 := Int.tmod_lt_of_pos (-x) (by omega : (0 : Int) < n); have h2 := Int.neg_tmod x n; omega, Int.tmod_lt_of_pos x (by omega)⟩

theorem pickM_bd (x : Int) {n : Int} (h : 1 ≤ n) : 0 ≤ pickM x n ∧ pickM x n < n := by
  have := tmod_bd x h
  unfold pickM
  split <;> omega

theorem Pick_run (x n : Int) (h1 : 1 ≤ n) (h2 : n ≤ 4611686018427387904) : WR AM 30 [.s (.int .i64 x), .s (.int .i64 n)] [] (fun v _ _ => v = .s (.int .i64 (pickM x n))) := by
 have hb := tmod_bd x h1
 refine WR_fn (a := a30) rfl rfl (entryF _) (entry_E (Nat.le_of_ble_eq_true rfl)) (m := 0) rfl ?_
 refine WP_seq ?_
 refine WP_ops ?_
 refine WO_mv rfl ?_
 refine WO_nil ?_
 refine WP_seq ?_
 refine WP_seq ?_
 refine WP_ops ?_
 refine WO_mv (v := .s (.int _ _)) rfl ?_
 refine WO_bin (r := .bool _) rfl rfl rfl ?_
 refine WO_nil ?_
 refine WP_cond rfl (fun h7 => ?_) (fun h7 => ?_)
 ·try simp only [NM] at h7
  exfalso; omega
 ·try simp only [NM] at h7
  refine WP_skip ?_
  refine WP_seq ?_
  refine WP_ops ?_
  refine WO_mv (v := .s (.int _ _)) rfl ?_
  refine WO_mv (v := .s (.int _ _)) rfl ?_
  refine WO_remT rfl rfl (by omega) ?_
  refine WO_mv (v := .s (.int _ _)) rfl ?_
  refine WO_nil ?_
  refine WP_seq ?_
  refine WP_seq ?_
  refine WP_ops ?_
  refine WO_mv (v := .s (.int _ _)) rfl ?_
  refine WO_bin (r := .bool _) rfl rfl rfl ?_
  refine WO_nil ?_
  refine WP_cond rfl (fun h8 => ?_) (fun h8 => ?_)
  ·try simp only [NM] at h8
   refine WP_ops ?_
   refine WO_mv (v := .s (.int _ _)) rfl ?_
   refine WO_mv (v := .s (.int _ _)) rfl ?_
   refine WO_add rfl rfl (by omega) ?_
   refine WO_mv (v := .s (.int _ _)) rfl ?_
   refine WO_nil ?_
   refine WP_seq ?_
   refine WP_ops ?_
   refine WO_mv (v := .s (.int _ _)) rfl ?_
   refine WO_mv (v := .s (.int _ _)) rfl ?_
   refine WO_nil ?_
   refine WP_ret ?_
   refine ⟨_, RS_tmp (v := .s (.int _ _)) rfl (RS_nil), ?_⟩
   exact congrArg (fun b => V.s (S.int .i64 b)) (by unfold pickM; split <;> first | rfl | (exfalso; omega))
  ·try simp only [NM] at h8
   refine WP_skip ?_
   refine WP_seq ?_
   refine WP_ops ?_
   refine WO_mv (v := .s (.int _ _)) rfl ?_
   refine WO_mv (v := .s (.int _ _)) rfl ?_
   refine WO_nil ?_
   refine WP_ret ?_
   refine ⟨_, RS_tmp (v := .s (.int _ _)) rfl (RS_nil), ?_⟩
   exact congrArg (fun b => V.s (S.int .i64 b)) (by unfold pickM; split <;> first | rfl | (exfalso; omega))
end Go.Proofs.Ytjldefmcnppdoaa
/- The walks of the chapter board: what is right. -/
namespace Go.Proofs.Ytjldefmcnppdoaa
open Go Go.Am
set_option linter.unusedSimpArgs false
set_option linter.unusedVariables false
theorem cast_shr0 {c : Int} (h : 0 ≤ c ∧ c ≤ 15) : binS .shr (.int .i64 c) (.int .i64 0) = some (.int .i64 (c / 1)) := by
  have : c = 0 ∨ c = 1 ∨ c = 2 ∨ c = 3 ∨ c = 4 ∨ c = 5 ∨ c = 6 ∨ c = 7 ∨ c = 8 ∨ c = 9 ∨ c = 10 ∨ c = 11 ∨ c = 12 ∨ c = 13 ∨ c = 14 ∨ c = 15 := by omega
  rcases this with rfl | rfl | rfl | rfl | rfl | rfl | rfl | rfl | rfl | rfl | rfl | rfl | rfl | rfl | rfl | rfl <;> rfl
theorem cast_shr1 {c : Int} (h : 0 ≤ c ∧ c ≤ 15) : binS .shr (.int .i64 c) (.int .i64 1) = some (.int .i64 (c / 2)) := by
  have : c = 0 ∨ c = 1 ∨ c = 2 ∨ c = 3 ∨ c = 4 ∨ c = 5 ∨ c = 6 ∨ c = 7 ∨ c = 8 ∨ c = 9 ∨ c = 10 ∨ c = 11 ∨ c = 12 ∨ c = 13 ∨ c = 14 ∨ c = 15 := by omega
  rcases this with rfl | rfl | rfl | rfl | rfl | rfl | rfl | rfl | rfl | rfl | rfl | rfl | rfl | rfl | rfl | rfl <;> rfl
theorem cast_shr2 {c : Int} (h : 0 ≤ c ∧ c ≤ 15) : binS .shr (.int .i64 c) (.int .i64 2) = some (.int .i64 (c / 4)) := by
  have : c = 0 ∨ c = 1 ∨ c = 2 ∨ c = 3 ∨ c = 4 ∨ c = 5 ∨ c = 6 ∨ c = 7 ∨ c = 8 ∨ c = 9 ∨ c = 10 ∨ c = 11 ∨ c = 12 ∨ c = 13 ∨ c = 14 ∨ c = 15 := by omega
  rcases this with rfl | rfl | rfl | rfl | rfl | rfl | rfl | rfl | rfl | rfl | rfl | rfl | rfl | rfl | rfl | rfl <;> rfl
theorem cast_shr3 {c : Int} (h : 0 ≤ c ∧ c ≤ 15) : binS .shr (.int .i64 c) (.int .i64 3) = some (.int .i64 (c / 8)) := by
  have : c = 0 ∨ c = 1 ∨ c = 2 ∨ c = 3 ∨ c = 4 ∨ c = 5 ∨ c = 6 ∨ c = 7 ∨ c = 8 ∨ c = 9 ∨ c = 10 ∨ c = 11 ∨ c = 12 ∨ c = 13 ∨ c = 14 ∨ c = 15 := by omega
  rcases this with rfl | rfl | rfl | rfl | rfl | rfl | rfl | rfl | rfl | rfl | rfl | rfl | rfl | rfl | rfl | rfl <;> rfl
theorem cast_and1 {c : Int} (h : 0 ≤ c ∧ c ≤ 15) : binS .and (.int .i64 c) (.int .i64 1) = some (.int .i64 (c % 2)) := by
  have : c = 0 ∨ c = 1 ∨ c = 2 ∨ c = 3 ∨ c = 4 ∨ c = 5 ∨ c = 6 ∨ c = 7 ∨ c = 8 ∨ c = 9 ∨ c = 10 ∨ c = 11 ∨ c = 12 ∨ c = 13 ∨ c = 14 ∨ c = 15 := by omega
  rcases this with rfl | rfl | rfl | rfl | rfl | rfl | rfl | rfl | rfl | rfl | rfl | rfl | rfl | rfl | rfl | rfl <;> rfl

/-- A piece stands on a square; nothing does. -/
def standM (P : Nat → Int) (x k c : Int) : Bool := decide (P (sqI x) = k ∧ P (sqI x + 1) = c)
theorem eq_two {X Y : Nat → Int} : eqI 2 X Y = decide (X 0 = Y 0 ∧ X 1 = Y 1) := by
  rw [Bool.eq_iff_iff, eqI_iff, decide_eq_true_eq]
  constructor
  · intro h; exact ⟨h 0 (by omega), h 1 (by omega)⟩
  · rintro ⟨h0, h1⟩ i hi
    have : i = 0 ∨ i = 1 := by omega
    rcases this with rfl | rfl
    · exact h0
    · exact h1
def okM (P : Nat → Int) (s : Nat) : Prop := (P (sqI s) = 0 ∧ P (sqI s + 1) = 0) ∨ ((1 ≤ P (sqI s) ∧ P (sqI s) ≤ 6 ∧ (P (sqI s + 1) = 0 ∨ P (sqI s + 1) = 1)) ∧ ¬ (P (sqI s) = 1 ∧ (s < 8 ∨ 56 ≤ s)))
/-- The kings of a side on the first squares. -/
def kM (P : Nat → Int) (c : Int) : Nat → Int
  | 0 => 0
  | n + 1 => kM P c n + (if P (sqI n) = 6 ∧ P (sqI n + 1) = c then 1 else 0)
theorem kM_bd (P : Nat → Int) (c : Int) : ∀ n : Nat, 0 ≤ kM P c n ∧ kM P c n ≤ n
  | 0 => ⟨Int.le_refl _, Int.le_refl _⟩
  | n + 1 => by
    have := kM_bd P c n
    unfold kM
    split <;> omega
instance (P : Nat → Int) (s : Nat) : Decidable (okM P s) := by unfold okM; infer_instance
def piecesM (P : Nat → Int) : Bool := decide ((∀ s : Nat, s < 64 → okM P s) ∧ kM P 0 64 = 1 ∧ kM P 1 64 = 1 ∧ (P 128 = 0 ∨ P 128 = 1))
theorem pieces_no {P : Nat → Int} (h : ¬ ((∀ s : Nat, s < 64 → okM P s) ∧ kM P 0 64 = 1 ∧ kM P 1 64 = 1 ∧ (P 128 = 0 ∨ P 128 = 1))) : piecesM P = false := by
  unfold piecesM; exact decide_eq_false h
theorem pieces_yes {P : Nat → Int} (h : (∀ s : Nat, s < 64 → okM P s) ∧ kM P 0 64 = 1 ∧ kM P 1 64 = 1 ∧ (P 128 = 0 ∨ P 128 = 1)) : piecesM P = true := by
  unfold piecesM; exact decide_eq_true h
theorem pieces_is {P : Nat → Int} (h : piecesM P = true) : (∀ s : Nat, s < 64 → okM P s) ∧ kM P 0 64 = 1 ∧ kM P 1 64 = 1 ∧ (P 128 = 0 ∨ P 128 = 1) := by
  unfold piecesM at h; exact of_decide_eq_true h
theorem ok_next {P : Nat → Int} {i : Nat} (h : ∀ s : Nat, s < i → okM P s) (hi : okM P i) : ∀ s : Nat, s < i + 1 → okM P s := fun s hs => by
  by_cases e : s = i
  · subst e; exact hi
  · exact h s (by omega)
theorem kings_no {P C : Nat → Int} {i : Nat} (h0 : C 0 = kM P 0 i) (h1 : C 1 = kM P 1 i) (hk : ¬ P (sqI i) = 6) : C 0 = kM P 0 (i + 1) ∧ C 1 = kM P 1 (i + 1) := by
  unfold kM
  rw [if_neg (fun q => hk q.1), if_neg (fun q => hk q.1)]
  omega
theorem kings_yes {P C : Nat → Int} {i : Nat} (h0 : C 0 = kM P 0 i) (h1 : C 1 = kM P 1 i) (hk : P (sqI i) = 6) (hc : P (sqI i + 1) = 0 ∨ P (sqI i + 1) = 1) : ov C (0 + (P (sqI i + 1)).toNat * 1) (C (0 + (P (sqI i + 1)).toNat * 1) + 1) 0 = kM P 0 (i + 1) ∧ ov C (0 + (P (sqI i + 1)).toNat * 1) (C (0 + (P (sqI i + 1)).toNat * 1) + 1) 1 = kM P 1 (i + 1) := by
  unfold kM
  rcases hc with hc | hc
  · rw [if_pos ⟨hk, hc⟩, if_neg (by omega), hc]
    exact ⟨by show C 0 + 1 = _; omega, by show C 1 = _; omega⟩
  · rw [if_neg (by omega), if_pos ⟨hk, hc⟩, hc]
    exact ⟨by show C 0 = _; omega, by show C 1 + 1 = _; omega⟩
theorem king_bd {P C : Nat → Int} {i : Nat} (h0 : C 0 = kM P 0 i) (h1 : C 1 = kM P 1 i) (hi : i ≤ 64) (hc : P (sqI i + 1) = 0 ∨ P (sqI i + 1) = 1) : -9223372036854775808 ≤ C (0 + (P (sqI i + 1)).toNat * 1) + 1 ∧ C (0 + (P (sqI i + 1)).toNat * 1) + 1 ≤ 9223372036854775807 := by
  have := kM_bd P 0 i
  have := kM_bd P 1 i
  rcases hc with hc | hc
  · rw [hc]; show _ ≤ C 0 + 1 ∧ C 0 + 1 ≤ _; omega
  · rw [hc]; show _ ≤ C 1 + 1 ∧ C 1 + 1 ≤ _; omega
theorem dp_ix {P : Nat → Int} {i : Nat} : (fun j => ia P ((i : Int).toNat * 2 + j)) = ia (dp P (sqI i)) := by
  funext j
  show _ = ia P (0 + (i : Int).toNat * 2 + j)
  rw [Nat.zero_add]
theorem ovA2 {F X : Nat → Int} : ovA F 0 2 X 0 = X 0 ∧ ovA F 0 2 X 1 = X 1 := ⟨rfl, rfl⟩
def homeM (P : Nat → Int) (s a b : Int) : Bool := decide (P (sqI a) = 6 ∧ P (sqI a + 1) = s ∧ P (sqI b) = 4 ∧ P (sqI b + 1) = s)
def castlesM (P : Nat → Int) : Bool := decide ((0 ≤ P 129 ∧ P 129 ≤ 15) ∧ (P 129 % 2 = 0 ∨ homeM P 0 4 7 = true) ∧ (P 129 / 2 % 2 = 0 ∨ homeM P 0 4 0 = true) ∧ (P 129 / 4 % 2 = 0 ∨ homeM P 1 60 63 = true) ∧ (P 129 / 8 = 0 ∨ homeM P 1 60 56 = true))
def overOK (P : Nat → Int) : Bool := decide (P 130 = -1 ∨ ((0 ≤ P 130 ∧ P 130 < 64) ∧ P 131 = 0 ∧ ((P 128 = 1 ∧ P 130 / 8 = 2 ∧ standM P (P 130) 0 0 = true ∧ standM P (P 130 - 8) 0 0 = true ∧ standM P (P 130 + 8) 1 0 = true) ∨ (P 128 = 0 ∧ P 130 / 8 = 5 ∧ standM P (P 130) 0 0 = true ∧ standM P (P 130 + 8) 0 0 = true ∧ standM P (P 130 - 8) 1 1 = true))))
def rightM (P : Nat → Int) : Bool := piecesM P && castlesM P && overOK P && decide (0 ≤ P 131 ∧ P 131 ≤ 1024 ∧ 1 ≤ P 132 ∧ P 132 ≤ 16384)
theorem rank_in {x r : Int} (h : rankM x = r) (hr : 0 ≤ r) : (0 ≤ x ∧ x < 64) ∧ x / 8 = r := by
  unfold rankM at h
  split at h
  · exact ⟨by assumption, h⟩
  · omega
theorem step_is {x d : Int} (hx : 0 ≤ x ∧ x < 64) (h : 0 ≤ x / 8 + d ∧ x / 8 + d < 8) : stepM x 0 d = x + 8 * d := by
  unfold stepM atM
  rw [if_pos ⟨hx, by omega, by omega⟩, if_pos (by omega)]
  omega

theorem stands_run (P : Nat → Int) (k s x : Int) (hx : 0 ≤ x ∧ x < 64) : WR AM 112 [.agg 133 (ia P), .s (.int .i64 k), .s (.int .i64 s), .s (.int .i64 x)] [] (fun v _ _ => v = .s (.bool (standM P x k s))) := by
 refine WR_fn (a := a112) rfl rfl (entryF _) (entry_E (Nat.le_of_ble_eq_true rfl)) (m := 0) rfl ?_
 refine WP_seq ?_
 refine WP_ops ?_
 refine WO_boxA rfl ?_
 refine WO_mv rfl ?_
 refine WO_nil ?_
 refine WP_seq ?_
 refine WP_ops ?_
 refine WO_mv (v := .s (.int _ _)) rfl ?_
 refine WO_fa (o' := 0) rfl rfl rfl ?_
 refine WO_fa (o' := 0) rfl rfl rfl ?_
 refine WO_ixa rfl rfl rfl (by omega) ?_
 first | refine WO_ldA0 rfl rfl (.head _) ?_ | refine WO_ldAI rfl rfl (.head _) ?_
 refine WO_mv (v := .s (.int _ _)) rfl ?_
 refine WO_mv (v := .s (.int _ _)) rfl ?_
 refine WO_buildI rfl (.one rfl (.one rfl .nil)) ?_
 refine WO_eqa rfl rfl ?_
 refine WO_mv (v := .s (.bool _)) rfl ?_
 refine WO_nil ?_
 refine WP_ret ?_
 refine ⟨_, RS_tmp (v := .s (.bool _)) rfl (RS_nil), ?_⟩
 refine congrArg (fun b => V.s (S.bool b)) ?_
 exact eq_two
theorem free_run {md : Md} (P : Nat → Int) (x : Int) (hx : 0 ≤ x ∧ x < 64) : WR AM 113 [.s (.int .i64 x), .ptr 0 0 133] [.sc md 133 (ia P)] (fun v _ L => v = .s (.bool (standM P x 0 0)) ∧ (0, Blk.sc md 133 (ia P)) ∈ L) := by
 refine WR_fn (a := a113) rfl rfl (entryF _) (entry_E (Nat.le_of_ble_eq_true rfl)) (m := 1) rfl ?_
 refine WP_seq ?_
 refine WP_ops ?_
 refine WO_mv rfl ?_
 refine WO_nil ?_
 refine WP_seq ?_
 refine WP_ops ?_
 refine WO_mv (v := .s (.int _ _)) rfl ?_
 refine WO_fa (o' := 0) rfl rfl rfl ?_
 refine WO_fa (o' := 0) rfl rfl rfl ?_
 refine WO_ixa rfl rfl rfl (by omega) ?_
 first | refine WO_ldA0 rfl rfl (.head _) ?_ | refine WO_ldAI rfl rfl (.head _) ?_
 refine WO_buildI rfl .nil ?_
 refine WO_eqa rfl rfl ?_
 refine WO_mv (v := .s (.bool _)) rfl ?_
 refine WO_nil ?_
 refine WP_ret ?_
 refine ⟨_, RS_tmp (v := .s (.bool _)) rfl (RS_nil), ?_⟩
 refine ⟨congrArg (fun b => V.s (S.bool b)) ?_, (.head _)⟩
 exact eq_two
theorem castles_ok (P : Nat → Int) : WR AM 90 [.agg 133 (ia P)] [] (fun v _ _ => v = .s (.bool (castlesM P))) := by
 refine WR_fn (a := a90) rfl rfl (entryF _) (entry_E (Nat.le_of_ble_eq_true rfl)) (m := 0) rfl ?_
 refine WP_seq ?_
 refine WP_ops ?_
 refine WO_boxA rfl ?_
 refine WO_mv rfl ?_
 refine WO_nil ?_
 refine WP_seq ?_
 refine WP_seq ?_
 refine WP_ops ?_
 refine WO_fa (o' := 0) rfl rfl rfl ?_
 refine WO_fa (o' := 129) rfl rfl rfl ?_
 refine WO_ldI rfl rfl (.head _) rfl ?_
 refine WO_bin (r := .bool _) rfl rfl rfl ?_
 refine WO_mv (v := .s (.bool _)) rfl ?_
 refine WO_case (t := 10) rfl (fun h26 => ?_) (fun h26 => ?_)
 ·try simp only [NM] at h26
  try simp only [decide_eq_true_eq, decide_eq_false_iff_not] at h26
  refine WO_gf rfl rfl ?_
  refine WO_gf rfl rfl ?_
  refine WO_gf rfl rfl ?_
  refine WO_gf rfl rfl ?_
  refine WO_pick (v := .s (.bool _)) rfl rfl ?_
  refine WO_nil ?_
  refine WP_cond rfl (fun _ => ?_) (fun h => nomatch h)
  refine WP_seq ?_
  refine WP_ops ?_
  refine WO_mv rfl ?_
  refine WO_nil ?_
  refine WP_ret ?_
  refine ⟨_, RS_tmp (v := .s (.bool _)) rfl (RS_nil), ?_⟩
  refine congrArg (fun b => V.s (S.bool b)) ?_
  rw [Bool.eq_iff_iff]
  simp only [castlesM, homeM, standM, decide_eq_true_eq, decide_eq_false_iff_not, Bool.false_eq_true, false_iff, true_iff] at *
  omega
 ·try simp only [NM] at h26
  try simp only [decide_eq_true_eq, decide_eq_false_iff_not] at h26
  refine WO_gt rfl ?_
  refine WO_fa (o' := 0) rfl rfl rfl ?_
  refine WO_gt rfl ?_
  refine WO_fa (o' := 129) rfl rfl rfl ?_
  refine WO_gt rfl ?_
  refine WO_ldI rfl rfl (.head _) rfl ?_
  refine WO_gt rfl ?_
  refine WO_bin (r := .bool _) rfl rfl rfl ?_
  refine WO_pick (v := .s (.bool _)) rfl rfl ?_
  refine WO_nil ?_
  refine WP_cond rfl (fun h27 => ?_) (fun h27 => ?_)
  ·try simp only [NM] at h27
   try simp only [decide_eq_true_eq, decide_eq_false_iff_not] at h27
   refine WP_seq ?_
   refine WP_ops ?_
   refine WO_mv rfl ?_
   refine WO_nil ?_
   refine WP_ret ?_
   refine ⟨_, RS_tmp (v := .s (.bool _)) rfl (RS_nil), ?_⟩
   refine congrArg (fun b => V.s (S.bool b)) ?_
   rw [Bool.eq_iff_iff]
   simp only [castlesM, homeM, standM, decide_eq_true_eq, decide_eq_false_iff_not, Bool.false_eq_true, false_iff, true_iff] at *
   omega
  ·try simp only [NM] at h27
   try simp only [decide_eq_true_eq, decide_eq_false_iff_not] at h27
   refine WP_skip ?_
   refine WP_seq ?_
   refine WP_seq ?_
   refine WP_ops ?_
   refine WO_buildI rfl (.one rfl (.one rfl (.one rfl (.one rfl .nil)))) ?_
   refine WO_mv rfl ?_
   refine WO_nil ?_
   refine WP_block ?_
   refine WP_unrollI (fun f n L => (0 ≤ P 129 ∧ P 129 ≤ 15) ∧ (P 129 / 1 % 2 = 0 ∨ (P (sqI 4) = 6 ∧ P (sqI 4 + 1) = 0 ∧ P (sqI 7) = 4 ∧ P (sqI 7 + 1) = 0)) ∧ (f 1 = .ptr 0 0 133) ∧ (f 16 = .agg 4 (ia (ov (ov (ov (ov (fun _ => 0) 0 7) 1 0) 2 63) 3 56))) ∧ (f 17 = .s (.int .i64 1)) ∧ (L = [(0, .sc .var 133 (ia P))]) ∧ (n = 1)) ?_ (fun f nb L hI => ?_)
   ·skip
    refine WP_seq ?_
    refine WP_ops ?_
    refine WO_bin (r := .bool _) rfl rfl rfl ?_
    refine WO_nil ?_
    refine WP_seq ?_
    refine WP_cond rfl (fun h28 => ?_) (fun h28 => ?_)
    ·try simp only [NM] at h28
     try simp only [decide_eq_true_eq, decide_eq_false_iff_not] at h28
     refine WP_skip ?_
     refine WP_seq ?_
     refine WP_block ?_
     refine WP_seq ?_
     refine WP_ops ?_
     refine WO_mv (v := .s (.int _ _)) rfl ?_
     refine WO_ixS (a := .int .i64 7) rfl rfl rfl (by omega) rfl ?_
     refine WO_mv (v := .s (.int _ _)) rfl ?_
     refine WO_mv (v := .s (.int _ _)) rfl ?_
     refine WO_nil ?_
     refine WP_seq ?_
     refine WP_seq ?_
     refine WP_ops ?_
     refine WO_fa (o' := 0) rfl rfl rfl ?_
     refine WO_fa (o' := 129) rfl rfl rfl ?_
     refine WO_ldI rfl rfl (.head _) rfl ?_
     refine WO_mv (v := .s (.int _ _)) rfl ?_
     refine WO_bin rfl rfl (cast_shr0 ⟨by omega, by omega⟩) ?_
     refine WO_bin rfl rfl (cast_and1 ⟨by omega, by omega⟩) ?_
     refine WO_bin (r := .bool _) rfl rfl rfl ?_
     refine WO_nil ?_
     refine WP_cond rfl (fun h29 => ?_) (fun h29 => ?_)
     ·try simp only [NM] at h29
      try simp only [decide_eq_true_eq, decide_eq_false_iff_not] at h29
      refine WP_exit ?_
      refine xhere ?_
      refine WP_ops ?_
      refine WO_bin (r := .int .i64 1) rfl rfl rfl ?_
      refine WO_mv (v := .s (.int _ _)) rfl ?_
      refine WO_nil ?_
      refine ⟨_, (.cons_cons _ .slnil), ⟨by omega, by omega⟩, ?_, rfl, rfl, rfl, rfl, rfl⟩
      try simp only [standM, decide_eq_true_eq, decide_eq_false_iff_not] at *
      omega
     ·try simp only [NM] at h29
      try simp only [decide_eq_true_eq, decide_eq_false_iff_not] at h29
      refine WP_skip ?_
      refine WP_seq ?_
      refine WP_ops ?_
      refine WO_mv (v := .s (.int _ _)) rfl ?_
      refine WO_bin (r := .int .i64 0) rfl rfl rfl ?_
      refine WO_mv (v := .s (.int _ _)) rfl ?_
      refine WO_nil ?_
      refine WP_seq ?_
      refine WP_ops ?_
      first | refine WO_ldA0 rfl rfl (.head _) ?_ | refine WO_ldAI rfl rfl (.head _) ?_
      refine WO_mv (v := .s (.int _ _)) rfl ?_
      refine WO_mv (v := .s (.int _ _)) rfl ?_
      refine WO_call0 rfl (RF_of (stands_run _ _ _ _ (by omega))) rfl rfl rfl ?_
      refine WO_un (r := .bool _) rfl rfl ?_
      refine WO_mv (v := .s (.bool _)) rfl ?_
      refine WO_case (t := 35) rfl (fun h30 => ?_) (fun h30 => ?_)
      ·try simp only [NM] at h30
       try simp only [decide_eq_true_eq, decide_eq_false_iff_not] at h30
       refine WO_gf rfl rfl ?_
       refine WO_gf rfl rfl ?_
       refine WO_gf rfl rfl ?_
       refine WO_gf rfl rfl ?_
       refine WO_gf rfl rfl ?_
       refine WO_gf rfl rfl ?_
       refine WO_gf rfl rfl ?_
       refine WO_gf rfl rfl ?_
       refine WO_pick (v := .s (.bool _)) rfl rfl ?_
       refine WO_nil ?_
       refine WP_cond rfl (fun _ => ?_) (fun h => nomatch h)
       refine WP_seq ?_
       refine WP_ops ?_
       refine WO_mv rfl ?_
       refine WO_nil ?_
       refine WP_ret ?_
       refine ⟨_, RS_tmp (v := .s (.bool _)) rfl (RS_nil), ?_⟩
       refine congrArg (fun b => V.s (S.bool b)) ?_
       rw [Bool.eq_iff_iff]
       simp only [castlesM, homeM, standM, decide_eq_true_eq, decide_eq_false_iff_not, Bool.false_eq_true, false_iff, true_iff] at *
       omega
      ·try simp only [NM] at h30
       try simp only [decide_eq_true_eq, decide_eq_false_iff_not] at h30
       refine WO_gt rfl ?_
       first | refine WO_ldA0 rfl rfl (.head _) ?_ | refine WO_ldAI rfl rfl (.head _) ?_
       refine WO_gt rfl ?_
       refine WO_mv (v := .s (.int _ _)) rfl ?_
       refine WO_gt rfl ?_
       refine WO_mv (v := .s (.int _ _)) rfl ?_
       refine WO_gt rfl ?_
       refine WO_bin (r := .int .i64 0) rfl rfl rfl ?_
       refine WO_gt rfl ?_
       refine WO_bin (r := .int .i64 0) rfl rfl rfl ?_
       refine WO_gt rfl ?_
       refine WO_bin (r := .int .i64 4) rfl rfl rfl ?_
       refine WO_gt rfl ?_
       refine WO_call0 rfl (RF_of (stands_run _ _ _ _ (by omega))) rfl rfl rfl ?_
       refine WO_gt rfl ?_
       refine WO_un (r := .bool _) rfl rfl ?_
       refine WO_pick (v := .s (.bool _)) rfl rfl ?_
       refine WO_nil ?_
       refine WP_cond rfl (fun h31 => ?_) (fun h31 => ?_)
       ·try simp only [NM] at h31
        try simp only [decide_eq_true_eq, decide_eq_false_iff_not] at h31
        refine WP_seq ?_
        refine WP_ops ?_
        refine WO_mv rfl ?_
        refine WO_nil ?_
        refine WP_ret ?_
        refine ⟨_, RS_tmp (v := .s (.bool _)) rfl (RS_nil), ?_⟩
        refine congrArg (fun b => V.s (S.bool b)) ?_
        rw [Bool.eq_iff_iff]
        simp only [castlesM, homeM, standM, decide_eq_true_eq, decide_eq_false_iff_not, Bool.false_eq_true, false_iff, true_iff] at *
        omega
       ·try simp only [NM] at h31
        try simp only [decide_eq_true_eq, decide_eq_false_iff_not] at h31
        refine WP_skip ?_
        refine WP_ops ?_
        refine WO_bin (r := .int .i64 1) rfl rfl rfl ?_
        refine WO_mv (v := .s (.int _ _)) rfl ?_
        refine WO_nil ?_
        refine ⟨_, (.cons_cons _ .slnil), ⟨by omega, by omega⟩, ?_, rfl, rfl, rfl, rfl, rfl⟩
        try simp only [standM, decide_eq_true_eq, decide_eq_false_iff_not] at *
        omega
    ·try simp only [NM] at h28
     try simp only [decide_eq_true_eq, decide_eq_false_iff_not] at h28
     exfalso; omega
   ·skip
    obtain ⟨hC, hf0, k1, k16, k17, rfl, rfl⟩ := hI
    refine WP_know (d := 1) (v := .ptr 0 0 133) k1 ?_
    refine WP_know (d := 16) (v := .agg 4 (ia (ov (ov (ov (ov (fun _ => 0) 0 7) 1 0) 2 63) 3 56))) k16 ?_
    refine WP_know (d := 17) (v := .s (.int .i64 1)) k17 ?_
    refine WP_unrollI (fun f n L => (P 129 / 2 % 2 = 0 ∨ (P (sqI 4) = 6 ∧ P (sqI 4 + 1) = 0 ∧ P (sqI 0) = 4 ∧ P (sqI 0 + 1) = 0)) ∧ (f 1 = .ptr 0 0 133) ∧ (f 16 = .agg 4 (ia (ov (ov (ov (ov (fun _ => 0) 0 7) 1 0) 2 63) 3 56))) ∧ (f 17 = .s (.int .i64 2)) ∧ (L = [(0, .sc .var 133 (ia P))]) ∧ (n = 1)) ?_ (fun f nb L hI => ?_)
    ·skip
     refine WP_seq ?_
     refine WP_ops ?_
     refine WO_bin (r := .bool _) rfl rfl rfl ?_
     refine WO_nil ?_
     refine WP_seq ?_
     refine WP_cond rfl (fun h32 => ?_) (fun h32 => ?_)
     ·try simp only [NM] at h32
      try simp only [decide_eq_true_eq, decide_eq_false_iff_not] at h32
      refine WP_skip ?_
      refine WP_seq ?_
      refine WP_block ?_
      refine WP_seq ?_
      refine WP_ops ?_
      refine WO_mv (v := .s (.int _ _)) rfl ?_
      refine WO_ixS (a := .int .i64 0) rfl rfl rfl (by omega) rfl ?_
      refine WO_mv (v := .s (.int _ _)) rfl ?_
      refine WO_mv (v := .s (.int _ _)) rfl ?_
      refine WO_nil ?_
      refine WP_seq ?_
      refine WP_seq ?_
      refine WP_ops ?_
      refine WO_fa (o' := 0) rfl rfl rfl ?_
      refine WO_fa (o' := 129) rfl rfl rfl ?_
      refine WO_ldI rfl rfl (.head _) rfl ?_
      refine WO_mv (v := .s (.int _ _)) rfl ?_
      refine WO_bin rfl rfl (cast_shr1 ⟨by omega, by omega⟩) ?_
      refine WO_bin rfl rfl (cast_and1 ⟨by omega, by omega⟩) ?_
      refine WO_bin (r := .bool _) rfl rfl rfl ?_
      refine WO_nil ?_
      refine WP_cond rfl (fun h33 => ?_) (fun h33 => ?_)
      ·try simp only [NM] at h33
       try simp only [decide_eq_true_eq, decide_eq_false_iff_not] at h33
       refine WP_exit ?_
       refine xhere ?_
       refine WP_ops ?_
       refine WO_bin (r := .int .i64 2) rfl rfl rfl ?_
       refine WO_mv (v := .s (.int _ _)) rfl ?_
       refine WO_nil ?_
       refine ⟨_, (.cons_cons _ .slnil), ?_, rfl, rfl, rfl, rfl, rfl⟩
       try simp only [standM, decide_eq_true_eq, decide_eq_false_iff_not] at *
       omega
      ·try simp only [NM] at h33
       try simp only [decide_eq_true_eq, decide_eq_false_iff_not] at h33
       refine WP_skip ?_
       refine WP_seq ?_
       refine WP_ops ?_
       refine WO_mv (v := .s (.int _ _)) rfl ?_
       refine WO_bin (r := .int .i64 0) rfl rfl rfl ?_
       refine WO_mv (v := .s (.int _ _)) rfl ?_
       refine WO_nil ?_
       refine WP_seq ?_
       refine WP_ops ?_
       first | refine WO_ldA0 rfl rfl (.head _) ?_ | refine WO_ldAI rfl rfl (.head _) ?_
       refine WO_mv (v := .s (.int _ _)) rfl ?_
       refine WO_mv (v := .s (.int _ _)) rfl ?_
       refine WO_call0 rfl (RF_of (stands_run _ _ _ _ (by omega))) rfl rfl rfl ?_
       refine WO_un (r := .bool _) rfl rfl ?_
       refine WO_mv (v := .s (.bool _)) rfl ?_
       refine WO_case (t := 35) rfl (fun h34 => ?_) (fun h34 => ?_)
       ·try simp only [NM] at h34
        try simp only [decide_eq_true_eq, decide_eq_false_iff_not] at h34
        refine WO_gf rfl rfl ?_
        refine WO_gf rfl rfl ?_
        refine WO_gf rfl rfl ?_
        refine WO_gf rfl rfl ?_
        refine WO_gf rfl rfl ?_
        refine WO_gf rfl rfl ?_
        refine WO_gf rfl rfl ?_
        refine WO_gf rfl rfl ?_
        refine WO_pick (v := .s (.bool _)) rfl rfl ?_
        refine WO_nil ?_
        refine WP_cond rfl (fun _ => ?_) (fun h => nomatch h)
        refine WP_seq ?_
        refine WP_ops ?_
        refine WO_mv rfl ?_
        refine WO_nil ?_
        refine WP_ret ?_
        refine ⟨_, RS_tmp (v := .s (.bool _)) rfl (RS_nil), ?_⟩
        refine congrArg (fun b => V.s (S.bool b)) ?_
        rw [Bool.eq_iff_iff]
        simp only [castlesM, homeM, standM, decide_eq_true_eq, decide_eq_false_iff_not, Bool.false_eq_true, false_iff, true_iff] at *
        omega
       ·try simp only [NM] at h34
        try simp only [decide_eq_true_eq, decide_eq_false_iff_not] at h34
        refine WO_gt rfl ?_
        first | refine WO_ldA0 rfl rfl (.head _) ?_ | refine WO_ldAI rfl rfl (.head _) ?_
        refine WO_gt rfl ?_
        refine WO_mv (v := .s (.int _ _)) rfl ?_
        refine WO_gt rfl ?_
        refine WO_mv (v := .s (.int _ _)) rfl ?_
        refine WO_gt rfl ?_
        refine WO_bin (r := .int .i64 0) rfl rfl rfl ?_
        refine WO_gt rfl ?_
        refine WO_bin (r := .int .i64 0) rfl rfl rfl ?_
        refine WO_gt rfl ?_
        refine WO_bin (r := .int .i64 4) rfl rfl rfl ?_
        refine WO_gt rfl ?_
        refine WO_call0 rfl (RF_of (stands_run _ _ _ _ (by omega))) rfl rfl rfl ?_
        refine WO_gt rfl ?_
        refine WO_un (r := .bool _) rfl rfl ?_
        refine WO_pick (v := .s (.bool _)) rfl rfl ?_
        refine WO_nil ?_
        refine WP_cond rfl (fun h35 => ?_) (fun h35 => ?_)
        ·try simp only [NM] at h35
         try simp only [decide_eq_true_eq, decide_eq_false_iff_not] at h35
         refine WP_seq ?_
         refine WP_ops ?_
         refine WO_mv rfl ?_
         refine WO_nil ?_
         refine WP_ret ?_
         refine ⟨_, RS_tmp (v := .s (.bool _)) rfl (RS_nil), ?_⟩
         refine congrArg (fun b => V.s (S.bool b)) ?_
         rw [Bool.eq_iff_iff]
         simp only [castlesM, homeM, standM, decide_eq_true_eq, decide_eq_false_iff_not, Bool.false_eq_true, false_iff, true_iff] at *
         omega
        ·try simp only [NM] at h35
         try simp only [decide_eq_true_eq, decide_eq_false_iff_not] at h35
         refine WP_skip ?_
         refine WP_ops ?_
         refine WO_bin (r := .int .i64 2) rfl rfl rfl ?_
         refine WO_mv (v := .s (.int _ _)) rfl ?_
         refine WO_nil ?_
         refine ⟨_, (.cons_cons _ .slnil), ?_, rfl, rfl, rfl, rfl, rfl⟩
         try simp only [standM, decide_eq_true_eq, decide_eq_false_iff_not] at *
         omega
     ·try simp only [NM] at h32
      try simp only [decide_eq_true_eq, decide_eq_false_iff_not] at h32
      exfalso; omega
    ·skip
     obtain ⟨hf1, k1, k16, k17, rfl, rfl⟩ := hI
     refine WP_know (d := 1) (v := .ptr 0 0 133) k1 ?_
     refine WP_know (d := 16) (v := .agg 4 (ia (ov (ov (ov (ov (fun _ => 0) 0 7) 1 0) 2 63) 3 56))) k16 ?_
     refine WP_know (d := 17) (v := .s (.int .i64 2)) k17 ?_
     refine WP_unrollI (fun f n L => (P 129 / 4 % 2 = 0 ∨ (P (sqI 60) = 6 ∧ P (sqI 60 + 1) = 1 ∧ P (sqI 63) = 4 ∧ P (sqI 63 + 1) = 1)) ∧ (f 1 = .ptr 0 0 133) ∧ (f 16 = .agg 4 (ia (ov (ov (ov (ov (fun _ => 0) 0 7) 1 0) 2 63) 3 56))) ∧ (f 17 = .s (.int .i64 3)) ∧ (L = [(0, .sc .var 133 (ia P))]) ∧ (n = 1)) ?_ (fun f nb L hI => ?_)
     ·skip
      refine WP_seq ?_
      refine WP_ops ?_
      refine WO_bin (r := .bool _) rfl rfl rfl ?_
      refine WO_nil ?_
      refine WP_seq ?_
      refine WP_cond rfl (fun h36 => ?_) (fun h36 => ?_)
      ·try simp only [NM] at h36
       try simp only [decide_eq_true_eq, decide_eq_false_iff_not] at h36
       refine WP_skip ?_
       refine WP_seq ?_
       refine WP_block ?_
       refine WP_seq ?_
       refine WP_ops ?_
       refine WO_mv (v := .s (.int _ _)) rfl ?_
       refine WO_ixS (a := .int .i64 63) rfl rfl rfl (by omega) rfl ?_
       refine WO_mv (v := .s (.int _ _)) rfl ?_
       refine WO_mv (v := .s (.int _ _)) rfl ?_
       refine WO_nil ?_
       refine WP_seq ?_
       refine WP_seq ?_
       refine WP_ops ?_
       refine WO_fa (o' := 0) rfl rfl rfl ?_
       refine WO_fa (o' := 129) rfl rfl rfl ?_
       refine WO_ldI rfl rfl (.head _) rfl ?_
       refine WO_mv (v := .s (.int _ _)) rfl ?_
       refine WO_bin rfl rfl (cast_shr2 ⟨by omega, by omega⟩) ?_
       refine WO_bin rfl rfl (cast_and1 ⟨by omega, by omega⟩) ?_
       refine WO_bin (r := .bool _) rfl rfl rfl ?_
       refine WO_nil ?_
       refine WP_cond rfl (fun h37 => ?_) (fun h37 => ?_)
       ·try simp only [NM] at h37
        try simp only [decide_eq_true_eq, decide_eq_false_iff_not] at h37
        refine WP_exit ?_
        refine xhere ?_
        refine WP_ops ?_
        refine WO_bin (r := .int .i64 3) rfl rfl rfl ?_
        refine WO_mv (v := .s (.int _ _)) rfl ?_
        refine WO_nil ?_
        refine ⟨_, (.cons_cons _ .slnil), ?_, rfl, rfl, rfl, rfl, rfl⟩
        try simp only [standM, decide_eq_true_eq, decide_eq_false_iff_not] at *
        omega
       ·try simp only [NM] at h37
        try simp only [decide_eq_true_eq, decide_eq_false_iff_not] at h37
        refine WP_skip ?_
        refine WP_seq ?_
        refine WP_ops ?_
        refine WO_mv (v := .s (.int _ _)) rfl ?_
        refine WO_bin (r := .int .i64 1) rfl rfl rfl ?_
        refine WO_mv (v := .s (.int _ _)) rfl ?_
        refine WO_nil ?_
        refine WP_seq ?_
        refine WP_ops ?_
        first | refine WO_ldA0 rfl rfl (.head _) ?_ | refine WO_ldAI rfl rfl (.head _) ?_
        refine WO_mv (v := .s (.int _ _)) rfl ?_
        refine WO_mv (v := .s (.int _ _)) rfl ?_
        refine WO_call0 rfl (RF_of (stands_run _ _ _ _ (by omega))) rfl rfl rfl ?_
        refine WO_un (r := .bool _) rfl rfl ?_
        refine WO_mv (v := .s (.bool _)) rfl ?_
        refine WO_case (t := 35) rfl (fun h38 => ?_) (fun h38 => ?_)
        ·try simp only [NM] at h38
         try simp only [decide_eq_true_eq, decide_eq_false_iff_not] at h38
         refine WO_gf rfl rfl ?_
         refine WO_gf rfl rfl ?_
         refine WO_gf rfl rfl ?_
         refine WO_gf rfl rfl ?_
         refine WO_gf rfl rfl ?_
         refine WO_gf rfl rfl ?_
         refine WO_gf rfl rfl ?_
         refine WO_gf rfl rfl ?_
         refine WO_pick (v := .s (.bool _)) rfl rfl ?_
         refine WO_nil ?_
         refine WP_cond rfl (fun _ => ?_) (fun h => nomatch h)
         refine WP_seq ?_
         refine WP_ops ?_
         refine WO_mv rfl ?_
         refine WO_nil ?_
         refine WP_ret ?_
         refine ⟨_, RS_tmp (v := .s (.bool _)) rfl (RS_nil), ?_⟩
         refine congrArg (fun b => V.s (S.bool b)) ?_
         rw [Bool.eq_iff_iff]
         simp only [castlesM, homeM, standM, decide_eq_true_eq, decide_eq_false_iff_not, Bool.false_eq_true, false_iff, true_iff] at *
         omega
        ·try simp only [NM] at h38
         try simp only [decide_eq_true_eq, decide_eq_false_iff_not] at h38
         refine WO_gt rfl ?_
         first | refine WO_ldA0 rfl rfl (.head _) ?_ | refine WO_ldAI rfl rfl (.head _) ?_
         refine WO_gt rfl ?_
         refine WO_mv (v := .s (.int _ _)) rfl ?_
         refine WO_gt rfl ?_
         refine WO_mv (v := .s (.int _ _)) rfl ?_
         refine WO_gt rfl ?_
         refine WO_bin (r := .int .i64 7) rfl rfl rfl ?_
         refine WO_gt rfl ?_
         refine WO_bin (r := .int .i64 56) rfl rfl rfl ?_
         refine WO_gt rfl ?_
         refine WO_bin (r := .int .i64 60) rfl rfl rfl ?_
         refine WO_gt rfl ?_
         refine WO_call0 rfl (RF_of (stands_run _ _ _ _ (by omega))) rfl rfl rfl ?_
         refine WO_gt rfl ?_
         refine WO_un (r := .bool _) rfl rfl ?_
         refine WO_pick (v := .s (.bool _)) rfl rfl ?_
         refine WO_nil ?_
         refine WP_cond rfl (fun h39 => ?_) (fun h39 => ?_)
         ·try simp only [NM] at h39
          try simp only [decide_eq_true_eq, decide_eq_false_iff_not] at h39
          refine WP_seq ?_
          refine WP_ops ?_
          refine WO_mv rfl ?_
          refine WO_nil ?_
          refine WP_ret ?_
          refine ⟨_, RS_tmp (v := .s (.bool _)) rfl (RS_nil), ?_⟩
          refine congrArg (fun b => V.s (S.bool b)) ?_
          rw [Bool.eq_iff_iff]
          simp only [castlesM, homeM, standM, decide_eq_true_eq, decide_eq_false_iff_not, Bool.false_eq_true, false_iff, true_iff] at *
          omega
         ·try simp only [NM] at h39
          try simp only [decide_eq_true_eq, decide_eq_false_iff_not] at h39
          refine WP_skip ?_
          refine WP_ops ?_
          refine WO_bin (r := .int .i64 3) rfl rfl rfl ?_
          refine WO_mv (v := .s (.int _ _)) rfl ?_
          refine WO_nil ?_
          refine ⟨_, (.cons_cons _ .slnil), ?_, rfl, rfl, rfl, rfl, rfl⟩
          try simp only [standM, decide_eq_true_eq, decide_eq_false_iff_not] at *
          omega
      ·try simp only [NM] at h36
       try simp only [decide_eq_true_eq, decide_eq_false_iff_not] at h36
       exfalso; omega
     ·skip
      obtain ⟨hf2, k1, k16, k17, rfl, rfl⟩ := hI
      refine WP_know (d := 1) (v := .ptr 0 0 133) k1 ?_
      refine WP_know (d := 16) (v := .agg 4 (ia (ov (ov (ov (ov (fun _ => 0) 0 7) 1 0) 2 63) 3 56))) k16 ?_
      refine WP_know (d := 17) (v := .s (.int .i64 3)) k17 ?_
      refine WP_unrollI (fun f n L => (P 129 / 8 % 2 = 0 ∨ (P (sqI 60) = 6 ∧ P (sqI 60 + 1) = 1 ∧ P (sqI 56) = 4 ∧ P (sqI 56 + 1) = 1)) ∧ (f 1 = .ptr 0 0 133) ∧ (f 16 = .agg 4 (ia (ov (ov (ov (ov (fun _ => 0) 0 7) 1 0) 2 63) 3 56))) ∧ (f 17 = .s (.int .i64 4)) ∧ (L = [(0, .sc .var 133 (ia P))]) ∧ (n = 1)) ?_ (fun f nb L hI => ?_)
      ·skip
       refine WP_seq ?_
       refine WP_ops ?_
       refine WO_bin (r := .bool _) rfl rfl rfl ?_
       refine WO_nil ?_
       refine WP_seq ?_
       refine WP_cond rfl (fun h40 => ?_) (fun h40 => ?_)
       ·try simp only [NM] at h40
        try simp only [decide_eq_true_eq, decide_eq_false_iff_not] at h40
        refine WP_skip ?_
        refine WP_seq ?_
        refine WP_block ?_
        refine WP_seq ?_
        refine WP_ops ?_
        refine WO_mv (v := .s (.int _ _)) rfl ?_
        refine WO_ixS (a := .int .i64 56) rfl rfl rfl (by omega) rfl ?_
        refine WO_mv (v := .s (.int _ _)) rfl ?_
        refine WO_mv (v := .s (.int _ _)) rfl ?_
        refine WO_nil ?_
        refine WP_seq ?_
        refine WP_seq ?_
        refine WP_ops ?_
        refine WO_fa (o' := 0) rfl rfl rfl ?_
        refine WO_fa (o' := 129) rfl rfl rfl ?_
        refine WO_ldI rfl rfl (.head _) rfl ?_
        refine WO_mv (v := .s (.int _ _)) rfl ?_
        refine WO_bin rfl rfl (cast_shr3 ⟨by omega, by omega⟩) ?_
        refine WO_bin rfl rfl (cast_and1 ⟨by omega, by omega⟩) ?_
        refine WO_bin (r := .bool _) rfl rfl rfl ?_
        refine WO_nil ?_
        refine WP_cond rfl (fun h41 => ?_) (fun h41 => ?_)
        ·try simp only [NM] at h41
         try simp only [decide_eq_true_eq, decide_eq_false_iff_not] at h41
         refine WP_exit ?_
         refine xhere ?_
         refine WP_ops ?_
         refine WO_bin (r := .int .i64 4) rfl rfl rfl ?_
         refine WO_mv (v := .s (.int _ _)) rfl ?_
         refine WO_nil ?_
         refine ⟨_, (.cons_cons _ .slnil), ?_, rfl, rfl, rfl, rfl, rfl⟩
         try simp only [standM, decide_eq_true_eq, decide_eq_false_iff_not] at *
         omega
        ·try simp only [NM] at h41
         try simp only [decide_eq_true_eq, decide_eq_false_iff_not] at h41
         refine WP_skip ?_
         refine WP_seq ?_
         refine WP_ops ?_
         refine WO_mv (v := .s (.int _ _)) rfl ?_
         refine WO_bin (r := .int .i64 1) rfl rfl rfl ?_
         refine WO_mv (v := .s (.int _ _)) rfl ?_
         refine WO_nil ?_
         refine WP_seq ?_
         refine WP_ops ?_
         first | refine WO_ldA0 rfl rfl (.head _) ?_ | refine WO_ldAI rfl rfl (.head _) ?_
         refine WO_mv (v := .s (.int _ _)) rfl ?_
         refine WO_mv (v := .s (.int _ _)) rfl ?_
         refine WO_call0 rfl (RF_of (stands_run _ _ _ _ (by omega))) rfl rfl rfl ?_
         refine WO_un (r := .bool _) rfl rfl ?_
         refine WO_mv (v := .s (.bool _)) rfl ?_
         refine WO_case (t := 35) rfl (fun h42 => ?_) (fun h42 => ?_)
         ·try simp only [NM] at h42
          try simp only [decide_eq_true_eq, decide_eq_false_iff_not] at h42
          refine WO_gf rfl rfl ?_
          refine WO_gf rfl rfl ?_
          refine WO_gf rfl rfl ?_
          refine WO_gf rfl rfl ?_
          refine WO_gf rfl rfl ?_
          refine WO_gf rfl rfl ?_
          refine WO_gf rfl rfl ?_
          refine WO_gf rfl rfl ?_
          refine WO_pick (v := .s (.bool _)) rfl rfl ?_
          refine WO_nil ?_
          refine WP_cond rfl (fun _ => ?_) (fun h => nomatch h)
          refine WP_seq ?_
          refine WP_ops ?_
          refine WO_mv rfl ?_
          refine WO_nil ?_
          refine WP_ret ?_
          refine ⟨_, RS_tmp (v := .s (.bool _)) rfl (RS_nil), ?_⟩
          refine congrArg (fun b => V.s (S.bool b)) ?_
          rw [Bool.eq_iff_iff]
          simp only [castlesM, homeM, standM, decide_eq_true_eq, decide_eq_false_iff_not, Bool.false_eq_true, false_iff, true_iff] at *
          omega
         ·try simp only [NM] at h42
          try simp only [decide_eq_true_eq, decide_eq_false_iff_not] at h42
          refine WO_gt rfl ?_
          first | refine WO_ldA0 rfl rfl (.head _) ?_ | refine WO_ldAI rfl rfl (.head _) ?_
          refine WO_gt rfl ?_
          refine WO_mv (v := .s (.int _ _)) rfl ?_
          refine WO_gt rfl ?_
          refine WO_mv (v := .s (.int _ _)) rfl ?_
          refine WO_gt rfl ?_
          refine WO_bin (r := .int .i64 7) rfl rfl rfl ?_
          refine WO_gt rfl ?_
          refine WO_bin (r := .int .i64 56) rfl rfl rfl ?_
          refine WO_gt rfl ?_
          refine WO_bin (r := .int .i64 60) rfl rfl rfl ?_
          refine WO_gt rfl ?_
          refine WO_call0 rfl (RF_of (stands_run _ _ _ _ (by omega))) rfl rfl rfl ?_
          refine WO_gt rfl ?_
          refine WO_un (r := .bool _) rfl rfl ?_
          refine WO_pick (v := .s (.bool _)) rfl rfl ?_
          refine WO_nil ?_
          refine WP_cond rfl (fun h43 => ?_) (fun h43 => ?_)
          ·try simp only [NM] at h43
           try simp only [decide_eq_true_eq, decide_eq_false_iff_not] at h43
           refine WP_seq ?_
           refine WP_ops ?_
           refine WO_mv rfl ?_
           refine WO_nil ?_
           refine WP_ret ?_
           refine ⟨_, RS_tmp (v := .s (.bool _)) rfl (RS_nil), ?_⟩
           refine congrArg (fun b => V.s (S.bool b)) ?_
           rw [Bool.eq_iff_iff]
           simp only [castlesM, homeM, standM, decide_eq_true_eq, decide_eq_false_iff_not, Bool.false_eq_true, false_iff, true_iff] at *
           omega
          ·try simp only [NM] at h43
           try simp only [decide_eq_true_eq, decide_eq_false_iff_not] at h43
           refine WP_skip ?_
           refine WP_ops ?_
           refine WO_bin (r := .int .i64 4) rfl rfl rfl ?_
           refine WO_mv (v := .s (.int _ _)) rfl ?_
           refine WO_nil ?_
           refine ⟨_, (.cons_cons _ .slnil), ?_, rfl, rfl, rfl, rfl, rfl⟩
           try simp only [standM, decide_eq_true_eq, decide_eq_false_iff_not] at *
           omega
       ·try simp only [NM] at h40
        try simp only [decide_eq_true_eq, decide_eq_false_iff_not] at h40
        exfalso; omega
      ·skip
       obtain ⟨hf3, k1, k16, k17, rfl, rfl⟩ := hI
       refine WP_know (d := 1) (v := .ptr 0 0 133) k1 ?_
       refine WP_know (d := 16) (v := .agg 4 (ia (ov (ov (ov (ov (fun _ => 0) 0 7) 1 0) 2 63) 3 56))) k16 ?_
       refine WP_know (d := 17) (v := .s (.int .i64 4)) k17 ?_
       refine WP_unroll ?_
       refine WP_seq ?_
       refine WP_ops ?_
       refine WO_bin (r := .bool _) rfl rfl rfl ?_
       refine WO_nil ?_
       refine WP_seq ?_
       refine WP_cond rfl (fun h44 => ?_) (fun h44 => ?_)
       ·try simp only [NM] at h44
        try simp only [decide_eq_true_eq, decide_eq_false_iff_not] at h44
        exfalso; omega
       ·try simp only [NM] at h44
        try simp only [decide_eq_true_eq, decide_eq_false_iff_not] at h44
        refine WP_exit ?_
        refine xhere ?_
        refine WP_seq ?_
        refine WP_ops ?_
        refine WO_mv rfl ?_
        refine WO_nil ?_
        refine WP_ret ?_
        refine ⟨_, RS_tmp (v := .s (.bool _)) rfl (RS_nil), ?_⟩
        refine congrArg (fun b => V.s (S.bool b)) ?_
        rw [Bool.eq_iff_iff]
        simp only [castlesM, homeM, standM, decide_eq_true_eq, decide_eq_false_iff_not, Bool.false_eq_true, false_iff, true_iff] at *
        omega
end Go.Proofs.Ytjldefmcnppdoaa
/- The walks of the chapter board: what is right, whole. -/
namespace Go.Proofs.Ytjldefmcnppdoaa
open Go Go.Am
set_option linter.unusedSimpArgs false
set_option linter.unusedVariables false
theorem ovK {F : Nat → Int} {x y : Int} : ov (ov F 0 x) 1 y 0 = x ∧ ov (ov F 0 x) 1 y 1 = y := ⟨rfl, rfl⟩
theorem rank_run (s : Nat) (h : s < 64) : RF AM 38 [.s (.int .i64 (s : Int))] (.s (.int .i64 ((s : Int) / 8))) := by
  have := Rank_run (s : Int)
  rw [rankM, if_pos (by omega)] at this
  exact this

theorem pieces_ok (P : Nat → Int) : WR AM 89 [.agg 133 (ia P)] [] (fun v _ _ => v = .s (.bool (piecesM P))) := by
 refine WR_fn (a := a89) rfl rfl (entryF _) (entry_E (Nat.le_of_ble_eq_true rfl)) (m := 0) rfl ?_
 refine WP_seq ?_
 refine WP_ops ?_
 refine WO_boxA rfl ?_
 refine WO_mv rfl ?_
 refine WO_nil ?_
 refine WP_seq ?_
 refine WP_ops ?_
 refine WO_allocI ?_
 refine WO_nil ?_
 refine WP_seq ?_
 refine WP_seq ?_
 refine WP_ops ?_
 refine WO_fa (o' := 0) rfl rfl rfl ?_
 refine WO_fa (o' := 0) rfl rfl rfl ?_
 first | refine WO_ldA0 rfl rfl (.tail _ (.head _)) ?_ | refine WO_ldAI rfl rfl (.tail _ (.head _)) ?_
 refine WO_mv rfl ?_
 refine WO_nil ?_
 refine WP_block ?_
 refine WP_sub (L' := [_, _]) (.cons_cons _ (.cons_cons _ .slnil)) ?_
 refine WP_loop (fun m f _ L => ∃ (i : Nat) (C : Nat → Int), (i ≤ 64) ∧ (m = 64 - i) ∧ (∀ s : Nat, s < i → okM P s) ∧ (C 0 = kM P 0 i) ∧ (C 1 = kM P 1 i) ∧ (f 1 = .ptr 0 0 133) ∧ (f 3 = .ptr 1 0 2) ∧ (f 9 = .agg 128 (ia P)) ∧ (f 10 = .s (.int .i64 i)) ∧ (L = [(1, .sc .var 2 (ia C)), (0, .sc .var 133 (ia P))])) (fun m f nb L hI => ?_) (64) ⟨0, fun _ => 0, by omega, rfl, fun s h => by omega, rfl, rfl, rfl, rfl, rfl, rfl, rfl⟩
 obtain ⟨i, C, hi, hm, hok, hc0, hc1, k1, k3, k9, k10, rfl⟩ := hI
 refine WP_know (d := 1) (v := .ptr 0 0 133) k1 ?_
 refine WP_know (d := 3) (v := .ptr 1 0 2) k3 ?_
 refine WP_know (d := 9) (v := .agg 128 (ia P)) k9 ?_
 refine WP_know (d := 10) (v := .s (.int .i64 i)) k10 ?_
 refine WP_seq ?_
 refine WP_ops ?_
 refine WO_bin (r := .bool _) rfl rfl rfl ?_
 refine WO_nil ?_
 refine WP_seq ?_
 refine WP_cond rfl (fun h1 => ?_) (fun h1 => ?_)
 ·try simp only [NM] at h1
  try simp only [eq_two, ovA2.1, ovA2.2, ovK.1, ovK.2, decide_eq_true_eq, decide_eq_false_iff_not, mayM, dp, Nat.add_zero] at h1
  refine WP_skip ?_
  refine WP_seq ?_
  refine WP_block ?_
  refine WP_seq ?_
  refine WP_ops ?_
  refine WO_mv (v := .s (.int _ _)) rfl ?_
  refine WO_ixA rfl rfl rfl (by first | omega | (simp only [mayM, decide_eq_true_eq] at *; omega)) ?_
  rw [dp_ix]
  refine WO_allocI ?_
  refine WO_mv (v := .s (.int _ _)) rfl ?_
  refine WO_stA rfl rfl rfl rfl .here ?_
  refine WO_nil ?_
  refine WP_seq ?_
  refine WP_seq ?_
  refine WP_ops ?_
  first | refine WO_ldA0 rfl rfl (.head _) ?_ | refine WO_ldAI rfl rfl (.head _) ?_
  refine WO_buildI rfl .nil ?_
  refine WO_eqa rfl rfl ?_
  refine WO_nil ?_
  refine WP_cond rfl (fun h2 => ?_) (fun h2 => ?_)
  ·try simp only [NM] at h2
   try simp only [eq_two, ovA2.1, ovA2.2, ovK.1, ovK.2, decide_eq_true_eq, decide_eq_false_iff_not, mayM, dp, Nat.add_zero] at h2
   refine WP_exit ?_
   refine xhere ?_
   refine WP_ops ?_
   refine WO_add rfl rfl (by omega) ?_
   refine WO_mv (v := .s (.int _ _)) rfl ?_
   refine WO_nil ?_
   first | (have hk := kings_yes hc0 hc1 (by omega) (by omega); refine ⟨64 - (i + 1), _, by omega, (.cons _ (.cons_cons _ (.cons_cons _ .slnil))), i + 1, _, by omega, rfl, ok_next hok (by unfold okM; omega), hk.1, hk.2, rfl, rfl, rfl, rfl, rfl⟩) | (have hk := kings_no hc0 hc1 (by omega); refine ⟨64 - (i + 1), _, by omega, (.cons _ (.cons_cons _ (.cons_cons _ .slnil))), i + 1, _, by omega, rfl, ok_next hok (by unfold okM; omega), hk.1, hk.2, rfl, rfl, rfl, rfl, rfl⟩)
  ·try simp only [NM] at h2
   try simp only [eq_two, ovA2.1, ovA2.2, ovK.1, ovK.2, decide_eq_true_eq, decide_eq_false_iff_not, mayM, dp, Nat.add_zero] at h2
   refine WP_skip ?_
   refine WP_seq ?_
   refine WP_ops ?_
   refine WO_mv (v := .s (.int _ _)) rfl ?_
   refine WO_call0 rfl (rank_run i (by omega)) rfl rfl rfl ?_
   refine WO_bin (r := .bool _) rfl rfl rfl ?_
   refine WO_mv (v := .s (.bool _)) rfl ?_
   refine WO_case (t := 20) rfl (fun h3 => ?_) (fun h3 => ?_)
   ·try simp only [NM] at h3
    try simp only [eq_two, ovA2.1, ovA2.2, ovK.1, ovK.2, decide_eq_true_eq, decide_eq_false_iff_not, mayM, dp, Nat.add_zero] at h3
    refine WO_gf rfl rfl ?_
    refine WO_gf rfl rfl ?_
    refine WO_gf rfl rfl ?_
    refine WO_pick (v := .s (.bool _)) rfl rfl ?_
    refine WO_mv (v := .s (.bool _)) rfl ?_
    refine WO_nil ?_
    refine WP_seq ?_
    refine WP_seq ?_
    refine WP_ops ?_
    first | refine WO_ldA0 rfl rfl (.head _) ?_ | refine WO_ldAI rfl rfl (.head _) ?_
    refine WO_call0 rfl (show RF AM 88 _ (.s (.bool (mayM (P (sqI i)) (P (sqI i + 1))))) from RF_of (may_run (ovA (fun _ => 0) 0 2 (dp P (sqI i))))) rfl rfl rfl ?_
    refine WO_un (r := .bool _) rfl rfl ?_
    refine WO_mv (v := .s (.bool _)) rfl ?_
    refine WO_case (t := 28) rfl (fun h4 => ?_) (fun h4 => ?_)
    ·try simp only [NM] at h4
     try simp only [eq_two, ovA2.1, ovA2.2, ovK.1, ovK.2, decide_eq_true_eq, decide_eq_false_iff_not, mayM, dp, Nat.add_zero] at h4
     refine WO_gf rfl rfl ?_
     refine WO_gf rfl rfl ?_
     refine WO_gu rfl ?_
     refine WO_gu rfl ?_
     refine WO_gu rfl ?_
     refine WO_gf rfl rfl ?_
     refine WO_pick (v := .s (.bool _)) rfl rfl ?_
     refine WO_nil ?_
     refine WP_cond rfl (fun _ => ?_) (fun h => nomatch h)
     refine WP_seq ?_
     refine WP_ops ?_
     refine WO_mv rfl ?_
     refine WO_nil ?_
     refine WP_ret ?_
     refine ⟨_, RS_tmp (v := .s (.bool _)) rfl (RS_nil), ?_⟩
     exact congrArg (fun b => V.s (S.bool b)) (pieces_no (fun q => absurd (q.1 i (by omega)) (by unfold okM; omega))).symm
    ·try simp only [NM] at h4
     try simp only [eq_two, ovA2.1, ovA2.2, ovK.1, ovK.2, decide_eq_true_eq, decide_eq_false_iff_not, mayM, dp, Nat.add_zero] at h4
     refine WO_gt rfl ?_
     refine WO_mv (v := .s (.bool _)) rfl ?_
     refine WO_gt rfl ?_
     refine WO_mv (v := .s (.bool _)) rfl ?_
     refine WO_gt rfl ?_
     refine WO_fa (o' := 0) rfl rfl rfl ?_
     refine WO_gt rfl ?_
     refine WO_ldI (x := P (sqI i)) rfl rfl (.head _) (rfl) ?_
     refine WO_gt rfl ?_
     refine WO_bin (r := .bool _) rfl rfl rfl ?_
     refine WO_gt rfl ?_
     refine WO_pick (v := .s (.bool _)) rfl rfl ?_
     refine WO_pick (v := .s (.bool _)) rfl rfl ?_
     refine WO_nil ?_
     refine WP_cond rfl (fun h5 => ?_) (fun h5 => ?_)
     ·try simp only [NM] at h5
      try simp only [eq_two, ovA2.1, ovA2.2, ovK.1, ovK.2, decide_eq_true_eq, decide_eq_false_iff_not, mayM, dp, Nat.add_zero] at h5
      refine WP_seq ?_
      refine WP_ops ?_
      refine WO_mv rfl ?_
      refine WO_nil ?_
      refine WP_ret ?_
      refine ⟨_, RS_tmp (v := .s (.bool _)) rfl (RS_nil), ?_⟩
      exact congrArg (fun b => V.s (S.bool b)) (pieces_no (fun q => absurd (q.1 i (by omega)) (by unfold okM; omega))).symm
     ·try simp only [NM] at h5
      try simp only [eq_two, ovA2.1, ovA2.2, ovK.1, ovK.2, decide_eq_true_eq, decide_eq_false_iff_not, mayM, dp, Nat.add_zero] at h5
      refine WP_skip ?_
      refine WP_seq ?_
      refine WP_ops ?_
      refine WO_fa (o' := 0) rfl rfl rfl ?_
      refine WO_ldI (x := P (sqI i)) rfl rfl (.head _) (rfl) ?_
      refine WO_bin (r := .bool _) rfl rfl rfl ?_
      refine WO_nil ?_
      refine WP_cond rfl (fun h6 => ?_) (fun h6 => ?_)
      ·try simp only [NM] at h6
       try simp only [eq_two, ovA2.1, ovA2.2, ovK.1, ovK.2, decide_eq_true_eq, decide_eq_false_iff_not, mayM, dp, Nat.add_zero] at h6
       refine WP_ops ?_
       refine WO_fa (o' := 1) rfl rfl rfl ?_
       refine WO_ldI (x := P (sqI i + 1)) rfl rfl (.head _) (rfl) ?_
       refine WO_ixa rfl rfl rfl (by first | omega | (simp only [mayM, decide_eq_true_eq] at *; omega)) ?_
       refine WO_ldI rfl rfl (.tail _ (.head _)) rfl ?_
       refine WO_add rfl rfl (king_bd hc0 hc1 hi (by omega)) ?_
       refine WO_ixa rfl rfl rfl (by first | omega | (simp only [mayM, decide_eq_true_eq] at *; omega)) ?_
       refine WO_stI rfl rfl rfl rfl (.there .here) ?_
       refine WO_nil ?_
       refine WP_ops ?_
       refine WO_add rfl rfl (by omega) ?_
       refine WO_mv (v := .s (.int _ _)) rfl ?_
       refine WO_nil ?_
       first | (have hk := kings_yes hc0 hc1 (by omega) (by omega); refine ⟨64 - (i + 1), _, by omega, (.cons _ (.cons_cons _ (.cons_cons _ .slnil))), i + 1, _, by omega, rfl, ok_next hok (by unfold okM; omega), hk.1, hk.2, rfl, rfl, rfl, rfl, rfl⟩) | (have hk := kings_no hc0 hc1 (by omega); refine ⟨64 - (i + 1), _, by omega, (.cons _ (.cons_cons _ (.cons_cons _ .slnil))), i + 1, _, by omega, rfl, ok_next hok (by unfold okM; omega), hk.1, hk.2, rfl, rfl, rfl, rfl, rfl⟩)
      ·try simp only [NM] at h6
       try simp only [eq_two, ovA2.1, ovA2.2, ovK.1, ovK.2, decide_eq_true_eq, decide_eq_false_iff_not, mayM, dp, Nat.add_zero] at h6
       refine WP_skip ?_
       refine WP_ops ?_
       refine WO_add rfl rfl (by omega) ?_
       refine WO_mv (v := .s (.int _ _)) rfl ?_
       refine WO_nil ?_
       first | (have hk := kings_yes hc0 hc1 (by omega) (by omega); refine ⟨64 - (i + 1), _, by omega, (.cons _ (.cons_cons _ (.cons_cons _ .slnil))), i + 1, _, by omega, rfl, ok_next hok (by unfold okM; omega), hk.1, hk.2, rfl, rfl, rfl, rfl, rfl⟩) | (have hk := kings_no hc0 hc1 (by omega); refine ⟨64 - (i + 1), _, by omega, (.cons _ (.cons_cons _ (.cons_cons _ .slnil))), i + 1, _, by omega, rfl, ok_next hok (by unfold okM; omega), hk.1, hk.2, rfl, rfl, rfl, rfl, rfl⟩)
   ·try simp only [NM] at h3
    try simp only [eq_two, ovA2.1, ovA2.2, ovK.1, ovK.2, decide_eq_true_eq, decide_eq_false_iff_not, mayM, dp, Nat.add_zero] at h3
    refine WO_gt rfl ?_
    refine WO_mv (v := .s (.int _ _)) rfl ?_
    refine WO_gt rfl ?_
    refine WO_call0 rfl (rank_run i (by omega)) rfl rfl rfl ?_
    refine WO_gt rfl ?_
    refine WO_bin (r := .bool _) rfl rfl rfl ?_
    refine WO_pick (v := .s (.bool _)) rfl rfl ?_
    refine WO_mv (v := .s (.bool _)) rfl ?_
    refine WO_nil ?_
    refine WP_seq ?_
    refine WP_seq ?_
    refine WP_ops ?_
    first | refine WO_ldA0 rfl rfl (.head _) ?_ | refine WO_ldAI rfl rfl (.head _) ?_
    refine WO_call0 rfl (show RF AM 88 _ (.s (.bool (mayM (P (sqI i)) (P (sqI i + 1))))) from RF_of (may_run (ovA (fun _ => 0) 0 2 (dp P (sqI i))))) rfl rfl rfl ?_
    refine WO_un (r := .bool _) rfl rfl ?_
    refine WO_mv (v := .s (.bool _)) rfl ?_
    refine WO_case (t := 28) rfl (fun h7 => ?_) (fun h7 => ?_)
    ·try simp only [NM] at h7
     try simp only [eq_two, ovA2.1, ovA2.2, ovK.1, ovK.2, decide_eq_true_eq, decide_eq_false_iff_not, mayM, dp, Nat.add_zero] at h7
     refine WO_gf rfl rfl ?_
     refine WO_gf rfl rfl ?_
     refine WO_gu rfl ?_
     refine WO_gu rfl ?_
     refine WO_gu rfl ?_
     refine WO_gf rfl rfl ?_
     refine WO_pick (v := .s (.bool _)) rfl rfl ?_
     refine WO_nil ?_
     refine WP_cond rfl (fun _ => ?_) (fun h => nomatch h)
     refine WP_seq ?_
     refine WP_ops ?_
     refine WO_mv rfl ?_
     refine WO_nil ?_
     refine WP_ret ?_
     refine ⟨_, RS_tmp (v := .s (.bool _)) rfl (RS_nil), ?_⟩
     exact congrArg (fun b => V.s (S.bool b)) (pieces_no (fun q => absurd (q.1 i (by omega)) (by unfold okM; omega))).symm
    ·try simp only [NM] at h7
     try simp only [eq_two, ovA2.1, ovA2.2, ovK.1, ovK.2, decide_eq_true_eq, decide_eq_false_iff_not, mayM, dp, Nat.add_zero] at h7
     refine WO_gt rfl ?_
     refine WO_mv (v := .s (.bool _)) rfl ?_
     refine WO_gt rfl ?_
     refine WO_mv (v := .s (.bool _)) rfl ?_
     refine WO_case (t := 30) rfl (fun h8 => ?_) (fun h8 => ?_)
     ·try simp only [NM] at h8
      try simp only [eq_two, ovA2.1, ovA2.2, ovK.1, ovK.2, decide_eq_true_eq, decide_eq_false_iff_not, mayM, dp, Nat.add_zero] at h8
      refine WO_gt rfl ?_
      refine WO_fa (o' := 0) rfl rfl rfl ?_
      refine WO_gt rfl ?_
      refine WO_ldI (x := P (sqI i)) rfl rfl (.head _) (rfl) ?_
      refine WO_gt rfl ?_
      refine WO_bin (r := .bool _) rfl rfl rfl ?_
      refine WO_gt rfl ?_
      refine WO_pick (v := .s (.bool _)) rfl rfl ?_
      refine WO_pick (v := .s (.bool _)) rfl rfl ?_
      refine WO_nil ?_
      refine WP_cond rfl (fun h9 => ?_) (fun h9 => ?_)
      ·try simp only [NM] at h9
       try simp only [eq_two, ovA2.1, ovA2.2, ovK.1, ovK.2, decide_eq_true_eq, decide_eq_false_iff_not, mayM, dp, Nat.add_zero] at h9
       refine WP_seq ?_
       refine WP_ops ?_
       refine WO_mv rfl ?_
       refine WO_nil ?_
       refine WP_ret ?_
       refine ⟨_, RS_tmp (v := .s (.bool _)) rfl (RS_nil), ?_⟩
       exact congrArg (fun b => V.s (S.bool b)) (pieces_no (fun q => absurd (q.1 i (by omega)) (by unfold okM; omega))).symm
      ·try simp only [NM] at h9
       try simp only [eq_two, ovA2.1, ovA2.2, ovK.1, ovK.2, decide_eq_true_eq, decide_eq_false_iff_not, mayM, dp, Nat.add_zero] at h9
       refine WP_skip ?_
       refine WP_seq ?_
       refine WP_ops ?_
       refine WO_fa (o' := 0) rfl rfl rfl ?_
       refine WO_ldI (x := P (sqI i)) rfl rfl (.head _) (rfl) ?_
       refine WO_bin (r := .bool _) rfl rfl rfl ?_
       refine WO_nil ?_
       refine WP_cond rfl (fun h10 => ?_) (fun h10 => ?_)
       ·try simp only [NM] at h10
        try simp only [eq_two, ovA2.1, ovA2.2, ovK.1, ovK.2, decide_eq_true_eq, decide_eq_false_iff_not, mayM, dp, Nat.add_zero] at h10
        refine WP_ops ?_
        refine WO_fa (o' := 1) rfl rfl rfl ?_
        refine WO_ldI (x := P (sqI i + 1)) rfl rfl (.head _) (rfl) ?_
        refine WO_ixa rfl rfl rfl (by first | omega | (simp only [mayM, decide_eq_true_eq] at *; omega)) ?_
        refine WO_ldI rfl rfl (.tail _ (.head _)) rfl ?_
        refine WO_add rfl rfl (king_bd hc0 hc1 hi (by omega)) ?_
        refine WO_ixa rfl rfl rfl (by first | omega | (simp only [mayM, decide_eq_true_eq] at *; omega)) ?_
        refine WO_stI rfl rfl rfl rfl (.there .here) ?_
        refine WO_nil ?_
        refine WP_ops ?_
        refine WO_add rfl rfl (by omega) ?_
        refine WO_mv (v := .s (.int _ _)) rfl ?_
        refine WO_nil ?_
        first | (have hk := kings_yes hc0 hc1 (by omega) (by omega); refine ⟨64 - (i + 1), _, by omega, (.cons _ (.cons_cons _ (.cons_cons _ .slnil))), i + 1, _, by omega, rfl, ok_next hok (by unfold okM; omega), hk.1, hk.2, rfl, rfl, rfl, rfl, rfl⟩) | (have hk := kings_no hc0 hc1 (by omega); refine ⟨64 - (i + 1), _, by omega, (.cons _ (.cons_cons _ (.cons_cons _ .slnil))), i + 1, _, by omega, rfl, ok_next hok (by unfold okM; omega), hk.1, hk.2, rfl, rfl, rfl, rfl, rfl⟩)
       ·try simp only [NM] at h10
        try simp only [eq_two, ovA2.1, ovA2.2, ovK.1, ovK.2, decide_eq_true_eq, decide_eq_false_iff_not, mayM, dp, Nat.add_zero] at h10
        refine WP_skip ?_
        refine WP_ops ?_
        refine WO_add rfl rfl (by omega) ?_
        refine WO_mv (v := .s (.int _ _)) rfl ?_
        refine WO_nil ?_
        first | (have hk := kings_yes hc0 hc1 (by omega) (by omega); refine ⟨64 - (i + 1), _, by omega, (.cons _ (.cons_cons _ (.cons_cons _ .slnil))), i + 1, _, by omega, rfl, ok_next hok (by unfold okM; omega), hk.1, hk.2, rfl, rfl, rfl, rfl, rfl⟩) | (have hk := kings_no hc0 hc1 (by omega); refine ⟨64 - (i + 1), _, by omega, (.cons _ (.cons_cons _ (.cons_cons _ .slnil))), i + 1, _, by omega, rfl, ok_next hok (by unfold okM; omega), hk.1, hk.2, rfl, rfl, rfl, rfl, rfl⟩)
     ·try simp only [NM] at h8
      try simp only [eq_two, ovA2.1, ovA2.2, ovK.1, ovK.2, decide_eq_true_eq, decide_eq_false_iff_not, mayM, dp, Nat.add_zero] at h8
      refine WO_gf rfl rfl ?_
      refine WO_gf rfl rfl ?_
      refine WO_gf rfl rfl ?_
      refine WO_gt rfl ?_
      refine WO_pick (v := .s (.bool _)) rfl rfl ?_
      refine WO_pick (v := .s (.bool _)) rfl rfl ?_
      refine WO_nil ?_
      refine WP_cond rfl (fun h => nomatch h) (fun _ => ?_)
      refine WP_skip ?_
      refine WP_seq ?_
      refine WP_ops ?_
      refine WO_fa (o' := 0) rfl rfl rfl ?_
      refine WO_ldI (x := P (sqI i)) rfl rfl (.head _) (rfl) ?_
      refine WO_bin (r := .bool _) rfl rfl rfl ?_
      refine WO_nil ?_
      refine WP_cond rfl (fun h11 => ?_) (fun h11 => ?_)
      ·try simp only [NM] at h11
       try simp only [eq_two, ovA2.1, ovA2.2, ovK.1, ovK.2, decide_eq_true_eq, decide_eq_false_iff_not, mayM, dp, Nat.add_zero] at h11
       refine WP_ops ?_
       refine WO_fa (o' := 1) rfl rfl rfl ?_
       refine WO_ldI (x := P (sqI i + 1)) rfl rfl (.head _) (rfl) ?_
       refine WO_ixa rfl rfl rfl (by first | omega | (simp only [mayM, decide_eq_true_eq] at *; omega)) ?_
       refine WO_ldI rfl rfl (.tail _ (.head _)) rfl ?_
       refine WO_add rfl rfl (king_bd hc0 hc1 hi (by omega)) ?_
       refine WO_ixa rfl rfl rfl (by first | omega | (simp only [mayM, decide_eq_true_eq] at *; omega)) ?_
       refine WO_stI rfl rfl rfl rfl (.there .here) ?_
       refine WO_nil ?_
       refine WP_ops ?_
       refine WO_add rfl rfl (by omega) ?_
       refine WO_mv (v := .s (.int _ _)) rfl ?_
       refine WO_nil ?_
       first | (have hk := kings_yes hc0 hc1 (by omega) (by omega); refine ⟨64 - (i + 1), _, by omega, (.cons _ (.cons_cons _ (.cons_cons _ .slnil))), i + 1, _, by omega, rfl, ok_next hok (by unfold okM; omega), hk.1, hk.2, rfl, rfl, rfl, rfl, rfl⟩) | (have hk := kings_no hc0 hc1 (by omega); refine ⟨64 - (i + 1), _, by omega, (.cons _ (.cons_cons _ (.cons_cons _ .slnil))), i + 1, _, by omega, rfl, ok_next hok (by unfold okM; omega), hk.1, hk.2, rfl, rfl, rfl, rfl, rfl⟩)
      ·try simp only [NM] at h11
       try simp only [eq_two, ovA2.1, ovA2.2, ovK.1, ovK.2, decide_eq_true_eq, decide_eq_false_iff_not, mayM, dp, Nat.add_zero] at h11
       refine WP_skip ?_
       refine WP_ops ?_
       refine WO_add rfl rfl (by omega) ?_
       refine WO_mv (v := .s (.int _ _)) rfl ?_
       refine WO_nil ?_
       first | (have hk := kings_yes hc0 hc1 (by omega) (by omega); refine ⟨64 - (i + 1), _, by omega, (.cons _ (.cons_cons _ (.cons_cons _ .slnil))), i + 1, _, by omega, rfl, ok_next hok (by unfold okM; omega), hk.1, hk.2, rfl, rfl, rfl, rfl, rfl⟩) | (have hk := kings_no hc0 hc1 (by omega); refine ⟨64 - (i + 1), _, by omega, (.cons _ (.cons_cons _ (.cons_cons _ .slnil))), i + 1, _, by omega, rfl, ok_next hok (by unfold okM; omega), hk.1, hk.2, rfl, rfl, rfl, rfl, rfl⟩)
 ·try simp only [NM] at h1
  try simp only [eq_two, ovA2.1, ovA2.2, ovK.1, ovK.2, decide_eq_true_eq, decide_eq_false_iff_not, mayM, dp, Nat.add_zero] at h1
  refine WP_exit ?_
  refine xhere ?_
  refine WP_seq ?_
  refine WP_ops ?_
  first | refine WO_ldA0 rfl rfl (.head _) ?_ | refine WO_ldAI rfl rfl (.head _) ?_
  refine WO_buildI rfl (.one rfl (.one rfl .nil)) ?_
  refine WO_eqa rfl rfl ?_
  refine WO_mv (v := .s (.bool _)) rfl ?_
  refine WO_case (t := 49) rfl (fun h12 => ?_) (fun h12 => ?_)
  ·try simp only [NM] at h12
   try simp only [eq_two, ovA2.1, ovA2.2, ovK.1, ovK.2, decide_eq_true_eq, decide_eq_false_iff_not, mayM, dp, Nat.add_zero] at h12
   refine WO_gt rfl ?_
   refine WO_fa (o' := 0) rfl rfl rfl ?_
   refine WO_gt rfl ?_
   refine WO_fa (o' := 128) rfl rfl rfl ?_
   refine WO_gt rfl ?_
   refine WO_ldI rfl rfl (.tail _ (.head _)) rfl ?_
   refine WO_gt rfl ?_
   refine WO_bin (r := .bool _) rfl rfl rfl ?_
   refine WO_gt rfl ?_
   refine WO_mv (v := .s (.bool _)) rfl ?_
   refine WO_case (t := 54) rfl (fun h13 => ?_) (fun h13 => ?_)
   ·try simp only [NM] at h13
    try simp only [eq_two, ovA2.1, ovA2.2, ovK.1, ovK.2, decide_eq_true_eq, decide_eq_false_iff_not, mayM, dp, Nat.add_zero] at h13
    refine WO_gf rfl rfl ?_
    refine WO_gf rfl rfl ?_
    refine WO_gf rfl rfl ?_
    refine WO_gf rfl rfl ?_
    refine WO_gt rfl ?_
    refine WO_pick (v := .s (.bool _)) rfl rfl ?_
    refine WO_pick (v := .s (.bool _)) rfl rfl ?_
    refine WO_mv (v := .s (.bool _)) rfl ?_
    refine WO_nil ?_
    refine WP_ret ?_
    refine ⟨_, RS_tmp (v := .s (.bool _)) rfl (RS_nil), ?_⟩
    obtain rfl : i = 64 := by omega
    refine congrArg (fun b => V.s (S.bool b)) ?_
    by_cases hq : (∀ s : Nat, s < 64 → okM P s) ∧ kM P 0 64 = 1 ∧ kM P 1 64 = 1 ∧ (P 128 = 0 ∨ P 128 = 1)
    · refine Eq.trans (b := true) ?_ (pieces_yes hq).symm; have hq2 := hq.2; first | rfl | (exfalso; omega) | exact beq_iff_eq.2 (by omega)
    · refine Eq.trans (b := false) ?_ (pieces_no hq).symm; have hn : ¬ (kM P 0 64 = 1 ∧ kM P 1 64 = 1 ∧ (P 128 = 0 ∨ P 128 = 1)) := fun e => hq ⟨hok, e⟩; first | rfl | (exfalso; omega) | exact beq_eq_false_iff_ne.2 (by omega)
   ·try simp only [NM] at h13
    try simp only [eq_two, ovA2.1, ovA2.2, ovK.1, ovK.2, decide_eq_true_eq, decide_eq_false_iff_not, mayM, dp, Nat.add_zero] at h13
    refine WO_gt rfl ?_
    refine WO_fa (o' := 0) rfl rfl rfl ?_
    refine WO_gt rfl ?_
    refine WO_fa (o' := 128) rfl rfl rfl ?_
    refine WO_gt rfl ?_
    refine WO_ldI rfl rfl (.tail _ (.head _)) rfl ?_
    refine WO_gt rfl ?_
    refine WO_bin (r := .bool _) rfl rfl rfl ?_
    refine WO_gt rfl ?_
    refine WO_pick (v := .s (.bool _)) rfl rfl ?_
    refine WO_pick (v := .s (.bool _)) rfl rfl ?_
    refine WO_mv (v := .s (.bool _)) rfl ?_
    refine WO_nil ?_
    refine WP_ret ?_
    refine ⟨_, RS_tmp (v := .s (.bool _)) rfl (RS_nil), ?_⟩
    obtain rfl : i = 64 := by omega
    refine congrArg (fun b => V.s (S.bool b)) ?_
    by_cases hq : (∀ s : Nat, s < 64 → okM P s) ∧ kM P 0 64 = 1 ∧ kM P 1 64 = 1 ∧ (P 128 = 0 ∨ P 128 = 1)
    · refine Eq.trans (b := true) ?_ (pieces_yes hq).symm; have hq2 := hq.2; first | rfl | (exfalso; omega) | exact beq_iff_eq.2 (by omega)
    · refine Eq.trans (b := false) ?_ (pieces_no hq).symm; have hn : ¬ (kM P 0 64 = 1 ∧ kM P 1 64 = 1 ∧ (P 128 = 0 ∨ P 128 = 1)) := fun e => hq ⟨hok, e⟩; first | rfl | (exfalso; omega) | exact beq_eq_false_iff_ne.2 (by omega)
  ·try simp only [NM] at h12
   try simp only [eq_two, ovA2.1, ovA2.2, ovK.1, ovK.2, decide_eq_true_eq, decide_eq_false_iff_not, mayM, dp, Nat.add_zero] at h12
   refine WO_gf rfl rfl ?_
   refine WO_gf rfl rfl ?_
   refine WO_gf rfl rfl ?_
   refine WO_gf rfl rfl ?_
   refine WO_gf rfl rfl ?_
   refine WO_gu rfl ?_
   refine WO_gu rfl ?_
   refine WO_gu rfl ?_
   refine WO_gu rfl ?_
   refine WO_gf rfl rfl ?_
   refine WO_pick (v := .s (.bool _)) rfl rfl ?_
   refine WO_mv (v := .s (.bool _)) rfl ?_
   refine WO_nil ?_
   refine WP_ret ?_
   refine ⟨_, RS_tmp (v := .s (.bool _)) rfl (RS_nil), ?_⟩
   obtain rfl : i = 64 := by omega
   refine congrArg (fun b => V.s (S.bool b)) ?_
   by_cases hq : (∀ s : Nat, s < 64 → okM P s) ∧ kM P 0 64 = 1 ∧ kM P 1 64 = 1 ∧ (P 128 = 0 ∨ P 128 = 1)
   · refine Eq.trans (b := true) ?_ (pieces_yes hq).symm; have hq2 := hq.2; first | rfl | (exfalso; omega) | exact beq_iff_eq.2 (by omega)
   · refine Eq.trans (b := false) ?_ (pieces_no hq).symm; have hn : ¬ (kM P 0 64 = 1 ∧ kM P 1 64 = 1 ∧ (P 128 = 0 ∨ P 128 = 1)) := fun e => hq ⟨hok, e⟩; first | rfl | (exfalso; omega) | exact beq_eq_false_iff_ne.2 (by omega)
theorem step_up {x : Int} (hx : 0 ≤ x ∧ x < 64) (h : x / 8 < 7) : RF AM 33 [.s (.int .i64 x), .s (.int .i64 0), .s (.int .i64 1)] (.s (.int .i64 (x + 8))) := by
  have := Step_run x 0 1
  rw [step_is hx (by omega)] at this
  exact this
theorem step_dn {x : Int} (hx : 0 ≤ x ∧ x < 64) (h : 1 ≤ x / 8) : RF AM 33 [.s (.int .i64 x), .s (.int .i64 0), .s (.int .i64 (-1))] (.s (.int .i64 (x - 8))) := by
  have := Step_run x 0 (-1)
  rw [step_is hx (by omega)] at this
  exact this
theorem other0 {x : Int} (h : x = 0 ∨ x = 1) : otherM x = 1 - x := by
  unfold otherM; split <;> omega
theorem rank_all (x : Int) : (0 ≤ x ∧ x < 64 ∧ rankM x = x / 8) ∨ (¬ (0 ≤ x ∧ x < 64) ∧ rankM x = -1) := by
  unfold rankM; split
  · exact .inl ⟨by omega, by omega, rfl⟩
  · exact .inr ⟨by assumption, rfl⟩

theorem over_ok (P : Nat → Int) (hs : P 128 = 0 ∨ P 128 = 1) : WR AM 91 [.agg 133 (ia P)] [] (fun v _ _ => v = .s (.bool (overOK P))) := by
 refine WR_fn (a := a91) rfl rfl (entryF _) (entry_E (Nat.le_of_ble_eq_true rfl)) (m := 0) rfl ?_
 refine WP_seq ?_
 refine WP_ops ?_
 refine WO_boxA rfl ?_
 refine WO_mv rfl ?_
 refine WO_nil ?_
 refine WP_seq ?_
 refine WP_seq ?_
 refine WP_ops ?_
 refine WO_fa (o' := 0) rfl rfl rfl ?_
 refine WO_fa (o' := 130) rfl rfl rfl ?_
 refine WO_ldI rfl rfl (.head _) rfl ?_
 refine WO_bin (r := .bool _) rfl rfl rfl ?_
 refine WO_nil ?_
 refine WP_cond rfl (fun h30 => ?_) (fun h30 => ?_)
 ·try simp only [NM] at h30
  try simp only [standM, decide_eq_true_eq, decide_eq_false_iff_not] at h30
  refine WP_seq ?_
  refine WP_ops ?_
  refine WO_mv rfl ?_
  refine WO_nil ?_
  refine WP_ret ?_
  refine ⟨_, RS_tmp (v := .s (.bool _)) rfl (RS_nil), ?_⟩
  refine congrArg (fun b => V.s (S.bool b)) ?_
  have ho := other0 hs
  have hra := rank_all (P 130)
  rw [Bool.eq_iff_iff]
  simp only [overOK, standM, decide_eq_true_eq, Bool.false_eq_true, false_iff, true_iff, ho] at *
  omega
 ·try simp only [NM] at h30
  try simp only [standM, decide_eq_true_eq, decide_eq_false_iff_not] at h30
  refine WP_skip ?_
  refine WP_seq ?_
  refine WP_ops ?_
  refine WO_mv rfl ?_
  refine WO_mv rfl ?_
  refine WO_nil ?_
  refine WP_seq ?_
  refine WP_seq ?_
  refine WP_ops ?_
  refine WO_fa (o' := 0) rfl rfl rfl ?_
  refine WO_fa (o' := 128) rfl rfl rfl ?_
  refine WO_ldI rfl rfl (.head _) rfl ?_
  refine WO_bin (r := .bool _) rfl rfl rfl ?_
  refine WO_nil ?_
  refine WP_cond rfl (fun h31 => ?_) (fun h31 => ?_)
  ·try simp only [NM] at h31
   try simp only [standM, decide_eq_true_eq, decide_eq_false_iff_not] at h31
   refine WP_ops ?_
   refine WO_mv rfl ?_
   refine WO_mv rfl ?_
   refine WO_nil ?_
   refine WP_seq ?_
   refine WP_seq ?_
   refine WP_ops ?_
   refine WO_fa (o' := 0) rfl rfl rfl ?_
   refine WO_fa (o' := 130) rfl rfl rfl ?_
   refine WO_ldI rfl rfl (.head _) rfl ?_
   refine WO_call0 rfl (Rank_run _) rfl rfl rfl ?_
   refine WO_mv (v := .s (.int _ _)) rfl ?_
   refine WO_bin (r := .bool _) rfl rfl rfl ?_
   refine WO_mv (v := .s (.bool _)) rfl ?_
   refine WO_case (t := 20) rfl (fun h32 => ?_) (fun h32 => ?_)
   ·try simp only [NM] at h32
    try simp only [standM, decide_eq_true_eq, decide_eq_false_iff_not] at h32
    refine WO_gf rfl rfl ?_
    refine WO_gf rfl rfl ?_
    refine WO_gf rfl rfl ?_
    refine WO_gf rfl rfl ?_
    refine WO_pick (v := .s (.bool _)) rfl rfl ?_
    refine WO_nil ?_
    refine WP_cond rfl (fun _ => ?_) (fun h => nomatch h)
    refine WP_seq ?_
    refine WP_ops ?_
    refine WO_mv rfl ?_
    refine WO_nil ?_
    refine WP_ret ?_
    refine ⟨_, RS_tmp (v := .s (.bool _)) rfl (RS_nil), ?_⟩
    refine congrArg (fun b => V.s (S.bool b)) ?_
    have ho := other0 hs
    have hra := rank_all (P 130)
    rw [Bool.eq_iff_iff]
    simp only [overOK, standM, decide_eq_true_eq, Bool.false_eq_true, false_iff, true_iff, ho] at *
    omega
   ·try simp only [NM] at h32
    try simp only [standM, decide_eq_true_eq, decide_eq_false_iff_not] at h32
    refine WO_gt rfl ?_
    refine WO_fa (o' := 0) rfl rfl rfl ?_
    refine WO_gt rfl ?_
    refine WO_fa (o' := 131) rfl rfl rfl ?_
    refine WO_gt rfl ?_
    refine WO_ldI rfl rfl (.head _) rfl ?_
    refine WO_gt rfl ?_
    refine WO_bin (r := .bool _) rfl rfl rfl ?_
    refine WO_pick (v := .s (.bool _)) rfl rfl ?_
    refine WO_nil ?_
    refine WP_cond rfl (fun h33 => ?_) (fun h33 => ?_)
    ·try simp only [NM] at h33
     try simp only [standM, decide_eq_true_eq, decide_eq_false_iff_not] at h33
     refine WP_seq ?_
     refine WP_ops ?_
     refine WO_mv rfl ?_
     refine WO_nil ?_
     refine WP_ret ?_
     refine ⟨_, RS_tmp (v := .s (.bool _)) rfl (RS_nil), ?_⟩
     refine congrArg (fun b => V.s (S.bool b)) ?_
     have ho := other0 hs
     have hra := rank_all (P 130)
     rw [Bool.eq_iff_iff]
     simp only [overOK, standM, decide_eq_true_eq, Bool.false_eq_true, false_iff, true_iff, ho] at *
     omega
    ·try simp only [NM] at h33
     try simp only [standM, decide_eq_true_eq, decide_eq_false_iff_not] at h33
     refine WP_skip ?_
     refine WP_seq ?_
     refine WP_ops ?_
     refine WO_mkfn rfl ?_
     refine WO_mv (v := .fn _ _) rfl ?_
     refine WO_nil ?_
     refine WP_seq ?_
     refine WP_ops ?_
     refine WO_mv (v := .fn _ _) rfl ?_
     refine WO_fa (o' := 0) rfl rfl rfl ?_
     refine WO_fa (o' := 130) rfl rfl rfl ?_
     refine WO_ldI rfl rfl (.head _) rfl ?_
     have hin31 := rank_in (x := P 130) (by assumption) (by omega)
     refine WO_callC (rs := [0]) (Bs := [_]) rfl (RB_of1 (free_run (md := .var) P _ (by omega))) rfl rfl (Nat.le_of_ble_eq_true rfl) (fun _ h => h) rfl ⟨(.head _), ⟨_, _, _, rfl⟩, trivial⟩ rfl rfl rfl (.cons .here .nil) ?_
     refine WO_mv (v := .s (.bool _)) rfl ?_
     refine WO_case (t := 32) rfl (fun h34 => ?_) (fun h34 => ?_)
     ·try simp only [NM] at h34
      try simp only [standM, decide_eq_true_eq, decide_eq_false_iff_not] at h34
      refine WO_gt rfl ?_
      refine WO_mv (v := .fn _ _) rfl ?_
      refine WO_gt rfl ?_
      refine WO_fa (o' := 0) rfl rfl rfl ?_
      refine WO_gt rfl ?_
      refine WO_fa (o' := 130) rfl rfl rfl ?_
      refine WO_gt rfl ?_
      refine WO_ldI rfl rfl (.head _) rfl ?_
      refine WO_gt rfl ?_
      refine WO_mv (v := .s (.int _ _)) rfl ?_
      refine WO_gt rfl ?_
      have hin38 := rank_in (x := P 130) (by assumption) (by omega)
      refine WO_call0 rfl (step_dn hin38.1 (by omega)) rfl rfl rfl ?_
      refine WO_gt rfl ?_
      have hin39 := rank_in (x := P 130) (by assumption) (by omega)
      refine WO_callC (rs := [0]) (Bs := [_]) rfl (RB_of1 (free_run (md := .var) P _ (by omega))) rfl rfl (Nat.le_of_ble_eq_true rfl) (fun _ h => h) rfl ⟨(.head _), ⟨_, _, _, rfl⟩, trivial⟩ rfl rfl rfl (.cons .here .nil) ?_
      refine WO_pick (v := .s (.bool _)) rfl rfl ?_
      refine WO_mv (v := .s (.bool _)) rfl ?_
      refine WO_case (t := 41) rfl (fun h35 => ?_) (fun h35 => ?_)
      ·try simp only [NM] at h35
       try simp only [standM, decide_eq_true_eq, decide_eq_false_iff_not] at h35
       refine WO_gt rfl ?_
       first | refine WO_ldA0 rfl rfl (.head _) ?_ | refine WO_ldAI rfl rfl (.head _) ?_
       refine WO_gt rfl ?_
       refine WO_fa (o' := 0) rfl rfl rfl ?_
       refine WO_gt rfl ?_
       refine WO_fa (o' := 128) rfl rfl rfl ?_
       refine WO_gt rfl ?_
       refine WO_ldI rfl rfl (.head _) rfl ?_
       refine WO_gt rfl ?_
       refine WO_callq0 rfl (RF_of (Other_run _)) rfl rfl rfl ?_
       refine WO_gt rfl ?_
       refine WO_fa (o' := 0) rfl rfl rfl ?_
       refine WO_gt rfl ?_
       refine WO_fa (o' := 130) rfl rfl rfl ?_
       refine WO_gt rfl ?_
       refine WO_ldI rfl rfl (.head _) rfl ?_
       refine WO_gt rfl ?_
       refine WO_mv (v := .s (.int _ _)) rfl ?_
       refine WO_gt rfl ?_
       refine WO_neg rfl (by omega) ?_
       refine WO_gt rfl ?_
       have hin52 := rank_in (x := P 130) (by assumption) (by omega)
       refine WO_callq0 rfl (step_up hin52.1 (by omega)) rfl rfl rfl ?_
       refine WO_gt rfl ?_
       refine WO_call0 rfl (RF_of (stands_run _ _ _ _ (by omega))) rfl rfl rfl ?_
       refine WO_pick (v := .s (.bool _)) rfl rfl ?_
       refine WO_mv (v := .s (.bool _)) rfl ?_
       refine WO_nil ?_
       refine WP_ret ?_
       refine ⟨_, RS_tmp (v := .s (.bool _)) rfl (RS_nil), ?_⟩
       refine congrArg (fun b => V.s (S.bool b)) ?_
       have ho := other0 hs
       have hra := rank_all (P 130)
       rw [Bool.eq_iff_iff]
       simp only [overOK, standM, decide_eq_true_eq, Bool.false_eq_true, false_iff, true_iff, ho] at *
       omega
      ·try simp only [NM] at h35
       try simp only [standM, decide_eq_true_eq, decide_eq_false_iff_not] at h35
       refine WO_gf rfl rfl ?_
       refine WO_gf rfl rfl ?_
       refine WO_gf rfl rfl ?_
       refine WO_gf rfl rfl ?_
       refine WO_gf rfl rfl ?_
       refine WO_gf rfl rfl ?_
       refine WO_gf rfl rfl ?_
       refine WO_gf rfl rfl ?_
       refine WO_gf rfl rfl ?_
       refine WO_gf rfl rfl ?_
       refine WO_gf rfl rfl ?_
       refine WO_gf rfl rfl ?_
       refine WO_pick (v := .s (.bool _)) rfl rfl ?_
       refine WO_mv (v := .s (.bool _)) rfl ?_
       refine WO_nil ?_
       refine WP_ret ?_
       refine ⟨_, RS_tmp (v := .s (.bool _)) rfl (RS_nil), ?_⟩
       refine congrArg (fun b => V.s (S.bool b)) ?_
       have ho := other0 hs
       have hra := rank_all (P 130)
       rw [Bool.eq_iff_iff]
       simp only [overOK, standM, decide_eq_true_eq, Bool.false_eq_true, false_iff, true_iff, ho] at *
       omega
     ·try simp only [NM] at h34
      try simp only [standM, decide_eq_true_eq, decide_eq_false_iff_not] at h34
      refine WO_gf rfl rfl ?_
      refine WO_gf rfl rfl ?_
      refine WO_gf rfl rfl ?_
      refine WO_gf rfl rfl ?_
      refine WO_gf rfl rfl ?_
      refine WO_gf rfl rfl ?_
      refine WO_gf rfl rfl ?_
      refine WO_pick (v := .s (.bool _)) rfl rfl ?_
      refine WO_mv (v := .s (.bool _)) rfl ?_
      refine WO_gf rfl rfl ?_
      refine WO_gf rfl rfl ?_
      refine WO_gf rfl rfl ?_
      refine WO_gf rfl rfl ?_
      refine WO_gf rfl rfl ?_
      refine WO_gf rfl rfl ?_
      refine WO_gf rfl rfl ?_
      refine WO_gf rfl rfl ?_
      refine WO_gf rfl rfl ?_
      refine WO_gf rfl rfl ?_
      refine WO_gf rfl rfl ?_
      refine WO_gf rfl rfl ?_
      refine WO_pick (v := .s (.bool _)) rfl rfl ?_
      refine WO_mv (v := .s (.bool _)) rfl ?_
      refine WO_nil ?_
      refine WP_ret ?_
      refine ⟨_, RS_tmp (v := .s (.bool _)) rfl (RS_nil), ?_⟩
      refine congrArg (fun b => V.s (S.bool b)) ?_
      have ho := other0 hs
      have hra := rank_all (P 130)
      rw [Bool.eq_iff_iff]
      simp only [overOK, standM, decide_eq_true_eq, Bool.false_eq_true, false_iff, true_iff, ho] at *
      omega
  ·try simp only [NM] at h31
   try simp only [standM, decide_eq_true_eq, decide_eq_false_iff_not] at h31
   refine WP_skip ?_
   refine WP_seq ?_
   refine WP_seq ?_
   refine WP_ops ?_
   refine WO_fa (o' := 0) rfl rfl rfl ?_
   refine WO_fa (o' := 130) rfl rfl rfl ?_
   refine WO_ldI rfl rfl (.head _) rfl ?_
   refine WO_call0 rfl (Rank_run _) rfl rfl rfl ?_
   refine WO_mv (v := .s (.int _ _)) rfl ?_
   refine WO_bin (r := .bool _) rfl rfl rfl ?_
   refine WO_mv (v := .s (.bool _)) rfl ?_
   refine WO_case (t := 20) rfl (fun h36 => ?_) (fun h36 => ?_)
   ·try simp only [NM] at h36
    try simp only [standM, decide_eq_true_eq, decide_eq_false_iff_not] at h36
    refine WO_gf rfl rfl ?_
    refine WO_gf rfl rfl ?_
    refine WO_gf rfl rfl ?_
    refine WO_gf rfl rfl ?_
    refine WO_pick (v := .s (.bool _)) rfl rfl ?_
    refine WO_nil ?_
    refine WP_cond rfl (fun _ => ?_) (fun h => nomatch h)
    refine WP_seq ?_
    refine WP_ops ?_
    refine WO_mv rfl ?_
    refine WO_nil ?_
    refine WP_ret ?_
    refine ⟨_, RS_tmp (v := .s (.bool _)) rfl (RS_nil), ?_⟩
    refine congrArg (fun b => V.s (S.bool b)) ?_
    have ho := other0 hs
    have hra := rank_all (P 130)
    rw [Bool.eq_iff_iff]
    simp only [overOK, standM, decide_eq_true_eq, Bool.false_eq_true, false_iff, true_iff, ho] at *
    omega
   ·try simp only [NM] at h36
    try simp only [standM, decide_eq_true_eq, decide_eq_false_iff_not] at h36
    refine WO_gt rfl ?_
    refine WO_fa (o' := 0) rfl rfl rfl ?_
    refine WO_gt rfl ?_
    refine WO_fa (o' := 131) rfl rfl rfl ?_
    refine WO_gt rfl ?_
    refine WO_ldI rfl rfl (.head _) rfl ?_
    refine WO_gt rfl ?_
    refine WO_bin (r := .bool _) rfl rfl rfl ?_
    refine WO_pick (v := .s (.bool _)) rfl rfl ?_
    refine WO_nil ?_
    refine WP_cond rfl (fun h37 => ?_) (fun h37 => ?_)
    ·try simp only [NM] at h37
     try simp only [standM, decide_eq_true_eq, decide_eq_false_iff_not] at h37
     refine WP_seq ?_
     refine WP_ops ?_
     refine WO_mv rfl ?_
     refine WO_nil ?_
     refine WP_ret ?_
     refine ⟨_, RS_tmp (v := .s (.bool _)) rfl (RS_nil), ?_⟩
     refine congrArg (fun b => V.s (S.bool b)) ?_
     have ho := other0 hs
     have hra := rank_all (P 130)
     rw [Bool.eq_iff_iff]
     simp only [overOK, standM, decide_eq_true_eq, Bool.false_eq_true, false_iff, true_iff, ho] at *
     omega
    ·try simp only [NM] at h37
     try simp only [standM, decide_eq_true_eq, decide_eq_false_iff_not] at h37
     refine WP_skip ?_
     refine WP_seq ?_
     refine WP_ops ?_
     refine WO_mkfn rfl ?_
     refine WO_mv (v := .fn _ _) rfl ?_
     refine WO_nil ?_
     refine WP_seq ?_
     refine WP_ops ?_
     refine WO_mv (v := .fn _ _) rfl ?_
     refine WO_fa (o' := 0) rfl rfl rfl ?_
     refine WO_fa (o' := 130) rfl rfl rfl ?_
     refine WO_ldI rfl rfl (.head _) rfl ?_
     have hin31 := rank_in (x := P 130) (by assumption) (by omega)
     refine WO_callC (rs := [0]) (Bs := [_]) rfl (RB_of1 (free_run (md := .var) P _ (by omega))) rfl rfl (Nat.le_of_ble_eq_true rfl) (fun _ h => h) rfl ⟨(.head _), ⟨_, _, _, rfl⟩, trivial⟩ rfl rfl rfl (.cons .here .nil) ?_
     refine WO_mv (v := .s (.bool _)) rfl ?_
     refine WO_case (t := 32) rfl (fun h38 => ?_) (fun h38 => ?_)
     ·try simp only [NM] at h38
      try simp only [standM, decide_eq_true_eq, decide_eq_false_iff_not] at h38
      refine WO_gt rfl ?_
      refine WO_mv (v := .fn _ _) rfl ?_
      refine WO_gt rfl ?_
      refine WO_fa (o' := 0) rfl rfl rfl ?_
      refine WO_gt rfl ?_
      refine WO_fa (o' := 130) rfl rfl rfl ?_
      refine WO_gt rfl ?_
      refine WO_ldI rfl rfl (.head _) rfl ?_
      refine WO_gt rfl ?_
      refine WO_mv (v := .s (.int _ _)) rfl ?_
      refine WO_gt rfl ?_
      have hin38 := rank_in (x := P 130) (by assumption) (by omega)
      refine WO_call0 rfl (step_up hin38.1 (by omega)) rfl rfl rfl ?_
      refine WO_gt rfl ?_
      have hin39 := rank_in (x := P 130) (by assumption) (by omega)
      refine WO_callC (rs := [0]) (Bs := [_]) rfl (RB_of1 (free_run (md := .var) P _ (by omega))) rfl rfl (Nat.le_of_ble_eq_true rfl) (fun _ h => h) rfl ⟨(.head _), ⟨_, _, _, rfl⟩, trivial⟩ rfl rfl rfl (.cons .here .nil) ?_
      refine WO_pick (v := .s (.bool _)) rfl rfl ?_
      refine WO_mv (v := .s (.bool _)) rfl ?_
      refine WO_case (t := 41) rfl (fun h39 => ?_) (fun h39 => ?_)
      ·try simp only [NM] at h39
       try simp only [standM, decide_eq_true_eq, decide_eq_false_iff_not] at h39
       refine WO_gt rfl ?_
       first | refine WO_ldA0 rfl rfl (.head _) ?_ | refine WO_ldAI rfl rfl (.head _) ?_
       refine WO_gt rfl ?_
       refine WO_fa (o' := 0) rfl rfl rfl ?_
       refine WO_gt rfl ?_
       refine WO_fa (o' := 128) rfl rfl rfl ?_
       refine WO_gt rfl ?_
       refine WO_ldI rfl rfl (.head _) rfl ?_
       refine WO_gt rfl ?_
       refine WO_callq0 rfl (RF_of (Other_run _)) rfl rfl rfl ?_
       refine WO_gt rfl ?_
       refine WO_fa (o' := 0) rfl rfl rfl ?_
       refine WO_gt rfl ?_
       refine WO_fa (o' := 130) rfl rfl rfl ?_
       refine WO_gt rfl ?_
       refine WO_ldI rfl rfl (.head _) rfl ?_
       refine WO_gt rfl ?_
       refine WO_mv (v := .s (.int _ _)) rfl ?_
       refine WO_gt rfl ?_
       refine WO_neg rfl (by omega) ?_
       refine WO_gt rfl ?_
       have hin52 := rank_in (x := P 130) (by assumption) (by omega)
       refine WO_callq0 rfl (step_dn hin52.1 (by omega)) rfl rfl rfl ?_
       refine WO_gt rfl ?_
       refine WO_call0 rfl (RF_of (stands_run _ _ _ _ (by omega))) rfl rfl rfl ?_
       refine WO_pick (v := .s (.bool _)) rfl rfl ?_
       refine WO_mv (v := .s (.bool _)) rfl ?_
       refine WO_nil ?_
       refine WP_ret ?_
       refine ⟨_, RS_tmp (v := .s (.bool _)) rfl (RS_nil), ?_⟩
       refine congrArg (fun b => V.s (S.bool b)) ?_
       have ho := other0 hs
       have hra := rank_all (P 130)
       rw [Bool.eq_iff_iff]
       simp only [overOK, standM, decide_eq_true_eq, Bool.false_eq_true, false_iff, true_iff, ho] at *
       omega
      ·try simp only [NM] at h39
       try simp only [standM, decide_eq_true_eq, decide_eq_false_iff_not] at h39
       refine WO_gf rfl rfl ?_
       refine WO_gf rfl rfl ?_
       refine WO_gf rfl rfl ?_
       refine WO_gf rfl rfl ?_
       refine WO_gf rfl rfl ?_
       refine WO_gf rfl rfl ?_
       refine WO_gf rfl rfl ?_
       refine WO_gf rfl rfl ?_
       refine WO_gf rfl rfl ?_
       refine WO_gf rfl rfl ?_
       refine WO_gf rfl rfl ?_
       refine WO_gf rfl rfl ?_
       refine WO_pick (v := .s (.bool _)) rfl rfl ?_
       refine WO_mv (v := .s (.bool _)) rfl ?_
       refine WO_nil ?_
       refine WP_ret ?_
       refine ⟨_, RS_tmp (v := .s (.bool _)) rfl (RS_nil), ?_⟩
       refine congrArg (fun b => V.s (S.bool b)) ?_
       have ho := other0 hs
       have hra := rank_all (P 130)
       rw [Bool.eq_iff_iff]
       simp only [overOK, standM, decide_eq_true_eq, Bool.false_eq_true, false_iff, true_iff, ho] at *
       omega
     ·try simp only [NM] at h38
      try simp only [standM, decide_eq_true_eq, decide_eq_false_iff_not] at h38
      refine WO_gf rfl rfl ?_
      refine WO_gf rfl rfl ?_
      refine WO_gf rfl rfl ?_
      refine WO_gf rfl rfl ?_
      refine WO_gf rfl rfl ?_
      refine WO_gf rfl rfl ?_
      refine WO_gf rfl rfl ?_
      refine WO_pick (v := .s (.bool _)) rfl rfl ?_
      refine WO_mv (v := .s (.bool _)) rfl ?_
      refine WO_gf rfl rfl ?_
      refine WO_gf rfl rfl ?_
      refine WO_gf rfl rfl ?_
      refine WO_gf rfl rfl ?_
      refine WO_gf rfl rfl ?_
      refine WO_gf rfl rfl ?_
      refine WO_gf rfl rfl ?_
      refine WO_gf rfl rfl ?_
      refine WO_gf rfl rfl ?_
      refine WO_gf rfl rfl ?_
      refine WO_gf rfl rfl ?_
      refine WO_gf rfl rfl ?_
      refine WO_pick (v := .s (.bool _)) rfl rfl ?_
      refine WO_mv (v := .s (.bool _)) rfl ?_
      refine WO_nil ?_
      refine WP_ret ?_
      refine ⟨_, RS_tmp (v := .s (.bool _)) rfl (RS_nil), ?_⟩
      refine congrArg (fun b => V.s (S.bool b)) ?_
      have ho := other0 hs
      have hra := rank_all (P 130)
      rw [Bool.eq_iff_iff]
      simp only [overOK, standM, decide_eq_true_eq, Bool.false_eq_true, false_iff, true_iff, ho] at *
      omega
theorem kM_same {P Q : Nat → Int} (h : ∀ i, i < 128 → P i = Q i) (c : Int) : ∀ n : Nat, n ≤ 64 → kM P c n = kM Q c n
  | 0, _ => rfl
  | n + 1, hn => by
    have hq : sqI n = 0 + (n : Int).toNat * 2 := rfl
    unfold kM
    rw [kM_same h c n (by omega), h (sqI n) (by omega), h (sqI n + 1) (by omega)]
theorem okM_same {P Q : Nat → Int} (h : ∀ i, i < 128 → P i = Q i) {s : Nat} (hs : s < 64) : okM P s = okM Q s := by
  have hq : sqI s = 0 + (s : Int).toNat * 2 := rfl
  unfold okM
  rw [h (sqI s) (by omega), h (sqI s + 1) (by omega)]
theorem piecesM_same {P Q : Nat → Int} (h : ∀ i, i < 133 → P i = Q i) : piecesM P = piecesM Q := by
  have hl : ∀ i, i < 128 → P i = Q i := fun i hi => h i (by omega)
  have ho : (∀ s : Nat, s < 64 → okM P s) ↔ (∀ s : Nat, s < 64 → okM Q s) := ⟨fun a s hs => (okM_same hl hs) ▸ a s hs, fun a s hs => (okM_same hl hs).symm ▸ a s hs⟩
  unfold piecesM
  rw [Bool.eq_iff_iff, decide_eq_true_eq, decide_eq_true_eq, ho, kM_same hl 0 64 (by omega), kM_same hl 1 64 (by omega), h 128 (by omega)]
theorem standM_same {P Q : Nat → Int} (h : ∀ i, i < 133 → P i = Q i) {x k c : Int} (hx : 0 ≤ x ∧ x < 64) : standM P x k c = standM Q x k c := by
  have hq : sqI x = 0 + x.toNat * 2 := rfl
  unfold standM
  rw [h (sqI x) (by omega), h (sqI x + 1) (by omega)]
theorem homeM_same {P Q : Nat → Int} (h : ∀ i, i < 133 → P i = Q i) {s a b : Int} (ha : 0 ≤ a ∧ a < 64) (hb : 0 ≤ b ∧ b < 64) : homeM P s a b = homeM Q s a b := by
  have hq : sqI a = 0 + a.toNat * 2 := rfl
  have hq2 : sqI b = 0 + b.toNat * 2 := rfl
  unfold homeM
  rw [h (sqI a) (by omega), h (sqI a + 1) (by omega), h (sqI b) (by omega), h (sqI b + 1) (by omega)]
theorem castlesM_same {P Q : Nat → Int} (h : ∀ i, i < 133 → P i = Q i) : castlesM P = castlesM Q := by
  unfold castlesM
  rw [h 129 (by omega), homeM_same h (by omega) (by omega), homeM_same h (by omega) (by omega), homeM_same h (by omega) (by omega), homeM_same h (by omega) (by omega)]
theorem overOK_same {P Q : Nat → Int} (h : ∀ i, i < 133 → P i = Q i) : overOK P = overOK Q := by
  unfold overOK
  rw [h 130 (by omega), h 131 (by omega), h 128 (by omega)]
  by_cases hx : (0 ≤ Q 130 ∧ Q 130 < 64) ∧ (Q 130 / 8 = 2 ∨ Q 130 / 8 = 5)
  · rw [standM_same h (x := Q 130) (by omega), standM_same h (x := Q 130 - 8) (by omega), standM_same h (x := Q 130 + 8) (by omega), standM_same h (x := Q 130 + 8) (by omega), standM_same h (x := Q 130 - 8) (by omega)]
  · rw [Bool.eq_iff_iff, decide_eq_true_eq, decide_eq_true_eq]
    constructor
    · rintro (e | ⟨e, _, ⟨_, f, _⟩ | ⟨_, f, _⟩⟩)
      · exact .inl e
      · exact absurd ⟨e, .inl f⟩ hx
      · exact absurd ⟨e, .inr f⟩ hx
    · rintro (e | ⟨e, _, ⟨_, f, _⟩ | ⟨_, f, _⟩⟩)
      · exact .inl e
      · exact absurd ⟨e, .inl f⟩ hx
      · exact absurd ⟨e, .inr f⟩ hx
theorem cut_same (P : Nat → Int) : ∀ i, i < 133 → ovA (fun _ => 0) 0 133 (ovA (fun _ => 0) 0 133 P) i = P i := fun i hi => by
  rw [ovA_at (by omega), Nat.sub_zero, ovA_at (by omega), Nat.sub_zero]
theorem right_is {P : Nat → Int} {a b c r : Bool} (ha : a = piecesM P) (hb : a = true → b = castlesM P) (hc : a = true → b = true → c = overOK P) (hr : r = (a && b && c && decide (0 ≤ P 131 ∧ P 131 ≤ 1024 ∧ 1 ≤ P 132 ∧ P 132 ≤ 16384))) : r = rightM P := by
  subst hr ha
  unfold rightM
  cases hp : piecesM P with
  | false => simp
  | true =>
    have hb := hb hp
    subst hb
    cases hq : castlesM P with
    | false => simp
    | true =>
      have hc := hc hp hq
      subst hc
      simp

theorem Right_run (P : Nat → Int) : WR AM 56 [.agg 133 (ia P)] [] (fun v _ _ => v = .s (.bool (rightM P))) := by
 refine WR_fn (a := a56) rfl rfl (entryF _) (entry_E (Nat.le_of_ble_eq_true rfl)) (m := 0) rfl ?_
 refine WP_seq ?_
 refine WP_ops ?_
 refine WO_boxA rfl ?_
 refine WO_mv rfl ?_
 refine WO_nil ?_
 refine WP_seq ?_
 refine WP_ops ?_
 first | refine WO_ldA0 rfl rfl (.head _) ?_ | refine WO_ldAI rfl rfl (.head _) ?_
 refine WO_buildI rfl (.agg rfl .nil) ?_
 refine WO_allocI ?_
 refine WO_stA rfl rfl rfl rfl .here ?_
 refine WO_nil ?_
 refine WP_seq ?_
 refine WP_ops ?_
 first | refine WO_ldA0 rfl rfl (.head _) ?_ | refine WO_ldAI rfl rfl (.head _) ?_
 obtain ⟨bp, hbp⟩ : ∃ b, b = piecesM P := ⟨_, rfl⟩
 have hP := RF_of (pieces_ok (ovA (fun _ => 0) 0 133 (ovA (fun _ => 0) 0 133 P)))
 rw [piecesM_same (cut_same P), ← hbp] at hP
 refine WO_call0 rfl (hP) rfl rfl rfl ?_
 refine WO_mv (v := .s (.bool _)) rfl ?_
 refine WO_case (t := 8) rfl (fun h51 => ?_) (fun h51 => ?_)
 ·try simp only [NM] at h51
  refine WO_gt rfl ?_
  first | refine WO_ldA0 rfl rfl (.head _) ?_ | refine WO_ldAI rfl rfl (.head _) ?_
  refine WO_gt rfl ?_
  obtain ⟨bc, hbc⟩ : ∃ b, b = castlesM P := ⟨_, rfl⟩
  have hC := RF_of (castles_ok (ovA (fun _ => 0) 0 133 (ovA (fun _ => 0) 0 133 P)))
  rw [castlesM_same (cut_same P), ← hbc] at hC
  refine WO_call0 rfl (hC) rfl rfl rfl ?_
  refine WO_pick (v := .s (.bool _)) rfl rfl ?_
  refine WO_mv (v := .s (.bool _)) rfl ?_
  refine WO_case (t := 12) rfl (fun h52 => ?_) (fun h52 => ?_)
  ·try simp only [NM] at h52
   refine WO_gt rfl ?_
   first | refine WO_ldA0 rfl rfl (.head _) ?_ | refine WO_ldAI rfl rfl (.head _) ?_
   refine WO_gt rfl ?_
   have hbt : bp = true := by assumption
   have hs := (pieces_is (P := P) (by rw [← hbp]; exact hbt)).2.2.2
   obtain ⟨bo, hbo⟩ : ∃ b, b = overOK P := ⟨_, rfl⟩
   have hO := RF_of (over_ok (ovA (fun _ => 0) 0 133 (ovA (fun _ => 0) 0 133 P)) hs)
   rw [overOK_same (cut_same P), ← hbo] at hO
   refine WO_call0 rfl (hO) rfl rfl rfl ?_
   refine WO_pick (v := .s (.bool _)) rfl rfl ?_
   refine WO_mv (v := .s (.bool _)) rfl ?_
   refine WO_case (t := 16) rfl (fun h53 => ?_) (fun h53 => ?_)
   ·try simp only [NM] at h53
    refine WO_gt rfl ?_
    refine WO_fa (o' := 131) rfl rfl rfl ?_
    refine WO_gt rfl ?_
    refine WO_ldI (x := P 131) rfl rfl (.tail _ (.head _)) (rfl) ?_
    refine WO_gt rfl ?_
    refine WO_bin (r := .bool _) rfl rfl rfl ?_
    refine WO_pick (v := .s (.bool _)) rfl rfl ?_
    refine WO_mv (v := .s (.bool _)) rfl ?_
    refine WO_case (t := 21) rfl (fun h54 => ?_) (fun h54 => ?_)
    ·try simp only [NM] at h54
     refine WO_gt rfl ?_
     refine WO_fa (o' := 131) rfl rfl rfl ?_
     refine WO_gt rfl ?_
     refine WO_ldI (x := P 131) rfl rfl (.tail _ (.head _)) (rfl) ?_
     refine WO_gt rfl ?_
     refine WO_bin (r := .bool _) rfl rfl rfl ?_
     refine WO_pick (v := .s (.bool _)) rfl rfl ?_
     refine WO_mv (v := .s (.bool _)) rfl ?_
     refine WO_case (t := 26) rfl (fun h55 => ?_) (fun h55 => ?_)
     ·try simp only [NM] at h55
      refine WO_gt rfl ?_
      refine WO_fa (o' := 132) rfl rfl rfl ?_
      refine WO_gt rfl ?_
      refine WO_ldI (x := P 132) rfl rfl (.tail _ (.head _)) (rfl) ?_
      refine WO_gt rfl ?_
      refine WO_bin (r := .bool _) rfl rfl rfl ?_
      refine WO_pick (v := .s (.bool _)) rfl rfl ?_
      refine WO_mv (v := .s (.bool _)) rfl ?_
      refine WO_case (t := 31) rfl (fun h56 => ?_) (fun h56 => ?_)
      ·try simp only [NM] at h56
       refine WO_gt rfl ?_
       refine WO_fa (o' := 132) rfl rfl rfl ?_
       refine WO_gt rfl ?_
       refine WO_ldI (x := P 132) rfl rfl (.tail _ (.head _)) (rfl) ?_
       refine WO_gt rfl ?_
       refine WO_bin (r := .bool _) rfl rfl rfl ?_
       refine WO_pick (v := .s (.bool _)) rfl rfl ?_
       refine WO_mv (v := .s (.bool _)) rfl ?_
       refine WO_nil ?_
       refine WP_ret ?_
       refine ⟨_, RS_tmp (v := .s (.bool _)) rfl (RS_nil), ?_⟩
       refine congrArg (fun b => V.s (S.bool b)) (right_is (b := bc) (c := bo) hbp (fun _ => hbc) (fun _ _ => hbo) ?_)
       clear hbp hbc hbo hP hC hO
       first | (simp [*]; done) | (subst_vars; simp only [Bool.true_and]; rw [Bool.eq_iff_iff]; simp only [decide_eq_true_eq, Bool.false_eq_true, false_iff, true_iff]; omega)
      ·try simp only [NM] at h56
       refine WO_gf rfl rfl ?_
       refine WO_gf rfl rfl ?_
       refine WO_gf rfl rfl ?_
       refine WO_pick (v := .s (.bool _)) rfl rfl ?_
       refine WO_mv (v := .s (.bool _)) rfl ?_
       refine WO_nil ?_
       refine WP_ret ?_
       refine ⟨_, RS_tmp (v := .s (.bool _)) rfl (RS_nil), ?_⟩
       refine congrArg (fun b => V.s (S.bool b)) (right_is (b := bc) (c := bo) hbp (fun _ => hbc) (fun _ _ => hbo) ?_)
       clear hbp hbc hbo hP hC hO
       first | (simp [*]; done) | (subst_vars; simp only [Bool.true_and]; rw [Bool.eq_iff_iff]; simp only [decide_eq_true_eq, Bool.false_eq_true, false_iff, true_iff]; omega)
     ·try simp only [NM] at h55
      refine WO_gf rfl rfl ?_
      refine WO_gf rfl rfl ?_
      refine WO_gf rfl rfl ?_
      refine WO_pick (v := .s (.bool _)) rfl rfl ?_
      refine WO_mv (v := .s (.bool _)) rfl ?_
      refine WO_gf rfl rfl ?_
      refine WO_gf rfl rfl ?_
      refine WO_gf rfl rfl ?_
      refine WO_pick (v := .s (.bool _)) rfl rfl ?_
      refine WO_mv (v := .s (.bool _)) rfl ?_
      refine WO_nil ?_
      refine WP_ret ?_
      refine ⟨_, RS_tmp (v := .s (.bool _)) rfl (RS_nil), ?_⟩
      refine congrArg (fun b => V.s (S.bool b)) (right_is (b := bc) (c := bo) hbp (fun _ => hbc) (fun _ _ => hbo) ?_)
      clear hbp hbc hbo hP hC hO
      first | (simp [*]; done) | (subst_vars; simp only [Bool.true_and]; rw [Bool.eq_iff_iff]; simp only [decide_eq_true_eq, Bool.false_eq_true, false_iff, true_iff]; omega)
    ·try simp only [NM] at h54
     refine WO_gf rfl rfl ?_
     refine WO_gf rfl rfl ?_
     refine WO_gf rfl rfl ?_
     refine WO_pick (v := .s (.bool _)) rfl rfl ?_
     refine WO_mv (v := .s (.bool _)) rfl ?_
     refine WO_gf rfl rfl ?_
     refine WO_gf rfl rfl ?_
     refine WO_gf rfl rfl ?_
     refine WO_pick (v := .s (.bool _)) rfl rfl ?_
     refine WO_mv (v := .s (.bool _)) rfl ?_
     refine WO_gf rfl rfl ?_
     refine WO_gf rfl rfl ?_
     refine WO_gf rfl rfl ?_
     refine WO_pick (v := .s (.bool _)) rfl rfl ?_
     refine WO_mv (v := .s (.bool _)) rfl ?_
     refine WO_nil ?_
     refine WP_ret ?_
     refine ⟨_, RS_tmp (v := .s (.bool _)) rfl (RS_nil), ?_⟩
     refine congrArg (fun b => V.s (S.bool b)) (right_is (b := bc) (c := bo) hbp (fun _ => hbc) (fun _ _ => hbo) ?_)
     clear hbp hbc hbo hP hC hO
     first | (simp [*]; done) | (subst_vars; simp only [Bool.true_and]; rw [Bool.eq_iff_iff]; simp only [decide_eq_true_eq, Bool.false_eq_true, false_iff, true_iff]; omega)
   ·try simp only [NM] at h53
    refine WO_gf rfl rfl ?_
    refine WO_gf rfl rfl ?_
    refine WO_gf rfl rfl ?_
    refine WO_pick (v := .s (.bool _)) rfl rfl ?_
    refine WO_mv (v := .s (.bool _)) rfl ?_
    refine WO_gf rfl rfl ?_
    refine WO_gf rfl rfl ?_
    refine WO_gf rfl rfl ?_
    refine WO_pick (v := .s (.bool _)) rfl rfl ?_
    refine WO_mv (v := .s (.bool _)) rfl ?_
    refine WO_gf rfl rfl ?_
    refine WO_gf rfl rfl ?_
    refine WO_gf rfl rfl ?_
    refine WO_pick (v := .s (.bool _)) rfl rfl ?_
    refine WO_mv (v := .s (.bool _)) rfl ?_
    refine WO_gf rfl rfl ?_
    refine WO_gf rfl rfl ?_
    refine WO_gf rfl rfl ?_
    refine WO_pick (v := .s (.bool _)) rfl rfl ?_
    refine WO_mv (v := .s (.bool _)) rfl ?_
    refine WO_nil ?_
    refine WP_ret ?_
    refine ⟨_, RS_tmp (v := .s (.bool _)) rfl (RS_nil), ?_⟩
    refine congrArg (fun b => V.s (S.bool b)) (right_is (b := bc) (c := bo) hbp (fun _ => hbc) (fun _ _ => hbo) ?_)
    clear hbp hbc hbo hP hC hO
    first | (simp [*]; done) | (subst_vars; simp only [Bool.true_and]; rw [Bool.eq_iff_iff]; simp only [decide_eq_true_eq, Bool.false_eq_true, false_iff, true_iff]; omega)
  ·try simp only [NM] at h52
   refine WO_gf rfl rfl ?_
   refine WO_gf rfl rfl ?_
   refine WO_pick (v := .s (.bool _)) rfl rfl ?_
   refine WO_mv (v := .s (.bool _)) rfl ?_
   refine WO_gf rfl rfl ?_
   refine WO_gf rfl rfl ?_
   refine WO_gf rfl rfl ?_
   refine WO_pick (v := .s (.bool _)) rfl rfl ?_
   refine WO_mv (v := .s (.bool _)) rfl ?_
   refine WO_gf rfl rfl ?_
   refine WO_gf rfl rfl ?_
   refine WO_gf rfl rfl ?_
   refine WO_pick (v := .s (.bool _)) rfl rfl ?_
   refine WO_mv (v := .s (.bool _)) rfl ?_
   refine WO_gf rfl rfl ?_
   refine WO_gf rfl rfl ?_
   refine WO_gf rfl rfl ?_
   refine WO_pick (v := .s (.bool _)) rfl rfl ?_
   refine WO_mv (v := .s (.bool _)) rfl ?_
   refine WO_gf rfl rfl ?_
   refine WO_gf rfl rfl ?_
   refine WO_gf rfl rfl ?_
   refine WO_pick (v := .s (.bool _)) rfl rfl ?_
   refine WO_mv (v := .s (.bool _)) rfl ?_
   refine WO_nil ?_
   refine WP_ret ?_
   refine ⟨_, RS_tmp (v := .s (.bool _)) rfl (RS_nil), ?_⟩
   exact congrArg (fun b => V.s (S.bool b)) (right_is (b := bc) (c := overOK P) hbp (fun _ => hbc) (fun _ _ => rfl) (by clear hbp hbc hP hC; simp [*]))
 ·try simp only [NM] at h51
  refine WO_gf rfl rfl ?_
  refine WO_gf rfl rfl ?_
  refine WO_pick (v := .s (.bool _)) rfl rfl ?_
  refine WO_mv (v := .s (.bool _)) rfl ?_
  refine WO_gf rfl rfl ?_
  refine WO_gf rfl rfl ?_
  refine WO_pick (v := .s (.bool _)) rfl rfl ?_
  refine WO_mv (v := .s (.bool _)) rfl ?_
  refine WO_gf rfl rfl ?_
  refine WO_gf rfl rfl ?_
  refine WO_gf rfl rfl ?_
  refine WO_pick (v := .s (.bool _)) rfl rfl ?_
  refine WO_mv (v := .s (.bool _)) rfl ?_
  refine WO_gf rfl rfl ?_
  refine WO_gf rfl rfl ?_
  refine WO_gf rfl rfl ?_
  refine WO_pick (v := .s (.bool _)) rfl rfl ?_
  refine WO_mv (v := .s (.bool _)) rfl ?_
  refine WO_gf rfl rfl ?_
  refine WO_gf rfl rfl ?_
  refine WO_gf rfl rfl ?_
  refine WO_pick (v := .s (.bool _)) rfl rfl ?_
  refine WO_mv (v := .s (.bool _)) rfl ?_
  refine WO_gf rfl rfl ?_
  refine WO_gf rfl rfl ?_
  refine WO_gf rfl rfl ?_
  refine WO_pick (v := .s (.bool _)) rfl rfl ?_
  refine WO_mv (v := .s (.bool _)) rfl ?_
  refine WO_nil ?_
  refine WP_ret ?_
  refine ⟨_, RS_tmp (v := .s (.bool _)) rfl (RS_nil), ?_⟩
  exact congrArg (fun b => V.s (S.bool b)) (right_is (b := castlesM P) (c := overOK P) hbp (fun _ => rfl) (fun _ _ => rfl) (by clear hbp hP; simp [*]))
end Go.Proofs.Ytjldefmcnppdoaa
/- The walks of the chapter board: found, kings, put, turned by the document. -/
namespace Go.Am
open Go
section
variable {A : AP} {N : Nat} {f : FE} {n : Nat} {L : HA} {K : KN} {l : List I} {d : Nat}
theorem WO_slA0 {len z : Nat} {x : O} {b o z' : Nat} (hx : x.fv N f = .ptr b o z') (hz : Nat.ble (len * z) z' = true) (h0 : 0 < len) (k : WO A N l (upd f d (.sl b o len z (.ex len))) n L K) : WO A N (⟨some d, none, .p (.slA len z x none none)⟩ :: l) f n L K :=
  WO_p (v := .sl b o len z (.ex len)) (by
    simp only [pureV, ev_E, hx, bound_E, fvb, if_pos (Nat.le_of_ble_eq_true hz)]
    rw [if_pos (by omega), if_pos (by omega)]
    simp) k
end
end Go.Am

namespace Go.Proofs.Ytjldefmcnppdoaa
open Go Go.Am
set_option linter.unusedSimpArgs false
set_option linter.unusedVariables false
/-- The first of n that are so; all of them, listed. -/
def IsFst (S1 : Nat → Bool) (n : Nat) (x : Int) : Prop := (x = -1 ∧ ∀ j : Nat, j < n → S1 j = false) ∨ (∃ i : Nat, i < n ∧ x = i ∧ S1 i = true ∧ ∀ j : Nat, j < i → S1 j = false)
theorem IsFst.uniq {S1 : Nat → Bool} {n : Nat} {x y : Int} (h : IsFst S1 n x) (k : IsFst S1 n y) : x = y := by
  rcases h with ⟨rfl, h⟩ | ⟨i, hi, rfl, h1, h2⟩
  · rcases k with ⟨rfl, _⟩ | ⟨j, hj, rfl, k1, _⟩
    · rfl
    · rw [h j hj] at k1; cases k1
  · rcases k with ⟨rfl, k⟩ | ⟨j, hj, rfl, k1, k2⟩
    · rw [k i hi] at h1; cases h1
    · by_cases a : i < j
      · rw [k2 i a] at h1; cases h1
      · by_cases b : j < i
        · rw [h2 j b] at k1; cases k1
        · have : i = j := by omega
          rw [this]
def lstM (S1 : Nat → Bool) : Nat → Nat × (Nat → Int)
  | 0 => (0, fun _ => 0)
  | i + 1 => if S1 i = true then ((lstM S1 i).1 + 1, fun j => if j < (lstM S1 i).1 then (lstM S1 i).2 j else i) else lstM S1 i
theorem lstM_le (S1 : Nat → Bool) : ∀ n, (lstM S1 n).1 ≤ n
  | 0 => Nat.le_refl _
  | i + 1 => by
    have := lstM_le S1 i
    unfold lstM
    split
    · show _ + 1 ≤ _; omega
    · omega
theorem lst_no {S1 : Nat → Bool} {i : Nat} (h : S1 i = false) : lstM S1 (i + 1) = lstM S1 i := by rw [lstM, if_neg (by rw [h]; decide)]
theorem lst_yes {S1 : Nat → Bool} {i : Nat} (h : S1 i = true) : lstM S1 (i + 1) = ((lstM S1 i).1 + 1, fun j => if j < (lstM S1 i).1 then (lstM S1 i).2 j else i) := by rw [lstM, if_pos h]
theorem lst_first (S1 : Nat → Bool) : ∀ n : Nat, ((lstM S1 n).1 = 0 ∧ ∀ j : Nat, j < n → S1 j = false) ∨ (0 < (lstM S1 n).1 ∧ ∃ i : Nat, i < n ∧ (lstM S1 n).2 0 = i ∧ S1 i = true ∧ ∀ j : Nat, j < i → S1 j = false)
  | 0 => .inl ⟨rfl, fun j h => by omega⟩
  | n + 1 => by
    cases hs : S1 n with
    | false =>
      rw [lst_no hs]
      rcases lst_first S1 n with ⟨h0, h⟩ | ⟨h0, i, hi, e, h1, h2⟩
      · exact .inl ⟨h0, fun j hj => by
          by_cases q : j = n
          · subst q; exact hs
          · exact h j (by omega)⟩
      · exact .inr ⟨h0, i, by omega, e, h1, h2⟩
    | true =>
      rw [lst_yes hs]
      rcases lst_first S1 n with ⟨h0, h⟩ | ⟨h0, i, hi, e, h1, h2⟩
      · refine .inr ⟨by show 0 < _ + 1; omega, n, by omega, ?_, hs, h⟩
        show (if 0 < (lstM S1 n).1 then _ else _) = _
        rw [if_neg (by omega)]
      · refine .inr ⟨by show 0 < _ + 1; omega, i, by omega, ?_, h1, h2⟩
        show (if 0 < (lstM S1 n).1 then _ else _) = _
        rw [if_pos h0]; exact e
theorem gw_at {G R : Nat → Int} {c : Nat} {j : Nat} (h : j < c + 1) : (bif Nat.blt j (c * 1) then G (0 + j) else R (0 + (j - c * 1))) = if j < c then G j else R 0 := by
  by_cases k : j < c
  · rw [show Nat.blt j (c * 1) = true from Nat.ble_eq_true_of_le (by omega), if_pos k, Nat.zero_add]; rfl
  · have : Nat.blt j (c * 1) = false := by
      cases hb : Nat.blt j (c * 1) with
      | false => rfl
      | true => have := Nat.le_of_ble_eq_true hb; omega
    rw [this, if_neg k, show 0 + (j - c * 1) = 0 by omega]; rfl
theorem gw_lst {F R G : Nat → Int} {c : Nat} {t : Int} (h : ∀ j : Nat, j < c → F j = G j) (hr : R 0 = t) : ∀ j : Nat, j < c + 1 → (bif Nat.blt j (c * 1) then F (0 + j) else R (0 + (j - c * 1))) = if j < c then G j else t := by
  intro j hj
  rw [gw_at hj]
  by_cases k : j < c
  · rw [if_pos k, if_pos k]; exact h j k
  · rw [if_neg k, if_neg k]; exact hr
/-- A piece stands on a square of a position. -/
def stB (P X : Nat → Int) (s : Nat) : Bool := standM P s (X 0) (X 1)
theorem eq_stB {P X : Nat → Int} {i : Nat} : eqI 2 (dp P (sqI i)) X = stB P X i := by
  rw [eq_two]; rfl
theorem eq_stB2 {P X : Nat → Int} {i : Nat} : eqI 2 X (dp P (sqI i)) = stB P X i := by
  rw [eq_two, Bool.eq_iff_iff]
  show _ ↔ decide (P (sqI i) = X 0 ∧ P (sqI i + 1) = X 1) = true
  rw [decide_eq_true_eq, decide_eq_true_eq]
  constructor
  · rintro ⟨a, b⟩; exact ⟨a.symm, b.symm⟩
  · rintro ⟨a, b⟩; exact ⟨a.symm, b.symm⟩
theorem eqI_two {X Y X' Y' : Nat → Int} (h0 : X 0 = X' 0) (h1 : X 1 = X' 1) (k0 : Y 0 = Y' 0) (k1 : Y 1 = Y' 1) : eqI 2 X Y = eqI 2 X' Y' := by
  rw [eq_two, eq_two, h0, h1, k0, k1]

theorem Find_walk (P X : Nat → Int) : WR AM 58 [.agg 133 (ia P), .agg 2 (ia X)] [] (fun v _ L => ((lstM (stB P X) 64).1 = 0 ∧ v = .snil) ∨ (0 < (lstM (stB P X) 64).1 ∧ ∃ b q F, v = .sl b 0 (lstM (stB P X) 64).1 1 .whole ∧ (∀ j : Nat, j < (lstM (stB P X) 64).1 → F j = (lstM (stB P X) 64).2 j) ∧ (b, Blk.sc .grow q (ia F)) ∈ L)) := by
 refine WR_fn (a := a58) rfl rfl (entryF _) (entry_E (Nat.le_of_ble_eq_true rfl)) (m := 0) rfl ?_
 refine WP_seq ?_
 refine WP_ops ?_
 refine WO_boxA rfl ?_
 refine WO_boxA rfl ?_
 refine WO_mv rfl ?_
 refine WO_nil ?_
 refine WP_seq ?_
 refine WP_seq ?_
 refine WP_ops ?_
 refine WO_fa (o' := 0) rfl rfl rfl ?_
 first | refine WO_ldA0 rfl rfl (.tail _ (.head _)) ?_ | refine WO_ldAI rfl rfl (.tail _ (.head _)) ?_
 refine WO_mv rfl ?_
 refine WO_nil ?_
 refine WP_block ?_
 refine WP_sub (L' := [_, _]) (.cons_cons _ (.cons_cons _ .slnil)) ?_
 refine WP_loop (fun m f nn L => ∃ (i : Nat), (i ≤ 64) ∧ (m = 64 - i) ∧ (f 8 = .agg 128 (ia P)) ∧ (f 2 = .ptr 0 0 133) ∧ (f 3 = .ptr 1 0 2) ∧ (f 9 = .s (.int .i64 i)) ∧ ((((lstM (stB P X) i).1 = 0) ∧ (f 4 = .snil) ∧ (L = [(1, .sc .var 2 (ia X)), (0, .sc .var 133 (ia P))])) ∨ (∃ (b cnt q : Nat) (F : Nat → Int), (cnt = (lstM (stB P X) i).1 ∧ 0 < cnt) ∧ (∀ j : Nat, j < cnt → F j = (lstM (stB P X) i).2 j) ∧ (f 4 = .sl b 0 cnt 1 .whole) ∧ (L = (b, Blk.sc .grow q (ia F)) :: [(1, .sc .var 2 (ia X)), (0, .sc .var 133 (ia P))])))) (fun m f nb L hI => ?_) (64) ⟨0, by omega, rfl, rfl, rfl, rfl, rfl, .inl ⟨rfl, rfl, rfl⟩⟩
 obtain ⟨i, hi, hm, k8, k2, k3, k9, hI2⟩ := hI
 rcases hI2 with ⟨hc, kS, rfl⟩ | ⟨b, cnt, q, F, hc, hF, kS, rfl⟩
 ·skip
  refine WP_know (d := 8) (v := .agg 128 (ia P)) k8 ?_
  refine WP_know (d := 2) (v := .ptr 0 0 133) k2 ?_
  refine WP_know (d := 3) (v := .ptr 1 0 2) k3 ?_
  refine WP_know (d := 9) (v := .s (.int .i64 i)) k9 ?_
  refine WP_know (d := 4) (v := .snil) kS ?_
  have hle := lstM_le (stB P X) i
  refine WP_seq ?_
  refine WP_ops ?_
  refine WO_bin (r := .bool _) rfl rfl rfl ?_
  refine WO_nil ?_
  refine WP_seq ?_
  refine WP_cond rfl (fun h1 => ?_) (fun h1 => ?_)
  ·try simp only [NM] at h1
   try replace h1 := ((eqI_two (X := X) (X' := X) (Y := ovA (fun _ => 0) 0 2 (dp P (sqI i))) (Y' := dp P (sqI i)) rfl rfl rfl rfl).trans eq_stB2).symm.trans h1
   refine WP_skip ?_
   refine WP_seq ?_
   refine WP_block ?_
   refine WP_seq ?_
   refine WP_ops ?_
   refine WO_mv (v := .s (.int _ _)) rfl ?_
   refine WO_ixA rfl rfl rfl (by omega) ?_
   rw [dp_ix]
   refine WO_allocI ?_
   refine WO_mv (v := .s (.int _ _)) rfl ?_
   refine WO_stA rfl rfl rfl rfl .here ?_
   refine WO_nil ?_
   refine WP_seq ?_
   refine WP_ops ?_
   first | refine WO_ldA0 rfl rfl (.tail _ (.head _)) ?_ | refine WO_ldAI rfl rfl (.tail _ (.head _)) ?_
   first | refine WO_ldA0 rfl rfl (.head _) ?_ | refine WO_ldAI rfl rfl (.head _) ?_
   refine WO_eqa rfl rfl ?_
   refine WO_nil ?_
   refine WP_cond rfl (fun h2 => ?_) (fun h2 => ?_)
   ·try simp only [NM] at h2
    try replace h2 := ((eqI_two (X := X) (X' := X) (Y := ovA (fun _ => 0) 0 2 (dp P (sqI i))) (Y' := dp P (sqI i)) rfl rfl rfl rfl).trans eq_stB2).symm.trans h2
    refine WP_ops ?_
    refine WO_mv (v := .snil) rfl ?_
    refine WO_mv (v := .s (.int _ _)) rfl ?_
    refine WO_mkslS rfl (.one rfl .nil) ?_
    refine WO_appendNil rfl rfl (.head _) (by decide) rfl ?_
    refine WO_mv (v := .sl _ _ _ _ _) rfl ?_
    refine WO_nil ?_
    refine WP_ops ?_
    refine WO_add rfl rfl (by omega) ?_
    refine WO_mv (v := .s (.int _ _)) rfl ?_
    refine WO_nil ?_
    have hr := lst_yes (S1 := stB P X) (i := i) (by assumption)
    refine ⟨64 - (i + 1), _, by omega, (.cons_cons _ (.cons _ (.cons _ (.cons_cons _ (.cons_cons _ .slnil))))), i + 1, by omega, rfl, rfl, rfl, rfl, rfl, .inr ⟨_, 1, _, _, ⟨by rw [hr]; show 1 = _ + 1; omega, by omega⟩, ?_, rfl, rfl⟩⟩
    intro j hj
    obtain rfl : j = 0 := by omega
    rw [hr]
    show _ = if 0 < (lstM (stB P X) i).1 then _ else _
    rw [if_neg (by omega)]; rfl
   ·try simp only [NM] at h2
    try replace h2 := ((eqI_two (X := X) (X' := X) (Y := ovA (fun _ => 0) 0 2 (dp P (sqI i))) (Y' := dp P (sqI i)) rfl rfl rfl rfl).trans eq_stB2).symm.trans h2
    refine WP_skip ?_
    refine WP_ops ?_
    refine WO_add rfl rfl (by omega) ?_
    refine WO_mv (v := .s (.int _ _)) rfl ?_
    refine WO_nil ?_
    have hr := lst_no (S1 := stB P X) (i := i) (by assumption)
    refine ⟨64 - (i + 1), _, by omega, (.cons _ (.cons_cons _ (.cons_cons _ .slnil))), i + 1, by omega, rfl, rfl, rfl, rfl, rfl, .inl ⟨by rw [hr]; exact hc, rfl, rfl⟩⟩
  ·try simp only [NM] at h1
   try replace h1 := ((eqI_two (X := X) (X' := X) (Y := ovA (fun _ => 0) 0 2 (dp P (sqI i))) (Y' := dp P (sqI i)) rfl rfl rfl rfl).trans eq_stB2).symm.trans h1
   refine WP_exit ?_
   refine xhere ?_
   refine WP_seq ?_
   refine WP_ops ?_
   refine WO_mv (v := .snil) rfl ?_
   refine WO_mv (v := .snil) rfl ?_
   refine WO_nil ?_
   refine WP_ret ?_
   refine ⟨_, RS_tmp (v := .snil) rfl (RS_nil), ?_⟩
   obtain rfl : i = 64 := by omega
   exact .inl ⟨hc, rfl⟩
 ·skip
  refine WP_know (d := 8) (v := .agg 128 (ia P)) k8 ?_
  refine WP_know (d := 2) (v := .ptr 0 0 133) k2 ?_
  refine WP_know (d := 3) (v := .ptr 1 0 2) k3 ?_
  refine WP_know (d := 9) (v := .s (.int .i64 i)) k9 ?_
  refine WP_know (d := 4) (v := .sl b 0 cnt 1 .whole) kS ?_
  have hle := lstM_le (stB P X) i
  refine WP_seq ?_
  refine WP_ops ?_
  refine WO_bin (r := .bool _) rfl rfl rfl ?_
  refine WO_nil ?_
  refine WP_seq ?_
  refine WP_cond rfl (fun h3 => ?_) (fun h3 => ?_)
  ·try simp only [NM] at h3
   try replace h3 := ((eqI_two (X := X) (X' := X) (Y := ovA (fun _ => 0) 0 2 (dp P (sqI i))) (Y' := dp P (sqI i)) rfl rfl rfl rfl).trans eq_stB2).symm.trans h3
   refine WP_skip ?_
   refine WP_seq ?_
   refine WP_block ?_
   refine WP_seq ?_
   refine WP_ops ?_
   refine WO_mv (v := .s (.int _ _)) rfl ?_
   refine WO_ixA rfl rfl rfl (by omega) ?_
   rw [dp_ix]
   refine WO_allocI ?_
   refine WO_mv (v := .s (.int _ _)) rfl ?_
   refine WO_stA rfl rfl rfl rfl .here ?_
   refine WO_nil ?_
   refine WP_seq ?_
   refine WP_ops ?_
   first | refine WO_ldA0 rfl rfl (.tail _ (.tail _ (.head _))) ?_ | refine WO_ldAI rfl rfl (.tail _ (.tail _ (.head _))) ?_
   first | refine WO_ldA0 rfl rfl (.head _) ?_ | refine WO_ldAI rfl rfl (.head _) ?_
   refine WO_eqa rfl rfl ?_
   refine WO_nil ?_
   refine WP_cond rfl (fun h4 => ?_) (fun h4 => ?_)
   ·try simp only [NM] at h4
    try replace h4 := ((eqI_two (X := X) (X' := X) (Y := ovA (fun _ => 0) 0 2 (dp P (sqI i))) (Y' := dp P (sqI i)) rfl rfl rfl rfl).trans eq_stB2).symm.trans h4
    refine WP_ops ?_
    refine WO_mv (v := .sl _ _ _ _ _) rfl ?_
    refine WO_mv (v := .s (.int _ _)) rfl ?_
    refine WO_mkslS rfl (.one rfl .nil) ?_
    refine WO_appendW rfl rfl (.head _) (.there (.there .here)) (by simp [roomy]; omega) ?_
    refine WO_mv (v := .sl _ _ _ _ _) rfl ?_
    refine WO_nil ?_
    refine WP_ops ?_
    refine WO_add rfl rfl (by omega) ?_
    refine WO_mv (v := .s (.int _ _)) rfl ?_
    refine WO_nil ?_
    have hr := lst_yes (S1 := stB P X) (i := i) (by assumption)
    obtain ⟨hc1, hc0⟩ := hc
    have hle := lstM_le (stB P X) i
    refine ⟨64 - (i + 1), _, by omega, (.cons_cons _ (.cons _ (.cons _ (.cons _ (.cons_cons _ (.cons_cons _ .slnil)))))), i + 1, by omega, rfl, rfl, rfl, rfl, rfl, .inr ⟨_, cnt + 1, _, _, ⟨by rw [hr, hc1], by omega⟩, ?_, rfl, rfl⟩⟩
    rw [hr]
    rw [← hc1]
    exact gw_lst hF rfl
   ·try simp only [NM] at h4
    try replace h4 := ((eqI_two (X := X) (X' := X) (Y := ovA (fun _ => 0) 0 2 (dp P (sqI i))) (Y' := dp P (sqI i)) rfl rfl rfl rfl).trans eq_stB2).symm.trans h4
    refine WP_skip ?_
    refine WP_ops ?_
    refine WO_add rfl rfl (by omega) ?_
    refine WO_mv (v := .s (.int _ _)) rfl ?_
    refine WO_nil ?_
    have hr := lst_no (S1 := stB P X) (i := i) (by assumption)
    refine ⟨64 - (i + 1), _, by omega, (.cons _ (.cons_cons _ (.cons_cons _ (.cons_cons _ .slnil)))), i + 1, by omega, rfl, rfl, rfl, rfl, rfl, .inr ⟨_, cnt, _, _, by rw [hr]; exact hc, by rw [hr]; exact hF, rfl, rfl⟩⟩
  ·try simp only [NM] at h3
   try replace h3 := ((eqI_two (X := X) (X' := X) (Y := ovA (fun _ => 0) 0 2 (dp P (sqI i))) (Y' := dp P (sqI i)) rfl rfl rfl rfl).trans eq_stB2).symm.trans h3
   refine WP_exit ?_
   refine xhere ?_
   refine WP_seq ?_
   refine WP_ops ?_
   refine WO_mv (v := .sl _ _ _ _ _) rfl ?_
   refine WO_mv (v := .sl _ _ _ _ _) rfl ?_
   refine WO_nil ?_
   refine WP_ret ?_
   refine ⟨_, RS_tmp (v := .sl _ _ _ _ _) rfl (RS_nil), ?_⟩
   obtain rfl : i = 64 := by omega
   obtain ⟨rfl, hc0⟩ := hc
   exact .inr ⟨hc0, _, _, F, rfl, hF, (.head _)⟩
theorem Find_ex (P X : Nat → Int) : ((lstM (stB P X) 64).1 = 0 ∧ RF AM 58 [.agg 133 (ia P), .agg 2 (ia X)] .snil) ∨ (0 < (lstM (stB P X) 64).1 ∧ ∃ q F, (∀ j : Nat, j < (lstM (stB P X) 64).1 → F j = (lstM (stB P X) 64).2 j) ∧ RN AM 58 [.agg 133 (ia P), .agg 2 (ia X)] [] (fun b => .sl b 0 (lstM (stB P X) 64).1 1 .whole) (.sc .grow q (ia F)) []) := by
  obtain ⟨v, σ', n', L', h1, h2, h3⟩ := Find_walk P X
  rcases h3 with ⟨h0, rfl⟩ | ⟨h0, b, q, F, rfl, hF, hm⟩
  · exact .inl ⟨h0, σ', h1⟩
  · exact .inr ⟨h0, q, F, hF, b, σ', h1, Nat.zero_le _, (h2.2.mem hm).2, trivial⟩

theorem dFind_walk (P X : Nat → Int) : WR AM 74 [.agg 133 (ia P), .agg 2 (ia X)] [] (fun v _ L => ((lstM (stB P X) 64).1 = 0 ∧ v = .snil) ∨ (0 < (lstM (stB P X) 64).1 ∧ ∃ b q F, v = .sl b 0 (lstM (stB P X) 64).1 1 .whole ∧ (∀ j : Nat, j < (lstM (stB P X) 64).1 → F j = (lstM (stB P X) 64).2 j) ∧ (b, Blk.sc .grow q (ia F)) ∈ L)) := by
 refine WR_fn (a := a74) rfl rfl (entryF _) (entry_E (Nat.le_of_ble_eq_true rfl)) (m := 0) rfl ?_
 refine WP_seq ?_
 refine WP_ops ?_
 refine WO_boxA rfl ?_
 refine WO_boxA rfl ?_
 refine WO_mv rfl ?_
 refine WO_nil ?_
 refine WP_seq ?_
 refine WP_ops ?_
 refine WO_mv rfl ?_
 refine WO_nil ?_
 refine WP_seq ?_
 refine WP_seq ?_
 refine WP_ops ?_
 refine WO_mv rfl ?_
 refine WO_nil ?_
 refine WP_block ?_
 refine WP_sub (L' := [_, _]) (.cons_cons _ (.cons_cons _ .slnil)) ?_
 refine WP_loop (fun m f nn L => ∃ (i : Nat), (i ≤ 64) ∧ (m = 64 - i) ∧ (f 2 = .ptr 0 0 133) ∧ (f 3 = .ptr 1 0 2) ∧ (f 6 = .s (.int .i64 i)) ∧ ((((lstM (stB P X) i).1 = 0) ∧ (f 5 = .snil) ∧ (L = [(1, .sc .var 2 (ia X)), (0, .sc .var 133 (ia P))])) ∨ (∃ (b cnt q : Nat) (F : Nat → Int), (cnt = (lstM (stB P X) i).1 ∧ 0 < cnt) ∧ (∀ j : Nat, j < cnt → F j = (lstM (stB P X) i).2 j) ∧ (f 5 = .sl b 0 cnt 1 .whole) ∧ (L = (b, Blk.sc .grow q (ia F)) :: [(1, .sc .var 2 (ia X)), (0, .sc .var 133 (ia P))])))) (fun m f nb L hI => ?_) (64) ⟨0, by omega, rfl, rfl, rfl, rfl, .inl ⟨rfl, rfl, rfl⟩⟩
 obtain ⟨i, hi, hm, k2, k3, k6, hI2⟩ := hI
 rcases hI2 with ⟨hc, kS, rfl⟩ | ⟨b, cnt, q, F, hc, hF, kS, rfl⟩
 ·skip
  refine WP_know (d := 2) (v := .ptr 0 0 133) k2 ?_
  refine WP_know (d := 3) (v := .ptr 1 0 2) k3 ?_
  refine WP_know (d := 6) (v := .s (.int .i64 i)) k6 ?_
  refine WP_know (d := 5) (v := .snil) kS ?_
  have hle := lstM_le (stB P X) i
  refine WP_seq ?_
  refine WP_seq ?_
  refine WP_ops ?_
  refine WO_mv (v := .s (.int _ _)) rfl ?_
  refine WO_bin (r := .bool _) rfl rfl rfl ?_
  refine WO_nil ?_
  refine WP_cond rfl (fun h5 => ?_) (fun h5 => ?_)
  ·try simp only [NM] at h5
   try replace h5 := eq_stB.symm.trans h5
   refine WP_skip ?_
   refine WP_seq ?_
   refine WP_block ?_
   refine WP_seq ?_
   refine WP_ops ?_
   refine WO_mv (v := .s (.int _ _)) rfl ?_
   refine WO_fa (o' := 0) rfl rfl rfl ?_
   refine WO_ixa rfl rfl rfl (by omega) ?_
   first | refine WO_ldA0 rfl rfl (.tail _ (.head _)) ?_ | refine WO_ldAI rfl rfl (.tail _ (.head _)) ?_
   first | refine WO_ldA0 rfl rfl (.head _) ?_ | refine WO_ldAI rfl rfl (.head _) ?_
   refine WO_eqa rfl rfl ?_
   refine WO_nil ?_
   refine WP_cond rfl (fun h6 => ?_) (fun h6 => ?_)
   ·try simp only [NM] at h6
    try replace h6 := eq_stB.symm.trans h6
    refine WP_ops ?_
    refine WO_mv (v := .snil) rfl ?_
    refine WO_mv (v := .s (.int _ _)) rfl ?_
    refine WO_mkslS rfl (.one rfl .nil) ?_
    refine WO_appendNil rfl rfl (.head _) (by decide) rfl ?_
    refine WO_mv (v := .sl _ _ _ _ _) rfl ?_
    refine WO_nil ?_
    refine WP_ops ?_
    refine WO_mv (v := .s (.int _ _)) rfl ?_
    refine WO_add rfl rfl (by omega) ?_
    refine WO_mv (v := .s (.int _ _)) rfl ?_
    refine WO_nil ?_
    have hr := lst_yes (S1 := stB P X) (i := i) (by assumption)
    refine ⟨64 - (i + 1), _, by omega, (.cons_cons _ (.cons _ (.cons_cons _ (.cons_cons _ .slnil)))), i + 1, by omega, rfl, rfl, rfl, rfl, .inr ⟨_, 1, _, _, ⟨by rw [hr]; show 1 = _ + 1; omega, by omega⟩, ?_, rfl, rfl⟩⟩
    intro j hj
    obtain rfl : j = 0 := by omega
    rw [hr]
    show _ = if 0 < (lstM (stB P X) i).1 then _ else _
    rw [if_neg (by omega)]; rfl
   ·try simp only [NM] at h6
    try replace h6 := eq_stB.symm.trans h6
    refine WP_skip ?_
    refine WP_ops ?_
    refine WO_mv (v := .s (.int _ _)) rfl ?_
    refine WO_add rfl rfl (by omega) ?_
    refine WO_mv (v := .s (.int _ _)) rfl ?_
    refine WO_nil ?_
    have hr := lst_no (S1 := stB P X) (i := i) (by assumption)
    refine ⟨64 - (i + 1), _, by omega, (.cons_cons _ (.cons_cons _ .slnil)), i + 1, by omega, rfl, rfl, rfl, rfl, .inl ⟨by rw [hr]; exact hc, rfl, rfl⟩⟩
  ·try simp only [NM] at h5
   try replace h5 := eq_stB.symm.trans h5
   refine WP_exit ?_
   refine xhere ?_
   refine WP_seq ?_
   refine WP_ops ?_
   refine WO_mv (v := .snil) rfl ?_
   refine WO_mv (v := .snil) rfl ?_
   refine WO_nil ?_
   refine WP_ret ?_
   refine ⟨_, RS_tmp (v := .snil) rfl (RS_nil), ?_⟩
   obtain rfl : i = 64 := by omega
   exact .inl ⟨hc, rfl⟩
 ·skip
  refine WP_know (d := 2) (v := .ptr 0 0 133) k2 ?_
  refine WP_know (d := 3) (v := .ptr 1 0 2) k3 ?_
  refine WP_know (d := 6) (v := .s (.int .i64 i)) k6 ?_
  refine WP_know (d := 5) (v := .sl b 0 cnt 1 .whole) kS ?_
  have hle := lstM_le (stB P X) i
  refine WP_seq ?_
  refine WP_seq ?_
  refine WP_ops ?_
  refine WO_mv (v := .s (.int _ _)) rfl ?_
  refine WO_bin (r := .bool _) rfl rfl rfl ?_
  refine WO_nil ?_
  refine WP_cond rfl (fun h7 => ?_) (fun h7 => ?_)
  ·try simp only [NM] at h7
   try replace h7 := eq_stB.symm.trans h7
   refine WP_skip ?_
   refine WP_seq ?_
   refine WP_block ?_
   refine WP_seq ?_
   refine WP_ops ?_
   refine WO_mv (v := .s (.int _ _)) rfl ?_
   refine WO_fa (o' := 0) rfl rfl rfl ?_
   refine WO_ixa rfl rfl rfl (by omega) ?_
   first | refine WO_ldA0 rfl rfl (.tail _ (.tail _ (.head _))) ?_ | refine WO_ldAI rfl rfl (.tail _ (.tail _ (.head _))) ?_
   first | refine WO_ldA0 rfl rfl (.tail _ (.head _)) ?_ | refine WO_ldAI rfl rfl (.tail _ (.head _)) ?_
   refine WO_eqa rfl rfl ?_
   refine WO_nil ?_
   refine WP_cond rfl (fun h8 => ?_) (fun h8 => ?_)
   ·try simp only [NM] at h8
    try replace h8 := eq_stB.symm.trans h8
    refine WP_ops ?_
    refine WO_mv (v := .sl _ _ _ _ _) rfl ?_
    refine WO_mv (v := .s (.int _ _)) rfl ?_
    refine WO_mkslS rfl (.one rfl .nil) ?_
    refine WO_appendW rfl rfl (.head _) (.there .here) (by simp [roomy]; omega) ?_
    refine WO_mv (v := .sl _ _ _ _ _) rfl ?_
    refine WO_nil ?_
    refine WP_ops ?_
    refine WO_mv (v := .s (.int _ _)) rfl ?_
    refine WO_add rfl rfl (by omega) ?_
    refine WO_mv (v := .s (.int _ _)) rfl ?_
    refine WO_nil ?_
    have hr := lst_yes (S1 := stB P X) (i := i) (by assumption)
    obtain ⟨hc1, hc0⟩ := hc
    have hle := lstM_le (stB P X) i
    refine ⟨64 - (i + 1), _, by omega, (.cons_cons _ (.cons _ (.cons _ (.cons_cons _ (.cons_cons _ .slnil))))), i + 1, by omega, rfl, rfl, rfl, rfl, .inr ⟨_, cnt + 1, _, _, ⟨by rw [hr, hc1], by omega⟩, ?_, rfl, rfl⟩⟩
    rw [hr]
    rw [← hc1]
    exact gw_lst hF rfl
   ·try simp only [NM] at h8
    try replace h8 := eq_stB.symm.trans h8
    refine WP_skip ?_
    refine WP_ops ?_
    refine WO_mv (v := .s (.int _ _)) rfl ?_
    refine WO_add rfl rfl (by omega) ?_
    refine WO_mv (v := .s (.int _ _)) rfl ?_
    refine WO_nil ?_
    have hr := lst_no (S1 := stB P X) (i := i) (by assumption)
    refine ⟨64 - (i + 1), _, by omega, (.cons_cons _ (.cons_cons _ (.cons_cons _ .slnil))), i + 1, by omega, rfl, rfl, rfl, rfl, .inr ⟨_, cnt, _, _, by rw [hr]; exact hc, by rw [hr]; exact hF, rfl, rfl⟩⟩
  ·try simp only [NM] at h7
   try replace h7 := eq_stB.symm.trans h7
   refine WP_exit ?_
   refine xhere ?_
   refine WP_seq ?_
   refine WP_ops ?_
   refine WO_mv (v := .sl _ _ _ _ _) rfl ?_
   refine WO_mv (v := .sl _ _ _ _ _) rfl ?_
   refine WO_nil ?_
   refine WP_ret ?_
   refine ⟨_, RS_tmp (v := .sl _ _ _ _ _) rfl (RS_nil), ?_⟩
   obtain rfl : i = 64 := by omega
   obtain ⟨rfl, hc0⟩ := hc
   exact .inr ⟨hc0, _, _, F, rfl, hF, (.head _)⟩
theorem dFind_ex (P X : Nat → Int) : ((lstM (stB P X) 64).1 = 0 ∧ RF AM 74 [.agg 133 (ia P), .agg 2 (ia X)] .snil) ∨ (0 < (lstM (stB P X) 64).1 ∧ ∃ q F, (∀ j : Nat, j < (lstM (stB P X) 64).1 → F j = (lstM (stB P X) 64).2 j) ∧ RN AM 74 [.agg 133 (ia P), .agg 2 (ia X)] [] (fun b => .sl b 0 (lstM (stB P X) 64).1 1 .whole) (.sc .grow q (ia F)) []) := by
  obtain ⟨v, σ', n', L', h1, h2, h3⟩ := dFind_walk P X
  rcases h3 with ⟨h0, rfl⟩ | ⟨h0, b, q, F, rfl, hF, hm⟩
  · exact .inl ⟨h0, σ', h1⟩
  · exact .inr ⟨h0, q, F, hF, b, σ', h1, Nat.zero_le _, (h2.2.mem hm).2, trivial⟩

theorem Index_run {md : Md} {q : Nat} {c : Cp} (P X : Nat → Int) : WR AM 94 [.sl 0 0 64 2 c, .agg 2 (ia X)] [.sc md q (ia P)] (fun v _ L => (∃ x, v = .s (.int .i64 x) ∧ IsFst (stB P X) 64 x) ∧ (0, Blk.sc md q (ia P)) ∈ L) := by
 refine WR_fn (a := a94) rfl rfl (entryF _) (entry_E (Nat.le_of_ble_eq_true rfl)) (m := 1) rfl ?_
 refine WP_seq ?_
 refine WP_ops ?_
 refine WO_boxA rfl ?_
 refine WO_mv rfl ?_
 refine WO_nil ?_
 refine WP_seq ?_
 refine WP_seq ?_
 refine WP_ops ?_
 refine WO_mv (v := .sl _ _ _ _ _) rfl ?_
 refine WO_len rfl ?_
 refine WO_mv rfl ?_
 refine WO_nil ?_
 refine WP_block ?_
 refine WP_sub (L' := [_, _]) (.cons_cons _ (.cons_cons _ .slnil)) ?_
 refine WP_loop (fun m f _ L => ∃ (i : Nat), (i ≤ 64) ∧ (m = 64 - i) ∧ (∀ j : Nat, j < i → stB P X j = false) ∧ (f 0 = .sl 0 0 64 2 c) ∧ (f 3 = .ptr 1 0 2) ∧ (f 7 = .s (.int .i64 64)) ∧ (f 8 = .s (.int .i64 i)) ∧ (L = [(1, .sc .var 2 (ia X)), (0, .sc md q (ia P))])) (fun m f nb L hI => ?_) (64) ⟨0, by omega, rfl, fun j h => by omega, rfl, rfl, rfl, rfl, rfl⟩
 obtain ⟨i, hi, hm, hn, k0, k3, k7, k8, rfl⟩ := hI
 refine WP_know (d := 0) (v := .sl 0 0 64 2 c) k0 ?_
 refine WP_know (d := 3) (v := .ptr 1 0 2) k3 ?_
 refine WP_know (d := 7) (v := .s (.int .i64 64)) k7 ?_
 refine WP_know (d := 8) (v := .s (.int .i64 i)) k8 ?_
 refine WP_seq ?_
 refine WP_ops ?_
 refine WO_bin (r := .bool _) rfl rfl rfl ?_
 refine WO_nil ?_
 refine WP_seq ?_
 refine WP_cond rfl (fun h9 => ?_) (fun h9 => ?_)
 ·try simp only [NM] at h9
  try replace h9 := eq_stB2.symm.trans h9
  refine WP_skip ?_
  refine WP_seq ?_
  refine WP_block ?_
  refine WP_seq ?_
  refine WP_ops ?_
  refine WO_mv (v := .s (.int _ _)) rfl ?_
  refine WO_mv (v := .s (.int _ _)) rfl ?_
  refine WO_nil ?_
  refine WP_seq ?_
  refine WP_ops ?_
  first | refine WO_ldA0 rfl rfl (.head _) ?_ | refine WO_ldAI rfl rfl (.head _) ?_
  refine WO_mv (v := .sl _ _ _ _ _) rfl ?_
  refine WO_mv (v := .s (.int _ _)) rfl ?_
  refine WO_ixs rfl rfl (by omega) ?_
  first | refine WO_ldA0 rfl rfl (.tail _ (.head _)) ?_ | refine WO_ldAI rfl rfl (.tail _ (.head _)) ?_
  refine WO_eqa rfl rfl ?_
  refine WO_nil ?_
  refine WP_cond rfl (fun h10 => ?_) (fun h10 => ?_)
  ·try simp only [NM] at h10
   try replace h10 := eq_stB2.symm.trans h10
   refine WP_seq ?_
   refine WP_ops ?_
   refine WO_mv (v := .s (.int _ _)) rfl ?_
   refine WO_mv (v := .s (.int _ _)) rfl ?_
   refine WO_nil ?_
   refine WP_ret ?_
   refine ⟨_, RS_tmp (v := .s (.int _ _)) rfl (RS_nil), ?_⟩
   first | exact ⟨⟨_, rfl, .inr ⟨i, by omega, rfl, by assumption, hn⟩⟩, (.tail _ (.head _))⟩ | exact ⟨⟨_, rfl, .inl ⟨rfl, fun j hj => hn j (by omega)⟩⟩, (.tail _ (.head _))⟩
  ·try simp only [NM] at h10
   try replace h10 := eq_stB2.symm.trans h10
   refine WP_skip ?_
   refine WP_ops ?_
   refine WO_add rfl rfl (by omega) ?_
   refine WO_mv (v := .s (.int _ _)) rfl ?_
   refine WO_nil ?_
   refine ⟨64 - (i + 1), _, by omega, (.cons_cons _ (.cons_cons _ .slnil)), i + 1, by omega, rfl, ?_, rfl, rfl, rfl, rfl, rfl⟩
   intro j hj
   by_cases e : j = i
   · subst e; assumption
   · exact hn j (by omega)
 ·try simp only [NM] at h9
  try replace h9 := eq_stB2.symm.trans h9
  refine WP_exit ?_
  refine xhere ?_
  refine WP_seq ?_
  refine WP_ops ?_
  refine WO_mv rfl ?_
  refine WO_nil ?_
  refine WP_ret ?_
  refine ⟨_, RS_tmp (v := .s (.int _ _)) rfl (RS_nil), ?_⟩
  first | exact ⟨⟨_, rfl, .inr ⟨i, by omega, rfl, by assumption, hn⟩⟩, (.tail _ (.head _))⟩ | exact ⟨⟨_, rfl, .inl ⟨rfl, fun j hj => hn j (by omega)⟩⟩, (.tail _ (.head _))⟩
theorem Index_ex {md : Md} {q : Nat} {c : Cp} (P X : Nat → Int) : ∃ x, IsFst (stB P X) 64 x ∧ RB AM 94 [.sl 0 0 64 2 c, .agg 2 (ia X)] [.sc md q (ia P)] (.s (.int .i64 x)) [.sc md q (ia P)] := by
  obtain ⟨v, σ', n', L', h1, h2, ⟨x, rfl, hx⟩, hm⟩ := Index_run (md := md) (q := q) (c := c) P X
  exact ⟨x, hx, σ', h1, (h2.2.mem hm).2, ⟨_, _, _, rfl⟩, trivial⟩
/-- A king. -/
abbrev kgX (s : Int) : Nat → Int := ov (ov (fun _ => 0) 0 6) 1 s

theorem King_walk (P : Nat → Int) (s : Int) : WR AM 60 [.agg 133 (ia P), .s (.int .i64 s)] [] (fun v _ _ => ∃ x, v = .s (.int .i64 x) ∧ IsFst (stB P (kgX s)) 64 x) := by
 refine WR_fn (a := a60) rfl rfl (entryF _) (entry_E (Nat.le_of_ble_eq_true rfl)) (m := 0) rfl ?_
 refine WP_seq ?_
 refine WP_ops ?_
 refine WO_boxA rfl ?_
 refine WO_mv rfl ?_
 refine WO_nil ?_
 refine WP_seq ?_
 refine WP_ops ?_
 refine WO_fa (o' := 0) rfl rfl rfl ?_
 refine WO_slA0 rfl rfl (by decide) ?_
 refine WO_mv (v := .s (.int _ _)) rfl ?_
 refine WO_buildI rfl (.one rfl (.one rfl .nil)) ?_
 obtain ⟨x, hx, hI⟩ := Index_ex (md := .var) (q := 133) (c := .ex 64) P (kgX s)
 refine WO_call (rs := [0]) (Bs := [_]) rfl (hI) rfl rfl (Nat.le_of_ble_eq_true rfl) (fun _ h => h) rfl ⟨(.head _), ⟨_, _, _, rfl⟩, trivial⟩ rfl rfl rfl (.cons .here .nil) ?_
 refine WO_mv (v := .s (.int _ _)) rfl ?_
 refine WO_nil ?_
 refine WP_ret ?_
 refine ⟨_, RS_tmp (v := .s (.int _ _)) rfl (RS_nil), ?_⟩
 exact ⟨_, rfl, hx⟩
theorem dKing_walk (P : Nat → Int) (s : Int) : WR AM 75 [.agg 133 (ia P), .s (.int .i64 s)] [] (fun v _ _ => ∃ x, v = .s (.int .i64 x) ∧ IsFst (stB P (kgX s)) 64 x) := by
 refine WR_fn (a := a75) rfl rfl (entryF _) (entry_E (Nat.le_of_ble_eq_true rfl)) (m := 0) rfl ?_
 refine WP_seq ?_
 refine WP_ops ?_
 refine WO_boxA rfl ?_
 refine WO_mv rfl ?_
 refine WO_nil ?_
 refine WP_seq ?_
 refine WP_ops ?_
 first | refine WO_ldA0 rfl rfl (.head _) ?_ | refine WO_ldAI rfl rfl (.head _) ?_
 refine WO_mv (v := .s (.int _ _)) rfl ?_
 refine WO_buildI rfl (.one rfl (.one rfl .nil)) ?_
 rcases dFind_ex P (kgX s) with ⟨hc0, hT⟩ | ⟨hc0, q, F, hF, hT⟩
 ·skip
  refine WO_call0 rfl (hT) rfl rfl rfl ?_
  refine WO_mv (v := .snil) rfl ?_
  refine WO_nil ?_
  refine WP_seq ?_
  refine WP_seq ?_
  refine WP_ops ?_
  refine WO_mv (v := .snil) rfl ?_
  refine WO_lenN rfl ?_
  refine WO_bin (r := .bool _) rfl rfl rfl ?_
  refine WO_nil ?_
  refine WP_cond rfl (fun h11 => ?_) (fun h11 => ?_)
  ·try simp only [NM] at h11
   refine WP_seq ?_
   refine WP_ops ?_
   refine WO_mv rfl ?_
   refine WO_nil ?_
   refine WP_ret ?_
   refine ⟨_, RS_tmp (v := .s (.int _ _)) rfl (RS_nil), ?_⟩
   rcases lst_first (stB P (kgX s)) 64 with ⟨h0, h⟩ | ⟨h0, i, hi, e, h1, h2⟩
   · exact ⟨_, rfl, .inl ⟨rfl, h⟩⟩
   · exfalso; omega
  ·try simp only [NM] at h11
   exfalso; first | omega | (simp at h11)
 ·skip
  refine WO_callN (mk := fun b => .sl b 0 (lstM (stB P (kgX s)) 64).1 1 .whole) (rs := []) (Bs := []) One_sl rfl hT rfl rfl (Nat.le_of_ble_eq_true rfl) (fun _ h => h) rfl trivial rfl rfl .nil ?_
  refine WO_mv (v := .sl _ _ _ _ _) rfl ?_
  refine WO_nil ?_
  refine WP_seq ?_
  refine WP_seq ?_
  refine WP_ops ?_
  refine WO_mv (v := .sl _ _ _ _ _) rfl ?_
  refine WO_len rfl ?_
  refine WO_bin (r := .bool _) rfl rfl rfl ?_
  refine WO_nil ?_
  refine WP_cond rfl (fun h12 => ?_) (fun h12 => ?_)
  ·try simp only [NM] at h12
   exfalso; first | omega | (simp at h12)
  ·try simp only [NM] at h12
   refine WP_skip ?_
   refine WP_seq ?_
   refine WP_ops ?_
   refine WO_mv (v := .sl _ _ _ _ _) rfl ?_
   refine WO_ixs rfl rfl (by omega) ?_
   refine WO_ldI (x := (lstM (stB P (kgX s)) 64).2 0) rfl rfl (.head _) (hF 0 hc0) ?_
   refine WO_mv (v := .s (.int _ _)) rfl ?_
   refine WO_nil ?_
   refine WP_ret ?_
   refine ⟨_, RS_tmp (v := .s (.int _ _)) rfl (RS_nil), ?_⟩
   rcases lst_first (stB P (kgX s)) 64 with ⟨h0, h⟩ | ⟨h0, i, hi, e, h1, h2⟩
   · exfalso; omega
   · exact ⟨_, rfl, .inr ⟨i, hi, e, h1, h2⟩⟩
theorem King_both (P : Nat → Int) (s : Int) : ∃ x, IsFst (stB P (kgX s)) 64 x ∧ RF AM 60 [.agg 133 (ia P), .s (.int .i64 s)] (.s (.int .i64 x)) ∧ RF AM 75 [.agg 133 (ia P), .s (.int .i64 s)] (.s (.int .i64 x)) := by
  obtain ⟨v, σ, _, _, h, _, x, rfl, hx⟩ := King_walk P s
  obtain ⟨v2, σ2, _, _, h2, _, y, rfl, hy⟩ := dKing_walk P s
  rw [hy.uniq hx] at h2
  exact ⟨x, hx, ⟨σ, h⟩, ⟨σ2, h2⟩⟩

end Go.Proofs.Ytjldefmcnppdoaa
/- The walks of the chapter board: pieces put, lists lent and kept. -/
namespace Go.Proofs.Ytjldefmcnppdoaa
open Go Go.Am
set_option linter.unusedSimpArgs false
set_option linter.unusedVariables false
/-- Pieces put, one by one; the error. -/
def putS (P X K : Nat → Int) : Nat → Nat → Int
  | 0 => P
  | n + 1 => ovA (putS P X K n) (0 + (K n).toNat * 2) 2 X
def putE (X K : Nat → Int) (n : Nat) : Int := if ¬ (X 0 = 0 ∧ X 1 = 0) ∧ mayM (X 0) (X 1) = false then 2 else if ∀ j : Nat, j < n → isM (K j) = true then 0 else 6
def putQ (P X K : Nat → Int) (n : Nat) : Nat → Int := ovA (fun _ => 0) 0 133 (if putE X K n = 0 then putS P X K n else fun _ => 0)
theorem putE_2 {X K : Nat → Int} {n : Nat} (h : ¬ (X 0 = 0 ∧ X 1 = 0)) (hm : mayM (X 0) (X 1) = false) : putE X K n = 2 := if_pos ⟨h, hm⟩
theorem putE_6 {X K : Nat → Int} {n : Nat} (h : (X 0 = 0 ∧ X 1 = 0) ∨ mayM (X 0) (X 1) = true) (hk : ¬ ∀ j : Nat, j < n → isM (K j) = true) : putE X K n = 6 := by
  unfold putE
  rw [if_neg (fun q => by rcases h with h | h; exact q.1 h; rw [h] at q; exact absurd q.2 (by decide)), if_neg hk]
theorem putE_0 {X K : Nat → Int} {n : Nat} (h : (X 0 = 0 ∧ X 1 = 0) ∨ mayM (X 0) (X 1) = true) (hk : ∀ j : Nat, j < n → isM (K j) = true) : putE X K n = 0 := by
  unfold putE
  rw [if_neg (fun q => by rcases h with h | h; exact q.1 h; rw [h] at q; exact absurd q.2 (by decide)), if_pos hk]
theorem put_bad {P X K : Nat → Int} {n : Nat} {e : Int} (he : putE X K n = e) (h0 : e ≠ 0) : (V.tup [.agg 133 (ia (ovA (fun _ => 0) 0 133 (fun _ => 0))), .s (.int .i64 e)]) = .tup [.agg 133 (ia (putQ P X K n)), .s (.int .i64 (putE X K n))] := by
  unfold putQ
  rw [he, if_neg h0]
theorem put_good {P X K : Nat → Int} {n : Nat} (he : putE X K n = 0) : (V.tup [.agg 133 (ia (ovA (fun _ => 0) 0 133 (putS P X K n))), .s (.int .i64 0)]) = .tup [.agg 133 (ia (putQ P X K n)), .s (.int .i64 (putE X K n))] := by
  unfold putQ
  rw [he, if_pos rfl]

theorem Put1_run (x : Int) : WR AM 93 [.s (.int .i64 x)] [] (fun v _ _ => v = .s (.bool (!(isM x)))) := by
 refine WR_fn (a := a93) rfl rfl (entryF _) (entry_E (Nat.le_of_ble_eq_true rfl)) (m := 0) rfl ?_
 refine WP_seq ?_
 refine WP_ops ?_
 refine WO_mv rfl ?_
 refine WO_nil ?_
 refine WP_seq ?_
 refine WP_ops ?_
 refine WO_mv (v := .s (.int _ _)) rfl ?_
 refine WO_call0 rfl (SqIs_run _) rfl rfl rfl ?_
 refine WO_un (r := .bool _) rfl rfl ?_
 refine WO_mv (v := .s (.bool _)) rfl ?_
 refine WO_nil ?_
 refine WP_ret ?_
 refine ⟨_, RS_tmp (v := .s (.bool _)) rfl (RS_nil), ?_⟩
 rfl
theorem IndexFunc_run {md : Md} {q : Nat} {c : Cp} (K : Nat → Int) (nn : Nat) (hnn : nn ≤ 1000000) : WR AM 114 [.sl 0 0 nn 1 c, .fn 93 []] [.sc md q (ia K)] (fun v _ L => (∃ x, v = .s (.int .i64 x) ∧ ((x = -1 ∧ ∀ j : Nat, j < nn → isM (K j) = true) ∨ (0 ≤ x ∧ ¬ ∀ j : Nat, j < nn → isM (K j) = true))) ∧ (0, Blk.sc md q (ia K)) ∈ L) := by
 refine WR_fn (a := a114) rfl rfl (entryF _) (entry_E (Nat.le_of_ble_eq_true rfl)) (m := 1) rfl ?_
 refine WP_seq ?_
 refine WP_ops ?_
 refine WO_mv rfl ?_
 refine WO_nil ?_
 refine WP_seq ?_
 refine WP_seq ?_
 refine WP_ops ?_
 refine WO_mv (v := .sl _ _ _ _ _) rfl ?_
 refine WO_len rfl ?_
 refine WO_mv rfl ?_
 refine WO_nil ?_
 refine WP_block ?_
 refine WP_sub (L' := [_]) (.cons_cons _ .slnil) ?_
 refine WP_loop (fun m f _ L => ∃ (i : Nat), (i ≤ nn) ∧ (m = nn - i) ∧ (∀ j : Nat, j < i → isM (K j) = true) ∧ (f 0 = .sl 0 0 nn 1 c) ∧ (f 1 = .fn 93 []) ∧ (f 7 = .s (.int .i64 nn)) ∧ (f 8 = .s (.int .i64 i)) ∧ (L = [(0, .sc md q (ia K))])) (fun m f nb L hI => ?_) (nn) ⟨0, by omega, rfl, fun j h => by omega, rfl, rfl, rfl, rfl, rfl⟩
 obtain ⟨i, hi, hm, hn, k0, k1, k7, k8, rfl⟩ := hI
 refine WP_know (d := 0) (v := .sl 0 0 nn 1 c) k0 ?_
 refine WP_know (d := 1) (v := .fn 93 []) k1 ?_
 refine WP_know (d := 7) (v := .s (.int .i64 nn)) k7 ?_
 refine WP_know (d := 8) (v := .s (.int .i64 i)) k8 ?_
 refine WP_seq ?_
 refine WP_ops ?_
 refine WO_bin (r := .bool _) rfl rfl rfl ?_
 refine WO_nil ?_
 refine WP_seq ?_
 refine WP_cond rfl (fun h1 => ?_) (fun h1 => ?_)
 ·try simp only [NM] at h1
  refine WP_skip ?_
  refine WP_seq ?_
  refine WP_block ?_
  refine WP_seq ?_
  refine WP_ops ?_
  refine WO_mv (v := .s (.int _ _)) rfl ?_
  refine WO_mv (v := .s (.int _ _)) rfl ?_
  refine WO_nil ?_
  refine WP_seq ?_
  refine WP_ops ?_
  refine WO_mv (v := .fn _ _) rfl ?_
  refine WO_mv (v := .sl _ _ _ _ _) rfl ?_
  refine WO_mv (v := .s (.int _ _)) rfl ?_
  refine WO_ixs rfl rfl (by omega) ?_
  refine WO_ldI (x := K i) rfl rfl (.head _) (congrArg K (by omega)) ?_
  refine WO_call0 rfl (RF_of (Put1_run (K i))) rfl rfl rfl ?_
  refine WO_nil ?_
  refine WP_cond rfl (fun h2 => ?_) (fun h2 => ?_)
  ·try simp only [NM] at h2
   refine WP_seq ?_
   refine WP_ops ?_
   refine WO_mv (v := .s (.int _ _)) rfl ?_
   refine WO_mv (v := .s (.int _ _)) rfl ?_
   refine WO_nil ?_
   refine WP_ret ?_
   refine ⟨_, RS_tmp (v := .s (.int _ _)) rfl (RS_nil), ?_⟩
   first | exact ⟨⟨_, rfl, .inl ⟨rfl, fun j hj => hn j (by omega)⟩⟩, (.head _)⟩ | exact ⟨⟨_, rfl, .inr ⟨by omega, fun q => absurd ((q i (by omega)).symm.trans (by assumption)) (by decide)⟩⟩, (.head _)⟩
  ·try simp only [NM] at h2
   refine WP_skip ?_
   refine WP_ops ?_
   refine WO_add rfl rfl (by omega) ?_
   refine WO_mv (v := .s (.int _ _)) rfl ?_
   refine WO_nil ?_
   refine ⟨nn - (i + 1), _, by omega, (.cons_cons _ .slnil), i + 1, by omega, rfl, ?_, rfl, rfl, rfl, rfl, rfl⟩
   intro j hj
   by_cases e : j = i
   · subst e; assumption
   · exact hn j (by omega)
 ·try simp only [NM] at h1
  refine WP_exit ?_
  refine xhere ?_
  refine WP_seq ?_
  refine WP_ops ?_
  refine WO_mv rfl ?_
  refine WO_nil ?_
  refine WP_ret ?_
  refine ⟨_, RS_tmp (v := .s (.int _ _)) rfl (RS_nil), ?_⟩
  first | exact ⟨⟨_, rfl, .inl ⟨rfl, fun j hj => hn j (by omega)⟩⟩, (.head _)⟩ | exact ⟨⟨_, rfl, .inr ⟨by omega, fun q => absurd ((q i (by omega)).symm.trans (by assumption)) (by decide)⟩⟩, (.head _)⟩
theorem IndexFunc_ex {md : Md} {q : Nat} {c : Cp} (K : Nat → Int) (nn : Nat) (hnn : nn ≤ 1000000) : ∃ x, ((x = -1 ∧ ∀ j : Nat, j < nn → isM (K j) = true) ∨ (0 ≤ x ∧ ¬ ∀ j : Nat, j < nn → isM (K j) = true)) ∧ RB AM 114 [.sl 0 0 nn 1 c, .fn 93 []] [.sc md q (ia K)] (.s (.int .i64 x)) [.sc md q (ia K)] := by
  obtain ⟨v, σ', n', L', h1, h2, ⟨x, rfl, hx⟩, hm⟩ := IndexFunc_run (md := md) (q := q) (c := c) K nn hnn
  exact ⟨x, hx, σ', h1, (h2.2.mem hm).2, ⟨_, _, _, rfl⟩, trivial⟩

theorem ContainsFunc_run {md : Md} {q : Nat} {c : Cp} (K : Nat → Int) (nn : Nat) (hnn : nn ≤ 1000000) : WR AM 92 [.sl 0 0 nn 1 c, .fn 93 []] [.sc md q (ia K)] (fun v _ L => (∃ b, v = .s (.bool b) ∧ (b = false ↔ ∀ j : Nat, j < nn → isM (K j) = true)) ∧ (0, Blk.sc md q (ia K)) ∈ L) := by
 refine WR_fn (a := a92) rfl rfl (entryF _) (entry_E (Nat.le_of_ble_eq_true rfl)) (m := 1) rfl ?_
 refine WP_seq ?_
 refine WP_ops ?_
 refine WO_mv rfl ?_
 refine WO_nil ?_
 refine WP_seq ?_
 refine WP_ops ?_
 refine WO_mv (v := .sl _ _ _ _ _) rfl ?_
 refine WO_mv (v := .fn _ _) rfl ?_
 obtain ⟨x, hx, hI⟩ := IndexFunc_ex (md := md) (q := q) (c := c) K nn hnn
 refine WO_call (rs := [0]) (Bs := [_]) rfl (hI) rfl rfl (Nat.le_of_ble_eq_true rfl) (fun _ h => h) rfl ⟨(.head _), ⟨_, _, _, rfl⟩, trivial⟩ rfl rfl rfl (.cons .here .nil) ?_
 refine WO_bin (r := .bool _) rfl rfl rfl ?_
 refine WO_mv (v := .s (.bool _)) rfl ?_
 refine WO_nil ?_
 refine WP_ret ?_
 refine ⟨_, RS_tmp (v := .s (.bool _)) rfl (RS_nil), ?_⟩
 refine ⟨⟨_, rfl, ?_⟩, (.head _)⟩
 rcases hx with ⟨h1, h2⟩ | ⟨h1, h2⟩
 · exact ⟨fun _ => h2, fun _ => decide_eq_false (by omega)⟩
 · exact ⟨fun q => absurd (of_decide_eq_false q) (by omega), fun q => absurd q h2⟩
theorem ContainsFunc_ex {md : Md} {q : Nat} {c : Cp} (K : Nat → Int) (nn : Nat) (hnn : nn ≤ 1000000) : ∃ b, (b = false ↔ ∀ j : Nat, j < nn → isM (K j) = true) ∧ RB AM 92 [.sl 0 0 nn 1 c, .fn 93 []] [.sc md q (ia K)] (.s (.bool b)) [.sc md q (ia K)] := by
  obtain ⟨v, σ', n', L', h1, h2, ⟨x, rfl, hx⟩, hm⟩ := ContainsFunc_run (md := md) (q := q) (c := c) K nn hnn
  exact ⟨x, hx, σ', h1, (h2.2.mem hm).2, ⟨_, _, _, rfl⟩, trivial⟩

theorem Put_walk {md : Md} {q : Nat} {c : Cp} (P X K : Nat → Int) (nn : Nat) (hnn : nn ≤ 1000000) : WR AM 59 [.agg 133 (ia P), .agg 2 (ia X), .sl 0 0 nn 1 c] [.sc md q (ia K)] (fun v _ L => v = .tup [.agg 133 (ia (putQ P X K nn)), .s (.int .i64 (putE X K nn))] ∧ (0, Blk.sc md q (ia K)) ∈ L) := by
 refine WR_fn (a := a59) rfl rfl (entryF _) (entry_E (Nat.le_of_ble_eq_true rfl)) (m := 1) rfl ?_
 refine WP_seq ?_
 refine WP_ops ?_
 refine WO_boxA rfl ?_
 refine WO_boxA rfl ?_
 refine WO_allocI ?_
 refine WO_mv rfl ?_
 refine WO_nil ?_
 refine WP_seq ?_
 refine WP_seq ?_
 refine WP_ops ?_
 first | refine WO_ldA0 rfl rfl (.tail _ (.head _)) ?_ | refine WO_ldAI rfl rfl (.tail _ (.head _)) ?_
 refine WO_buildI rfl .nil ?_
 refine WO_eqa rfl rfl ?_
 refine WO_mv (v := .s (.bool _)) rfl ?_
 refine WO_case (t := 13) rfl (fun h3 => ?_) (fun h3 => ?_)
 ·try simp only [NM] at h3
  try simp only [eq_two, decide_eq_true_eq, decide_eq_false_iff_not] at h3
  refine WO_gt rfl ?_
  first | refine WO_ldA0 rfl rfl (.tail _ (.head _)) ?_ | refine WO_ldAI rfl rfl (.tail _ (.head _)) ?_
  refine WO_gt rfl ?_
  refine WO_call0 rfl (RF_of (may_run _)) rfl rfl rfl ?_
  refine WO_gt rfl ?_
  refine WO_un (r := .bool _) rfl rfl ?_
  refine WO_pick (v := .s (.bool _)) rfl rfl ?_
  refine WO_nil ?_
  refine WP_cond rfl (fun h4 => ?_) (fun h4 => ?_)
  ·try simp only [NM] at h4
   try simp only [eq_two, decide_eq_true_eq, decide_eq_false_iff_not] at h4
   refine WP_seq ?_
   refine WP_ops ?_
   refine WO_buildI rfl .nil ?_
   refine WO_stA rfl rfl rfl rfl .here ?_
   refine WO_mv rfl ?_
   refine WO_nil ?_
   refine WP_ret ?_
   refine ⟨_, RS_cell rfl rfl (.head _) (RS_tmp (v := .s (.int _ _)) rfl (RS_nil)), ?_⟩
   exact ⟨put_bad (putE_2 (by assumption) (by assumption)) (by decide), (.tail _ (.tail _ (.tail _ (.head _))))⟩
  ·try simp only [NM] at h4
   try simp only [eq_two, decide_eq_true_eq, decide_eq_false_iff_not] at h4
   refine WP_skip ?_
   refine WP_cut (fun f n L => ((X 0 = 0 ∧ X 1 = 0) ∨ mayM (X 0) (X 1) = true) ∧ (∀ j : Nat, j < nn → isM (K j) = true) ∧ (f 2 = .sl 0 0 nn 1 c) ∧ (f 3 = .ptr 1 0 133) ∧ (f 4 = .ptr 2 0 2) ∧ (f 6 = .ptr 3 0 133) ∧ (L = [(3, .sc .var 133 (ia fun _ => 0)), (2, .sc .var 2 (ia X)), (1, .sc .var 133 (ia P)), (0, .sc md q (ia K))]) ∧ (n = 4)) ?_ (fun f nb L hI => ?_)
   ·skip
    refine WP_seq ?_
    refine WP_ops ?_
    refine WO_mv (v := .sl _ _ _ _ _) rfl ?_
    obtain ⟨bc, hbc, hC⟩ := ContainsFunc_ex (md := md) (q := q) (c := c) K nn hnn
    refine WO_call (rs := [0]) (Bs := [_]) rfl (hC) rfl rfl (Nat.le_of_ble_eq_true rfl) (fun _ h => h) rfl ⟨(.tail _ (.tail _ (.tail _ (.head _)))), ⟨_, _, _, rfl⟩, trivial⟩ rfl rfl rfl (.cons (.there (.there (.there .here))) .nil) ?_
    refine WO_nil ?_
    refine WP_cond rfl (fun h5 => ?_) (fun h5 => ?_)
    ·try simp only [NM] at h5
     try simp only [eq_two, decide_eq_true_eq, decide_eq_false_iff_not] at h5
     refine WP_seq ?_
     refine WP_ops ?_
     refine WO_buildI rfl .nil ?_
     refine WO_stA rfl rfl rfl rfl .here ?_
     refine WO_mv rfl ?_
     refine WO_nil ?_
     refine WP_ret ?_
     refine ⟨_, RS_cell rfl rfl (.head _) (RS_tmp (v := .s (.int _ _)) rfl (RS_nil)), ?_⟩
     exact ⟨put_bad (putE_6 (by first | exact .inl (by assumption) | exact .inr (by assumption)) (fun q => absurd ((hbc.2 q).symm.trans (by assumption)) (by decide))) (by decide), (.tail _ (.tail _ (.tail _ (.head _))))⟩
    ·try simp only [NM] at h5
     try simp only [eq_two, decide_eq_true_eq, decide_eq_false_iff_not] at h5
     refine WP_skip ?_
     refine ⟨_, (.cons_cons _ (.cons_cons _ (.cons_cons _ (.cons_cons _ .slnil)))), ?_, hbc.1 (by assumption), rfl, rfl, rfl, rfl, rfl, rfl⟩
     first | exact .inl (by assumption) | exact .inr (by assumption)
   ·skip
    obtain ⟨hok, hall, k2, k3, k4, k6, rfl, rfl⟩ := hI
    refine WP_know (d := 2) (v := .sl 0 0 nn 1 c) k2 ?_
    refine WP_know (d := 3) (v := .ptr 1 0 133) k3 ?_
    refine WP_know (d := 4) (v := .ptr 2 0 2) k4 ?_
    refine WP_know (d := 6) (v := .ptr 3 0 133) k6 ?_
    refine WP_seq ?_
    refine WP_seq ?_
    refine WP_ops ?_
    refine WO_mv (v := .sl _ _ _ _ _) rfl ?_
    refine WO_len rfl ?_
    refine WO_mv rfl ?_
    refine WO_nil ?_
    refine WP_block ?_
    refine WP_sub (L' := [_, _, _, _]) (.cons_cons _ (.cons_cons _ (.cons_cons _ (.cons_cons _ .slnil)))) ?_
    refine WP_loop (fun m f _ L => ∃ (i : Nat), (i ≤ nn) ∧ (m = nn - i) ∧ (f 3 = .ptr 1 0 133) ∧ (f 4 = .ptr 2 0 2) ∧ (f 6 = .ptr 3 0 133) ∧ (f 22 = .sl 0 0 nn 1 c) ∧ (f 23 = .s (.int .i64 nn)) ∧ (f 24 = .s (.int .i64 i)) ∧ (L = [(3, .sc .var 133 (ia fun _ => 0)), (2, .sc .var 2 (ia X)), (1, .sc .var 133 (ia (putS P X K i))), (0, .sc md q (ia K))])) (fun m f nb L hI => ?_) (nn) ⟨0, by omega, rfl, rfl, rfl, rfl, rfl, rfl, rfl, rfl⟩
    obtain ⟨i, hi, hm, k3, k4, k6, k22, k23, k24, rfl⟩ := hI
    refine WP_know (d := 3) (v := .ptr 1 0 133) k3 ?_
    refine WP_know (d := 4) (v := .ptr 2 0 2) k4 ?_
    refine WP_know (d := 6) (v := .ptr 3 0 133) k6 ?_
    refine WP_know (d := 22) (v := .sl 0 0 nn 1 c) k22 ?_
    refine WP_know (d := 23) (v := .s (.int .i64 nn)) k23 ?_
    refine WP_know (d := 24) (v := .s (.int .i64 i)) k24 ?_
    refine WP_seq ?_
    refine WP_ops ?_
    refine WO_bin (r := .bool _) rfl rfl rfl ?_
    refine WO_nil ?_
    refine WP_seq ?_
    refine WP_cond rfl (fun h6 => ?_) (fun h6 => ?_)
    ·try simp only [NM] at h6
     try simp only [eq_two, decide_eq_true_eq, decide_eq_false_iff_not] at h6
     refine WP_skip ?_
     refine WP_seq ?_
     refine WP_block ?_
     refine WP_seq ?_
     refine WP_ops ?_
     refine WO_ixs rfl rfl (by first | omega | exact of_decide_eq_true (hall i (by omega))) ?_
     refine WO_ldI (x := K i) rfl rfl (.tail _ (.tail _ (.tail _ (.head _)))) (congrArg K (by omega)) ?_
     refine WO_mv (v := .s (.int _ _)) rfl ?_
     refine WO_nil ?_
     refine WP_ops ?_
     refine WO_mv (v := .s (.int _ _)) rfl ?_
     first | refine WO_ldA0 rfl rfl (.tail _ (.head _)) ?_ | refine WO_ldAI rfl rfl (.tail _ (.head _)) ?_
     refine WO_fa (o' := 0) rfl rfl rfl ?_
     refine WO_ixa rfl rfl rfl (by first | omega | exact of_decide_eq_true (hall i (by omega))) ?_
     refine WO_stA rfl rfl rfl rfl (.there (.there .here)) ?_
     refine WO_nil ?_
     refine WP_ops ?_
     refine WO_add rfl rfl (by omega) ?_
     refine WO_mv (v := .s (.int _ _)) rfl ?_
     refine WO_nil ?_
     exact ⟨nn - (i + 1), _, by omega, (.cons_cons _ (.cons_cons _ (.cons_cons _ (.cons_cons _ .slnil)))), i + 1, by omega, rfl, rfl, rfl, rfl, rfl, rfl, rfl, rfl⟩
    ·try simp only [NM] at h6
     try simp only [eq_two, decide_eq_true_eq, decide_eq_false_iff_not] at h6
     refine WP_exit ?_
     refine xhere ?_
     refine WP_seq ?_
     refine WP_ops ?_
     first | refine WO_ldA0 rfl rfl (.tail _ (.tail _ (.head _))) ?_ | refine WO_ldAI rfl rfl (.tail _ (.tail _ (.head _))) ?_
     refine WO_stA rfl rfl rfl rfl .here ?_
     refine WO_mv rfl ?_
     refine WO_nil ?_
     refine WP_ret ?_
     refine ⟨_, RS_cell rfl rfl (.head _) (RS_tmp (v := .s (.int _ _)) rfl (RS_nil)), ?_⟩
     obtain rfl : i = nn := by omega
     exact ⟨put_good (putE_0 hok hall), (.tail _ (.tail _ (.tail _ (.head _))))⟩
 ·try simp only [NM] at h3
  try simp only [eq_two, decide_eq_true_eq, decide_eq_false_iff_not] at h3
  refine WO_gf rfl rfl ?_
  refine WO_gf rfl rfl ?_
  refine WO_gf rfl rfl ?_
  refine WO_pick (v := .s (.bool _)) rfl rfl ?_
  refine WO_nil ?_
  refine WP_cond rfl (fun h => nomatch h) (fun _ => ?_)
  refine WP_skip ?_
  refine WP_cut (fun f n L => ((X 0 = 0 ∧ X 1 = 0) ∨ mayM (X 0) (X 1) = true) ∧ (∀ j : Nat, j < nn → isM (K j) = true) ∧ (f 2 = .sl 0 0 nn 1 c) ∧ (f 3 = .ptr 1 0 133) ∧ (f 4 = .ptr 2 0 2) ∧ (f 6 = .ptr 3 0 133) ∧ (L = [(3, .sc .var 133 (ia fun _ => 0)), (2, .sc .var 2 (ia X)), (1, .sc .var 133 (ia P)), (0, .sc md q (ia K))]) ∧ (n = 4)) ?_ (fun f nb L hI => ?_)
  ·skip
   refine WP_seq ?_
   refine WP_ops ?_
   refine WO_mv (v := .sl _ _ _ _ _) rfl ?_
   obtain ⟨bc, hbc, hC⟩ := ContainsFunc_ex (md := md) (q := q) (c := c) K nn hnn
   refine WO_call (rs := [0]) (Bs := [_]) rfl (hC) rfl rfl (Nat.le_of_ble_eq_true rfl) (fun _ h => h) rfl ⟨(.tail _ (.tail _ (.tail _ (.head _)))), ⟨_, _, _, rfl⟩, trivial⟩ rfl rfl rfl (.cons (.there (.there (.there .here))) .nil) ?_
   refine WO_nil ?_
   refine WP_cond rfl (fun h7 => ?_) (fun h7 => ?_)
   ·try simp only [NM] at h7
    try simp only [eq_two, decide_eq_true_eq, decide_eq_false_iff_not] at h7
    refine WP_seq ?_
    refine WP_ops ?_
    refine WO_buildI rfl .nil ?_
    refine WO_stA rfl rfl rfl rfl .here ?_
    refine WO_mv rfl ?_
    refine WO_nil ?_
    refine WP_ret ?_
    refine ⟨_, RS_cell rfl rfl (.head _) (RS_tmp (v := .s (.int _ _)) rfl (RS_nil)), ?_⟩
    exact ⟨put_bad (putE_6 (by first | exact .inl (by assumption) | exact .inr (by assumption)) (fun q => absurd ((hbc.2 q).symm.trans (by assumption)) (by decide))) (by decide), (.tail _ (.tail _ (.tail _ (.head _))))⟩
   ·try simp only [NM] at h7
    try simp only [eq_two, decide_eq_true_eq, decide_eq_false_iff_not] at h7
    refine WP_skip ?_
    refine ⟨_, (.cons_cons _ (.cons_cons _ (.cons_cons _ (.cons_cons _ .slnil)))), ?_, hbc.1 (by assumption), rfl, rfl, rfl, rfl, rfl, rfl⟩
    first | exact .inl (by assumption) | exact .inr (by assumption)
  ·skip
   obtain ⟨hok, hall, k2, k3, k4, k6, rfl, rfl⟩ := hI
   refine WP_know (d := 2) (v := .sl 0 0 nn 1 c) k2 ?_
   refine WP_know (d := 3) (v := .ptr 1 0 133) k3 ?_
   refine WP_know (d := 4) (v := .ptr 2 0 2) k4 ?_
   refine WP_know (d := 6) (v := .ptr 3 0 133) k6 ?_
   refine WP_seq ?_
   refine WP_seq ?_
   refine WP_ops ?_
   refine WO_mv (v := .sl _ _ _ _ _) rfl ?_
   refine WO_len rfl ?_
   refine WO_mv rfl ?_
   refine WO_nil ?_
   refine WP_block ?_
   refine WP_sub (L' := [_, _, _, _]) (.cons_cons _ (.cons_cons _ (.cons_cons _ (.cons_cons _ .slnil)))) ?_
   refine WP_loop (fun m f _ L => ∃ (i : Nat), (i ≤ nn) ∧ (m = nn - i) ∧ (f 3 = .ptr 1 0 133) ∧ (f 4 = .ptr 2 0 2) ∧ (f 6 = .ptr 3 0 133) ∧ (f 22 = .sl 0 0 nn 1 c) ∧ (f 23 = .s (.int .i64 nn)) ∧ (f 24 = .s (.int .i64 i)) ∧ (L = [(3, .sc .var 133 (ia fun _ => 0)), (2, .sc .var 2 (ia X)), (1, .sc .var 133 (ia (putS P X K i))), (0, .sc md q (ia K))])) (fun m f nb L hI => ?_) (nn) ⟨0, by omega, rfl, rfl, rfl, rfl, rfl, rfl, rfl, rfl⟩
   obtain ⟨i, hi, hm, k3, k4, k6, k22, k23, k24, rfl⟩ := hI
   refine WP_know (d := 3) (v := .ptr 1 0 133) k3 ?_
   refine WP_know (d := 4) (v := .ptr 2 0 2) k4 ?_
   refine WP_know (d := 6) (v := .ptr 3 0 133) k6 ?_
   refine WP_know (d := 22) (v := .sl 0 0 nn 1 c) k22 ?_
   refine WP_know (d := 23) (v := .s (.int .i64 nn)) k23 ?_
   refine WP_know (d := 24) (v := .s (.int .i64 i)) k24 ?_
   refine WP_seq ?_
   refine WP_ops ?_
   refine WO_bin (r := .bool _) rfl rfl rfl ?_
   refine WO_nil ?_
   refine WP_seq ?_
   refine WP_cond rfl (fun h8 => ?_) (fun h8 => ?_)
   ·try simp only [NM] at h8
    try simp only [eq_two, decide_eq_true_eq, decide_eq_false_iff_not] at h8
    refine WP_skip ?_
    refine WP_seq ?_
    refine WP_block ?_
    refine WP_seq ?_
    refine WP_ops ?_
    refine WO_ixs rfl rfl (by first | omega | exact of_decide_eq_true (hall i (by omega))) ?_
    refine WO_ldI (x := K i) rfl rfl (.tail _ (.tail _ (.tail _ (.head _)))) (congrArg K (by omega)) ?_
    refine WO_mv (v := .s (.int _ _)) rfl ?_
    refine WO_nil ?_
    refine WP_ops ?_
    refine WO_mv (v := .s (.int _ _)) rfl ?_
    first | refine WO_ldA0 rfl rfl (.tail _ (.head _)) ?_ | refine WO_ldAI rfl rfl (.tail _ (.head _)) ?_
    refine WO_fa (o' := 0) rfl rfl rfl ?_
    refine WO_ixa rfl rfl rfl (by first | omega | exact of_decide_eq_true (hall i (by omega))) ?_
    refine WO_stA rfl rfl rfl rfl (.there (.there .here)) ?_
    refine WO_nil ?_
    refine WP_ops ?_
    refine WO_add rfl rfl (by omega) ?_
    refine WO_mv (v := .s (.int _ _)) rfl ?_
    refine WO_nil ?_
    exact ⟨nn - (i + 1), _, by omega, (.cons_cons _ (.cons_cons _ (.cons_cons _ (.cons_cons _ .slnil)))), i + 1, by omega, rfl, rfl, rfl, rfl, rfl, rfl, rfl, rfl⟩
   ·try simp only [NM] at h8
    try simp only [eq_two, decide_eq_true_eq, decide_eq_false_iff_not] at h8
    refine WP_exit ?_
    refine xhere ?_
    refine WP_seq ?_
    refine WP_ops ?_
    first | refine WO_ldA0 rfl rfl (.tail _ (.tail _ (.head _))) ?_ | refine WO_ldAI rfl rfl (.tail _ (.tail _ (.head _))) ?_
    refine WO_stA rfl rfl rfl rfl .here ?_
    refine WO_mv rfl ?_
    refine WO_nil ?_
    refine WP_ret ?_
    refine ⟨_, RS_cell rfl rfl (.head _) (RS_tmp (v := .s (.int _ _)) rfl (RS_nil)), ?_⟩
    obtain rfl : i = nn := by omega
    exact ⟨put_good (putE_0 hok hall), (.tail _ (.tail _ (.tail _ (.head _))))⟩
theorem eql_eq {a b : Int} (h : a = b) : binS .eql (.int .i64 a) (.int .i64 b) = some (.bool true) := by
  subst h
  show (if IntKind.i64 = IntKind.i64 then some (S.bool (a == a)) else none) = _
  simp
end Go.Proofs.Ytjldefmcnppdoaa
/- The walks of squares: names, steps, ways, rings. -/
namespace Go.Am
open Go
section
variable {A : AP} {N : Nat} {f : FE} {n : Nat} {L : HA} {K : KN} {l : List I} {d : Nat}
def bytes2 (a b : Int) : Nat → S := over (over (fun _ => .int .u8 0) (0 * 1) 1 (fun _ => .int .u8 a)) (1 * 1) 1 (fun _ => .int .u8 b)
end
end Go.Am

namespace Go.Proofs.Ytjldefmcnppdoaa
open Go Go.Am
set_option linter.unusedSimpArgs false
set_option linter.unusedVariables false
def darkM (x : Int) : Bool := decide ((0 ≤ x ∧ x < 64) ∧ (x % 8 + x / 8) % 2 = 0)
/-- A square's name. -/
def nameS (x : Int) : ByteArray := if 0 ≤ x ∧ x < 64 then ⟨#[UInt8.ofNat (97 + (x % 8).toNat), UInt8.ofNat (49 + (x / 8).toNat)]⟩ else ⟨#[]⟩
end Go.Proofs.Ytjldefmcnppdoaa
/- The walks of squares: ways, rings, lists that are alike. -/
namespace Go.Proofs.Ytjldefmcnppdoaa
open Go Go.Am
set_option linter.unusedSimpArgs false
set_option linter.unusedVariables false
/-- The squares of a way, one behind the other, and -1 behind the last. -/
def rayF (s f r : Int) : Nat → Int
  | 0 => stepM s f r
  | k + 1 => stepM (rayF s f r k) f r
/-- So many steps are left at most. -/
def muM (s f r : Int) : Nat := if s < 0 then 0 else if 0 < f then (8 - s % 8).toNat else if f < 0 then (s % 8 + 1).toNat else if 0 < r then (8 - s / 8).toNat else (s / 8 + 1).toNat
/-- A way of n squares. -/
structure RayOf (s f r : Int) (n : Nat) : Prop where
  on : ∀ j : Nat, j < n → rayF s f r j ≠ -1
  off : rayF s f r n = -1
theorem RayOf.uniq {s f r : Int} {n m : Nat} (h : RayOf s f r n) (k : RayOf s f r m) : n = m := by
  by_cases a : n < m
  · exact absurd h.off (k.on n a)
  · by_cases b : m < n
    · exact absurd k.off (h.on m b)
    · omega
theorem neq_same {a b : Int} (h : a = b) : binS .neq (.int .i64 a) (.int .i64 b) = some (.bool false) := by
  subst h
  show (if IntKind.i64 = IntKind.i64 then some (S.bool (a != a)) else none) = _
  simp
/-- The squares at n steps. -/
def ringM (s : Int) (K : Nat → Int) : Nat → Nat × (Nat → Int)
  | 0 => (0, fun _ => 0)
  | i + 1 => if stepM s (dp K (0 + (i : Int).toNat * 2) 0) (dp K (0 + (i : Int).toNat * 2) 1) = -1 then ringM s K i else ((ringM s K i).1 + 1, fun j => if j < (ringM s K i).1 then (ringM s K i).2 j else stepM s (dp K (0 + (i : Int).toNat * 2) 0) (dp K (0 + (i : Int).toNat * 2) 1))
end Go.Proofs.Ytjldefmcnppdoaa
/- What the kernel tells of a run. -/
namespace Go.Proofs.Ytjldefmcnppdoaa
open Go Go.Am
/-- Is the answer this bool? -/
def ansB (b : Bool) : Option (V × Heap) → Bool
  | some (.s (.bool t), _) => t == b
  | _ => false
theorem RF_ans {A : AP} {m : Nat} {fid : FuncId} {xs : List V} {b : Bool} (h : ansB b (runF A m fid xs []) = true) : RF A fid xs (.s (.bool b)) := by
  cases hr : runF A m fid xs [] with
  | none => rw [hr] at h; cases h
  | some r =>
    obtain ⟨v, σ⟩ := r
    rw [hr] at h
    cases v with
    | s x =>
      cases x with
      | bool t =>
        simp only [ansB] at h
        have := eq_of_beq h
        subst this
        exact ⟨σ, Run_of hr⟩
      | _ => cases h
    | _ => cases h
end Go.Proofs.Ytjldefmcnppdoaa
/- What holds of closed calls of the chapter board, told by the kernel. -/
namespace Go.Proofs.Ytjldefmcnppdoaa
open Go Go.Am
theorem boAwake_run : RF AM 54 [] (.s (.bool true)) := RF_ans (m := 100) (by kernel_rfl)
end Go.Proofs.Ytjldefmcnppdoaa
/- The walk of BoardTells. -/
namespace Go.Proofs.Ytjldefmcnppdoaa
open Go Go.Am
set_option linter.unusedSimpArgs false
set_option linter.unusedVariables false
theorem eqI_t1 {n : Nat} {P Q : Nat → Int} (h : ∀ i, i < n → P i = Q i) : (bif false then !(eqI n P Q) else eqI n P Q) = true := by
  rw [eqI_iff.2 h]; rfl
end Go.Proofs.Ytjldefmcnppdoaa
/- The walk of BoardPuts. -/
namespace Go.Proofs.Ytjldefmcnppdoaa
open Go Go.Am
set_option linter.unusedSimpArgs false
set_option linter.unusedVariables false
theorem put1E {X : Nat → Int} {a : Nat} (ha : a < 64) (h : (X 0 = 0 ∧ X 1 = 0) ∨ mayM (X 0) (X 1) = true) : putE X (ov (fun _ => 0) (0 * 1) (a : Int)) 1 = 0 := putE_0 h fun j hj => by
  obtain rfl : j = 0 := by omega
  exact decide_eq_true (show 0 ≤ (a : Int) ∧ (a : Int) < 64 by omega)
theorem put1Q {P X : Nat → Int} {a : Nat} (ha : a < 64) (h : (X 0 = 0 ∧ X 1 = 0) ∨ mayM (X 0) (X 1) = true) : ∀ i, i < 133 → ovA (fun _ => 0) 0 133 (putQ P X (ov (fun _ => 0) (0 * 1) (a : Int)) 1) i = ovA P (a * 2) 2 X i := by
  intro i hi
  rw [ovA_at (by omega)]
  unfold putQ
  rw [put1E ha h, if_pos rfl, ovA_at (by omega)]
  show ovA P (0 + (a : Int).toNat * 2) 2 X i = _
  rw [show 0 + (a : Int).toNat * 2 = a * 2 by omega]
theorem back_eq {P Q X D : Nat → Int} {a : Nat} (ha : a < 64) (hQ : ∀ i, i < 133 → Q i = ovA P (a * 2) 2 X i) (h0 : D 0 = P (a * 2)) (h1 : D 1 = P (a * 2 + 1)) (i : Nat) (hi : i < 133) : ovA (ovA (fun _ => 0) 0 133 Q) (0 + (a : Int).toNat * 2) 2 D i = P i := by
  rw [show 0 + (a : Int).toNat * 2 = a * 2 by omega]
  by_cases c : a * 2 ≤ i ∧ i < a * 2 + 2
  · rw [ovA_at c]
    have : i = a * 2 ∨ i = a * 2 + 1 := by omega
    rcases this with rfl | rfl
    · rw [Nat.sub_self]; exact h0
    · rw [Nat.add_sub_cancel_left]; exact h1
  · rw [ovA_out (by omega), ovA_at (by omega)]
    show Q i = _
    rw [hQ i hi, ovA_out (by omega)]
theorem back_put {P Q X D : Nat → Int} {a : Nat} (ha : a < 64) (hQ : ∀ i, i < 133 → Q i = ovA P (a * 2) 2 X i) (h0 : D 0 = P (a * 2)) (h1 : D 1 = P (a * 2 + 1)) (h : (D 0 = 0 ∧ D 1 = 0) ∨ mayM (D 0) (D 1) = true) : ∀ i, i < 133 → ovA (fun _ => 0) 0 133 (putQ Q D (ov (fun _ => 0) (0 * 1) (a : Int)) 1) i = P i := by
  intro i hi
  rw [put1Q ha h i hi]
  have := back_eq ha hQ h0 h1 i hi
  rw [show 0 + (a : Int).toNat * 2 = a * 2 by omega] at this
  rw [← this]
  by_cases c : a * 2 ≤ i ∧ i < a * 2 + 2
  · rw [ovA_at c, ovA_at c]
  · rw [ovA_out (by omega), ovA_out (by omega), ovA_at (by omega)]; rfl
theorem st_put {P Q X : Nat → Int} {a : Nat} (ha : a < 64) (hQ : ∀ i, i < 133 → Q i = ovA P (a * 2) 2 X i) : stB Q X a = true ∧ ∀ s : Nat, s < 64 → s ≠ a → stB Q X s = stB P X s := by
  have hs : ∀ s : Nat, sqI (s : Int) = s * 2 := fun s => by show 0 + (s : Int).toNat * 2 = _; omega
  refine ⟨?_, fun s hs2 hne => ?_⟩
  · unfold stB standM
    rw [hs, hQ _ (by omega), hQ _ (by omega), ovA_at (by omega), ovA_at (by omega)]
    refine decide_eq_true ⟨?_, ?_⟩
    · rw [Nat.sub_self]
    · rw [Nat.add_sub_cancel_left]
  · unfold stB standM
    rw [hs, hQ _ (by omega), hQ _ (by omega), ovA_out (by omega), ovA_out (by omega)]
theorem lst_mem {S1 : Nat → Bool} : ∀ (n s : Nat), s < n → S1 s = true → ∃ j, j < (lstM S1 n).1 ∧ (lstM S1 n).2 j = s
  | 0, s, h, _ => by omega
  | n + 1, s, h, hs => by
    by_cases e : s = n
    · subst e
      rw [lst_yes hs]
      refine ⟨(lstM S1 s).1, Nat.lt_succ_self _, ?_⟩
      show (if (lstM S1 s).1 < (lstM S1 s).1 then _ else _) = _
      rw [if_neg (Nat.lt_irrefl _)]
    · obtain ⟨j, hj, hl⟩ := lst_mem n s (by omega) hs
      cases hn : S1 n with
      | false => rw [lst_no hn]; exact ⟨j, hj, hl⟩
      | true =>
        rw [lst_yes hn]
        refine ⟨j, Nat.lt_succ_of_lt hj, ?_⟩
        show (if j < (lstM S1 n).1 then _ else _) = _
        rw [if_pos hj]; exact hl
theorem lst_le1 {S1 S2 : Nat → Bool} {a : Nat} : ∀ n : Nat, (∀ s : Nat, s < n → s ≠ a → S1 s = S2 s) → (lstM S1 n).1 ≤ (lstM S2 n).1 + (if a < n then 1 else 0)
  | 0, _ => by show 0 ≤ _; omega
  | n + 1, h => by
    have ih := lst_le1 n (fun s hs => h s (by omega))
    by_cases e : a = n
    · subst e
      rw [if_neg (Nat.lt_irrefl _)] at ih
      rw [if_pos (Nat.lt_succ_self _)]
      cases h1 : S1 a <;> cases h2 : S2 a <;> simp only [lst_no, lst_yes, h1, h2] <;> omega
    · have hn := h n (by omega) (Ne.symm e)
      rw [show (if a < n + 1 then 1 else 0) = (if a < n then 1 else 0) by by_cases c : a < n; rw [if_pos c, if_pos (by omega)]; rw [if_neg c, if_neg (by omega)]]
      cases h1 : S1 n with
      | true => rw [h1] at hn; rw [lst_yes h1, lst_yes hn.symm]; show _ + 1 ≤ _ + 1 + _; omega
      | false => rw [h1] at hn; rw [lst_no h1, lst_no hn.symm]; exact ih
theorem kM_none {P : Nat → Int} {c : Int} : ∀ n : Nat, (∀ j : Nat, j < n → stB P (kgX c) j = false) → kM P c n = 0
  | 0, _ => rfl
  | n + 1, h => by
    have hn := h n (by omega)
    unfold stB standM at hn
    have this : ¬ (P (sqI n) = 6 ∧ P (sqI n + 1) = c) := of_decide_eq_false hn
    unfold kM
    rw [kM_none n (fun j hj => h j (by omega)), if_neg this]
    rfl
theorem king_is {P : Nat → Int} {c x : Int} (h : IsFst (stB P (kgX c)) 64 x) (hk : kM P c 64 = 1) : (0 ≤ x ∧ x < 64) ∧ P (sqI x) = 6 ∧ P (sqI x + 1) = c := by
  rcases h with ⟨_, h⟩ | ⟨i, hi, rfl, h, _⟩
  · rw [kM_none 64 h] at hk; omega
  · unfold stB standM at h
    exact ⟨by omega, of_decide_eq_true h⟩
theorem right_pieces {P : Nat → Int} (h : rightM P = true) : (∀ s : Nat, s < 64 → okM P s) ∧ kM P 0 64 = 1 ∧ kM P 1 64 = 1 ∧ (P 128 = 0 ∨ P 128 = 1) := by
  unfold rightM at h
  simp only [Bool.and_eq_true] at h
  exact pieces_is h.1.1.1
theorem ok_may {P D : Nat → Int} {a : Nat} (h : okM P a) (h0 : D 0 = P (a * 2)) (h1 : D 1 = P (a * 2 + 1)) : (D 0 = 0 ∧ D 1 = 0) ∨ mayM (D 0) (D 1) = true := by
  have hs : sqI (a : Int) = a * 2 := by show 0 + (a : Int).toNat * 2 = _; omega
  unfold okM at h
  rw [hs, ← h0, ← h1] at h
  rcases h with h | h
  · exact .inl h
  · exact .inr (decide_eq_true ⟨h.1.1, h.1.2.1, h.1.2.2⟩)
theorem neq_ne {a b : Int} (h : a ≠ b) : binS .neq (.int .i64 a) (.int .i64 b) = some (.bool true) := by
  show some (S.bool (a != b)) = _
  rw [bne_iff_ne.2 h]
theorem eqI_t2 {X Y : Nat → Int} (h0 : X 0 = Y 0) (h1 : X 1 = Y 1) : (bif false then !(eqI 2 X Y) else eqI 2 X Y) = true := eqI_t1 fun i hi => by
  have : i = 0 ∨ i = 1 := by omega
  rcases this with rfl | rfl
  · exact h0
  · exact h1
theorem eqI_f2 {X Y : Nat → Int} (h0 : X 0 = Y 0) (h1 : X 1 = Y 1) : (bif true then !(eqI 2 X Y) else eqI 2 X Y) = false := by
  have := eqI_t2 h0 h1
  simp only [cond_false] at this
  rw [this]; rfl
theorem eqI_fg {n : Nat} {P Q : Nat → Int} (h : ∀ i, i < n → P i = Q i) : (bif true then !(eqI n P Q) else eqI n P Q) = false := by
  rw [eqI_iff.2 h]; rfl

theorem WO_put1 {M : Nat} {f : FE} {n : Nat} {L : HA} {K : KN} {l : List I} {d : Nat} {x y z : O} {P X R : Nat → Int} {b : Nat} (h0 : x.fv M f = .agg 133 (ia P)) (h1 : y.fv M f = .agg 2 (ia X)) (h2 : z.fv M f = .sl b 0 1 1 (.ex 1)) (hm : (b, Blk.sc .var 1 (ia R)) ∈ L)
    (k : WO AM M l (upd f d (.tup [.agg 133 (ia (putQ P X R 1)), .s (.int .i64 (putE X R 1))])) n L K) : WO AM M (⟨some d, none, .h (.call (.k (.fn 59 [])) [x, y, z])⟩ :: l) f n L K :=
  WO_call (rs := [b]) (Bs := [_]) (av := [.agg 133 (ia P), .agg 2 (ia X), .sl b 0 1 1 (.ex 1)]) rfl (RB_of1 (Put_walk (md := .var) (q := 1) (c := .ex 1) P X R 1 (by omega))) (by rw [List.map_cons, List.map_cons, List.map_cons, List.map_nil, h0, h1, h2]) (by simp [V.refsL, V.refs, dedup]) (by simp [V.refsL, V.refs]) (by simp [V.refsL, V.refs]) (by simp [rnL, V.renL, V.ren, pos]) ⟨hm, ⟨_, _, _, rfl⟩, trivial⟩ rfl rfl rfl (.cons (At_self hm) .nil) k

theorem BoardPuts_run (P : Nat → Int) (x y z : Int) : WR AM 12 [.agg 133 (ia P), .s (.int .i64 x), .s (.int .i64 y), .s (.int .i64 z)] [] (fun v _ _ => v = .s (.bool true)) := by
 refine WR_fn (a := a12) rfl rfl (entryF _) (entry_E (Nat.le_of_ble_eq_true rfl)) (m := 0) rfl ?_
 refine WP_seq ?_
 refine WP_ops ?_
 refine WO_boxA rfl ?_
 refine WO_mv rfl ?_
 refine WO_nil ?_
 refine WP_seq ?_
 refine WP_seq ?_
 refine WP_ops ?_
 refine WO_call0 rfl (boAwake_run) rfl rfl rfl ?_
 refine WO_un (r := .bool _) rfl rfl ?_
 refine WO_nil ?_
 refine WP_cond rfl (fun h => nomatch h) (fun _ => ?_)
 refine WP_skip ?_
 refine WP_cut (fun f n L => ∃ (X : Nat → Int), (1 ≤ X 0 ∧ X 0 ≤ 6 ∧ (X 1 = 0 ∨ X 1 = 1)) ∧ (f 3 = .s (.int .i64 z)) ∧ (f 4 = .ptr 0 0 133) ∧ (f 9 = .ptr 1 0 2) ∧ (L = [(1, .sc .var 2 (ia X)), (0, .sc .var 133 (ia P))]) ∧ (n = 2)) ?_ (fun f nb L hI => ?_)
 ·skip
  refine WP_ops ?_
  refine WO_mv (v := .s (.int _ _)) rfl ?_
  have hkx := pickM_bd x (n := 6) (by omega)
  refine WO_call0 rfl (RF_of (Pick_run x 6 (by omega) (by omega))) rfl rfl rfl ?_
  refine WO_add rfl rfl (by omega) ?_
  refine WO_mv (v := .s (.int _ _)) rfl ?_
  have hky := pickM_bd y (n := 2) (by omega)
  refine WO_call0 rfl (RF_of (Pick_run y 2 (by omega) (by omega))) rfl rfl rfl ?_
  refine WO_buildI rfl (.one rfl (.one rfl .nil)) ?_
  refine WO_allocI ?_
  refine WO_stA rfl rfl rfl rfl .here ?_
  refine WO_nil ?_
  refine ⟨_, (.cons_cons _ (.cons_cons _ .slnil)), _, ?_, rfl, rfl, rfl, rfl, rfl⟩
  exact ⟨show 1 ≤ 1 + pickM x 6 by omega, show 1 + pickM x 6 ≤ 6 by omega, show pickM y 2 = 0 ∨ pickM y 2 = 1 by omega⟩
 ·skip
  obtain ⟨X, hX, k3, k4, k9, rfl, rfl⟩ := hI
  refine WP_know (d := 3) (v := .s (.int .i64 z)) k3 ?_
  refine WP_know (d := 4) (v := .ptr 0 0 133) k4 ?_
  refine WP_know (d := 9) (v := .ptr 1 0 2) k9 ?_
  have hmay : mayM (X 0) (X 1) = true := decide_eq_true ⟨hX.1, hX.2.1, hX.2.2⟩
  refine WP_seq ?_
  refine WP_ops ?_
  refine WO_mv (v := .s (.int _ _)) rfl ?_
  have hkz := pickM_bd z (n := 64) (by omega)
  refine WO_call0 rfl (RF_of (Pick_run z 64 (by omega) (by omega))) rfl rfl rfl ?_
  obtain ⟨a, hae⟩ : ∃ a : Nat, pickM z 64 = a := ⟨(pickM z 64).toNat, by omega⟩
  rw [hae] at hkz ⊢
  have ha : a < 64 := by omega
  refine WO_mv (v := .s (.int _ _)) rfl ?_
  refine WO_nil ?_
  refine WP_cut (fun f n L => ∃ (Q : Nat → Int), (∀ i : Nat, i < 133 → Q i = ovA P (a * 2) 2 X i) ∧ (f 4 = .ptr 0 0 133) ∧ (f 9 = .ptr 1 0 2) ∧ (f 10 = .s (.int .i64 (a : Int))) ∧ (f 11 = .ptr 3 0 133) ∧ (f 12 = .s (.int .i64 0)) ∧ (L = [(3, .sc .var 133 (ia Q)), (1, .sc .var 2 (ia X)), (0, .sc .var 133 (ia P))]) ∧ (n = 4)) ?_ (fun f nb L hI => ?_)
  ·skip
   refine WP_ops ?_
   first | refine WO_ldA0 rfl rfl (.tail _ (.head _)) ?_ | refine WO_ldAI rfl rfl (.tail _ (.head _)) ?_
   first | refine WO_ldA0 rfl rfl (.head _) ?_ | refine WO_ldAI rfl rfl (.head _) ?_
   refine WO_mv (v := .s (.int _ _)) rfl ?_
   refine WO_mkslS rfl (.one rfl .nil) ?_
   refine WO_put1 rfl rfl rfl (.head _) ?_
   refine WO_mv (v := .tup _) rfl ?_
   refine WO_ext (v := .agg _ _) rfl rfl ?_
   refine WO_ext (v := .s (.int _ _)) rfl rfl ?_
   refine WO_allocI ?_
   refine WO_stA rfl rfl rfl rfl .here ?_
   refine WO_mv (v := .s (.int _ _)) rfl ?_
   refine WO_nil ?_
   exact ⟨_, (.cons_cons _ (.cons _ (.cons_cons _ (.cons_cons _ .slnil)))), _, put1Q ha (.inr hmay), rfl, rfl, rfl, rfl, congrArg (fun e => V.s (S.int .i64 e)) (put1E ha (.inr hmay)), rfl, rfl⟩
  ·skip
   obtain ⟨Q, hQ, k4, k9, k10, k11, k12, rfl, rfl⟩ := hI
   refine WP_know (d := 4) (v := .ptr 0 0 133) k4 ?_
   refine WP_know (d := 9) (v := .ptr 1 0 2) k9 ?_
   refine WP_know (d := 10) (v := .s (.int .i64 (a : Int))) k10 ?_
   refine WP_know (d := 11) (v := .ptr 3 0 133) k11 ?_
   refine WP_know (d := 12) (v := .s (.int .i64 0)) k12 ?_
   refine WP_seq ?_
   refine WP_ops ?_
   refine WO_mv (v := .s (.int _ _)) rfl ?_
   refine WO_fa (o' := 0) rfl rfl rfl ?_
   refine WO_ixa rfl rfl rfl (by omega) ?_
   first | refine WO_ldA0 rfl rfl (.tail _ (.tail _ (.head _))) ?_ | refine WO_ldAI rfl rfl (.tail _ (.tail _ (.head _))) ?_
   refine WO_allocI ?_
   refine WO_stA rfl rfl rfl rfl .here ?_
   refine WO_nil ?_
   refine WP_seq ?_
   refine WP_seq ?_
   refine WP_ops ?_
   refine WO_mv (v := .s (.int _ _)) rfl ?_
   refine WO_bin rfl rfl (neq_same rfl) ?_
   refine WO_mv (v := .s (.bool _)) rfl ?_
   refine WO_gt rfl ?_
   refine WO_mv (v := .s (.int _ _)) rfl ?_
   refine WO_gt rfl ?_
   refine WO_fa (o' := 0) rfl rfl rfl ?_
   refine WO_gt rfl ?_
   refine WO_ixa rfl rfl rfl (by omega) ?_
   refine WO_gt rfl ?_
   first | refine WO_ldA0 rfl rfl (.tail _ (.head _)) ?_ | refine WO_ldAI rfl rfl (.tail _ (.head _)) ?_
   refine WO_gt rfl ?_
   first | refine WO_ldA0 rfl rfl (.tail _ (.tail _ (.head _))) ?_ | refine WO_ldAI rfl rfl (.tail _ (.tail _ (.head _))) ?_
   refine WO_gt rfl ?_
   refine WO_eqaC rfl rfl (eqI_f2 (by show Q (0 + (a : Int).toNat * 2 + 0) = X 0; rw [show 0 + (a : Int).toNat * 2 + 0 = a * 2 by omega, hQ _ (by omega), ovA_at (by omega), Nat.sub_self]) (by show Q (0 + (a : Int).toNat * 2 + 1) = X 1; rw [show 0 + (a : Int).toNat * 2 + 1 = a * 2 + 1 by omega, hQ _ (by omega), ovA_at (by omega), Nat.add_sub_cancel_left])) ?_
   refine WO_pick (v := .s (.bool _)) rfl rfl ?_
   refine WO_nil ?_
   refine WP_cond rfl (fun h => nomatch h) (fun _ => ?_)
   refine WP_skip ?_
   refine WP_seq ?_
   refine WP_ops ?_
   first | refine WO_ldA0 rfl rfl (.tail _ (.head _)) ?_ | refine WO_ldAI rfl rfl (.tail _ (.head _)) ?_
   first | refine WO_ldA0 rfl rfl (.tail _ (.tail _ (.head _))) ?_ | refine WO_ldAI rfl rfl (.tail _ (.tail _ (.head _))) ?_
   obtain ⟨hsa, hso⟩ := st_put ha hQ
   have hle := lst_le1 64 hso
   rw [if_pos ha] at hle
   obtain ⟨j0, hj0, hl0⟩ := lst_mem 64 a ha hsa
   have hb64 := lstM_le (stB Q X) 64
   rcases Find_ex Q X with ⟨hcF, hT⟩ | ⟨hcF, qF, F, hF, hT⟩
   ·skip
    exfalso; omega
   ·skip
    refine WO_callN (mk := fun b => .sl b 0 (lstM (stB Q X) 64).1 1 .whole) (rs := []) (Bs := []) One_sl rfl hT rfl rfl (Nat.le_of_ble_eq_true rfl) (fun _ h => h) rfl trivial rfl rfl .nil ?_
    refine WO_mv (v := .sl _ _ _ _ _) rfl ?_
    refine WO_nil ?_
    refine WP_seq ?_
    refine WP_ops ?_
    refine WO_mv rfl ?_
    refine WO_nil ?_
    refine WP_cut (fun f n L => ∃ (D : Nat → Int), (D 0 = P (a * 2)) ∧ (D 1 = P (a * 2 + 1)) ∧ (f 4 = .ptr 0 0 133) ∧ (f 9 = .ptr 1 0 2) ∧ (f 10 = .s (.int .i64 (a : Int))) ∧ (f 11 = .ptr 3 0 133) ∧ (f 13 = .ptr 4 0 2) ∧ (f 14 = .sl 5 0 (lstM (stB Q X) 64).1 1 .whole) ∧ (f 15 = .s (.bool true)) ∧ (L = [(4, .sc .var 2 (ia D)), (3, .sc .var 133 (ia Q)), (1, .sc .var 2 (ia X)), (0, .sc .var 133 (ia P))])) ?_ (fun f nb L hI => ?_)
    ·skip
     refine WP_seq ?_
     refine WP_ops ?_
     refine WO_mv rfl ?_
     refine WO_nil ?_
     refine WP_block ?_
     refine WP_sub (L' := [_, _, _, _, _]) (.cons_cons _ (.cons_cons _ (.cons_cons _ (.cons_cons _ (.cons_cons _ .slnil))))) ?_
     refine WP_loop (fun m f _ L => ∃ (i : Nat) (th : Bool), (i ≤ (lstM (stB Q X) 64).1) ∧ (m = (lstM (stB Q X) 64).1 - i) ∧ (∀ j : Nat, j < i → F j = (a : Int) → th = true) ∧ (f 4 = .ptr 0 0 133) ∧ (f 9 = .ptr 1 0 2) ∧ (f 10 = .s (.int .i64 (a : Int))) ∧ (f 11 = .ptr 3 0 133) ∧ (f 13 = .ptr 4 0 2) ∧ (f 14 = .sl 5 0 (lstM (stB Q X) 64).1 1 .whole) ∧ (f 15 = .s (.bool th)) ∧ (f 16 = .s (.int .i64 i)) ∧ (L = [(5, .sc .grow qF (ia F)), (4, .sc .var 2 (ia (ovA (fun _ => 0) 0 2 (dp P (sqI (a : Int)))))), (3, .sc .var 133 (ia Q)), (1, .sc .var 2 (ia X)), (0, .sc .var 133 (ia P))])) (fun m f nb L hI => ?_) ((lstM (stB Q X) 64).1) ⟨0, false, by omega, rfl, fun j h => by omega, rfl, rfl, rfl, rfl, rfl, rfl, rfl, rfl, rfl⟩
     obtain ⟨i, th, hi, hm, hth, k4, k9, k10, k11, k13, k14, k15, k16, rfl⟩ := hI
     refine WP_know (d := 4) (v := .ptr 0 0 133) k4 ?_
     refine WP_know (d := 9) (v := .ptr 1 0 2) k9 ?_
     refine WP_know (d := 10) (v := .s (.int .i64 (a : Int))) k10 ?_
     refine WP_know (d := 11) (v := .ptr 3 0 133) k11 ?_
     refine WP_know (d := 13) (v := .ptr 4 0 2) k13 ?_
     refine WP_know (d := 14) (v := .sl 5 0 (lstM (stB Q X) 64).1 1 .whole) k14 ?_
     refine WP_know (d := 15) (v := .s (.bool th)) k15 ?_
     refine WP_know (d := 16) (v := .s (.int .i64 i)) k16 ?_
     refine WP_seq ?_
     refine WP_seq ?_
     refine WP_ops ?_
     refine WO_mv (v := .s (.int _ _)) rfl ?_
     refine WO_mv (v := .sl _ _ _ _ _) rfl ?_
     refine WO_len rfl ?_
     refine WO_bin (r := .bool _) rfl rfl rfl ?_
     refine WO_nil ?_
     refine WP_cond rfl (fun h1 => ?_) (fun h1 => ?_)
     ·try simp only [NM] at h1
      refine WP_skip ?_
      refine WP_seq ?_
      refine WP_block ?_
      refine WP_ops ?_
      refine WO_mv (v := .s (.bool _)) rfl ?_
      refine WO_mv (v := .s (.bool _)) rfl ?_
      refine WO_case (t := 64) rfl (fun h2 => ?_) (fun h2 => ?_)
      ·try simp only [NM] at h2
       refine WO_gf rfl rfl ?_
       refine WO_gf rfl rfl ?_
       refine WO_gf rfl rfl ?_
       refine WO_gf rfl rfl ?_
       refine WO_gf rfl rfl ?_
       refine WO_gf rfl rfl ?_
       refine WO_pick (v := .s (.bool _)) rfl rfl ?_
       refine WO_mv (v := .s (.bool _)) rfl ?_
       refine WO_nil ?_
       refine WP_ops ?_
       refine WO_mv (v := .s (.int _ _)) rfl ?_
       refine WO_add rfl rfl (by omega) ?_
       refine WO_mv (v := .s (.int _ _)) rfl ?_
       refine WO_nil ?_
       first | exact ⟨(lstM (stB Q X) 64).1 - (i + 1), _, by omega, (.cons_cons _ (.cons_cons _ (.cons_cons _ (.cons_cons _ (.cons_cons _ .slnil))))), i + 1, true, by omega, rfl, fun _ _ _ => rfl, rfl, rfl, rfl, rfl, rfl, rfl, rfl, rfl, rfl⟩ | (refine ⟨(lstM (stB Q X) 64).1 - (i + 1), _, by omega, (.cons_cons _ (.cons_cons _ (.cons_cons _ (.cons_cons _ (.cons_cons _ .slnil))))), i + 1, _, by omega, rfl, ?_, rfl, rfl, rfl, rfl, rfl, rfl, rfl, rfl, rfl⟩; intro j hj e; by_cases q : j = i; (subst q; exact beq_iff_eq.2 e); (have h9 := hth j (by omega) e; simp_all))
      ·try simp only [NM] at h2
       refine WO_gt rfl ?_
       refine WO_mv (v := .sl _ _ _ _ _) rfl ?_
       refine WO_gt rfl ?_
       refine WO_mv (v := .s (.int _ _)) rfl ?_
       refine WO_gt rfl ?_
       refine WO_ixs rfl rfl (by omega) ?_
       refine WO_gt rfl ?_
       refine WO_ldI (x := F i) rfl rfl (.head _) (congrArg F (by omega)) ?_
       refine WO_gt rfl ?_
       refine WO_mv (v := .s (.int _ _)) rfl ?_
       refine WO_gt rfl ?_
       refine WO_bin (r := .bool _) rfl rfl rfl ?_
       refine WO_pick (v := .s (.bool _)) rfl rfl ?_
       refine WO_mv (v := .s (.bool _)) rfl ?_
       refine WO_nil ?_
       refine WP_ops ?_
       refine WO_mv (v := .s (.int _ _)) rfl ?_
       refine WO_add rfl rfl (by omega) ?_
       refine WO_mv (v := .s (.int _ _)) rfl ?_
       refine WO_nil ?_
       first | exact ⟨(lstM (stB Q X) 64).1 - (i + 1), _, by omega, (.cons_cons _ (.cons_cons _ (.cons_cons _ (.cons_cons _ (.cons_cons _ .slnil))))), i + 1, true, by omega, rfl, fun _ _ _ => rfl, rfl, rfl, rfl, rfl, rfl, rfl, rfl, rfl, rfl⟩ | (refine ⟨(lstM (stB Q X) 64).1 - (i + 1), _, by omega, (.cons_cons _ (.cons_cons _ (.cons_cons _ (.cons_cons _ (.cons_cons _ .slnil))))), i + 1, _, by omega, rfl, ?_, rfl, rfl, rfl, rfl, rfl, rfl, rfl, rfl, rfl⟩; intro j hj e; by_cases q : j = i; (subst q; exact beq_iff_eq.2 e); (have h9 := hth j (by omega) e; simp_all))
     ·try simp only [NM] at h1
      refine WP_exit ?_
      refine xhere ?_
      have hth1 : th = true := hth j0 (by omega) ((hF j0 hj0).trans hl0)
      subst hth1
      refine ⟨_, (.cons _ (.cons_cons _ (.cons_cons _ (.cons_cons _ (.cons_cons _ .slnil))))), _, ?_, ?_, rfl, rfl, rfl, rfl, rfl, rfl, rfl, rfl⟩
      ·show P (0 + (a : Int).toNat * 2 + 0) = _; exact congrArg P (by omega)
      ·show P (0 + (a : Int).toNat * 2 + 1) = _; exact congrArg P (by omega)
    ·skip
     obtain ⟨D, hV0, hV1, k4, k9, k10, k11, k13, k14, k15, rfl⟩ := hI
     refine WP_know (d := 4) (v := .ptr 0 0 133) k4 ?_
     refine WP_know (d := 9) (v := .ptr 1 0 2) k9 ?_
     refine WP_know (d := 10) (v := .s (.int .i64 (a : Int))) k10 ?_
     refine WP_know (d := 11) (v := .ptr 3 0 133) k11 ?_
     refine WP_know (d := 13) (v := .ptr 4 0 2) k13 ?_
     refine WP_know (d := 14) (v := .sl 5 0 (lstM (stB Q X) 64).1 1 .whole) k14 ?_
     refine WP_know (d := 15) (v := .s (.bool true)) k15 ?_
     refine WP_seq ?_
     refine WP_ops ?_
     first | refine WO_ldA0 rfl rfl (.tail _ (.head _)) ?_ | refine WO_ldAI rfl rfl (.tail _ (.head _)) ?_
     refine WO_allocI ?_
     refine WO_stA rfl rfl rfl rfl .here ?_
     refine WO_nil ?_
     refine WP_seq ?_
     refine WP_ops ?_
     refine WO_mv (v := .s (.int _ _)) rfl ?_
     first | refine WO_ldA0 rfl rfl (.tail _ (.head _)) ?_ | refine WO_ldAI rfl rfl (.tail _ (.head _)) ?_
     refine WO_fa (o' := 0) rfl rfl rfl ?_
     refine WO_ixa rfl rfl rfl (by omega) ?_
     refine WO_stA rfl rfl rfl rfl .here ?_
     refine WO_nil ?_
     refine WP_seq ?_
     refine WP_seq ?_
     refine WP_ops ?_
     refine WO_mv (v := .s (.bool _)) rfl ?_
     refine WO_un (r := .bool _) rfl rfl ?_
     refine WO_mv (v := .s (.bool _)) rfl ?_
     refine WO_gt rfl ?_
     first | refine WO_ldA0 rfl rfl (.head _) ?_ | refine WO_ldAI rfl rfl (.head _) ?_
     refine WO_gt rfl ?_
     first | refine WO_ldA0 rfl rfl (.tail _ (.tail _ (.tail _ (.tail _ (.head _))))) ?_ | refine WO_ldAI rfl rfl (.tail _ (.tail _ (.tail _ (.tail _ (.head _))))) ?_
     refine WO_gt rfl ?_
     refine WO_eqaC rfl rfl (eqI_fg (fun i hi => back_eq ha hQ hV0 hV1 i hi)) ?_
     refine WO_pick (v := .s (.bool _)) rfl rfl ?_
     refine WO_mv (v := .s (.bool _)) rfl ?_
     refine WO_gt rfl ?_
     refine WO_mv (v := .sl _ _ _ _ _) rfl ?_
     refine WO_gt rfl ?_
     refine WO_len rfl ?_
     refine WO_gt rfl ?_
     first | refine WO_ldA0 rfl rfl (.tail _ (.tail _ (.tail _ (.tail _ (.head _))))) ?_ | refine WO_ldAI rfl rfl (.tail _ (.tail _ (.tail _ (.tail _ (.head _))))) ?_
     refine WO_gt rfl ?_
     first | refine WO_ldA0 rfl rfl (.tail _ (.tail _ (.tail _ (.head _)))) ?_ | refine WO_ldAI rfl rfl (.tail _ (.tail _ (.tail _ (.head _)))) ?_
     refine WO_gt rfl ?_
     have hb2 := lstM_le (stB P X) 64
     rcases Find_ex P X with ⟨hc2, hT2⟩ | ⟨hc2, q2, F2, hF2, hT2⟩
     ·skip
      refine WO_call0 rfl (hT2) rfl rfl rfl ?_
      refine WO_gt rfl ?_
      refine WO_lenN rfl ?_
      refine WO_gt rfl ?_
      refine WO_add rfl rfl (by omega) ?_
      refine WO_gt rfl ?_
      refine WO_bin (r := .bool _) rfl rfl rfl ?_
      refine WO_pick (v := .s (.bool _)) rfl rfl ?_
      refine WO_nil ?_
      refine WP_cond rfl (fun h3 => ?_) (fun h3 => ?_)
      ·try simp only [NM] at h3
       exfalso; first | omega | (simp at h3)
      ·try simp only [NM] at h3
       refine WP_skip ?_
       refine WP_seq ?_
       refine WP_seq ?_
       refine WP_ops ?_
       first | refine WO_ldA0 rfl rfl (.tail _ (.tail _ (.tail _ (.tail _ (.head _))))) ?_ | refine WO_ldAI rfl rfl (.tail _ (.tail _ (.tail _ (.tail _ (.head _))))) ?_
       refine WO_call0 rfl (RF_of (Right_run P)) rfl rfl rfl ?_
       refine WO_un (r := .bool _) rfl rfl ?_
       refine WO_nil ?_
       refine WP_cond rfl (fun hR => ?_) (fun hR => ?_)
       ·try simp only [NM] at hR
        refine WP_seq ?_
        refine WP_ops ?_
        refine WO_mv rfl ?_
        refine WO_nil ?_
        refine WP_ret ?_
        refine ⟨_, RS_tmp (v := .s (.bool _)) rfl (RS_nil), ?_⟩
        rfl
       ·try simp only [NM] at hR
        refine WP_skip ?_
        refine WP_cut (fun f n L => ∃ (b18 : Nat) (U : Nat → Int), (∀ i : Nat, i < 133 → U i = P i) ∧ (f 4 = .ptr 0 0 133) ∧ (f 18 = .ptr b18 0 133) ∧ (f 19 = .s (.int .i64 0)) ∧ (L = [(b18, .sc .var 133 (ia U)), (0, .sc .var 133 (ia P))])) ?_ (fun f nb L hI => ?_)
        ·skip
         refine WP_ops ?_
         have hpc := right_pieces hR
         have hvm := ok_may (hpc.1 a ha) hV0 hV1
         first | refine WO_ldA0 rfl rfl (.tail _ (.tail _ (.head _))) ?_ | refine WO_ldAI rfl rfl (.tail _ (.tail _ (.head _))) ?_
         first | refine WO_ldA0 rfl rfl (.tail _ (.head _)) ?_ | refine WO_ldAI rfl rfl (.tail _ (.head _)) ?_
         refine WO_mv (v := .s (.int _ _)) rfl ?_
         refine WO_mkslS rfl (.one rfl .nil) ?_
         refine WO_put1 rfl rfl rfl (.head _) ?_
         refine WO_mv (v := .tup _) rfl ?_
         refine WO_ext (v := .agg _ _) rfl rfl ?_
         refine WO_ext (v := .s (.int _ _)) rfl rfl ?_
         refine WO_allocI ?_
         refine WO_stA rfl rfl rfl rfl .here ?_
         refine WO_mv (v := .s (.int _ _)) rfl ?_
         refine WO_nil ?_
         exact ⟨_, (.cons_cons _ (.cons _ (.cons _ (.cons _ (.cons _ (.cons _ (.cons_cons _ .slnil))))))), _, _, back_put ha hQ hV0 hV1 hvm, rfl, rfl, congrArg (fun e => V.s (S.int .i64 e)) (put1E ha hvm), rfl⟩
        ·skip
         obtain ⟨b18, U, hU, k4, k18, k19, rfl⟩ := hI
         refine WP_know (d := 4) (v := .ptr 0 0 133) k4 ?_
         refine WP_know (d := 18) (v := .ptr b18 0 133) k18 ?_
         refine WP_know (d := 19) (v := .s (.int .i64 0)) k19 ?_
         have hpc := right_pieces hR
         refine WP_seq ?_
         refine WP_ops ?_
         first | refine WO_ldA0 rfl rfl (.tail _ (.head _)) ?_ | refine WO_ldAI rfl rfl (.tail _ (.head _)) ?_
         obtain ⟨x1, hFx1, hkx1, _⟩ := King_both P 0
         refine WO_callq0 rfl (hkx1) rfl rfl rfl ?_
         obtain ⟨hix1, h6x1, hsx1⟩ := king_is hFx1 hpc.2.1
         first | refine WO_ldA0 rfl rfl (.tail _ (.head _)) ?_ | refine WO_ldAI rfl rfl (.tail _ (.head _)) ?_
         obtain ⟨x2, hFx2, hkx2, _⟩ := King_both P 1
         refine WO_call0 rfl (hkx2) rfl rfl rfl ?_
         obtain ⟨hix2, h6x2, hsx2⟩ := king_is hFx2 hpc.2.2.1
         refine WO_mv (v := .s (.int _ _)) rfl ?_
         refine WO_mv (v := .s (.int _ _)) rfl ?_
         refine WO_nil ?_
         refine WP_seq ?_
         refine WP_seq ?_
         refine WP_ops ?_
         refine WO_mv (v := .s (.int _ _)) rfl ?_
         refine WO_bin (r := .bool _) rfl rfl rfl ?_
         refine WO_mv (v := .s (.bool _)) rfl ?_
         refine WO_case (t := 111) rfl (fun h4 => ?_) (fun h4 => ?_)
         ·try simp only [NM] at h4
          exfalso; first | omega | (simp at h4)
         ·try simp only [NM] at h4
          refine WO_gt rfl ?_
          refine WO_mv (v := .s (.int _ _)) rfl ?_
          refine WO_gt rfl ?_
          refine WO_bin (r := .bool _) rfl rfl rfl ?_
          refine WO_pick (v := .s (.bool _)) rfl rfl ?_
          refine WO_mv (v := .s (.bool _)) rfl ?_
          refine WO_case (t := 115) rfl (fun h5 => ?_) (fun h5 => ?_)
          ·try simp only [NM] at h5
           exfalso; first | omega | (simp at h5)
          ·try simp only [NM] at h5
           refine WO_gt rfl ?_
           refine WO_mv (v := .s (.int _ _)) rfl ?_
           refine WO_gt rfl ?_
           refine WO_bin (r := .bool _) rfl rfl rfl ?_
           refine WO_pick (v := .s (.bool _)) rfl rfl ?_
           refine WO_mv (v := .s (.bool _)) rfl ?_
           refine WO_case (t := 119) rfl (fun h6 => ?_) (fun h6 => ?_)
           ·try simp only [NM] at h6
            exfalso; first | omega | (simp at h6)
           ·try simp only [NM] at h6
            refine WO_gt rfl ?_
            refine WO_mv (v := .s (.int _ _)) rfl ?_
            refine WO_gt rfl ?_
            refine WO_bin (r := .bool _) rfl rfl rfl ?_
            refine WO_pick (v := .s (.bool _)) rfl rfl ?_
            refine WO_nil ?_
            refine WP_cond rfl (fun h7 => ?_) (fun h7 => ?_)
            ·try simp only [NM] at h7
             exfalso; first | omega | (simp at h7)
            ·try simp only [NM] at h7
             refine WP_skip ?_
             refine WP_seq ?_
             refine WP_ops ?_
             refine WO_mv (v := .s (.int _ _)) rfl ?_
             refine WO_bin rfl rfl (eql_eq rfl) ?_
             refine WO_mv (v := .s (.bool _)) rfl ?_
             refine WO_gt rfl ?_
             first | refine WO_ldA0 rfl rfl (.head _) ?_ | refine WO_ldAI rfl rfl (.head _) ?_
             refine WO_gt rfl ?_
             first | refine WO_ldA0 rfl rfl (.tail _ (.head _)) ?_ | refine WO_ldAI rfl rfl (.tail _ (.head _)) ?_
             refine WO_gt rfl ?_
             refine WO_eqaC rfl rfl (eqI_t1 (fun i hi => hU i hi)) ?_
             refine WO_pick (v := .s (.bool _)) rfl rfl ?_
             refine WO_mv (v := .s (.bool _)) rfl ?_
             refine WO_gt rfl ?_
             refine WO_mv (v := .s (.int _ _)) rfl ?_
             refine WO_gt rfl ?_
             refine WO_mv (v := .s (.int _ _)) rfl ?_
             refine WO_gt rfl ?_
             refine WO_bin rfl rfl (neq_ne (fun e => by rw [e] at hsx1; omega)) ?_
             refine WO_pick (v := .s (.bool _)) rfl rfl ?_
             refine WO_mv (v := .s (.bool _)) rfl ?_
             refine WO_gt rfl ?_
             refine WO_mv (v := .s (.int _ _)) rfl ?_
             refine WO_gt rfl ?_
             refine WO_fa (o' := 0) rfl rfl rfl ?_
             refine WO_gt rfl ?_
             refine WO_ixa rfl rfl rfl (by omega) ?_
             refine WO_gt rfl ?_
             first | refine WO_ldA0 rfl rfl (.tail _ (.head _)) ?_ | refine WO_ldAI rfl rfl (.tail _ (.head _)) ?_
             refine WO_gt rfl ?_
             refine WO_buildI rfl (.one rfl .nil) ?_
             refine WO_gt rfl ?_
             refine WO_eqaC rfl rfl (eqI_t2 h6x1 hsx1) ?_
             refine WO_pick (v := .s (.bool _)) rfl rfl ?_
             refine WO_mv (v := .s (.bool _)) rfl ?_
             refine WO_gt rfl ?_
             refine WO_mv (v := .s (.int _ _)) rfl ?_
             refine WO_gt rfl ?_
             refine WO_fa (o' := 0) rfl rfl rfl ?_
             refine WO_gt rfl ?_
             refine WO_ixa rfl rfl rfl (by omega) ?_
             refine WO_gt rfl ?_
             first | refine WO_ldA0 rfl rfl (.tail _ (.head _)) ?_ | refine WO_ldAI rfl rfl (.tail _ (.head _)) ?_
             refine WO_gt rfl ?_
             refine WO_buildI rfl (.one rfl (.one rfl .nil)) ?_
             refine WO_gt rfl ?_
             refine WO_eqaC rfl rfl (eqI_t2 h6x2 hsx2) ?_
             refine WO_pick (v := .s (.bool _)) rfl rfl ?_
             refine WO_mv (v := .s (.bool _)) rfl ?_
             refine WO_nil ?_
             refine WP_ret ?_
             refine ⟨_, RS_tmp (v := .s (.bool _)) rfl (RS_nil), ?_⟩
             rfl
     ·skip
      refine WO_callN (mk := fun b => .sl b 0 (lstM (stB P X) 64).1 1 .whole) (rs := []) (Bs := []) One_sl rfl hT2 rfl rfl (Nat.le_of_ble_eq_true rfl) (fun _ h => h) rfl trivial rfl rfl .nil ?_
      refine WO_gt rfl ?_
      refine WO_len rfl ?_
      refine WO_gt rfl ?_
      refine WO_add rfl rfl (by omega) ?_
      refine WO_gt rfl ?_
      refine WO_bin (r := .bool _) rfl rfl rfl ?_
      refine WO_pick (v := .s (.bool _)) rfl rfl ?_
      refine WO_nil ?_
      refine WP_cond rfl (fun h8 => ?_) (fun h8 => ?_)
      ·try simp only [NM] at h8
       exfalso; first | omega | (simp at h8)
      ·try simp only [NM] at h8
       refine WP_skip ?_
       refine WP_seq ?_
       refine WP_seq ?_
       refine WP_ops ?_
       first | refine WO_ldA0 rfl rfl (.tail _ (.tail _ (.tail _ (.tail _ (.tail _ (.head _)))))) ?_ | refine WO_ldAI rfl rfl (.tail _ (.tail _ (.tail _ (.tail _ (.tail _ (.head _)))))) ?_
       refine WO_call0 rfl (RF_of (Right_run P)) rfl rfl rfl ?_
       refine WO_un (r := .bool _) rfl rfl ?_
       refine WO_nil ?_
       refine WP_cond rfl (fun hR => ?_) (fun hR => ?_)
       ·try simp only [NM] at hR
        refine WP_seq ?_
        refine WP_ops ?_
        refine WO_mv rfl ?_
        refine WO_nil ?_
        refine WP_ret ?_
        refine ⟨_, RS_tmp (v := .s (.bool _)) rfl (RS_nil), ?_⟩
        rfl
       ·try simp only [NM] at hR
        refine WP_skip ?_
        refine WP_cut (fun f n L => ∃ (b18 : Nat) (U : Nat → Int), (∀ i : Nat, i < 133 → U i = P i) ∧ (f 4 = .ptr 0 0 133) ∧ (f 18 = .ptr b18 0 133) ∧ (f 19 = .s (.int .i64 0)) ∧ (L = [(b18, .sc .var 133 (ia U)), (0, .sc .var 133 (ia P))])) ?_ (fun f nb L hI => ?_)
        ·skip
         refine WP_ops ?_
         have hpc := right_pieces hR
         have hvm := ok_may (hpc.1 a ha) hV0 hV1
         first | refine WO_ldA0 rfl rfl (.tail _ (.tail _ (.tail _ (.head _)))) ?_ | refine WO_ldAI rfl rfl (.tail _ (.tail _ (.tail _ (.head _)))) ?_
         first | refine WO_ldA0 rfl rfl (.tail _ (.tail _ (.head _))) ?_ | refine WO_ldAI rfl rfl (.tail _ (.tail _ (.head _))) ?_
         refine WO_mv (v := .s (.int _ _)) rfl ?_
         refine WO_mkslS rfl (.one rfl .nil) ?_
         refine WO_put1 rfl rfl rfl (.head _) ?_
         refine WO_mv (v := .tup _) rfl ?_
         refine WO_ext (v := .agg _ _) rfl rfl ?_
         refine WO_ext (v := .s (.int _ _)) rfl rfl ?_
         refine WO_allocI ?_
         refine WO_stA rfl rfl rfl rfl .here ?_
         refine WO_mv (v := .s (.int _ _)) rfl ?_
         refine WO_nil ?_
         exact ⟨_, (.cons_cons _ (.cons _ (.cons _ (.cons _ (.cons _ (.cons _ (.cons _ (.cons_cons _ .slnil)))))))), _, _, back_put ha hQ hV0 hV1 hvm, rfl, rfl, congrArg (fun e => V.s (S.int .i64 e)) (put1E ha hvm), rfl⟩
        ·skip
         obtain ⟨b18, U, hU, k4, k18, k19, rfl⟩ := hI
         refine WP_know (d := 4) (v := .ptr 0 0 133) k4 ?_
         refine WP_know (d := 18) (v := .ptr b18 0 133) k18 ?_
         refine WP_know (d := 19) (v := .s (.int .i64 0)) k19 ?_
         have hpc := right_pieces hR
         refine WP_seq ?_
         refine WP_ops ?_
         first | refine WO_ldA0 rfl rfl (.tail _ (.head _)) ?_ | refine WO_ldAI rfl rfl (.tail _ (.head _)) ?_
         obtain ⟨x1, hFx1, hkx1, _⟩ := King_both P 0
         refine WO_callq0 rfl (hkx1) rfl rfl rfl ?_
         obtain ⟨hix1, h6x1, hsx1⟩ := king_is hFx1 hpc.2.1
         first | refine WO_ldA0 rfl rfl (.tail _ (.head _)) ?_ | refine WO_ldAI rfl rfl (.tail _ (.head _)) ?_
         obtain ⟨x2, hFx2, hkx2, _⟩ := King_both P 1
         refine WO_call0 rfl (hkx2) rfl rfl rfl ?_
         obtain ⟨hix2, h6x2, hsx2⟩ := king_is hFx2 hpc.2.2.1
         refine WO_mv (v := .s (.int _ _)) rfl ?_
         refine WO_mv (v := .s (.int _ _)) rfl ?_
         refine WO_nil ?_
         refine WP_seq ?_
         refine WP_seq ?_
         refine WP_ops ?_
         refine WO_mv (v := .s (.int _ _)) rfl ?_
         refine WO_bin (r := .bool _) rfl rfl rfl ?_
         refine WO_mv (v := .s (.bool _)) rfl ?_
         refine WO_case (t := 111) rfl (fun h9 => ?_) (fun h9 => ?_)
         ·try simp only [NM] at h9
          exfalso; first | omega | (simp at h9)
         ·try simp only [NM] at h9
          refine WO_gt rfl ?_
          refine WO_mv (v := .s (.int _ _)) rfl ?_
          refine WO_gt rfl ?_
          refine WO_bin (r := .bool _) rfl rfl rfl ?_
          refine WO_pick (v := .s (.bool _)) rfl rfl ?_
          refine WO_mv (v := .s (.bool _)) rfl ?_
          refine WO_case (t := 115) rfl (fun h10 => ?_) (fun h10 => ?_)
          ·try simp only [NM] at h10
           exfalso; first | omega | (simp at h10)
          ·try simp only [NM] at h10
           refine WO_gt rfl ?_
           refine WO_mv (v := .s (.int _ _)) rfl ?_
           refine WO_gt rfl ?_
           refine WO_bin (r := .bool _) rfl rfl rfl ?_
           refine WO_pick (v := .s (.bool _)) rfl rfl ?_
           refine WO_mv (v := .s (.bool _)) rfl ?_
           refine WO_case (t := 119) rfl (fun h11 => ?_) (fun h11 => ?_)
           ·try simp only [NM] at h11
            exfalso; first | omega | (simp at h11)
           ·try simp only [NM] at h11
            refine WO_gt rfl ?_
            refine WO_mv (v := .s (.int _ _)) rfl ?_
            refine WO_gt rfl ?_
            refine WO_bin (r := .bool _) rfl rfl rfl ?_
            refine WO_pick (v := .s (.bool _)) rfl rfl ?_
            refine WO_nil ?_
            refine WP_cond rfl (fun h12 => ?_) (fun h12 => ?_)
            ·try simp only [NM] at h12
             exfalso; first | omega | (simp at h12)
            ·try simp only [NM] at h12
             refine WP_skip ?_
             refine WP_seq ?_
             refine WP_ops ?_
             refine WO_mv (v := .s (.int _ _)) rfl ?_
             refine WO_bin rfl rfl (eql_eq rfl) ?_
             refine WO_mv (v := .s (.bool _)) rfl ?_
             refine WO_gt rfl ?_
             first | refine WO_ldA0 rfl rfl (.head _) ?_ | refine WO_ldAI rfl rfl (.head _) ?_
             refine WO_gt rfl ?_
             first | refine WO_ldA0 rfl rfl (.tail _ (.head _)) ?_ | refine WO_ldAI rfl rfl (.tail _ (.head _)) ?_
             refine WO_gt rfl ?_
             refine WO_eqaC rfl rfl (eqI_t1 (fun i hi => hU i hi)) ?_
             refine WO_pick (v := .s (.bool _)) rfl rfl ?_
             refine WO_mv (v := .s (.bool _)) rfl ?_
             refine WO_gt rfl ?_
             refine WO_mv (v := .s (.int _ _)) rfl ?_
             refine WO_gt rfl ?_
             refine WO_mv (v := .s (.int _ _)) rfl ?_
             refine WO_gt rfl ?_
             refine WO_bin rfl rfl (neq_ne (fun e => by rw [e] at hsx1; omega)) ?_
             refine WO_pick (v := .s (.bool _)) rfl rfl ?_
             refine WO_mv (v := .s (.bool _)) rfl ?_
             refine WO_gt rfl ?_
             refine WO_mv (v := .s (.int _ _)) rfl ?_
             refine WO_gt rfl ?_
             refine WO_fa (o' := 0) rfl rfl rfl ?_
             refine WO_gt rfl ?_
             refine WO_ixa rfl rfl rfl (by omega) ?_
             refine WO_gt rfl ?_
             first | refine WO_ldA0 rfl rfl (.tail _ (.head _)) ?_ | refine WO_ldAI rfl rfl (.tail _ (.head _)) ?_
             refine WO_gt rfl ?_
             refine WO_buildI rfl (.one rfl .nil) ?_
             refine WO_gt rfl ?_
             refine WO_eqaC rfl rfl (eqI_t2 h6x1 hsx1) ?_
             refine WO_pick (v := .s (.bool _)) rfl rfl ?_
             refine WO_mv (v := .s (.bool _)) rfl ?_
             refine WO_gt rfl ?_
             refine WO_mv (v := .s (.int _ _)) rfl ?_
             refine WO_gt rfl ?_
             refine WO_fa (o' := 0) rfl rfl rfl ?_
             refine WO_gt rfl ?_
             refine WO_ixa rfl rfl rfl (by omega) ?_
             refine WO_gt rfl ?_
             first | refine WO_ldA0 rfl rfl (.tail _ (.head _)) ?_ | refine WO_ldAI rfl rfl (.tail _ (.head _)) ?_
             refine WO_gt rfl ?_
             refine WO_buildI rfl (.one rfl (.one rfl .nil)) ?_
             refine WO_gt rfl ?_
             refine WO_eqaC rfl rfl (eqI_t2 h6x2 hsx2) ?_
             refine WO_pick (v := .s (.bool _)) rfl rfl ?_
             refine WO_mv (v := .s (.bool _)) rfl ?_
             refine WO_nil ?_
             refine WP_ret ?_
             refine ⟨_, RS_tmp (v := .s (.bool _)) rfl (RS_nil), ?_⟩
             rfl
end Go.Proofs.Ytjldefmcnppdoaa
