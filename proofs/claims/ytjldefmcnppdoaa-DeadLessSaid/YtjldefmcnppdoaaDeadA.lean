/- The walks of the chapter dead: what its functions compute. -/
import Derived.Test.YtjldefmcnppdoaaDeadK
namespace Go.Proofs.Ytjldefmcnppdoaa
open Go Go.Am
set_option linter.unusedSimpArgs false
set_option linter.unusedVariables false
/-- What a piece more makes of what is left. -/
def putM (k : Int) (dark : Bool) (P : Nat → Int) : Nat → Int :=
  if k = 0 ∨ k = 6 then P else if k = 2 then ov P 1 (P 1 + 1) else if k ≠ 3 then ov P 0 (P 0 + 1) else if dark = true then ov P 2 (P 2 + 1) else ov P 3 (P 3 + 1)

/-- One piece more. -/
theorem put_run {md : Md} (hmd : md.mut = true) (P : Nat → Int) (k : Int) (dark : Bool) (hP : ∀ i, i < 4 → -4611686018427387904 ≤ P i ∧ P i ≤ 4611686018427387904) : WR AM 81 [.ptr 0 0 4, .s (.int .i64 k), .s (.bool dark)] [.sc md 4 (ia P)] (fun v _ L => v = .tup [] ∧ (0, Blk.sc md 4 (ia (putM k dark P))) ∈ L) := by
  have := hP 0 (by omega)
  have := hP 1 (by omega)
  have := hP 2 (by omega)
  have := hP 3 (by omega)
  refine WR_fn (a := a81) rfl rfl (entryF _) (entry_E (Nat.le_of_ble_eq_true rfl)) (m := 1) rfl ?_
  refine WP_block ?_
  refine WP_seq ?_
  refine WP_ops ?_
  refine WO_mv (v := .s (.int _ _)) rfl ?_
  refine WO_bin (r := .bool _) rfl rfl rfl ?_
  refine WO_mv (v := .s (.bool _)) rfl ?_
  refine WO_case (t := 18) rfl (fun h1 => ?_) (fun h1 => ?_)
  · try simp only [beq_iff_eq, bne_iff_ne, ne_eq, decide_eq_true_eq, decide_eq_false_iff_not, beq_eq_false_iff_ne, bne_eq_false_iff_eq, Decidable.not_not, Int.not_lt, Int.not_le, gt_iff_lt, ge_iff_le, Bool.not_eq_true, Bool.not_eq_false, Bool.not_eq_true', Bool.not_eq_false', cond_true, cond_false] at h1
    refine WO_gf rfl rfl ?_
    refine WO_gf rfl rfl ?_
    refine WO_pick (v := .s (.bool _)) rfl rfl ?_
    refine WO_mv (v := .s (.bool _)) rfl ?_
    refine WO_nil ?_
    refine WP_cond rfl (fun _ => ?_) (fun h => nomatch h)
    refine WP_skip ?_
    refine ⟨_, RS_nil, ?_⟩
    refine ⟨rfl, ?_⟩
    first | (rw [show putM k dark P = P from by simp_all [putM]]; exact .head _) | (rw [show putM k dark P = ov P 1 (P 1 + 1) from by simp_all [putM]]; exact .head _) | (rw [show putM k dark P = ov P 0 (P 0 + 1) from by simp_all [putM]]; exact .head _) | (rw [show putM k dark P = ov P 2 (P 2 + 1) from by simp_all [putM]]; exact .head _) | (rw [show putM k dark P = ov P 3 (P 3 + 1) from by simp_all [putM]]; exact .head _)
  · try simp only [beq_iff_eq, bne_iff_ne, ne_eq, decide_eq_true_eq, decide_eq_false_iff_not, beq_eq_false_iff_ne, bne_eq_false_iff_eq, Decidable.not_not, Int.not_lt, Int.not_le, gt_iff_lt, ge_iff_le, Bool.not_eq_true, Bool.not_eq_false, Bool.not_eq_true', Bool.not_eq_false', cond_true, cond_false] at h1
    refine WO_gt rfl ?_
    refine WO_mv (v := .s (.int _ _)) rfl ?_
    refine WO_gt rfl ?_
    refine WO_bin (r := .bool _) rfl rfl rfl ?_
    refine WO_pick (v := .s (.bool _)) rfl rfl ?_
    refine WO_mv (v := .s (.bool _)) rfl ?_
    refine WO_nil ?_
    refine WP_cond rfl (fun h2 => ?_) (fun h2 => ?_)
    · try simp only [beq_iff_eq, bne_iff_ne, ne_eq, decide_eq_true_eq, decide_eq_false_iff_not, beq_eq_false_iff_ne, bne_eq_false_iff_eq, Decidable.not_not, Int.not_lt, Int.not_le, gt_iff_lt, ge_iff_le, Bool.not_eq_true, Bool.not_eq_false, Bool.not_eq_true', Bool.not_eq_false', cond_true, cond_false] at h2
      refine WP_skip ?_
      refine ⟨_, RS_nil, ?_⟩
      refine ⟨rfl, ?_⟩
      first | (rw [show putM k dark P = P from by simp_all [putM]]; exact .head _) | (rw [show putM k dark P = ov P 1 (P 1 + 1) from by simp_all [putM]]; exact .head _) | (rw [show putM k dark P = ov P 0 (P 0 + 1) from by simp_all [putM]]; exact .head _) | (rw [show putM k dark P = ov P 2 (P 2 + 1) from by simp_all [putM]]; exact .head _) | (rw [show putM k dark P = ov P 3 (P 3 + 1) from by simp_all [putM]]; exact .head _)
    · try simp only [beq_iff_eq, bne_iff_ne, ne_eq, decide_eq_true_eq, decide_eq_false_iff_not, beq_eq_false_iff_ne, bne_eq_false_iff_eq, Decidable.not_not, Int.not_lt, Int.not_le, gt_iff_lt, ge_iff_le, Bool.not_eq_true, Bool.not_eq_false, Bool.not_eq_true', Bool.not_eq_false', cond_true, cond_false] at h2
      refine WP_seq ?_
      refine WP_ops ?_
      refine WO_mv (v := .s (.int _ _)) rfl ?_
      refine WO_bin (r := .bool _) rfl rfl rfl ?_
      refine WO_mv (v := .s (.bool _)) rfl ?_
      refine WO_nil ?_
      refine WP_cond rfl (fun h3 => ?_) (fun h3 => ?_)
      · try simp only [beq_iff_eq, bne_iff_ne, ne_eq, decide_eq_true_eq, decide_eq_false_iff_not, beq_eq_false_iff_ne, bne_eq_false_iff_eq, Decidable.not_not, Int.not_lt, Int.not_le, gt_iff_lt, ge_iff_le, Bool.not_eq_true, Bool.not_eq_false, Bool.not_eq_true', Bool.not_eq_false', cond_true, cond_false] at h3
        refine WP_ops ?_
        refine WO_mv (v := .ptr _ _ _) rfl ?_
        refine WO_nilckP rfl ?_
        refine WO_fa (o' := 0) rfl rfl rfl ?_
        refine WO_fa (o' := 1) rfl rfl rfl ?_
        refine WO_ldI rfl rfl (.head _) rfl ?_
        refine WO_add rfl rfl (by omega) ?_
        refine WO_nilckP rfl ?_
        refine WO_fa (o' := 0) rfl rfl rfl ?_
        refine WO_fa (o' := 1) rfl rfl rfl ?_
        refine WO_stI rfl rfl rfl hmd .here ?_
        refine WO_nil ?_
        refine ⟨_, RS_nil, ?_⟩
        refine ⟨rfl, ?_⟩
        first | (rw [show putM k dark P = P from by simp_all [putM]]; exact .head _) | (rw [show putM k dark P = ov P 1 (P 1 + 1) from by simp_all [putM]]; exact .head _) | (rw [show putM k dark P = ov P 0 (P 0 + 1) from by simp_all [putM]]; exact .head _) | (rw [show putM k dark P = ov P 2 (P 2 + 1) from by simp_all [putM]]; exact .head _) | (rw [show putM k dark P = ov P 3 (P 3 + 1) from by simp_all [putM]]; exact .head _)
      · try simp only [beq_iff_eq, bne_iff_ne, ne_eq, decide_eq_true_eq, decide_eq_false_iff_not, beq_eq_false_iff_ne, bne_eq_false_iff_eq, Decidable.not_not, Int.not_lt, Int.not_le, gt_iff_lt, ge_iff_le, Bool.not_eq_true, Bool.not_eq_false, Bool.not_eq_true', Bool.not_eq_false', cond_true, cond_false] at h3
        refine WP_seq ?_
        refine WP_ops ?_
        refine WO_mv (v := .s (.int _ _)) rfl ?_
        refine WO_bin (r := .bool _) rfl rfl rfl ?_
        refine WO_mv (v := .s (.bool _)) rfl ?_
        refine WO_nil ?_
        refine WP_cond rfl (fun h4 => ?_) (fun h4 => ?_)
        · try simp only [beq_iff_eq, bne_iff_ne, ne_eq, decide_eq_true_eq, decide_eq_false_iff_not, beq_eq_false_iff_ne, bne_eq_false_iff_eq, Decidable.not_not, Int.not_lt, Int.not_le, gt_iff_lt, ge_iff_le, Bool.not_eq_true, Bool.not_eq_false, Bool.not_eq_true', Bool.not_eq_false', cond_true, cond_false] at h4
          refine WP_ops ?_
          refine WO_mv (v := .ptr _ _ _) rfl ?_
          refine WO_nilckP rfl ?_
          refine WO_fa (o' := 0) rfl rfl rfl ?_
          refine WO_fa (o' := 0) rfl rfl rfl ?_
          refine WO_ldI rfl rfl (.head _) rfl ?_
          refine WO_add rfl rfl (by omega) ?_
          refine WO_nilckP rfl ?_
          refine WO_fa (o' := 0) rfl rfl rfl ?_
          refine WO_fa (o' := 0) rfl rfl rfl ?_
          refine WO_stI rfl rfl rfl hmd .here ?_
          refine WO_nil ?_
          refine ⟨_, RS_nil, ?_⟩
          refine ⟨rfl, ?_⟩
          first | (rw [show putM k dark P = P from by simp_all [putM]]; exact .head _) | (rw [show putM k dark P = ov P 1 (P 1 + 1) from by simp_all [putM]]; exact .head _) | (rw [show putM k dark P = ov P 0 (P 0 + 1) from by simp_all [putM]]; exact .head _) | (rw [show putM k dark P = ov P 2 (P 2 + 1) from by simp_all [putM]]; exact .head _) | (rw [show putM k dark P = ov P 3 (P 3 + 1) from by simp_all [putM]]; exact .head _)
        · try simp only [beq_iff_eq, bne_iff_ne, ne_eq, decide_eq_true_eq, decide_eq_false_iff_not, beq_eq_false_iff_ne, bne_eq_false_iff_eq, Decidable.not_not, Int.not_lt, Int.not_le, gt_iff_lt, ge_iff_le, Bool.not_eq_true, Bool.not_eq_false, Bool.not_eq_true', Bool.not_eq_false', cond_true, cond_false] at h4
          refine WP_seq ?_
          refine WP_ops ?_
          refine WO_mv (v := .s (.bool _)) rfl ?_
          refine WO_mv (v := .s (.bool _)) rfl ?_
          refine WO_nil ?_
          refine WP_cond rfl (fun h5 => ?_) (fun h5 => ?_)
          · try simp only [beq_iff_eq, bne_iff_ne, ne_eq, decide_eq_true_eq, decide_eq_false_iff_not, beq_eq_false_iff_ne, bne_eq_false_iff_eq, Decidable.not_not, Int.not_lt, Int.not_le, gt_iff_lt, ge_iff_le, Bool.not_eq_true, Bool.not_eq_false, Bool.not_eq_true', Bool.not_eq_false', cond_true, cond_false] at h5
            refine WP_ops ?_
            refine WO_mv (v := .ptr _ _ _) rfl ?_
            refine WO_nilckP rfl ?_
            refine WO_fa (o' := 0) rfl rfl rfl ?_
            refine WO_fa (o' := 2) rfl rfl rfl ?_
            refine WO_ldI rfl rfl (.head _) rfl ?_
            refine WO_add rfl rfl (by omega) ?_
            refine WO_nilckP rfl ?_
            refine WO_fa (o' := 0) rfl rfl rfl ?_
            refine WO_fa (o' := 2) rfl rfl rfl ?_
            refine WO_stI rfl rfl rfl hmd .here ?_
            refine WO_nil ?_
            refine ⟨_, RS_nil, ?_⟩
            refine ⟨rfl, ?_⟩
            first | (rw [show putM k dark P = P from by simp_all [putM]]; exact .head _) | (rw [show putM k dark P = ov P 1 (P 1 + 1) from by simp_all [putM]]; exact .head _) | (rw [show putM k dark P = ov P 0 (P 0 + 1) from by simp_all [putM]]; exact .head _) | (rw [show putM k dark P = ov P 2 (P 2 + 1) from by simp_all [putM]]; exact .head _) | (rw [show putM k dark P = ov P 3 (P 3 + 1) from by simp_all [putM]]; exact .head _)
          · try simp only [beq_iff_eq, bne_iff_ne, ne_eq, decide_eq_true_eq, decide_eq_false_iff_not, beq_eq_false_iff_ne, bne_eq_false_iff_eq, Decidable.not_not, Int.not_lt, Int.not_le, gt_iff_lt, ge_iff_le, Bool.not_eq_true, Bool.not_eq_false, Bool.not_eq_true', Bool.not_eq_false', cond_true, cond_false] at h5
            refine WP_ops ?_
            refine WO_mv (v := .ptr _ _ _) rfl ?_
            refine WO_nilckP rfl ?_
            refine WO_fa (o' := 0) rfl rfl rfl ?_
            refine WO_fa (o' := 3) rfl rfl rfl ?_
            refine WO_ldI rfl rfl (.head _) rfl ?_
            refine WO_add rfl rfl (by omega) ?_
            refine WO_nilckP rfl ?_
            refine WO_fa (o' := 0) rfl rfl rfl ?_
            refine WO_fa (o' := 3) rfl rfl rfl ?_
            refine WO_stI rfl rfl rfl hmd .here ?_
            refine WO_nil ?_
            refine ⟨_, RS_nil, ?_⟩
            refine ⟨rfl, ?_⟩
            first | (rw [show putM k dark P = P from by simp_all [putM]]; exact .head _) | (rw [show putM k dark P = ov P 1 (P 1 + 1) from by simp_all [putM]]; exact .head _) | (rw [show putM k dark P = ov P 0 (P 0 + 1) from by simp_all [putM]]; exact .head _) | (rw [show putM k dark P = ov P 2 (P 2 + 1) from by simp_all [putM]]; exact .head _) | (rw [show putM k dark P = ov P 3 (P 3 + 1) from by simp_all [putM]]; exact .head _)
/-- A square's file, rank, and that it is one. -/
def ofL (x : Int) : List S := if 0 ≤ x ∧ x < 64 then [.int .i64 (x % 8), .int .i64 (x / 8), .bool true] else [.int .i64 (-1), .int .i64 (-1), .bool false]

theorem of_run (x : Int) : WR AM 82 [.s (.int .i64 x)] [] (fun v _ _ => v = .agg 3 (lc (ofL x))) := by
  refine WR_fn (a := a82) rfl rfl (entryF _) (entry_E (Nat.le_of_ble_eq_true rfl)) (m := 0) rfl ?_
  refine WP_seq ?_
  refine WP_ops ?_
  refine WO_allocL rfl ?_
  refine WO_nil ?_
  refine WP_seq ?_
  refine WP_seq ?_
  refine WP_ops ?_
  refine WO_mv (v := .s (.int _ _)) rfl ?_
  refine WO_bin (r := .bool _) rfl rfl rfl ?_
  refine WO_mv (v := .s (.bool _)) rfl ?_
  refine WO_case (t := 5) rfl (fun h6 => ?_) (fun h6 => ?_)
  · try simp only [beq_iff_eq, bne_iff_ne, ne_eq, decide_eq_true_eq, decide_eq_false_iff_not, beq_eq_false_iff_ne, bne_eq_false_iff_eq, Decidable.not_not, Int.not_lt, Int.not_le, gt_iff_lt, ge_iff_le, Bool.not_eq_true, Bool.not_eq_false, Bool.not_eq_true', Bool.not_eq_false', cond_true, cond_false] at h6
    refine WO_gf rfl rfl ?_
    refine WO_gf rfl rfl ?_
    refine WO_pick (v := .s (.bool _)) rfl rfl ?_
    refine WO_nil ?_
    refine WP_cond rfl (fun _ => ?_) (fun h => nomatch h)
    refine WP_seq ?_
    refine WP_ops ?_
    refine WO_buildI rfl (.one rfl (.one rfl .nil)) ?_
    refine WO_buildL rfl rfl (.part (v := .agg _ _) (ys := [_, _, _]) rfl rfl rfl rfl .nil) ?_
    refine WO_st (v := .agg _ _) rfl rfl rfl rfl rfl (over_spl (ys := [_, _, _]) rfl rfl) .here ?_
    refine WO_nil ?_
    refine WP_ret ?_
    refine ⟨_, RS_cell rfl rfl (.head _) (RS_nil), ?_⟩
    first | (rw [show ofL x = [.int .i64 (-1), .int .i64 (-1), .bool false] from if_neg (by omega)]; rfl) | (rw [show ofL x = [.int .i64 (x % 8), .int .i64 (x / 8), .bool true] from if_pos (by omega)]; rfl)
  · try simp only [beq_iff_eq, bne_iff_ne, ne_eq, decide_eq_true_eq, decide_eq_false_iff_not, beq_eq_false_iff_ne, bne_eq_false_iff_eq, Decidable.not_not, Int.not_lt, Int.not_le, gt_iff_lt, ge_iff_le, Bool.not_eq_true, Bool.not_eq_false, Bool.not_eq_true', Bool.not_eq_false', cond_true, cond_false] at h6
    refine WO_gt rfl ?_
    refine WO_mv (v := .s (.int _ _)) rfl ?_
    refine WO_gt rfl ?_
    refine WO_bin (r := .bool _) rfl rfl rfl ?_
    refine WO_pick (v := .s (.bool _)) rfl rfl ?_
    refine WO_nil ?_
    refine WP_cond rfl (fun h7 => ?_) (fun h7 => ?_)
    · try simp only [beq_iff_eq, bne_iff_ne, ne_eq, decide_eq_true_eq, decide_eq_false_iff_not, beq_eq_false_iff_ne, bne_eq_false_iff_eq, Decidable.not_not, Int.not_lt, Int.not_le, gt_iff_lt, ge_iff_le, Bool.not_eq_true, Bool.not_eq_false, Bool.not_eq_true', Bool.not_eq_false', cond_true, cond_false] at h7
      refine WP_seq ?_
      refine WP_ops ?_
      refine WO_buildI rfl (.one rfl (.one rfl .nil)) ?_
      refine WO_buildL rfl rfl (.part (v := .agg _ _) (ys := [_, _, _]) rfl rfl rfl rfl .nil) ?_
      refine WO_st (v := .agg _ _) rfl rfl rfl rfl rfl (over_spl (ys := [_, _, _]) rfl rfl) .here ?_
      refine WO_nil ?_
      refine WP_ret ?_
      refine ⟨_, RS_cell rfl rfl (.head _) (RS_nil), ?_⟩
      first | (rw [show ofL x = [.int .i64 (-1), .int .i64 (-1), .bool false] from if_neg (by omega)]; rfl) | (rw [show ofL x = [.int .i64 (x % 8), .int .i64 (x / 8), .bool true] from if_pos (by omega)]; rfl)
    · try simp only [beq_iff_eq, bne_iff_ne, ne_eq, decide_eq_true_eq, decide_eq_false_iff_not, beq_eq_false_iff_ne, bne_eq_false_iff_eq, Decidable.not_not, Int.not_lt, Int.not_le, gt_iff_lt, ge_iff_le, Bool.not_eq_true, Bool.not_eq_false, Bool.not_eq_true', Bool.not_eq_false', cond_true, cond_false] at h7
      refine WP_skip ?_
      refine WP_seq ?_
      refine WP_ops ?_
      refine WO_mv (v := .s (.int _ _)) rfl ?_
      refine WO_rem rfl rfl (by omega) ?_
      refine WO_mv (v := .s (.int _ _)) rfl ?_
      refine WO_quo rfl rfl (by omega) ?_
      refine WO_buildI rfl (.one rfl (.one rfl .nil)) ?_
      refine WO_buildL rfl rfl (.part (v := .agg _ _) (ys := [_, _, _]) rfl rfl rfl rfl (.part (v := .s (.bool _)) (ys := [_, _, _]) rfl rfl rfl rfl .nil)) ?_
      refine WO_st (v := .agg _ _) rfl rfl rfl rfl rfl (over_spl (ys := [_, _, _]) rfl rfl) .here ?_
      refine WO_nil ?_
      refine WP_ret ?_
      refine ⟨_, RS_cell rfl rfl (.head _) (RS_nil), ?_⟩
      first | (rw [show ofL x = [.int .i64 (-1), .int .i64 (-1), .bool false] from if_neg (by omega)]; rfl) | (rw [show ofL x = [.int .i64 (x % 8), .int .i64 (x / 8), .bool true] from if_pos (by omega)]; rfl)
theorem of_in (x : Int) (h : 0 ≤ x ∧ x < 64) : RF AM 82 [.s (.int .i64 x)] (.agg 3 (lc [.int .i64 (x % 8), .int .i64 (x / 8), .bool true])) := by
  have := RF_of (of_run x)
  rw [ofL, if_pos h] at this
  exact this

theorem dark_run (x : Int) (hx : 0 ≤ x ∧ x < 64) : WR AM 40 [.s (.int .i64 x)] [] (fun v _ _ => v = .s (.bool ((x % 8 + x / 8) % 2 == 0))) := by
  refine WR_fn (a := a40) rfl rfl (entryF _) (entry_E (Nat.le_of_ble_eq_true rfl)) (m := 0) rfl ?_
  refine WP_seq ?_
  refine WP_ops ?_
  refine WO_mv rfl ?_
  refine WO_nil ?_
  refine WP_seq ?_
  refine WP_ops ?_
  refine WO_mv (v := .s (.int _ _)) rfl ?_
  refine WO_call0 rfl (of_in _ (by omega)) rfl rfl rfl ?_
  refine WO_allocL rfl ?_
  refine WO_st (v := .agg _ _) rfl rfl rfl rfl rfl (over_spl (ys := [_, _, _]) rfl rfl) .here ?_
  refine WO_nil ?_
  refine WP_seq ?_
  refine WP_ops ?_
  refine WO_fa (o' := 2) rfl rfl rfl ?_
  refine WO_ldS (x := .bool _) rfl rfl (.head _) rfl ?_
  refine WO_mv (v := .s (.bool _)) rfl ?_
  refine WO_gt rfl ?_
  refine WO_fa (o' := 0) rfl rfl rfl ?_
  refine WO_gt rfl ?_
  refine WO_fa (o' := 0) rfl rfl rfl ?_
  refine WO_gt rfl ?_
  refine WO_ldS (x := .int _ _) rfl rfl (.head _) rfl ?_
  refine WO_gt rfl ?_
  refine WO_fa (o' := 0) rfl rfl rfl ?_
  refine WO_gt rfl ?_
  refine WO_fa (o' := 1) rfl rfl rfl ?_
  refine WO_gt rfl ?_
  refine WO_ldS (x := .int _ _) rfl rfl (.head _) rfl ?_
  refine WO_gt rfl ?_
  refine WO_add rfl rfl (by omega) ?_
  refine WO_gt rfl ?_
  refine WO_rem rfl rfl (by omega) ?_
  refine WO_gt rfl ?_
  refine WO_bin (r := .bool _) rfl rfl rfl ?_
  refine WO_pick (v := .s (.bool _)) rfl rfl ?_
  refine WO_mv (v := .s (.bool _)) rfl ?_
  refine WO_nil ?_
  refine WP_ret ?_
  refine ⟨_, RS_tmp (v := .s (.bool _)) rfl (RS_nil), ?_⟩
  rfl

/-- What is left of the first n squares. -/
def ofM (P : Nat → Int) : Nat → Nat → Int
  | 0 => fun _ => 0
  | n + 1 => putM (P ((n : Int).toNat * 2 + 0)) (((n : Int) % 8 + (n : Int) / 8) % 2 == 0) (ofM P n)

theorem putM_bd {k : Int} {d : Bool} {P : Nat → Int} {n : Int} (h : ∀ i, 0 ≤ P i ∧ P i ≤ n) (i : Nat) : 0 ≤ putM k d P i ∧ putM k d P i ≤ n + 1 := by
  have ho : ∀ j, 0 ≤ ov P j (P j + 1) i ∧ ov P j (P j + 1) i ≤ n + 1 := by
    intro j
    have h1 := h i
    have h2 := h j
    show 0 ≤ (bif Nat.beq i j then P j + 1 else P i) ∧ (bif Nat.beq i j then P j + 1 else P i) ≤ n + 1
    cases Nat.beq i j
    · simp only [cond_false]; omega
    · simp only [cond_true]; omega
  unfold putM
  split
  · have := h i; omega
  · split
    · exact ho 1
    · split
      · exact ho 0
      · split
        · exact ho 2
        · exact ho 3

theorem ofM_bd (P : Nat → Int) : ∀ (n i : Nat), 0 ≤ ofM P n i ∧ ofM P n i ≤ n
  | 0, i => ⟨Int.le_refl _, Int.le_refl _⟩
  | n + 1, i => by
    have := putM_bd (k := P ((n : Int).toNat * 2 + 0)) (d := (((n : Int) % 8 + (n : Int) / 8) % 2 == 0)) (ofM_bd P n) i
    simpa [ofM] using this

theorem Of_run (P : Nat → Int) : WR AM 21 [.agg 133 (ia P)] [] (fun v _ _ => v = .agg 4 (ia (cut 4 (ofM P 64)))) := by
  refine WR_fn (a := a21) rfl rfl (entryF _) (entry_E (Nat.le_of_ble_eq_true rfl)) (m := 0) rfl ?_
  refine WP_seq ?_
  refine WP_ops ?_
  refine WO_boxA rfl ?_
  refine WO_allocI ?_
  refine WO_nil ?_
  refine WP_seq ?_
  refine WP_ops ?_
  refine WO_allocI ?_
  refine WO_nil ?_
  refine WP_seq ?_
  refine WP_seq ?_
  refine WP_ops ?_
  refine WO_fa (o' := 0) rfl rfl rfl ?_
  first | refine WO_ldA0 rfl rfl (.tail _ (.tail _ (.head _))) ?_ | refine WO_ldAI rfl rfl (.tail _ (.tail _ (.head _))) ?_
  refine WO_mv rfl ?_
  refine WO_nil ?_
  refine WP_block ?_
  refine WP_sub (L' := [_, _]) (.cons_cons _ (.cons_cons _ (.cons _ .slnil))) ?_
  refine WP_loop (fun m f _ L => ∃ (i : Nat), (i ≤ 64) ∧ (m = 64 - i) ∧ (f 2 = .ptr 1 0 4) ∧ (f 3 = .ptr 2 0 4) ∧ (f 7 = .agg 128 (ia P)) ∧ (f 8 = .s (.int .i64 i)) ∧ (L = [(2, .sc .var 4 (ia (ofM P i))), (1, .sc .var 4 (ia fun _ => 0))])) (fun m f nb L hI => ?_) (64) ⟨0, by omega, rfl, rfl, rfl, rfl, rfl, rfl⟩
  obtain ⟨i, hi, hm, k2, k3, k7, k8, rfl⟩ := hI
  refine WP_know (d := 2) (v := .ptr 1 0 4) k2 ?_
  refine WP_know (d := 3) (v := .ptr 2 0 4) k3 ?_
  refine WP_know (d := 7) (v := .agg 128 (ia P)) k7 ?_
  refine WP_know (d := 8) (v := .s (.int .i64 i)) k8 ?_
  refine WP_seq ?_
  refine WP_ops ?_
  refine WO_bin (r := .bool _) rfl rfl rfl ?_
  refine WO_nil ?_
  refine WP_seq ?_
  refine WP_cond rfl (fun h8 => ?_) (fun h8 => ?_)
  · try simp only [beq_iff_eq, bne_iff_ne, ne_eq, decide_eq_true_eq, decide_eq_false_iff_not, beq_eq_false_iff_ne, bne_eq_false_iff_eq, Decidable.not_not, Int.not_lt, Int.not_le, gt_iff_lt, ge_iff_le, Bool.not_eq_true, Bool.not_eq_false, Bool.not_eq_true', Bool.not_eq_false', cond_true, cond_false] at h8
    refine WP_skip ?_
    refine WP_seq ?_
    refine WP_block ?_
    refine WP_seq ?_
    refine WP_ops ?_
    refine WO_mv (v := .s (.int _ _)) rfl ?_
    refine WO_ixA rfl rfl rfl (by omega) ?_
    refine WO_allocI ?_
    refine WO_mv (v := .s (.int _ _)) rfl ?_
    refine WO_stA rfl rfl rfl rfl .here ?_
    refine WO_nil ?_
    refine WP_ops ?_
    refine WO_fa (o' := 0) rfl rfl rfl ?_
    refine WO_ldI rfl rfl (.head _) (by simp only [ov, ovA, dp, Nat.beq, Nat.ble, Nat.blt, Bool.and_true, Bool.and_false, Bool.false_and, Bool.true_and, cond_true, cond_false]; rfl) ?_
    refine WO_mv (v := .s (.int _ _)) rfl ?_
    refine WO_callq0 rfl (RF_of (dark_run _ (by omega))) rfl rfl rfl ?_
    refine WO_callP rfl (RB_of1 (put_run rfl _ _ _ (fun j _ => by have := ofM_bd P i j; omega))) rfl rfl rfl (.there .here) ?_
    refine WO_nil ?_
    refine WP_ops ?_
    refine WO_add rfl rfl (by omega) ?_
    refine WO_mv (v := .s (.int _ _)) rfl ?_
    refine WO_nil ?_
    exact ⟨64 - (i + 1), _, by omega, (.cons _ (.cons_cons _ (.cons_cons _ .slnil))), i + 1, by omega, rfl, rfl, rfl, rfl, rfl, rfl⟩
  · try simp only [beq_iff_eq, bne_iff_ne, ne_eq, decide_eq_true_eq, decide_eq_false_iff_not, beq_eq_false_iff_ne, bne_eq_false_iff_eq, Decidable.not_not, Int.not_lt, Int.not_le, gt_iff_lt, ge_iff_le, Bool.not_eq_true, Bool.not_eq_false, Bool.not_eq_true', Bool.not_eq_false', cond_true, cond_false] at h8
    refine WP_exit ?_
    refine xhere ?_
    refine WP_seq ?_
    refine WP_ops ?_
    refine WO_fa (o' := 0) rfl rfl rfl ?_
    first | refine WO_ldA0 rfl rfl (.head _) ?_ | refine WO_ldAI rfl rfl (.head _) ?_
    refine WO_stA rfl rfl rfl rfl (.there .here) ?_
    refine WO_nil ?_
    refine WP_ret ?_
    refine ⟨_, RS_cell rfl rfl (.tail _ (.head _)) (RS_nil), ?_⟩
    obtain rfl : i = 64 := by omega
    rfl
theorem refOf_run (P : Nat → Int) : WR AM 22 [.agg 133 (ia P)] [] (fun v _ _ => v = .agg 4 (ia (cut 4 (ofM P 64)))) := by
  refine WR_fn (a := a22) rfl rfl (entryF _) (entry_E (Nat.le_of_ble_eq_true rfl)) (m := 0) rfl ?_
  refine WP_seq ?_
  refine WP_ops ?_
  refine WO_boxA rfl ?_
  refine WO_allocI ?_
  refine WO_nil ?_
  refine WP_seq ?_
  refine WP_ops ?_
  refine WO_allocI ?_
  refine WO_nil ?_
  refine WP_seq ?_
  refine WP_seq ?_
  refine WP_ops ?_
  refine WO_mv rfl ?_
  refine WO_nil ?_
  refine WP_block ?_
  refine WP_sub (L' := [_, _, _]) (.cons_cons _ (.cons_cons _ (.cons_cons _ .slnil))) ?_
  refine WP_loop (fun m f _ L => ∃ (i : Nat), (i ≤ 64) ∧ (m = 64 - i) ∧ (f 1 = .ptr 0 0 133) ∧ (f 2 = .ptr 1 0 4) ∧ (f 3 = .ptr 2 0 4) ∧ (f 4 = .s (.int .i64 i)) ∧ (L = [(2, .sc .var 4 (ia (ofM P i))), (1, .sc .var 4 (ia fun _ => 0)), (0, .sc .var 133 (ia P))])) (fun m f nb L hI => ?_) (64) ⟨0, by omega, rfl, rfl, rfl, rfl, rfl, rfl⟩
  obtain ⟨i, hi, hm, k1, k2, k3, k4, rfl⟩ := hI
  refine WP_know (d := 1) (v := .ptr 0 0 133) k1 ?_
  refine WP_know (d := 2) (v := .ptr 1 0 4) k2 ?_
  refine WP_know (d := 3) (v := .ptr 2 0 4) k3 ?_
  refine WP_know (d := 4) (v := .s (.int .i64 i)) k4 ?_
  have bd0 := ofM_bd P i 0
  have bd1 := ofM_bd P i 1
  have bd2 := ofM_bd P i 2
  have bd3 := ofM_bd P i 3
  refine WP_seq ?_
  refine WP_seq ?_
  refine WP_ops ?_
  refine WO_mv (v := .s (.int _ _)) rfl ?_
  refine WO_bin (r := .bool _) rfl rfl rfl ?_
  refine WO_nil ?_
  refine WP_cond rfl (fun h9 => ?_) (fun h9 => ?_)
  · try simp only [beq_iff_eq, bne_iff_ne, ne_eq, decide_eq_true_eq, decide_eq_false_iff_not, beq_eq_false_iff_ne, bne_eq_false_iff_eq, Decidable.not_not, Int.not_lt, Int.not_le, gt_iff_lt, ge_iff_le, Bool.not_eq_true, Bool.not_eq_false, Bool.not_eq_true', Bool.not_eq_false', cond_true, cond_false] at h9
    refine WP_skip ?_
    refine WP_seq ?_
    refine WP_block ?_
    refine WP_seq ?_
    refine WP_ops ?_
    refine WO_mv (v := .s (.int _ _)) rfl ?_
    refine WO_fa (o' := 0) rfl rfl rfl ?_
    refine WO_ixa rfl rfl rfl (by omega) ?_
    refine WO_fa rfl rfl rfl ?_
    refine WO_ldI rfl rfl (.tail _ (.tail _ (.head _))) rfl ?_
    refine WO_nil ?_
    refine WP_block ?_
    refine WP_seq ?_
    refine WP_seq ?_
    refine WP_ops ?_
    refine WO_bin (r := .bool _) rfl rfl rfl ?_
    refine WO_mv (v := .s (.bool _)) rfl ?_
    refine WO_nil ?_
    refine WP_cond rfl (fun h10 => ?_) (fun h10 => ?_)
    · try simp only [beq_iff_eq, bne_iff_ne, ne_eq, decide_eq_true_eq, decide_eq_false_iff_not, beq_eq_false_iff_ne, bne_eq_false_iff_eq, Decidable.not_not, Int.not_lt, Int.not_le, gt_iff_lt, ge_iff_le, Bool.not_eq_true, Bool.not_eq_false, Bool.not_eq_true', Bool.not_eq_false', cond_true, cond_false] at h10
      refine WP_skip ?_
      refine WP_cond rfl (fun h11 => ?_) (fun h11 => ?_)
      · try simp only [beq_iff_eq, bne_iff_ne, ne_eq, decide_eq_true_eq, decide_eq_false_iff_not, beq_eq_false_iff_ne, bne_eq_false_iff_eq, Decidable.not_not, Int.not_lt, Int.not_le, gt_iff_lt, ge_iff_le, Bool.not_eq_true, Bool.not_eq_false, Bool.not_eq_true', Bool.not_eq_false', cond_true, cond_false] at h11
        refine WP_skip ?_
        refine WP_ops ?_
        refine WO_mv (v := .s (.int _ _)) rfl ?_
        refine WO_add rfl rfl (by omega) ?_
        refine WO_mv (v := .s (.int _ _)) rfl ?_
        refine WO_nil ?_
        exact ⟨64 - (i + 1), _, by omega, (.cons_cons _ (.cons_cons _ (.cons_cons _ .slnil))), i + 1, by omega, rfl, rfl, rfl, rfl, rfl, by simp_all [ofM, putM]⟩
      · try simp only [beq_iff_eq, bne_iff_ne, ne_eq, decide_eq_true_eq, decide_eq_false_iff_not, beq_eq_false_iff_ne, bne_eq_false_iff_eq, Decidable.not_not, Int.not_lt, Int.not_le, gt_iff_lt, ge_iff_le, Bool.not_eq_true, Bool.not_eq_false, Bool.not_eq_true', Bool.not_eq_false', cond_true, cond_false] at h11
        refine WP_seq ?_
        refine WP_ops ?_
        refine WO_bin (r := .bool _) rfl rfl rfl ?_
        refine WO_mv (v := .s (.bool _)) rfl ?_
        refine WO_nil ?_
        refine WP_cond rfl (fun h12 => ?_) (fun h12 => ?_)
        · try simp only [beq_iff_eq, bne_iff_ne, ne_eq, decide_eq_true_eq, decide_eq_false_iff_not, beq_eq_false_iff_ne, bne_eq_false_iff_eq, Decidable.not_not, Int.not_lt, Int.not_le, gt_iff_lt, ge_iff_le, Bool.not_eq_true, Bool.not_eq_false, Bool.not_eq_true', Bool.not_eq_false', cond_true, cond_false] at h12
          refine WP_ops ?_
          refine WO_fa (o' := 1) rfl rfl rfl ?_
          refine WO_ldI rfl rfl (.head _) rfl ?_
          refine WO_add rfl rfl (by omega) ?_
          refine WO_fa (o' := 1) rfl rfl rfl ?_
          refine WO_stI rfl rfl rfl rfl .here ?_
          refine WO_nil ?_
          refine WP_ops ?_
          refine WO_mv (v := .s (.int _ _)) rfl ?_
          refine WO_add rfl rfl (by omega) ?_
          refine WO_mv (v := .s (.int _ _)) rfl ?_
          refine WO_nil ?_
          exact ⟨64 - (i + 1), _, by omega, (.cons_cons _ (.cons_cons _ (.cons_cons _ .slnil))), i + 1, by omega, rfl, rfl, rfl, rfl, rfl, by simp_all [ofM, putM]⟩
        · try simp only [beq_iff_eq, bne_iff_ne, ne_eq, decide_eq_true_eq, decide_eq_false_iff_not, beq_eq_false_iff_ne, bne_eq_false_iff_eq, Decidable.not_not, Int.not_lt, Int.not_le, gt_iff_lt, ge_iff_le, Bool.not_eq_true, Bool.not_eq_false, Bool.not_eq_true', Bool.not_eq_false', cond_true, cond_false] at h12
          refine WP_seq ?_
          refine WP_ops ?_
          refine WO_bin (r := .bool _) rfl rfl rfl ?_
          refine WO_mv (v := .s (.bool _)) rfl ?_
          refine WO_nil ?_
          refine WP_cond rfl (fun h13 => ?_) (fun h13 => ?_)
          · try simp only [beq_iff_eq, bne_iff_ne, ne_eq, decide_eq_true_eq, decide_eq_false_iff_not, beq_eq_false_iff_ne, bne_eq_false_iff_eq, Decidable.not_not, Int.not_lt, Int.not_le, gt_iff_lt, ge_iff_le, Bool.not_eq_true, Bool.not_eq_false, Bool.not_eq_true', Bool.not_eq_false', cond_true, cond_false] at h13
            refine WP_seq ?_
            refine WP_ops ?_
            refine WO_mv (v := .s (.int _ _)) rfl ?_
            refine WO_rem rfl rfl (by omega) ?_
            refine WO_mv (v := .s (.int _ _)) rfl ?_
            refine WO_quo rfl rfl (by omega) ?_
            refine WO_add rfl rfl (by omega) ?_
            refine WO_rem rfl rfl (by omega) ?_
            refine WO_bin (r := .bool _) rfl rfl rfl ?_
            refine WO_nil ?_
            refine WP_cond rfl (fun h14 => ?_) (fun h14 => ?_)
            · try simp only [beq_iff_eq, bne_iff_ne, ne_eq, decide_eq_true_eq, decide_eq_false_iff_not, beq_eq_false_iff_ne, bne_eq_false_iff_eq, Decidable.not_not, Int.not_lt, Int.not_le, gt_iff_lt, ge_iff_le, Bool.not_eq_true, Bool.not_eq_false, Bool.not_eq_true', Bool.not_eq_false', cond_true, cond_false] at h14
              refine WP_ops ?_
              refine WO_fa (o' := 2) rfl rfl rfl ?_
              refine WO_ldI rfl rfl (.head _) rfl ?_
              refine WO_add rfl rfl (by omega) ?_
              refine WO_fa (o' := 2) rfl rfl rfl ?_
              refine WO_stI rfl rfl rfl rfl .here ?_
              refine WO_nil ?_
              refine WP_ops ?_
              refine WO_mv (v := .s (.int _ _)) rfl ?_
              refine WO_add rfl rfl (by omega) ?_
              refine WO_mv (v := .s (.int _ _)) rfl ?_
              refine WO_nil ?_
              exact ⟨64 - (i + 1), _, by omega, (.cons_cons _ (.cons_cons _ (.cons_cons _ .slnil))), i + 1, by omega, rfl, rfl, rfl, rfl, rfl, by simp_all [ofM, putM]⟩
            · try simp only [beq_iff_eq, bne_iff_ne, ne_eq, decide_eq_true_eq, decide_eq_false_iff_not, beq_eq_false_iff_ne, bne_eq_false_iff_eq, Decidable.not_not, Int.not_lt, Int.not_le, gt_iff_lt, ge_iff_le, Bool.not_eq_true, Bool.not_eq_false, Bool.not_eq_true', Bool.not_eq_false', cond_true, cond_false] at h14
              refine WP_ops ?_
              refine WO_fa (o' := 3) rfl rfl rfl ?_
              refine WO_ldI rfl rfl (.head _) rfl ?_
              refine WO_add rfl rfl (by omega) ?_
              refine WO_fa (o' := 3) rfl rfl rfl ?_
              refine WO_stI rfl rfl rfl rfl .here ?_
              refine WO_nil ?_
              refine WP_ops ?_
              refine WO_mv (v := .s (.int _ _)) rfl ?_
              refine WO_add rfl rfl (by omega) ?_
              refine WO_mv (v := .s (.int _ _)) rfl ?_
              refine WO_nil ?_
              exact ⟨64 - (i + 1), _, by omega, (.cons_cons _ (.cons_cons _ (.cons_cons _ .slnil))), i + 1, by omega, rfl, rfl, rfl, rfl, rfl, by simp_all [ofM, putM]⟩
          · try simp only [beq_iff_eq, bne_iff_ne, ne_eq, decide_eq_true_eq, decide_eq_false_iff_not, beq_eq_false_iff_ne, bne_eq_false_iff_eq, Decidable.not_not, Int.not_lt, Int.not_le, gt_iff_lt, ge_iff_le, Bool.not_eq_true, Bool.not_eq_false, Bool.not_eq_true', Bool.not_eq_false', cond_true, cond_false] at h13
            refine WP_ops ?_
            refine WO_fa (o' := 0) rfl rfl rfl ?_
            refine WO_ldI rfl rfl (.head _) rfl ?_
            refine WO_add rfl rfl (by omega) ?_
            refine WO_fa (o' := 0) rfl rfl rfl ?_
            refine WO_stI rfl rfl rfl rfl .here ?_
            refine WO_nil ?_
            refine WP_ops ?_
            refine WO_mv (v := .s (.int _ _)) rfl ?_
            refine WO_add rfl rfl (by omega) ?_
            refine WO_mv (v := .s (.int _ _)) rfl ?_
            refine WO_nil ?_
            exact ⟨64 - (i + 1), _, by omega, (.cons_cons _ (.cons_cons _ (.cons_cons _ .slnil))), i + 1, by omega, rfl, rfl, rfl, rfl, rfl, by simp_all [ofM, putM]⟩
    · try simp only [beq_iff_eq, bne_iff_ne, ne_eq, decide_eq_true_eq, decide_eq_false_iff_not, beq_eq_false_iff_ne, bne_eq_false_iff_eq, Decidable.not_not, Int.not_lt, Int.not_le, gt_iff_lt, ge_iff_le, Bool.not_eq_true, Bool.not_eq_false, Bool.not_eq_true', Bool.not_eq_false', cond_true, cond_false] at h10
      refine WP_ops ?_
      refine WO_bin (r := .bool _) rfl rfl rfl ?_
      refine WO_mv (v := .s (.bool _)) rfl ?_
      refine WO_nil ?_
      refine WP_cond rfl (fun h15 => ?_) (fun h15 => ?_)
      · try simp only [beq_iff_eq, bne_iff_ne, ne_eq, decide_eq_true_eq, decide_eq_false_iff_not, beq_eq_false_iff_ne, bne_eq_false_iff_eq, Decidable.not_not, Int.not_lt, Int.not_le, gt_iff_lt, ge_iff_le, Bool.not_eq_true, Bool.not_eq_false, Bool.not_eq_true', Bool.not_eq_false', cond_true, cond_false] at h15
        refine WP_skip ?_
        refine WP_ops ?_
        refine WO_mv (v := .s (.int _ _)) rfl ?_
        refine WO_add rfl rfl (by omega) ?_
        refine WO_mv (v := .s (.int _ _)) rfl ?_
        refine WO_nil ?_
        exact ⟨64 - (i + 1), _, by omega, (.cons_cons _ (.cons_cons _ (.cons_cons _ .slnil))), i + 1, by omega, rfl, rfl, rfl, rfl, rfl, by simp_all [ofM, putM]⟩
      · try simp only [beq_iff_eq, bne_iff_ne, ne_eq, decide_eq_true_eq, decide_eq_false_iff_not, beq_eq_false_iff_ne, bne_eq_false_iff_eq, Decidable.not_not, Int.not_lt, Int.not_le, gt_iff_lt, ge_iff_le, Bool.not_eq_true, Bool.not_eq_false, Bool.not_eq_true', Bool.not_eq_false', cond_true, cond_false] at h15
        refine WP_seq ?_
        refine WP_ops ?_
        refine WO_bin (r := .bool _) rfl rfl rfl ?_
        refine WO_mv (v := .s (.bool _)) rfl ?_
        refine WO_nil ?_
        refine WP_cond rfl (fun h16 => ?_) (fun h16 => ?_)
        · try simp only [beq_iff_eq, bne_iff_ne, ne_eq, decide_eq_true_eq, decide_eq_false_iff_not, beq_eq_false_iff_ne, bne_eq_false_iff_eq, Decidable.not_not, Int.not_lt, Int.not_le, gt_iff_lt, ge_iff_le, Bool.not_eq_true, Bool.not_eq_false, Bool.not_eq_true', Bool.not_eq_false', cond_true, cond_false] at h16
          refine WP_ops ?_
          refine WO_fa (o' := 1) rfl rfl rfl ?_
          refine WO_ldI rfl rfl (.head _) rfl ?_
          refine WO_add rfl rfl (by omega) ?_
          refine WO_fa (o' := 1) rfl rfl rfl ?_
          refine WO_stI rfl rfl rfl rfl .here ?_
          refine WO_nil ?_
          refine WP_ops ?_
          refine WO_mv (v := .s (.int _ _)) rfl ?_
          refine WO_add rfl rfl (by omega) ?_
          refine WO_mv (v := .s (.int _ _)) rfl ?_
          refine WO_nil ?_
          exact ⟨64 - (i + 1), _, by omega, (.cons_cons _ (.cons_cons _ (.cons_cons _ .slnil))), i + 1, by omega, rfl, rfl, rfl, rfl, rfl, by simp_all [ofM, putM]⟩
        · try simp only [beq_iff_eq, bne_iff_ne, ne_eq, decide_eq_true_eq, decide_eq_false_iff_not, beq_eq_false_iff_ne, bne_eq_false_iff_eq, Decidable.not_not, Int.not_lt, Int.not_le, gt_iff_lt, ge_iff_le, Bool.not_eq_true, Bool.not_eq_false, Bool.not_eq_true', Bool.not_eq_false', cond_true, cond_false] at h16
          refine WP_seq ?_
          refine WP_ops ?_
          refine WO_bin (r := .bool _) rfl rfl rfl ?_
          refine WO_mv (v := .s (.bool _)) rfl ?_
          refine WO_nil ?_
          refine WP_cond rfl (fun h17 => ?_) (fun h17 => ?_)
          · try simp only [beq_iff_eq, bne_iff_ne, ne_eq, decide_eq_true_eq, decide_eq_false_iff_not, beq_eq_false_iff_ne, bne_eq_false_iff_eq, Decidable.not_not, Int.not_lt, Int.not_le, gt_iff_lt, ge_iff_le, Bool.not_eq_true, Bool.not_eq_false, Bool.not_eq_true', Bool.not_eq_false', cond_true, cond_false] at h17
            refine WP_seq ?_
            refine WP_ops ?_
            refine WO_mv (v := .s (.int _ _)) rfl ?_
            refine WO_rem rfl rfl (by omega) ?_
            refine WO_mv (v := .s (.int _ _)) rfl ?_
            refine WO_quo rfl rfl (by omega) ?_
            refine WO_add rfl rfl (by omega) ?_
            refine WO_rem rfl rfl (by omega) ?_
            refine WO_bin (r := .bool _) rfl rfl rfl ?_
            refine WO_nil ?_
            refine WP_cond rfl (fun h18 => ?_) (fun h18 => ?_)
            · try simp only [beq_iff_eq, bne_iff_ne, ne_eq, decide_eq_true_eq, decide_eq_false_iff_not, beq_eq_false_iff_ne, bne_eq_false_iff_eq, Decidable.not_not, Int.not_lt, Int.not_le, gt_iff_lt, ge_iff_le, Bool.not_eq_true, Bool.not_eq_false, Bool.not_eq_true', Bool.not_eq_false', cond_true, cond_false] at h18
              refine WP_ops ?_
              refine WO_fa (o' := 2) rfl rfl rfl ?_
              refine WO_ldI rfl rfl (.head _) rfl ?_
              refine WO_add rfl rfl (by omega) ?_
              refine WO_fa (o' := 2) rfl rfl rfl ?_
              refine WO_stI rfl rfl rfl rfl .here ?_
              refine WO_nil ?_
              refine WP_ops ?_
              refine WO_mv (v := .s (.int _ _)) rfl ?_
              refine WO_add rfl rfl (by omega) ?_
              refine WO_mv (v := .s (.int _ _)) rfl ?_
              refine WO_nil ?_
              exact ⟨64 - (i + 1), _, by omega, (.cons_cons _ (.cons_cons _ (.cons_cons _ .slnil))), i + 1, by omega, rfl, rfl, rfl, rfl, rfl, by simp_all [ofM, putM]⟩
            · try simp only [beq_iff_eq, bne_iff_ne, ne_eq, decide_eq_true_eq, decide_eq_false_iff_not, beq_eq_false_iff_ne, bne_eq_false_iff_eq, Decidable.not_not, Int.not_lt, Int.not_le, gt_iff_lt, ge_iff_le, Bool.not_eq_true, Bool.not_eq_false, Bool.not_eq_true', Bool.not_eq_false', cond_true, cond_false] at h18
              refine WP_ops ?_
              refine WO_fa (o' := 3) rfl rfl rfl ?_
              refine WO_ldI rfl rfl (.head _) rfl ?_
              refine WO_add rfl rfl (by omega) ?_
              refine WO_fa (o' := 3) rfl rfl rfl ?_
              refine WO_stI rfl rfl rfl rfl .here ?_
              refine WO_nil ?_
              refine WP_ops ?_
              refine WO_mv (v := .s (.int _ _)) rfl ?_
              refine WO_add rfl rfl (by omega) ?_
              refine WO_mv (v := .s (.int _ _)) rfl ?_
              refine WO_nil ?_
              exact ⟨64 - (i + 1), _, by omega, (.cons_cons _ (.cons_cons _ (.cons_cons _ .slnil))), i + 1, by omega, rfl, rfl, rfl, rfl, rfl, by simp_all [ofM, putM]⟩
          · try simp only [beq_iff_eq, bne_iff_ne, ne_eq, decide_eq_true_eq, decide_eq_false_iff_not, beq_eq_false_iff_ne, bne_eq_false_iff_eq, Decidable.not_not, Int.not_lt, Int.not_le, gt_iff_lt, ge_iff_le, Bool.not_eq_true, Bool.not_eq_false, Bool.not_eq_true', Bool.not_eq_false', cond_true, cond_false] at h17
            refine WP_ops ?_
            refine WO_fa (o' := 0) rfl rfl rfl ?_
            refine WO_ldI rfl rfl (.head _) rfl ?_
            refine WO_add rfl rfl (by omega) ?_
            refine WO_fa (o' := 0) rfl rfl rfl ?_
            refine WO_stI rfl rfl rfl rfl .here ?_
            refine WO_nil ?_
            refine WP_ops ?_
            refine WO_mv (v := .s (.int _ _)) rfl ?_
            refine WO_add rfl rfl (by omega) ?_
            refine WO_mv (v := .s (.int _ _)) rfl ?_
            refine WO_nil ?_
            exact ⟨64 - (i + 1), _, by omega, (.cons_cons _ (.cons_cons _ (.cons_cons _ .slnil))), i + 1, by omega, rfl, rfl, rfl, rfl, rfl, by simp_all [ofM, putM]⟩
  · try simp only [beq_iff_eq, bne_iff_ne, ne_eq, decide_eq_true_eq, decide_eq_false_iff_not, beq_eq_false_iff_ne, bne_eq_false_iff_eq, Decidable.not_not, Int.not_lt, Int.not_le, gt_iff_lt, ge_iff_le, Bool.not_eq_true, Bool.not_eq_false, Bool.not_eq_true', Bool.not_eq_false', cond_true, cond_false] at h9
    refine WP_exit ?_
    refine xhere ?_
    refine WP_seq ?_
    refine WP_ops ?_
    first | refine WO_ldA0 rfl rfl (.head _) ?_ | refine WO_ldAI rfl rfl (.head _) ?_
    refine WO_stA rfl rfl rfl rfl (.there .here) ?_
    refine WO_nil ?_
    refine WP_ret ?_
    refine ⟨_, RS_cell rfl rfl (.tail _ (.head _)) (RS_nil), ?_⟩
    obtain rfl : i = 64 := by omega
    rfl

/-- Can nobody mate with what is left? -/
def deadM (Q : Nat → Int) : Bool := decide (Q 0 ≤ 0 ∧ ((Q 1 = 1 ∧ Q 2 ≤ 0 ∧ Q 3 ≤ 0) ∨ (Q 1 ≤ 0 ∧ (Q 2 ≤ 0 ∨ Q 3 ≤ 0))))

theorem Dead_run (Q : Nat → Int) (hQ : ∀ i, i < 4 → -4611686018427387904 ≤ Q i ∧ Q i ≤ 4611686018427387903) : WR AM 25 [.agg 4 (ia Q)] [] (fun v _ _ => v = .s (.bool (deadM Q))) := by
  have b0 := hQ 0 (by omega)
  have b1 := hQ 1 (by omega)
  have b2 := hQ 2 (by omega)
  have b3 := hQ 3 (by omega)
  refine WR_fn (a := a25) rfl rfl (entryF _) (entry_E (Nat.le_of_ble_eq_true rfl)) (m := 0) rfl ?_
  refine WP_seq ?_
  refine WP_ops ?_
  refine WO_boxA rfl ?_
  refine WO_mv rfl ?_
  refine WO_nil ?_
  refine WP_seq ?_
  refine WP_ops ?_
  refine WO_fa (o' := 2) rfl rfl rfl ?_
  refine WO_ldI rfl rfl (.head _) rfl ?_
  refine WO_mx2 rfl rfl ?_
  refine WO_fa (o' := 3) rfl rfl rfl ?_
  refine WO_ldI rfl rfl (.head _) rfl ?_
  refine WO_mx2 rfl rfl ?_
  refine WO_add rfl rfl (by omega) ?_
  refine WO_mv (v := .s (.int _ _)) rfl ?_
  refine WO_nil ?_
  refine WP_seq ?_
  refine WP_block ?_
  refine WP_seq ?_
  refine WP_ops ?_
  refine WO_fa (o' := 0) rfl rfl rfl ?_
  refine WO_ldI rfl rfl (.head _) rfl ?_
  refine WO_bin (r := .bool _) rfl rfl rfl ?_
  refine WO_mv (v := .s (.bool _)) rfl ?_
  refine WO_case (t := 15) rfl (fun h19 => ?_) (fun h19 => ?_)
  · try simp only [beq_iff_eq, bne_iff_ne, ne_eq, decide_eq_true_eq, decide_eq_false_iff_not, beq_eq_false_iff_ne, bne_eq_false_iff_eq, Decidable.not_not, Int.not_lt, Int.not_le, gt_iff_lt, ge_iff_le, Bool.not_eq_true, Bool.not_eq_false, Bool.not_eq_true', Bool.not_eq_false', cond_true, cond_false] at h19
    refine WO_gf rfl rfl ?_
    refine WO_gf rfl rfl ?_
    refine WO_gf rfl rfl ?_
    refine WO_pick (v := .s (.bool _)) rfl rfl ?_
    refine WO_mv (v := .s (.bool _)) rfl ?_
    refine WO_nil ?_
    refine WP_cond rfl (fun _ => ?_) (fun h => nomatch h)
    refine WP_seq ?_
    refine WP_ops ?_
    refine WO_mv rfl ?_
    refine WO_nil ?_
    refine WP_ret ?_
    refine ⟨_, RS_tmp (v := .s (.bool _)) rfl (RS_nil), ?_⟩
    refine congrArg (fun b => V.s (S.bool b)) ?_
    unfold deadM
    rw [Bool.eq_iff_iff]
    simp only [beq_iff_eq, decide_eq_true_eq, Bool.false_eq_true, true_iff, false_iff, gt_iff_lt]
    first | omega | ((repeat' split) <;> omega)
  · try simp only [beq_iff_eq, bne_iff_ne, ne_eq, decide_eq_true_eq, decide_eq_false_iff_not, beq_eq_false_iff_ne, bne_eq_false_iff_eq, Decidable.not_not, Int.not_lt, Int.not_le, gt_iff_lt, ge_iff_le, Bool.not_eq_true, Bool.not_eq_false, Bool.not_eq_true', Bool.not_eq_false', cond_true, cond_false] at h19
    refine WO_gt rfl ?_
    refine WO_fa (o' := 1) rfl rfl rfl ?_
    refine WO_gt rfl ?_
    refine WO_ldI rfl rfl (.head _) rfl ?_
    refine WO_gt rfl ?_
    refine WO_bin (r := .bool _) rfl rfl rfl ?_
    refine WO_pick (v := .s (.bool _)) rfl rfl ?_
    refine WO_mv (v := .s (.bool _)) rfl ?_
    refine WO_nil ?_
    refine WP_cond rfl (fun h20 => ?_) (fun h20 => ?_)
    · try simp only [beq_iff_eq, bne_iff_ne, ne_eq, decide_eq_true_eq, decide_eq_false_iff_not, beq_eq_false_iff_ne, bne_eq_false_iff_eq, Decidable.not_not, Int.not_lt, Int.not_le, gt_iff_lt, ge_iff_le, Bool.not_eq_true, Bool.not_eq_false, Bool.not_eq_true', Bool.not_eq_false', cond_true, cond_false] at h20
      refine WP_seq ?_
      refine WP_ops ?_
      refine WO_mv rfl ?_
      refine WO_nil ?_
      refine WP_ret ?_
      refine ⟨_, RS_tmp (v := .s (.bool _)) rfl (RS_nil), ?_⟩
      refine congrArg (fun b => V.s (S.bool b)) ?_
      unfold deadM
      rw [Bool.eq_iff_iff]
      simp only [beq_iff_eq, decide_eq_true_eq, Bool.false_eq_true, true_iff, false_iff, gt_iff_lt]
      first | omega | ((repeat' split) <;> omega)
    · try simp only [beq_iff_eq, bne_iff_ne, ne_eq, decide_eq_true_eq, decide_eq_false_iff_not, beq_eq_false_iff_ne, bne_eq_false_iff_eq, Decidable.not_not, Int.not_lt, Int.not_le, gt_iff_lt, ge_iff_le, Bool.not_eq_true, Bool.not_eq_false, Bool.not_eq_true', Bool.not_eq_false', cond_true, cond_false] at h20
      refine WP_seq ?_
      refine WP_ops ?_
      refine WO_fa (o' := 1) rfl rfl rfl ?_
      refine WO_ldI rfl rfl (.head _) rfl ?_
      refine WO_bin (r := .bool _) rfl rfl rfl ?_
      refine WO_mv (v := .s (.bool _)) rfl ?_
      refine WO_nil ?_
      refine WP_cond rfl (fun h21 => ?_) (fun h21 => ?_)
      · try simp only [beq_iff_eq, bne_iff_ne, ne_eq, decide_eq_true_eq, decide_eq_false_iff_not, beq_eq_false_iff_ne, bne_eq_false_iff_eq, Decidable.not_not, Int.not_lt, Int.not_le, gt_iff_lt, ge_iff_le, Bool.not_eq_true, Bool.not_eq_false, Bool.not_eq_true', Bool.not_eq_false', cond_true, cond_false] at h21
        refine WP_seq ?_
        refine WP_ops ?_
        refine WO_mv (v := .s (.int _ _)) rfl ?_
        refine WO_bin (r := .bool _) rfl rfl rfl ?_
        refine WO_mv (v := .s (.bool _)) rfl ?_
        refine WO_nil ?_
        refine WP_ret ?_
        refine ⟨_, RS_tmp (v := .s (.bool _)) rfl (RS_nil), ?_⟩
        refine congrArg (fun b => V.s (S.bool b)) ?_
        unfold deadM
        rw [Bool.eq_iff_iff]
        simp only [beq_iff_eq, decide_eq_true_eq, Bool.false_eq_true, true_iff, false_iff, gt_iff_lt]
        first | omega | ((repeat' split) <;> omega)
      · try simp only [beq_iff_eq, bne_iff_ne, ne_eq, decide_eq_true_eq, decide_eq_false_iff_not, beq_eq_false_iff_ne, bne_eq_false_iff_eq, Decidable.not_not, Int.not_lt, Int.not_le, gt_iff_lt, ge_iff_le, Bool.not_eq_true, Bool.not_eq_false, Bool.not_eq_true', Bool.not_eq_false', cond_true, cond_false] at h21
        refine WP_skip ?_
        refine WP_seq ?_
        refine WP_ops ?_
        refine WO_mv (v := .s (.int _ _)) rfl ?_
        refine WO_fa (o' := 2) rfl rfl rfl ?_
        refine WO_ldI rfl rfl (.head _) rfl ?_
        refine WO_fa (o' := 3) rfl rfl rfl ?_
        refine WO_ldI rfl rfl (.head _) rfl ?_
        refine WO_mx3 rfl rfl rfl ?_
        refine WO_bin (r := .bool _) rfl rfl rfl ?_
        refine WO_mv (v := .s (.bool _)) rfl ?_
        refine WO_nil ?_
        refine WP_ret ?_
        refine ⟨_, RS_tmp (v := .s (.bool _)) rfl (RS_nil), ?_⟩
        refine congrArg (fun b => V.s (S.bool b)) ?_
        unfold deadM
        rw [Bool.eq_iff_iff]
        simp only [beq_iff_eq, decide_eq_true_eq, Bool.false_eq_true, true_iff, false_iff, gt_iff_lt]
        first | omega | ((repeat' split) <;> omega)
theorem refDead_run (Q : Nat → Int) : WR AM 24 [.agg 4 (ia Q)] [] (fun v _ _ => v = .s (.bool (deadM Q))) := by
  refine WR_fn (a := a24) rfl rfl (entryF _) (entry_E (Nat.le_of_ble_eq_true rfl)) (m := 0) rfl ?_
  refine WP_seq ?_
  refine WP_ops ?_
  refine WO_boxA rfl ?_
  refine WO_mv rfl ?_
  refine WO_nil ?_
  refine WP_seq ?_
  refine WP_seq ?_
  refine WP_ops ?_
  refine WO_fa (o' := 0) rfl rfl rfl ?_
  refine WO_ldI rfl rfl (.head _) rfl ?_
  refine WO_bin (r := .bool _) rfl rfl rfl ?_
  refine WO_nil ?_
  refine WP_cond rfl (fun h22 => ?_) (fun h22 => ?_)
  · try simp only [beq_iff_eq, bne_iff_ne, ne_eq, decide_eq_true_eq, decide_eq_false_iff_not, beq_eq_false_iff_ne, bne_eq_false_iff_eq, Decidable.not_not, Int.not_lt, Int.not_le, gt_iff_lt, ge_iff_le, Bool.not_eq_true, Bool.not_eq_false, Bool.not_eq_true', Bool.not_eq_false', cond_true, cond_false] at h22
    refine WP_seq ?_
    refine WP_ops ?_
    refine WO_mv rfl ?_
    refine WO_nil ?_
    refine WP_ret ?_
    refine ⟨_, RS_tmp (v := .s (.bool _)) rfl (RS_nil), ?_⟩
    refine congrArg (fun b => V.s (S.bool b)) ?_
    unfold deadM
    rw [Bool.eq_iff_iff]
    simp only [beq_iff_eq, decide_eq_true_eq, Bool.false_eq_true, true_iff, false_iff, gt_iff_lt]
    first | omega | ((repeat' split) <;> omega)
  · try simp only [beq_iff_eq, bne_iff_ne, ne_eq, decide_eq_true_eq, decide_eq_false_iff_not, beq_eq_false_iff_ne, bne_eq_false_iff_eq, Decidable.not_not, Int.not_lt, Int.not_le, gt_iff_lt, ge_iff_le, Bool.not_eq_true, Bool.not_eq_false, Bool.not_eq_true', Bool.not_eq_false', cond_true, cond_false] at h22
    refine WP_skip ?_
    refine WP_seq ?_
    refine WP_seq ?_
    refine WP_ops ?_
    refine WO_fa (o' := 1) rfl rfl rfl ?_
    refine WO_ldI rfl rfl (.head _) rfl ?_
    refine WO_bin (r := .bool _) rfl rfl rfl ?_
    refine WO_nil ?_
    refine WP_cond rfl (fun h23 => ?_) (fun h23 => ?_)
    · try simp only [beq_iff_eq, bne_iff_ne, ne_eq, decide_eq_true_eq, decide_eq_false_iff_not, beq_eq_false_iff_ne, bne_eq_false_iff_eq, Decidable.not_not, Int.not_lt, Int.not_le, gt_iff_lt, ge_iff_le, Bool.not_eq_true, Bool.not_eq_false, Bool.not_eq_true', Bool.not_eq_false', cond_true, cond_false] at h23
      refine WP_seq ?_
      refine WP_ops ?_
      refine WO_fa (o' := 1) rfl rfl rfl ?_
      refine WO_ldI rfl rfl (.head _) rfl ?_
      refine WO_bin (r := .bool _) rfl rfl rfl ?_
      refine WO_mv (v := .s (.bool _)) rfl ?_
      refine WO_case (t := 12) rfl (fun h24 => ?_) (fun h24 => ?_)
      · try simp only [beq_iff_eq, bne_iff_ne, ne_eq, decide_eq_true_eq, decide_eq_false_iff_not, beq_eq_false_iff_ne, bne_eq_false_iff_eq, Decidable.not_not, Int.not_lt, Int.not_le, gt_iff_lt, ge_iff_le, Bool.not_eq_true, Bool.not_eq_false, Bool.not_eq_true', Bool.not_eq_false', cond_true, cond_false] at h24
        refine WO_gt rfl ?_
        refine WO_fa (o' := 2) rfl rfl rfl ?_
        refine WO_gt rfl ?_
        refine WO_ldI rfl rfl (.head _) rfl ?_
        refine WO_gt rfl ?_
        refine WO_bin (r := .bool _) rfl rfl rfl ?_
        refine WO_pick (v := .s (.bool _)) rfl rfl ?_
        refine WO_mv (v := .s (.bool _)) rfl ?_
        refine WO_case (t := 17) rfl (fun h25 => ?_) (fun h25 => ?_)
        · try simp only [beq_iff_eq, bne_iff_ne, ne_eq, decide_eq_true_eq, decide_eq_false_iff_not, beq_eq_false_iff_ne, bne_eq_false_iff_eq, Decidable.not_not, Int.not_lt, Int.not_le, gt_iff_lt, ge_iff_le, Bool.not_eq_true, Bool.not_eq_false, Bool.not_eq_true', Bool.not_eq_false', cond_true, cond_false] at h25
          refine WO_gt rfl ?_
          refine WO_fa (o' := 3) rfl rfl rfl ?_
          refine WO_gt rfl ?_
          refine WO_ldI rfl rfl (.head _) rfl ?_
          refine WO_gt rfl ?_
          refine WO_bin (r := .bool _) rfl rfl rfl ?_
          refine WO_pick (v := .s (.bool _)) rfl rfl ?_
          refine WO_mv (v := .s (.bool _)) rfl ?_
          refine WO_nil ?_
          refine WP_ret ?_
          refine ⟨_, RS_tmp (v := .s (.bool _)) rfl (RS_nil), ?_⟩
          refine congrArg (fun b => V.s (S.bool b)) ?_
          unfold deadM
          rw [Bool.eq_iff_iff]
          simp only [beq_iff_eq, decide_eq_true_eq, Bool.false_eq_true, true_iff, false_iff, gt_iff_lt]
          first | omega | ((repeat' split) <;> omega)
        · try simp only [beq_iff_eq, bne_iff_ne, ne_eq, decide_eq_true_eq, decide_eq_false_iff_not, beq_eq_false_iff_ne, bne_eq_false_iff_eq, Decidable.not_not, Int.not_lt, Int.not_le, gt_iff_lt, ge_iff_le, Bool.not_eq_true, Bool.not_eq_false, Bool.not_eq_true', Bool.not_eq_false', cond_true, cond_false] at h25
          refine WO_gf rfl rfl ?_
          refine WO_gf rfl rfl ?_
          refine WO_gf rfl rfl ?_
          refine WO_pick (v := .s (.bool _)) rfl rfl ?_
          refine WO_mv (v := .s (.bool _)) rfl ?_
          refine WO_nil ?_
          refine WP_ret ?_
          refine ⟨_, RS_tmp (v := .s (.bool _)) rfl (RS_nil), ?_⟩
          refine congrArg (fun b => V.s (S.bool b)) ?_
          unfold deadM
          rw [Bool.eq_iff_iff]
          simp only [beq_iff_eq, decide_eq_true_eq, Bool.false_eq_true, true_iff, false_iff, gt_iff_lt]
          first | omega | ((repeat' split) <;> omega)
      · try simp only [beq_iff_eq, bne_iff_ne, ne_eq, decide_eq_true_eq, decide_eq_false_iff_not, beq_eq_false_iff_ne, bne_eq_false_iff_eq, Decidable.not_not, Int.not_lt, Int.not_le, gt_iff_lt, ge_iff_le, Bool.not_eq_true, Bool.not_eq_false, Bool.not_eq_true', Bool.not_eq_false', cond_true, cond_false] at h24
        refine WO_gf rfl rfl ?_
        refine WO_gf rfl rfl ?_
        refine WO_gf rfl rfl ?_
        refine WO_pick (v := .s (.bool _)) rfl rfl ?_
        refine WO_mv (v := .s (.bool _)) rfl ?_
        refine WO_gf rfl rfl ?_
        refine WO_gf rfl rfl ?_
        refine WO_gf rfl rfl ?_
        refine WO_pick (v := .s (.bool _)) rfl rfl ?_
        refine WO_mv (v := .s (.bool _)) rfl ?_
        refine WO_nil ?_
        refine WP_ret ?_
        refine ⟨_, RS_tmp (v := .s (.bool _)) rfl (RS_nil), ?_⟩
        refine congrArg (fun b => V.s (S.bool b)) ?_
        unfold deadM
        rw [Bool.eq_iff_iff]
        simp only [beq_iff_eq, decide_eq_true_eq, Bool.false_eq_true, true_iff, false_iff, gt_iff_lt]
        first | omega | ((repeat' split) <;> omega)
    · try simp only [beq_iff_eq, bne_iff_ne, ne_eq, decide_eq_true_eq, decide_eq_false_iff_not, beq_eq_false_iff_ne, bne_eq_false_iff_eq, Decidable.not_not, Int.not_lt, Int.not_le, gt_iff_lt, ge_iff_le, Bool.not_eq_true, Bool.not_eq_false, Bool.not_eq_true', Bool.not_eq_false', cond_true, cond_false] at h23
      refine WP_skip ?_
      refine WP_seq ?_
      refine WP_ops ?_
      refine WO_fa (o' := 2) rfl rfl rfl ?_
      refine WO_ldI rfl rfl (.head _) rfl ?_
      refine WO_bin (r := .bool _) rfl rfl rfl ?_
      refine WO_mv (v := .s (.bool _)) rfl ?_
      refine WO_case (t := 25) rfl (fun h26 => ?_) (fun h26 => ?_)
      · try simp only [beq_iff_eq, bne_iff_ne, ne_eq, decide_eq_true_eq, decide_eq_false_iff_not, beq_eq_false_iff_ne, bne_eq_false_iff_eq, Decidable.not_not, Int.not_lt, Int.not_le, gt_iff_lt, ge_iff_le, Bool.not_eq_true, Bool.not_eq_false, Bool.not_eq_true', Bool.not_eq_false', cond_true, cond_false] at h26
        refine WO_gf rfl rfl ?_
        refine WO_gf rfl rfl ?_
        refine WO_gf rfl rfl ?_
        refine WO_pick (v := .s (.bool _)) rfl rfl ?_
        refine WO_mv (v := .s (.bool _)) rfl ?_
        refine WO_nil ?_
        refine WP_ret ?_
        refine ⟨_, RS_tmp (v := .s (.bool _)) rfl (RS_nil), ?_⟩
        refine congrArg (fun b => V.s (S.bool b)) ?_
        unfold deadM
        rw [Bool.eq_iff_iff]
        simp only [beq_iff_eq, decide_eq_true_eq, Bool.false_eq_true, true_iff, false_iff, gt_iff_lt]
        first | omega | ((repeat' split) <;> omega)
      · try simp only [beq_iff_eq, bne_iff_ne, ne_eq, decide_eq_true_eq, decide_eq_false_iff_not, beq_eq_false_iff_ne, bne_eq_false_iff_eq, Decidable.not_not, Int.not_lt, Int.not_le, gt_iff_lt, ge_iff_le, Bool.not_eq_true, Bool.not_eq_false, Bool.not_eq_true', Bool.not_eq_false', cond_true, cond_false] at h26
        refine WO_gt rfl ?_
        refine WO_fa (o' := 3) rfl rfl rfl ?_
        refine WO_gt rfl ?_
        refine WO_ldI rfl rfl (.head _) rfl ?_
        refine WO_gt rfl ?_
        refine WO_bin (r := .bool _) rfl rfl rfl ?_
        refine WO_pick (v := .s (.bool _)) rfl rfl ?_
        refine WO_mv (v := .s (.bool _)) rfl ?_
        refine WO_nil ?_
        refine WP_ret ?_
        refine ⟨_, RS_tmp (v := .s (.bool _)) rfl (RS_nil), ?_⟩
        refine congrArg (fun b => V.s (S.bool b)) ?_
        unfold deadM
        rw [Bool.eq_iff_iff]
        simp only [beq_iff_eq, decide_eq_true_eq, Bool.false_eq_true, true_iff, false_iff, gt_iff_lt]
        first | omega | ((repeat' split) <;> omega)
theorem cut_bd {Q : Nat → Int} {lo hi : Int} (h0 : lo ≤ 0 ∧ 0 ≤ hi) (h : ∀ i, i < 4 → lo ≤ Q i ∧ Q i ≤ hi) (i : Nat) (hi4 : i < 4) : lo ≤ cut 4 Q i ∧ cut 4 Q i ≤ hi := by
  show lo ≤ (bif Nat.ble 0 i && Nat.blt i (0 + 4) then Q (i - 0) else 0) ∧ (bif Nat.ble 0 i && Nat.blt i (0 + 4) then Q (i - 0) else 0) ≤ hi
  cases Nat.ble 0 i && Nat.blt i (0 + 4)
  · exact h0
  · exact h i hi4

theorem Is_run (P : Nat → Int) : WR AM 23 [.agg 133 (ia P)] [] (fun v _ _ => v = .s (.bool (deadM (ofM P 64)))) := by
  refine WR_fn (a := a23) rfl rfl (entryF _) (entry_E (Nat.le_of_ble_eq_true rfl)) (m := 0) rfl ?_
  refine WP_seq ?_
  refine WP_ops ?_
  refine WO_boxA rfl ?_
  refine WO_mv rfl ?_
  refine WO_nil ?_
  refine WP_seq ?_
  refine WP_ops ?_
  first | refine WO_ldA0 rfl rfl (.head _) ?_ | refine WO_ldAI rfl rfl (.head _) ?_
  refine WO_call0 rfl (RF_of (Of_run _)) rfl rfl rfl ?_
  refine WO_call0 rfl (RF_of (Dead_run _ (cut_bd (by omega) fun j _ => by have := ofM_bd P 64 j; omega))) rfl rfl rfl ?_
  refine WO_mv (v := .s (.bool _)) rfl ?_
  refine WO_nil ?_
  refine WP_ret ?_
  refine ⟨_, RS_tmp (v := .s (.bool _)) rfl (RS_nil), ?_⟩
  rfl
theorem same_run (P Q : Nat → Int) (h0 : P 0 = Q 0) (h1 : P 1 = Q 1) (h2 : P 2 = Q 2) (h3 : P 3 = Q 3) : WR AM 20 [.agg 4 (ia P), .agg 4 (ia Q)] [] (fun v _ _ => v = .s (.bool true)) := by
  refine WR_fn (a := a20) rfl rfl (entryF _) (entry_E (Nat.le_of_ble_eq_true rfl)) (m := 0) rfl ?_
  refine WP_seq ?_
  refine WP_ops ?_
  refine WO_boxA rfl ?_
  refine WO_boxA rfl ?_
  refine WO_mv rfl ?_
  refine WO_nil ?_
  refine WP_seq ?_
  refine WP_ops ?_
  refine WO_fa (o' := 0) rfl rfl rfl ?_
  refine WO_ldI rfl rfl (.tail _ (.head _)) rfl ?_
  refine WO_fa (o' := 0) rfl rfl rfl ?_
  refine WO_ldI rfl rfl (.head _) rfl ?_
  refine WO_bin (r := .bool _) rfl rfl rfl ?_
  refine WO_mv (v := .s (.bool _)) rfl ?_
  refine WO_case (t := 10) rfl (fun h27 => ?_) (fun h27 => ?_)
  · try simp only [beq_iff_eq, bne_iff_ne, ne_eq, decide_eq_true_eq, decide_eq_false_iff_not, beq_eq_false_iff_ne, bne_eq_false_iff_eq, Decidable.not_not, Int.not_lt, Int.not_le, gt_iff_lt, ge_iff_le, Bool.not_eq_true, Bool.not_eq_false, Bool.not_eq_true', Bool.not_eq_false', cond_true, cond_false] at h27
    refine WO_gt rfl ?_
    refine WO_fa (o' := 1) rfl rfl rfl ?_
    refine WO_gt rfl ?_
    refine WO_ldI rfl rfl (.tail _ (.head _)) rfl ?_
    refine WO_gt rfl ?_
    refine WO_fa (o' := 1) rfl rfl rfl ?_
    refine WO_gt rfl ?_
    refine WO_ldI rfl rfl (.head _) rfl ?_
    refine WO_gt rfl ?_
    refine WO_bin (r := .bool _) rfl rfl rfl ?_
    refine WO_pick (v := .s (.bool _)) rfl rfl ?_
    refine WO_mv (v := .s (.bool _)) rfl ?_
    refine WO_case (t := 17) rfl (fun h28 => ?_) (fun h28 => ?_)
    · try simp only [beq_iff_eq, bne_iff_ne, ne_eq, decide_eq_true_eq, decide_eq_false_iff_not, beq_eq_false_iff_ne, bne_eq_false_iff_eq, Decidable.not_not, Int.not_lt, Int.not_le, gt_iff_lt, ge_iff_le, Bool.not_eq_true, Bool.not_eq_false, Bool.not_eq_true', Bool.not_eq_false', cond_true, cond_false] at h28
      refine WO_gt rfl ?_
      refine WO_fa (o' := 2) rfl rfl rfl ?_
      refine WO_gt rfl ?_
      refine WO_ldI rfl rfl (.tail _ (.head _)) rfl ?_
      refine WO_gt rfl ?_
      refine WO_fa (o' := 2) rfl rfl rfl ?_
      refine WO_gt rfl ?_
      refine WO_ldI rfl rfl (.head _) rfl ?_
      refine WO_gt rfl ?_
      refine WO_bin (r := .bool _) rfl rfl rfl ?_
      refine WO_pick (v := .s (.bool _)) rfl rfl ?_
      refine WO_mv (v := .s (.bool _)) rfl ?_
      refine WO_case (t := 24) rfl (fun h29 => ?_) (fun h29 => ?_)
      · try simp only [beq_iff_eq, bne_iff_ne, ne_eq, decide_eq_true_eq, decide_eq_false_iff_not, beq_eq_false_iff_ne, bne_eq_false_iff_eq, Decidable.not_not, Int.not_lt, Int.not_le, gt_iff_lt, ge_iff_le, Bool.not_eq_true, Bool.not_eq_false, Bool.not_eq_true', Bool.not_eq_false', cond_true, cond_false] at h29
        refine WO_gt rfl ?_
        refine WO_fa (o' := 3) rfl rfl rfl ?_
        refine WO_gt rfl ?_
        refine WO_ldI rfl rfl (.tail _ (.head _)) rfl ?_
        refine WO_gt rfl ?_
        refine WO_fa (o' := 3) rfl rfl rfl ?_
        refine WO_gt rfl ?_
        refine WO_ldI rfl rfl (.head _) rfl ?_
        refine WO_gt rfl ?_
        refine WO_bin (r := .bool _) rfl rfl rfl ?_
        refine WO_pick (v := .s (.bool _)) rfl rfl ?_
        refine WO_mv (v := .s (.bool _)) rfl ?_
        refine WO_nil ?_
        refine WP_ret ?_
        refine ⟨_, RS_tmp (v := .s (.bool _)) rfl (RS_nil), ?_⟩
        first | (exfalso; omega) | exact congrArg (fun b => V.s (S.bool b)) (by simp [*])
      · try simp only [beq_iff_eq, bne_iff_ne, ne_eq, decide_eq_true_eq, decide_eq_false_iff_not, beq_eq_false_iff_ne, bne_eq_false_iff_eq, Decidable.not_not, Int.not_lt, Int.not_le, gt_iff_lt, ge_iff_le, Bool.not_eq_true, Bool.not_eq_false, Bool.not_eq_true', Bool.not_eq_false', cond_true, cond_false] at h29
        refine WO_gf rfl rfl ?_
        refine WO_gf rfl rfl ?_
        refine WO_gf rfl rfl ?_
        refine WO_gf rfl rfl ?_
        refine WO_gf rfl rfl ?_
        refine WO_pick (v := .s (.bool _)) rfl rfl ?_
        refine WO_mv (v := .s (.bool _)) rfl ?_
        refine WO_nil ?_
        refine WP_ret ?_
        refine ⟨_, RS_tmp (v := .s (.bool _)) rfl (RS_nil), ?_⟩
        first | (exfalso; omega) | exact congrArg (fun b => V.s (S.bool b)) (by simp [*])
    · try simp only [beq_iff_eq, bne_iff_ne, ne_eq, decide_eq_true_eq, decide_eq_false_iff_not, beq_eq_false_iff_ne, bne_eq_false_iff_eq, Decidable.not_not, Int.not_lt, Int.not_le, gt_iff_lt, ge_iff_le, Bool.not_eq_true, Bool.not_eq_false, Bool.not_eq_true', Bool.not_eq_false', cond_true, cond_false] at h28
      refine WO_gf rfl rfl ?_
      refine WO_gf rfl rfl ?_
      refine WO_gf rfl rfl ?_
      refine WO_gf rfl rfl ?_
      refine WO_gf rfl rfl ?_
      refine WO_pick (v := .s (.bool _)) rfl rfl ?_
      refine WO_mv (v := .s (.bool _)) rfl ?_
      refine WO_gf rfl rfl ?_
      refine WO_gf rfl rfl ?_
      refine WO_gf rfl rfl ?_
      refine WO_gf rfl rfl ?_
      refine WO_gf rfl rfl ?_
      refine WO_pick (v := .s (.bool _)) rfl rfl ?_
      refine WO_mv (v := .s (.bool _)) rfl ?_
      refine WO_nil ?_
      refine WP_ret ?_
      refine ⟨_, RS_tmp (v := .s (.bool _)) rfl (RS_nil), ?_⟩
      first | (exfalso; omega) | exact congrArg (fun b => V.s (S.bool b)) (by simp [*])
  · try simp only [beq_iff_eq, bne_iff_ne, ne_eq, decide_eq_true_eq, decide_eq_false_iff_not, beq_eq_false_iff_ne, bne_eq_false_iff_eq, Decidable.not_not, Int.not_lt, Int.not_le, gt_iff_lt, ge_iff_le, Bool.not_eq_true, Bool.not_eq_false, Bool.not_eq_true', Bool.not_eq_false', cond_true, cond_false] at h27
    refine WO_gf rfl rfl ?_
    refine WO_gf rfl rfl ?_
    refine WO_gf rfl rfl ?_
    refine WO_gf rfl rfl ?_
    refine WO_gf rfl rfl ?_
    refine WO_pick (v := .s (.bool _)) rfl rfl ?_
    refine WO_mv (v := .s (.bool _)) rfl ?_
    refine WO_gf rfl rfl ?_
    refine WO_gf rfl rfl ?_
    refine WO_gf rfl rfl ?_
    refine WO_gf rfl rfl ?_
    refine WO_gf rfl rfl ?_
    refine WO_pick (v := .s (.bool _)) rfl rfl ?_
    refine WO_mv (v := .s (.bool _)) rfl ?_
    refine WO_gf rfl rfl ?_
    refine WO_gf rfl rfl ?_
    refine WO_gf rfl rfl ?_
    refine WO_gf rfl rfl ?_
    refine WO_gf rfl rfl ?_
    refine WO_pick (v := .s (.bool _)) rfl rfl ?_
    refine WO_mv (v := .s (.bool _)) rfl ?_
    refine WO_nil ?_
    refine WP_ret ?_
    refine ⟨_, RS_tmp (v := .s (.bool _)) rfl (RS_nil), ?_⟩
    first | (exfalso; omega) | exact congrArg (fun b => V.s (S.bool b)) (by simp [*])

/-- What is left, and n pieces more. -/
def addM (K : Nat → Int) (o : Nat) (P : Nat → Int) : Nat → Nat → Int
  | 0 => P
  | n + 1 => putM (K (o + (n : Int).toNat * 1)) (decide (addM K o P n 2 ≤ addM K o P n 3)) (addM K o P n)

theorem putM_bd2 {k : Int} {d : Bool} {P : Nat → Int} {lo hi : Int} (h : ∀ i, i < 4 → lo ≤ P i ∧ P i ≤ hi) (i : Nat) (hi4 : i < 4) : lo ≤ putM k d P i ∧ putM k d P i ≤ hi + 1 := by
  have ho : ∀ j, j < 4 → lo ≤ ov P j (P j + 1) i ∧ ov P j (P j + 1) i ≤ hi + 1 := by
    intro j hj
    have h1 := h i hi4
    have h2 := h j hj
    show lo ≤ (bif Nat.beq i j then P j + 1 else P i) ∧ (bif Nat.beq i j then P j + 1 else P i) ≤ hi + 1
    cases Nat.beq i j
    · simp only [cond_false]; omega
    · simp only [cond_true]; omega
  unfold putM
  split
  · have := h i hi4; omega
  · split
    · exact ho 1 (by omega)
    · split
      · exact ho 0 (by omega)
      · split
        · exact ho 2 (by omega)
        · exact ho 3 (by omega)

theorem addM_bd {K : Nat → Int} {o : Nat} {P : Nat → Int} {lo hi : Int} (h : ∀ i, i < 4 → lo ≤ P i ∧ P i ≤ hi) : ∀ (n i : Nat), i < 4 → lo ≤ addM K o P n i ∧ addM K o P n i ≤ hi + n
  | 0, i, hi4 => by have := h i hi4; simpa [addM] using this
  | n + 1, i, hi4 => by
    have := putM_bd2 (k := K (o + (n : Int).toNat * 1)) (d := decide (addM K o P n 2 ≤ addM K o P n 3)) (addM_bd (K := K) (o := o) h n) i hi4
    simp only [addM]
    omega

theorem Add_run {md : Md} {q : Nat} {c : Cp} (K : Nat → Int) (o n : Nat) (hn : n ≤ 1152921504606846976) (P : Nat → Int) (hP : ∀ i, i < 4 → -1152921504606846976 ≤ P i ∧ P i ≤ 1152921504606846976) : WR AM 26 [.agg 4 (ia P), .sl 0 o n 1 c] [.sc md q (ia K)] (fun v _ L => v = .agg 4 (ia (cut 4 (addM K o (cut 4 (cut 4 P)) (n)))) ∧ (0, Blk.sc md q (ia K)) ∈ L) := by
  refine WR_fn (a := a26) rfl rfl (entryF _) (entry_E (Nat.le_of_ble_eq_true rfl)) (m := 1) rfl ?_
  refine WP_seq ?_
  refine WP_ops ?_
  refine WO_boxA rfl ?_
  refine WO_allocI ?_
  refine WO_nil ?_
  refine WP_seq ?_
  refine WP_ops ?_
  first | refine WO_ldA0 rfl rfl (.tail _ (.head _)) ?_ | refine WO_ldAI rfl rfl (.tail _ (.head _)) ?_
  refine WO_buildI rfl (.agg rfl .nil) ?_
  refine WO_allocI ?_
  refine WO_stA rfl rfl rfl rfl .here ?_
  refine WO_nil ?_
  refine WP_seq ?_
  refine WP_seq ?_
  refine WP_ops ?_
  refine WO_mv (v := .sl _ _ _ _ _) rfl ?_
  refine WO_len rfl ?_
  refine WO_mv rfl ?_
  refine WO_nil ?_
  refine WP_block ?_
  refine WP_sub (L' := [_, _, _]) (.cons_cons _ (.cons_cons _ (.cons _ (.cons_cons _ .slnil)))) ?_
  refine WP_loop (fun m f _ L => ∃ (i : Nat), (i ≤ n) ∧ (m = n - i) ∧ (f 4 = .ptr 2 0 4) ∧ (f 5 = .ptr 3 0 4) ∧ (f 10 = .sl 0 o n 1 c) ∧ (f 11 = .s (.int .i64 n)) ∧ (f 12 = .s (.int .i64 i)) ∧ (L = [(3, .sc .var 4 (ia (addM K o (cut 4 (cut 4 P)) i))), (2, .sc .var 4 (ia fun _ => 0)), (0, .sc md q (ia K))])) (fun m f nb L hI => ?_) (n) ⟨0, by omega, rfl, rfl, rfl, rfl, rfl, rfl, rfl⟩
  obtain ⟨i, hi, hm, k4, k5, k10, k11, k12, rfl⟩ := hI
  refine WP_know (d := 4) (v := .ptr 2 0 4) k4 ?_
  refine WP_know (d := 5) (v := .ptr 3 0 4) k5 ?_
  refine WP_know (d := 10) (v := .sl 0 o n 1 c) k10 ?_
  refine WP_know (d := 11) (v := .s (.int .i64 n)) k11 ?_
  refine WP_know (d := 12) (v := .s (.int .i64 i)) k12 ?_
  refine WP_seq ?_
  refine WP_ops ?_
  refine WO_bin (r := .bool _) rfl rfl rfl ?_
  refine WO_nil ?_
  refine WP_seq ?_
  refine WP_cond rfl (fun h30 => ?_) (fun h30 => ?_)
  · try simp only [beq_iff_eq, bne_iff_ne, ne_eq, decide_eq_true_eq, decide_eq_false_iff_not, beq_eq_false_iff_ne, bne_eq_false_iff_eq, Decidable.not_not, Int.not_lt, Int.not_le, gt_iff_lt, ge_iff_le, Bool.not_eq_true, Bool.not_eq_false, Bool.not_eq_true', Bool.not_eq_false', cond_true, cond_false] at h30
    refine WP_skip ?_
    refine WP_seq ?_
    refine WP_block ?_
    refine WP_seq ?_
    refine WP_ops ?_
    refine WO_ixs rfl rfl (by omega) ?_
    refine WO_ldI rfl rfl (.tail _ (.tail _ (.head _))) rfl ?_
    refine WO_mv (v := .s (.int _ _)) rfl ?_
    refine WO_nil ?_
    refine WP_ops ?_
    refine WO_mv (v := .s (.int _ _)) rfl ?_
    refine WO_fa (o' := 0) rfl rfl rfl ?_
    refine WO_fa (o' := 2) rfl rfl rfl ?_
    refine WO_ldI rfl rfl (.head _) rfl ?_
    refine WO_fa (o' := 0) rfl rfl rfl ?_
    refine WO_fa (o' := 3) rfl rfl rfl ?_
    refine WO_ldI rfl rfl (.head _) rfl ?_
    refine WO_bin (r := .bool _) rfl rfl rfl ?_
    refine WO_callP rfl (RB_of1 (put_run rfl _ _ _ (fun j hj => by have := addM_bd (K := K) (o := o) (cut_bd (by omega) (cut_bd (by omega) hP)) i j hj; omega))) rfl rfl rfl .here ?_
    refine WO_nil ?_
    refine WP_ops ?_
    refine WO_add rfl rfl (by omega) ?_
    refine WO_mv (v := .s (.int _ _)) rfl ?_
    refine WO_nil ?_
    exact ⟨n - (i + 1), _, by omega, (.cons_cons _ (.cons_cons _ (.cons_cons _ .slnil))), i + 1, by omega, rfl, rfl, rfl, rfl, rfl, rfl, rfl⟩
  · try simp only [beq_iff_eq, bne_iff_ne, ne_eq, decide_eq_true_eq, decide_eq_false_iff_not, beq_eq_false_iff_ne, bne_eq_false_iff_eq, Decidable.not_not, Int.not_lt, Int.not_le, gt_iff_lt, ge_iff_le, Bool.not_eq_true, Bool.not_eq_false, Bool.not_eq_true', Bool.not_eq_false', cond_true, cond_false] at h30
    refine WP_exit ?_
    refine xhere ?_
    refine WP_seq ?_
    refine WP_ops ?_
    refine WO_fa (o' := 0) rfl rfl rfl ?_
    first | refine WO_ldA0 rfl rfl (.head _) ?_ | refine WO_ldAI rfl rfl (.head _) ?_
    refine WO_stA rfl rfl rfl rfl (.there .here) ?_
    refine WO_nil ?_
    refine WP_ret ?_
    refine ⟨_, RS_cell rfl rfl (.tail _ (.head _)) (RS_nil), ?_⟩
    obtain rfl : i = n := by omega
    exact ⟨rfl, (.tail _ (.tail _ (.head _)))⟩
theorem refAdd_run {md : Md} {q : Nat} {c : Cp} (K : Nat → Int) (o n : Nat) (hn : n ≤ 1152921504606846976) (P : Nat → Int) (hP : ∀ i, i < 4 → -1152921504606846976 ≤ P i ∧ P i ≤ 1152921504606846976) : WR AM 27 [.agg 4 (ia P), .sl 0 o n 1 c] [.sc md q (ia K)] (fun v _ L => v = .agg 4 (ia (cut 4 (addM K o (P) (n)))) ∧ (0, Blk.sc md q (ia K)) ∈ L) := by
  refine WR_fn (a := a27) rfl rfl (entryF _) (entry_E (Nat.le_of_ble_eq_true rfl)) (m := 1) rfl ?_
  refine WP_seq ?_
  refine WP_ops ?_
  refine WO_boxA rfl ?_
  refine WO_allocI ?_
  refine WO_nil ?_
  refine WP_seq ?_
  refine WP_seq ?_
  refine WP_ops ?_
  refine WO_mv rfl ?_
  refine WO_nil ?_
  refine WP_block ?_
  refine WP_sub (L' := [_, _, _]) (.cons_cons _ (.cons_cons _ (.cons_cons _ .slnil))) ?_
  refine WP_loop (fun m f _ L => ∃ (i : Nat), (i ≤ n) ∧ (m = n - i) ∧ (f 1 = .sl 0 o n 1 c) ∧ (f 2 = .ptr 1 0 4) ∧ (f 4 = .ptr 2 0 4) ∧ (f 5 = .s (.int .i64 i)) ∧ (L = [(2, .sc .var 4 (ia fun _ => 0)), (1, .sc .var 4 (ia (addM K o P i))), (0, .sc md q (ia K))])) (fun m f nb L hI => ?_) (n) ⟨0, by omega, rfl, rfl, rfl, rfl, rfl, rfl⟩
  obtain ⟨i, hi, hm, k1, k2, k4, k5, rfl⟩ := hI
  refine WP_know (d := 1) (v := .sl 0 o n 1 c) k1 ?_
  refine WP_know (d := 2) (v := .ptr 1 0 4) k2 ?_
  refine WP_know (d := 4) (v := .ptr 2 0 4) k4 ?_
  refine WP_know (d := 5) (v := .s (.int .i64 i)) k5 ?_
  have bd0 := addM_bd (K := K) (o := o) hP i 0 (by omega)
  have bd1 := addM_bd (K := K) (o := o) hP i 1 (by omega)
  have bd2 := addM_bd (K := K) (o := o) hP i 2 (by omega)
  have bd3 := addM_bd (K := K) (o := o) hP i 3 (by omega)
  refine WP_seq ?_
  refine WP_seq ?_
  refine WP_ops ?_
  refine WO_mv (v := .s (.int _ _)) rfl ?_
  refine WO_mv (v := .sl _ _ _ _ _) rfl ?_
  refine WO_len rfl ?_
  refine WO_bin (r := .bool _) rfl rfl rfl ?_
  refine WO_nil ?_
  refine WP_cond rfl (fun h31 => ?_) (fun h31 => ?_)
  · try simp only [beq_iff_eq, bne_iff_ne, ne_eq, decide_eq_true_eq, decide_eq_false_iff_not, beq_eq_false_iff_ne, bne_eq_false_iff_eq, Decidable.not_not, Int.not_lt, Int.not_le, gt_iff_lt, ge_iff_le, Bool.not_eq_true, Bool.not_eq_false, Bool.not_eq_true', Bool.not_eq_false', cond_true, cond_false] at h31
    refine WP_skip ?_
    refine WP_seq ?_
    refine WP_block ?_
    refine WP_seq ?_
    refine WP_ops ?_
    refine WO_mv (v := .sl _ _ _ _ _) rfl ?_
    refine WO_mv (v := .s (.int _ _)) rfl ?_
    refine WO_ixs rfl rfl (by omega) ?_
    refine WO_ldI rfl rfl (.tail _ (.tail _ (.head _))) rfl ?_
    refine WO_nil ?_
    refine WP_block ?_
    refine WP_seq ?_
    refine WP_seq ?_
    refine WP_ops ?_
    refine WO_bin (r := .bool _) rfl rfl rfl ?_
    refine WO_mv (v := .s (.bool _)) rfl ?_
    refine WO_nil ?_
    refine WP_cond rfl (fun h32 => ?_) (fun h32 => ?_)
    · try simp only [beq_iff_eq, bne_iff_ne, ne_eq, decide_eq_true_eq, decide_eq_false_iff_not, beq_eq_false_iff_ne, bne_eq_false_iff_eq, Decidable.not_not, Int.not_lt, Int.not_le, gt_iff_lt, ge_iff_le, Bool.not_eq_true, Bool.not_eq_false, Bool.not_eq_true', Bool.not_eq_false', cond_true, cond_false] at h32
      refine WP_skip ?_
      refine WP_cond rfl (fun h33 => ?_) (fun h33 => ?_)
      · try simp only [beq_iff_eq, bne_iff_ne, ne_eq, decide_eq_true_eq, decide_eq_false_iff_not, beq_eq_false_iff_ne, bne_eq_false_iff_eq, Decidable.not_not, Int.not_lt, Int.not_le, gt_iff_lt, ge_iff_le, Bool.not_eq_true, Bool.not_eq_false, Bool.not_eq_true', Bool.not_eq_false', cond_true, cond_false] at h33
        refine WP_skip ?_
        refine WP_ops ?_
        refine WO_mv (v := .s (.int _ _)) rfl ?_
        refine WO_add rfl rfl (by omega) ?_
        refine WO_mv (v := .s (.int _ _)) rfl ?_
        refine WO_nil ?_
        exact ⟨n - (i + 1), _, by omega, (.cons_cons _ (.cons_cons _ (.cons_cons _ .slnil))), i + 1, by omega, rfl, rfl, rfl, rfl, rfl, by first | (simp_all [addM, putM]; done) | (simp_all [addM, putM]; rw [if_neg (by omega)])⟩
      · try simp only [beq_iff_eq, bne_iff_ne, ne_eq, decide_eq_true_eq, decide_eq_false_iff_not, beq_eq_false_iff_ne, bne_eq_false_iff_eq, Decidable.not_not, Int.not_lt, Int.not_le, gt_iff_lt, ge_iff_le, Bool.not_eq_true, Bool.not_eq_false, Bool.not_eq_true', Bool.not_eq_false', cond_true, cond_false] at h33
        refine WP_seq ?_
        refine WP_ops ?_
        refine WO_bin (r := .bool _) rfl rfl rfl ?_
        refine WO_mv (v := .s (.bool _)) rfl ?_
        refine WO_nil ?_
        refine WP_cond rfl (fun h34 => ?_) (fun h34 => ?_)
        · try simp only [beq_iff_eq, bne_iff_ne, ne_eq, decide_eq_true_eq, decide_eq_false_iff_not, beq_eq_false_iff_ne, bne_eq_false_iff_eq, Decidable.not_not, Int.not_lt, Int.not_le, gt_iff_lt, ge_iff_le, Bool.not_eq_true, Bool.not_eq_false, Bool.not_eq_true', Bool.not_eq_false', cond_true, cond_false] at h34
          refine WP_ops ?_
          refine WO_fa (o' := 1) rfl rfl rfl ?_
          refine WO_ldI rfl rfl (.tail _ (.head _)) rfl ?_
          refine WO_add rfl rfl (by omega) ?_
          refine WO_fa (o' := 1) rfl rfl rfl ?_
          refine WO_stI rfl rfl rfl rfl (.there .here) ?_
          refine WO_nil ?_
          refine WP_ops ?_
          refine WO_mv (v := .s (.int _ _)) rfl ?_
          refine WO_add rfl rfl (by omega) ?_
          refine WO_mv (v := .s (.int _ _)) rfl ?_
          refine WO_nil ?_
          exact ⟨n - (i + 1), _, by omega, (.cons_cons _ (.cons_cons _ (.cons_cons _ .slnil))), i + 1, by omega, rfl, rfl, rfl, rfl, rfl, by first | (simp_all [addM, putM]; done) | (simp_all [addM, putM]; rw [if_neg (by omega)])⟩
        · try simp only [beq_iff_eq, bne_iff_ne, ne_eq, decide_eq_true_eq, decide_eq_false_iff_not, beq_eq_false_iff_ne, bne_eq_false_iff_eq, Decidable.not_not, Int.not_lt, Int.not_le, gt_iff_lt, ge_iff_le, Bool.not_eq_true, Bool.not_eq_false, Bool.not_eq_true', Bool.not_eq_false', cond_true, cond_false] at h34
          refine WP_seq ?_
          refine WP_ops ?_
          refine WO_bin (r := .bool _) rfl rfl rfl ?_
          refine WO_mv (v := .s (.bool _)) rfl ?_
          refine WO_nil ?_
          refine WP_cond rfl (fun h35 => ?_) (fun h35 => ?_)
          · try simp only [beq_iff_eq, bne_iff_ne, ne_eq, decide_eq_true_eq, decide_eq_false_iff_not, beq_eq_false_iff_ne, bne_eq_false_iff_eq, Decidable.not_not, Int.not_lt, Int.not_le, gt_iff_lt, ge_iff_le, Bool.not_eq_true, Bool.not_eq_false, Bool.not_eq_true', Bool.not_eq_false', cond_true, cond_false] at h35
            refine WP_seq ?_
            refine WP_ops ?_
            refine WO_fa (o' := 2) rfl rfl rfl ?_
            refine WO_ldI rfl rfl (.tail _ (.head _)) rfl ?_
            refine WO_fa (o' := 3) rfl rfl rfl ?_
            refine WO_ldI rfl rfl (.tail _ (.head _)) rfl ?_
            refine WO_bin (r := .bool _) rfl rfl rfl ?_
            refine WO_nil ?_
            refine WP_cond rfl (fun h36 => ?_) (fun h36 => ?_)
            · try simp only [beq_iff_eq, bne_iff_ne, ne_eq, decide_eq_true_eq, decide_eq_false_iff_not, beq_eq_false_iff_ne, bne_eq_false_iff_eq, Decidable.not_not, Int.not_lt, Int.not_le, gt_iff_lt, ge_iff_le, Bool.not_eq_true, Bool.not_eq_false, Bool.not_eq_true', Bool.not_eq_false', cond_true, cond_false] at h36
              refine WP_ops ?_
              refine WO_fa (o' := 2) rfl rfl rfl ?_
              refine WO_ldI rfl rfl (.tail _ (.head _)) rfl ?_
              refine WO_add rfl rfl (by omega) ?_
              refine WO_fa (o' := 2) rfl rfl rfl ?_
              refine WO_stI rfl rfl rfl rfl (.there .here) ?_
              refine WO_nil ?_
              refine WP_ops ?_
              refine WO_mv (v := .s (.int _ _)) rfl ?_
              refine WO_add rfl rfl (by omega) ?_
              refine WO_mv (v := .s (.int _ _)) rfl ?_
              refine WO_nil ?_
              exact ⟨n - (i + 1), _, by omega, (.cons_cons _ (.cons_cons _ (.cons_cons _ .slnil))), i + 1, by omega, rfl, rfl, rfl, rfl, rfl, by first | (simp_all [addM, putM]; done) | (simp_all [addM, putM]; rw [if_neg (by omega)])⟩
            · try simp only [beq_iff_eq, bne_iff_ne, ne_eq, decide_eq_true_eq, decide_eq_false_iff_not, beq_eq_false_iff_ne, bne_eq_false_iff_eq, Decidable.not_not, Int.not_lt, Int.not_le, gt_iff_lt, ge_iff_le, Bool.not_eq_true, Bool.not_eq_false, Bool.not_eq_true', Bool.not_eq_false', cond_true, cond_false] at h36
              refine WP_ops ?_
              refine WO_fa (o' := 3) rfl rfl rfl ?_
              refine WO_ldI rfl rfl (.tail _ (.head _)) rfl ?_
              refine WO_add rfl rfl (by omega) ?_
              refine WO_fa (o' := 3) rfl rfl rfl ?_
              refine WO_stI rfl rfl rfl rfl (.there .here) ?_
              refine WO_nil ?_
              refine WP_ops ?_
              refine WO_mv (v := .s (.int _ _)) rfl ?_
              refine WO_add rfl rfl (by omega) ?_
              refine WO_mv (v := .s (.int _ _)) rfl ?_
              refine WO_nil ?_
              exact ⟨n - (i + 1), _, by omega, (.cons_cons _ (.cons_cons _ (.cons_cons _ .slnil))), i + 1, by omega, rfl, rfl, rfl, rfl, rfl, by first | (simp_all [addM, putM]; done) | (simp_all [addM, putM]; rw [if_neg (by omega)])⟩
          · try simp only [beq_iff_eq, bne_iff_ne, ne_eq, decide_eq_true_eq, decide_eq_false_iff_not, beq_eq_false_iff_ne, bne_eq_false_iff_eq, Decidable.not_not, Int.not_lt, Int.not_le, gt_iff_lt, ge_iff_le, Bool.not_eq_true, Bool.not_eq_false, Bool.not_eq_true', Bool.not_eq_false', cond_true, cond_false] at h35
            refine WP_ops ?_
            refine WO_fa (o' := 0) rfl rfl rfl ?_
            refine WO_ldI rfl rfl (.tail _ (.head _)) rfl ?_
            refine WO_add rfl rfl (by omega) ?_
            refine WO_fa (o' := 0) rfl rfl rfl ?_
            refine WO_stI rfl rfl rfl rfl (.there .here) ?_
            refine WO_nil ?_
            refine WP_ops ?_
            refine WO_mv (v := .s (.int _ _)) rfl ?_
            refine WO_add rfl rfl (by omega) ?_
            refine WO_mv (v := .s (.int _ _)) rfl ?_
            refine WO_nil ?_
            exact ⟨n - (i + 1), _, by omega, (.cons_cons _ (.cons_cons _ (.cons_cons _ .slnil))), i + 1, by omega, rfl, rfl, rfl, rfl, rfl, by first | (simp_all [addM, putM]; done) | (simp_all [addM, putM]; rw [if_neg (by omega)])⟩
    · try simp only [beq_iff_eq, bne_iff_ne, ne_eq, decide_eq_true_eq, decide_eq_false_iff_not, beq_eq_false_iff_ne, bne_eq_false_iff_eq, Decidable.not_not, Int.not_lt, Int.not_le, gt_iff_lt, ge_iff_le, Bool.not_eq_true, Bool.not_eq_false, Bool.not_eq_true', Bool.not_eq_false', cond_true, cond_false] at h32
      refine WP_ops ?_
      refine WO_bin (r := .bool _) rfl rfl rfl ?_
      refine WO_mv (v := .s (.bool _)) rfl ?_
      refine WO_nil ?_
      refine WP_cond rfl (fun h37 => ?_) (fun h37 => ?_)
      · try simp only [beq_iff_eq, bne_iff_ne, ne_eq, decide_eq_true_eq, decide_eq_false_iff_not, beq_eq_false_iff_ne, bne_eq_false_iff_eq, Decidable.not_not, Int.not_lt, Int.not_le, gt_iff_lt, ge_iff_le, Bool.not_eq_true, Bool.not_eq_false, Bool.not_eq_true', Bool.not_eq_false', cond_true, cond_false] at h37
        refine WP_skip ?_
        refine WP_ops ?_
        refine WO_mv (v := .s (.int _ _)) rfl ?_
        refine WO_add rfl rfl (by omega) ?_
        refine WO_mv (v := .s (.int _ _)) rfl ?_
        refine WO_nil ?_
        exact ⟨n - (i + 1), _, by omega, (.cons_cons _ (.cons_cons _ (.cons_cons _ .slnil))), i + 1, by omega, rfl, rfl, rfl, rfl, rfl, by first | (simp_all [addM, putM]; done) | (simp_all [addM, putM]; rw [if_neg (by omega)])⟩
      · try simp only [beq_iff_eq, bne_iff_ne, ne_eq, decide_eq_true_eq, decide_eq_false_iff_not, beq_eq_false_iff_ne, bne_eq_false_iff_eq, Decidable.not_not, Int.not_lt, Int.not_le, gt_iff_lt, ge_iff_le, Bool.not_eq_true, Bool.not_eq_false, Bool.not_eq_true', Bool.not_eq_false', cond_true, cond_false] at h37
        refine WP_seq ?_
        refine WP_ops ?_
        refine WO_bin (r := .bool _) rfl rfl rfl ?_
        refine WO_mv (v := .s (.bool _)) rfl ?_
        refine WO_nil ?_
        refine WP_cond rfl (fun h38 => ?_) (fun h38 => ?_)
        · try simp only [beq_iff_eq, bne_iff_ne, ne_eq, decide_eq_true_eq, decide_eq_false_iff_not, beq_eq_false_iff_ne, bne_eq_false_iff_eq, Decidable.not_not, Int.not_lt, Int.not_le, gt_iff_lt, ge_iff_le, Bool.not_eq_true, Bool.not_eq_false, Bool.not_eq_true', Bool.not_eq_false', cond_true, cond_false] at h38
          refine WP_ops ?_
          refine WO_fa (o' := 1) rfl rfl rfl ?_
          refine WO_ldI rfl rfl (.tail _ (.head _)) rfl ?_
          refine WO_add rfl rfl (by omega) ?_
          refine WO_fa (o' := 1) rfl rfl rfl ?_
          refine WO_stI rfl rfl rfl rfl (.there .here) ?_
          refine WO_nil ?_
          refine WP_ops ?_
          refine WO_mv (v := .s (.int _ _)) rfl ?_
          refine WO_add rfl rfl (by omega) ?_
          refine WO_mv (v := .s (.int _ _)) rfl ?_
          refine WO_nil ?_
          exact ⟨n - (i + 1), _, by omega, (.cons_cons _ (.cons_cons _ (.cons_cons _ .slnil))), i + 1, by omega, rfl, rfl, rfl, rfl, rfl, by first | (simp_all [addM, putM]; done) | (simp_all [addM, putM]; rw [if_neg (by omega)])⟩
        · try simp only [beq_iff_eq, bne_iff_ne, ne_eq, decide_eq_true_eq, decide_eq_false_iff_not, beq_eq_false_iff_ne, bne_eq_false_iff_eq, Decidable.not_not, Int.not_lt, Int.not_le, gt_iff_lt, ge_iff_le, Bool.not_eq_true, Bool.not_eq_false, Bool.not_eq_true', Bool.not_eq_false', cond_true, cond_false] at h38
          refine WP_seq ?_
          refine WP_ops ?_
          refine WO_bin (r := .bool _) rfl rfl rfl ?_
          refine WO_mv (v := .s (.bool _)) rfl ?_
          refine WO_nil ?_
          refine WP_cond rfl (fun h39 => ?_) (fun h39 => ?_)
          · try simp only [beq_iff_eq, bne_iff_ne, ne_eq, decide_eq_true_eq, decide_eq_false_iff_not, beq_eq_false_iff_ne, bne_eq_false_iff_eq, Decidable.not_not, Int.not_lt, Int.not_le, gt_iff_lt, ge_iff_le, Bool.not_eq_true, Bool.not_eq_false, Bool.not_eq_true', Bool.not_eq_false', cond_true, cond_false] at h39
            refine WP_seq ?_
            refine WP_ops ?_
            refine WO_fa (o' := 2) rfl rfl rfl ?_
            refine WO_ldI rfl rfl (.tail _ (.head _)) rfl ?_
            refine WO_fa (o' := 3) rfl rfl rfl ?_
            refine WO_ldI rfl rfl (.tail _ (.head _)) rfl ?_
            refine WO_bin (r := .bool _) rfl rfl rfl ?_
            refine WO_nil ?_
            refine WP_cond rfl (fun h40 => ?_) (fun h40 => ?_)
            · try simp only [beq_iff_eq, bne_iff_ne, ne_eq, decide_eq_true_eq, decide_eq_false_iff_not, beq_eq_false_iff_ne, bne_eq_false_iff_eq, Decidable.not_not, Int.not_lt, Int.not_le, gt_iff_lt, ge_iff_le, Bool.not_eq_true, Bool.not_eq_false, Bool.not_eq_true', Bool.not_eq_false', cond_true, cond_false] at h40
              refine WP_ops ?_
              refine WO_fa (o' := 2) rfl rfl rfl ?_
              refine WO_ldI rfl rfl (.tail _ (.head _)) rfl ?_
              refine WO_add rfl rfl (by omega) ?_
              refine WO_fa (o' := 2) rfl rfl rfl ?_
              refine WO_stI rfl rfl rfl rfl (.there .here) ?_
              refine WO_nil ?_
              refine WP_ops ?_
              refine WO_mv (v := .s (.int _ _)) rfl ?_
              refine WO_add rfl rfl (by omega) ?_
              refine WO_mv (v := .s (.int _ _)) rfl ?_
              refine WO_nil ?_
              exact ⟨n - (i + 1), _, by omega, (.cons_cons _ (.cons_cons _ (.cons_cons _ .slnil))), i + 1, by omega, rfl, rfl, rfl, rfl, rfl, by first | (simp_all [addM, putM]; done) | (simp_all [addM, putM]; rw [if_neg (by omega)])⟩
            · try simp only [beq_iff_eq, bne_iff_ne, ne_eq, decide_eq_true_eq, decide_eq_false_iff_not, beq_eq_false_iff_ne, bne_eq_false_iff_eq, Decidable.not_not, Int.not_lt, Int.not_le, gt_iff_lt, ge_iff_le, Bool.not_eq_true, Bool.not_eq_false, Bool.not_eq_true', Bool.not_eq_false', cond_true, cond_false] at h40
              refine WP_ops ?_
              refine WO_fa (o' := 3) rfl rfl rfl ?_
              refine WO_ldI rfl rfl (.tail _ (.head _)) rfl ?_
              refine WO_add rfl rfl (by omega) ?_
              refine WO_fa (o' := 3) rfl rfl rfl ?_
              refine WO_stI rfl rfl rfl rfl (.there .here) ?_
              refine WO_nil ?_
              refine WP_ops ?_
              refine WO_mv (v := .s (.int _ _)) rfl ?_
              refine WO_add rfl rfl (by omega) ?_
              refine WO_mv (v := .s (.int _ _)) rfl ?_
              refine WO_nil ?_
              exact ⟨n - (i + 1), _, by omega, (.cons_cons _ (.cons_cons _ (.cons_cons _ .slnil))), i + 1, by omega, rfl, rfl, rfl, rfl, rfl, by first | (simp_all [addM, putM]; done) | (simp_all [addM, putM]; rw [if_neg (by omega)])⟩
          · try simp only [beq_iff_eq, bne_iff_ne, ne_eq, decide_eq_true_eq, decide_eq_false_iff_not, beq_eq_false_iff_ne, bne_eq_false_iff_eq, Decidable.not_not, Int.not_lt, Int.not_le, gt_iff_lt, ge_iff_le, Bool.not_eq_true, Bool.not_eq_false, Bool.not_eq_true', Bool.not_eq_false', cond_true, cond_false] at h39
            refine WP_ops ?_
            refine WO_fa (o' := 0) rfl rfl rfl ?_
            refine WO_ldI rfl rfl (.tail _ (.head _)) rfl ?_
            refine WO_add rfl rfl (by omega) ?_
            refine WO_fa (o' := 0) rfl rfl rfl ?_
            refine WO_stI rfl rfl rfl rfl (.there .here) ?_
            refine WO_nil ?_
            refine WP_ops ?_
            refine WO_mv (v := .s (.int _ _)) rfl ?_
            refine WO_add rfl rfl (by omega) ?_
            refine WO_mv (v := .s (.int _ _)) rfl ?_
            refine WO_nil ?_
            exact ⟨n - (i + 1), _, by omega, (.cons_cons _ (.cons_cons _ (.cons_cons _ .slnil))), i + 1, by omega, rfl, rfl, rfl, rfl, rfl, by first | (simp_all [addM, putM]; done) | (simp_all [addM, putM]; rw [if_neg (by omega)])⟩
  · try simp only [beq_iff_eq, bne_iff_ne, ne_eq, decide_eq_true_eq, decide_eq_false_iff_not, beq_eq_false_iff_ne, bne_eq_false_iff_eq, Decidable.not_not, Int.not_lt, Int.not_le, gt_iff_lt, ge_iff_le, Bool.not_eq_true, Bool.not_eq_false, Bool.not_eq_true', Bool.not_eq_false', cond_true, cond_false] at h31
    refine WP_exit ?_
    refine xhere ?_
    refine WP_seq ?_
    refine WP_ops ?_
    first | refine WO_ldA0 rfl rfl (.tail _ (.head _)) ?_ | refine WO_ldAI rfl rfl (.tail _ (.head _)) ?_
    refine WO_stA rfl rfl rfl rfl .here ?_
    refine WO_nil ?_
    refine WP_ret ?_
    refine ⟨_, RS_cell rfl rfl (.head _) (RS_nil), ?_⟩
    obtain rfl : i = n := by omega
    exact ⟨rfl, (.tail _ (.tail _ (.head _)))⟩
theorem Add_runN (P : Nat → Int) (hP : ∀ i, i < 4 → -1152921504606846976 ≤ P i ∧ P i ≤ 1152921504606846976) : WR AM 26 [.agg 4 (ia P), .snil] [] (fun v _ L => v = .agg 4 (ia (cut 4 (cut 4 (cut 4 P)))) ) := by
  refine WR_fn (a := a26) rfl rfl (entryF _) (entry_E (Nat.le_of_ble_eq_true rfl)) (m := 0) rfl ?_
  refine WP_seq ?_
  refine WP_ops ?_
  refine WO_boxA rfl ?_
  refine WO_allocI ?_
  refine WO_nil ?_
  refine WP_seq ?_
  refine WP_ops ?_
  first | refine WO_ldA0 rfl rfl (.tail _ (.head _)) ?_ | refine WO_ldAI rfl rfl (.tail _ (.head _)) ?_
  refine WO_buildI rfl (.agg rfl .nil) ?_
  refine WO_allocI ?_
  refine WO_stA rfl rfl rfl rfl .here ?_
  refine WO_nil ?_
  refine WP_seq ?_
  refine WP_seq ?_
  refine WP_ops ?_
  refine WO_mv (v := .snil) rfl ?_
  refine WO_lenN rfl ?_
  refine WO_mv rfl ?_
  refine WO_nil ?_
  refine WP_block ?_
  refine WP_loop (fun m f _ L => f 4 = .ptr 1 0 4 ∧ f 5 = .ptr 2 0 4 ∧ f 11 = .s (.int .i64 0) ∧ f 12 = .s (.int .i64 0) ∧ L = [(2, .sc .var 4 (ia (cut 4 (cut 4 P)))), (1, .sc .var 4 (ia fun _ => 0)), (0, .sc .var 4 (ia P))]) (fun m f nb L hI => ?_) 0 ⟨rfl, rfl, rfl, rfl, rfl⟩
  obtain ⟨k4, k5, k11, k12, rfl⟩ := hI
  refine WP_know (d := 4) (v := .ptr 1 0 4) k4 ?_
  refine WP_know (d := 5) (v := .ptr 2 0 4) k5 ?_
  refine WP_know (d := 11) (v := .s (.int .i64 0)) k11 ?_
  refine WP_know (d := 12) (v := .s (.int .i64 0)) k12 ?_
  refine WP_seq ?_
  refine WP_ops ?_
  refine WO_bin (r := .bool _) rfl rfl rfl ?_
  refine WO_nil ?_
  refine WP_seq ?_
  refine WP_cond rfl (fun h41 => ?_) (fun h41 => ?_)
  · try simp only [beq_iff_eq, bne_iff_ne, ne_eq, decide_eq_true_eq, decide_eq_false_iff_not, beq_eq_false_iff_ne, bne_eq_false_iff_eq, Decidable.not_not, Int.not_lt, Int.not_le, gt_iff_lt, ge_iff_le, Bool.not_eq_true, Bool.not_eq_false, Bool.not_eq_true', Bool.not_eq_false', cond_true, cond_false] at h41
    exfalso; omega
  · try simp only [beq_iff_eq, bne_iff_ne, ne_eq, decide_eq_true_eq, decide_eq_false_iff_not, beq_eq_false_iff_ne, bne_eq_false_iff_eq, Decidable.not_not, Int.not_lt, Int.not_le, gt_iff_lt, ge_iff_le, Bool.not_eq_true, Bool.not_eq_false, Bool.not_eq_true', Bool.not_eq_false', cond_true, cond_false] at h41
    refine WP_exit ?_
    refine xhere ?_
    refine WP_seq ?_
    refine WP_ops ?_
    refine WO_fa (o' := 0) rfl rfl rfl ?_
    first | refine WO_ldA0 rfl rfl (.head _) ?_ | refine WO_ldAI rfl rfl (.head _) ?_
    refine WO_stA rfl rfl rfl rfl (.there .here) ?_
    refine WO_nil ?_
    refine WP_ret ?_
    refine ⟨_, RS_cell rfl rfl (.tail _ (.head _)) (RS_nil), ?_⟩
    rfl
theorem refAdd_runN (P : Nat → Int) (hP : ∀ i, i < 4 → -1152921504606846976 ≤ P i ∧ P i ≤ 1152921504606846976) : WR AM 27 [.agg 4 (ia P), .snil] [] (fun v _ L => v = .agg 4 (ia (cut 4 (P))) ) := by
  refine WR_fn (a := a27) rfl rfl (entryF _) (entry_E (Nat.le_of_ble_eq_true rfl)) (m := 0) rfl ?_
  refine WP_seq ?_
  refine WP_ops ?_
  refine WO_boxA rfl ?_
  refine WO_allocI ?_
  refine WO_nil ?_
  refine WP_seq ?_
  refine WP_seq ?_
  refine WP_ops ?_
  refine WO_mv rfl ?_
  refine WO_nil ?_
  refine WP_block ?_
  refine WP_loop (fun m f _ L => f 1 = .snil ∧ f 2 = .ptr 0 0 4 ∧ f 4 = .ptr 1 0 4 ∧ f 5 = .s (.int .i64 0) ∧ L = [(1, .sc .var 4 (ia fun _ => 0)), (0, .sc .var 4 (ia P))]) (fun m f nb L hI => ?_) 0 ⟨rfl, rfl, rfl, rfl, rfl⟩
  obtain ⟨k1, k2, k4, k5, rfl⟩ := hI
  refine WP_know (d := 1) (v := .snil) k1 ?_
  refine WP_know (d := 2) (v := .ptr 0 0 4) k2 ?_
  refine WP_know (d := 4) (v := .ptr 1 0 4) k4 ?_
  refine WP_know (d := 5) (v := .s (.int .i64 0)) k5 ?_
  refine WP_seq ?_
  refine WP_seq ?_
  refine WP_ops ?_
  refine WO_mv (v := .s (.int _ _)) rfl ?_
  refine WO_mv (v := .snil) rfl ?_
  refine WO_lenN rfl ?_
  refine WO_bin (r := .bool _) rfl rfl rfl ?_
  refine WO_nil ?_
  refine WP_cond rfl (fun h42 => ?_) (fun h42 => ?_)
  · try simp only [beq_iff_eq, bne_iff_ne, ne_eq, decide_eq_true_eq, decide_eq_false_iff_not, beq_eq_false_iff_ne, bne_eq_false_iff_eq, Decidable.not_not, Int.not_lt, Int.not_le, gt_iff_lt, ge_iff_le, Bool.not_eq_true, Bool.not_eq_false, Bool.not_eq_true', Bool.not_eq_false', cond_true, cond_false] at h42
    exfalso; omega
  · try simp only [beq_iff_eq, bne_iff_ne, ne_eq, decide_eq_true_eq, decide_eq_false_iff_not, beq_eq_false_iff_ne, bne_eq_false_iff_eq, Decidable.not_not, Int.not_lt, Int.not_le, gt_iff_lt, ge_iff_le, Bool.not_eq_true, Bool.not_eq_false, Bool.not_eq_true', Bool.not_eq_false', cond_true, cond_false] at h42
    refine WP_exit ?_
    refine xhere ?_
    refine WP_seq ?_
    refine WP_ops ?_
    first | refine WO_ldA0 rfl rfl (.tail _ (.head _)) ?_ | refine WO_ldAI rfl rfl (.tail _ (.head _)) ?_
    refine WO_stA rfl rfl rfl rfl .here ?_
    refine WO_nil ?_
    refine WP_ret ?_
    refine ⟨_, RS_cell rfl rfl (.head _) (RS_nil), ?_⟩
    rfl
theorem Add_runZ (P : Nat → Int) (hP : ∀ i, i < 4 → -1152921504606846976 ≤ P i ∧ P i ≤ 1152921504606846976) : WR AM 26 [.agg 4 (ia P), .slz] [] (fun v _ L => v = .agg 4 (ia (cut 4 (cut 4 (cut 4 P)))) ) := by
  refine WR_fn (a := a26) rfl rfl (entryF _) (entry_E (Nat.le_of_ble_eq_true rfl)) (m := 0) rfl ?_
  refine WP_seq ?_
  refine WP_ops ?_
  refine WO_boxA rfl ?_
  refine WO_allocI ?_
  refine WO_nil ?_
  refine WP_seq ?_
  refine WP_ops ?_
  first | refine WO_ldA0 rfl rfl (.tail _ (.head _)) ?_ | refine WO_ldAI rfl rfl (.tail _ (.head _)) ?_
  refine WO_buildI rfl (.agg rfl .nil) ?_
  refine WO_allocI ?_
  refine WO_stA rfl rfl rfl rfl .here ?_
  refine WO_nil ?_
  refine WP_seq ?_
  refine WP_seq ?_
  refine WP_ops ?_
  refine WO_mv (v := .slz) rfl ?_
  refine WO_lenZ rfl ?_
  refine WO_mv rfl ?_
  refine WO_nil ?_
  refine WP_block ?_
  refine WP_loop (fun m f _ L => f 4 = .ptr 1 0 4 ∧ f 5 = .ptr 2 0 4 ∧ f 11 = .s (.int .i64 0) ∧ f 12 = .s (.int .i64 0) ∧ L = [(2, .sc .var 4 (ia (cut 4 (cut 4 P)))), (1, .sc .var 4 (ia fun _ => 0)), (0, .sc .var 4 (ia P))]) (fun m f nb L hI => ?_) 0 ⟨rfl, rfl, rfl, rfl, rfl⟩
  obtain ⟨k4, k5, k11, k12, rfl⟩ := hI
  refine WP_know (d := 4) (v := .ptr 1 0 4) k4 ?_
  refine WP_know (d := 5) (v := .ptr 2 0 4) k5 ?_
  refine WP_know (d := 11) (v := .s (.int .i64 0)) k11 ?_
  refine WP_know (d := 12) (v := .s (.int .i64 0)) k12 ?_
  refine WP_seq ?_
  refine WP_ops ?_
  refine WO_bin (r := .bool _) rfl rfl rfl ?_
  refine WO_nil ?_
  refine WP_seq ?_
  refine WP_cond rfl (fun h43 => ?_) (fun h43 => ?_)
  · try simp only [beq_iff_eq, bne_iff_ne, ne_eq, decide_eq_true_eq, decide_eq_false_iff_not, beq_eq_false_iff_ne, bne_eq_false_iff_eq, Decidable.not_not, Int.not_lt, Int.not_le, gt_iff_lt, ge_iff_le, Bool.not_eq_true, Bool.not_eq_false, Bool.not_eq_true', Bool.not_eq_false', cond_true, cond_false] at h43
    exfalso; omega
  · try simp only [beq_iff_eq, bne_iff_ne, ne_eq, decide_eq_true_eq, decide_eq_false_iff_not, beq_eq_false_iff_ne, bne_eq_false_iff_eq, Decidable.not_not, Int.not_lt, Int.not_le, gt_iff_lt, ge_iff_le, Bool.not_eq_true, Bool.not_eq_false, Bool.not_eq_true', Bool.not_eq_false', cond_true, cond_false] at h43
    refine WP_exit ?_
    refine xhere ?_
    refine WP_seq ?_
    refine WP_ops ?_
    refine WO_fa (o' := 0) rfl rfl rfl ?_
    first | refine WO_ldA0 rfl rfl (.head _) ?_ | refine WO_ldAI rfl rfl (.head _) ?_
    refine WO_stA rfl rfl rfl rfl (.there .here) ?_
    refine WO_nil ?_
    refine WP_ret ?_
    refine ⟨_, RS_cell rfl rfl (.tail _ (.head _)) (RS_nil), ?_⟩
    rfl
theorem refAdd_runZ (P : Nat → Int) (hP : ∀ i, i < 4 → -1152921504606846976 ≤ P i ∧ P i ≤ 1152921504606846976) : WR AM 27 [.agg 4 (ia P), .slz] [] (fun v _ L => v = .agg 4 (ia (cut 4 (P))) ) := by
  refine WR_fn (a := a27) rfl rfl (entryF _) (entry_E (Nat.le_of_ble_eq_true rfl)) (m := 0) rfl ?_
  refine WP_seq ?_
  refine WP_ops ?_
  refine WO_boxA rfl ?_
  refine WO_allocI ?_
  refine WO_nil ?_
  refine WP_seq ?_
  refine WP_seq ?_
  refine WP_ops ?_
  refine WO_mv rfl ?_
  refine WO_nil ?_
  refine WP_block ?_
  refine WP_loop (fun m f _ L => f 1 = .slz ∧ f 2 = .ptr 0 0 4 ∧ f 4 = .ptr 1 0 4 ∧ f 5 = .s (.int .i64 0) ∧ L = [(1, .sc .var 4 (ia fun _ => 0)), (0, .sc .var 4 (ia P))]) (fun m f nb L hI => ?_) 0 ⟨rfl, rfl, rfl, rfl, rfl⟩
  obtain ⟨k1, k2, k4, k5, rfl⟩ := hI
  refine WP_know (d := 1) (v := .slz) k1 ?_
  refine WP_know (d := 2) (v := .ptr 0 0 4) k2 ?_
  refine WP_know (d := 4) (v := .ptr 1 0 4) k4 ?_
  refine WP_know (d := 5) (v := .s (.int .i64 0)) k5 ?_
  refine WP_seq ?_
  refine WP_seq ?_
  refine WP_ops ?_
  refine WO_mv (v := .s (.int _ _)) rfl ?_
  refine WO_mv (v := .slz) rfl ?_
  refine WO_lenZ rfl ?_
  refine WO_bin (r := .bool _) rfl rfl rfl ?_
  refine WO_nil ?_
  refine WP_cond rfl (fun h44 => ?_) (fun h44 => ?_)
  · try simp only [beq_iff_eq, bne_iff_ne, ne_eq, decide_eq_true_eq, decide_eq_false_iff_not, beq_eq_false_iff_ne, bne_eq_false_iff_eq, Decidable.not_not, Int.not_lt, Int.not_le, gt_iff_lt, ge_iff_le, Bool.not_eq_true, Bool.not_eq_false, Bool.not_eq_true', Bool.not_eq_false', cond_true, cond_false] at h44
    exfalso; omega
  · try simp only [beq_iff_eq, bne_iff_ne, ne_eq, decide_eq_true_eq, decide_eq_false_iff_not, beq_eq_false_iff_ne, bne_eq_false_iff_eq, Decidable.not_not, Int.not_lt, Int.not_le, gt_iff_lt, ge_iff_le, Bool.not_eq_true, Bool.not_eq_false, Bool.not_eq_true', Bool.not_eq_false', cond_true, cond_false] at h44
    refine WP_exit ?_
    refine xhere ?_
    refine WP_seq ?_
    refine WP_ops ?_
    first | refine WO_ldA0 rfl rfl (.tail _ (.head _)) ?_ | refine WO_ldAI rfl rfl (.tail _ (.head _)) ?_
    refine WO_stA rfl rfl rfl rfl .here ?_
    refine WO_nil ?_
    refine WP_ret ?_
    refine ⟨_, RS_cell rfl rfl (.head _) (RS_nil), ?_⟩
    rfl
theorem four {Q : Nat → Int} {lo hi : Int} (h0 : lo ≤ Q 0 ∧ Q 0 ≤ hi) (h1 : lo ≤ Q 1 ∧ Q 1 ≤ hi) (h2 : lo ≤ Q 2 ∧ Q 2 ≤ hi) (h3 : lo ≤ Q 3 ∧ Q 3 ≤ hi) : ∀ i, i < 4 → lo ≤ Q i ∧ Q i ≤ hi
  | 0, _ => h0
  | 1, _ => h1
  | 2, _ => h2
  | 3, _ => h3
  | n + 4, h => by omega

theorem putM_same {k : Int} {d : Bool} {P Q : Nat → Int} (h : ∀ i, i < 4 → P i = Q i) (i : Nat) (hi : i < 4) : putM k d P i = putM k d Q i := by
  have ho : ∀ j, j < 4 → ov P j (P j + 1) i = ov Q j (Q j + 1) i := by
    intro j hj
    show (bif Nat.beq i j then P j + 1 else P i) = (bif Nat.beq i j then Q j + 1 else Q i)
    rw [h i hi, h j hj]
  unfold putM
  split
  · exact h i hi
  · split
    · exact ho 1 (by omega)
    · split
      · exact ho 0 (by omega)
      · split
        · exact ho 2 (by omega)
        · exact ho 3 (by omega)

theorem addM_same {K K' : Nat → Int} {o o' : Nat} {P Q : Nat → Int} (h : ∀ i, i < 4 → P i = Q i) : ∀ (n : Nat), (∀ j : Nat, j < n → K (o + (j : Int).toNat * 1) = K' (o' + (j : Int).toNat * 1)) → ∀ i, i < 4 → addM K o P n i = addM K' o' Q n i
  | 0, _, i, hi => h i hi
  | n + 1, hK, i, hi => by
    have ih := addM_same h n (fun j hj => hK j (by omega))
    simp only [addM]
    rw [hK n (by omega), ih 2 (by omega), ih 3 (by omega)]
    exact putM_same ih i hi

theorem bd_same {P Q : Nat → Int} {lo hi : Int} (h : ∀ i, i < 4 → P i = Q i) (hb : ∀ i, i < 4 → lo ≤ P i ∧ P i ≤ hi) (i : Nat) (hi4 : i < 4) : lo ≤ Q i ∧ Q i ≤ hi := by
  rw [← h i hi4]; exact hb i hi4

theorem four4 {P Q : Nat → Int} (h0 : P 0 = Q 0) (h1 : P 1 = Q 1) (h2 : P 2 = Q 2) (h3 : P 3 = Q 3) : ∀ i, i < 4 → P i = Q i
  | 0, _ => h0
  | 1, _ => h1
  | 2, _ => h2
  | 3, _ => h3
  | n + 4, h => by omega

theorem DeadTells_run {md : Md} {q : Nat} {c : Cp} (K : Nat → Int) (n : Nat) (h0 : 0 < n) (P Q : Nat → Int) : WR AM 3 [.agg 133 (ia P), .agg 4 (ia Q), .sl 0 0 n 1 c] [.sc md q (ia K)] (fun v _ L => v = .s (.bool true) ∧ (0, Blk.sc md q (ia K)) ∈ L) := by
  refine WR_fn (a := a3) rfl rfl (entryF _) (entry_E (Nat.le_of_ble_eq_true rfl)) (m := 1) rfl ?_
  refine WP_seq ?_
  refine WP_ops ?_
  refine WO_boxA rfl ?_
  refine WO_boxA rfl ?_
  refine WO_mv rfl ?_
  refine WO_nil ?_
  refine WP_seq ?_
  refine WP_seq ?_
  refine WP_ops ?_
  refine WO_mv (v := .sl _ _ _ _ _) rfl ?_
  refine WO_len rfl ?_
  refine WO_bin (r := .bool _) rfl rfl rfl ?_
  refine WO_mv (v := .s (.bool _)) rfl ?_
  refine WO_case (t := 14) rfl (fun h45 => ?_) (fun h45 => ?_)
  · try simp only [beq_iff_eq, bne_iff_ne, ne_eq, decide_eq_true_eq, decide_eq_false_iff_not, beq_eq_false_iff_ne, bne_eq_false_iff_eq, Decidable.not_not, Int.not_lt, Int.not_le, gt_iff_lt, ge_iff_le, Bool.not_eq_true, Bool.not_eq_false, Bool.not_eq_true', Bool.not_eq_false', cond_true, cond_false] at h45
    refine WO_gf rfl rfl ?_
    refine WO_gf rfl rfl ?_
    refine WO_gf rfl rfl ?_
    refine WO_gf rfl rfl ?_
    refine WO_gf rfl rfl ?_
    refine WO_gf rfl rfl ?_
    refine WO_gf rfl rfl ?_
    refine WO_gf rfl rfl ?_
    refine WO_gf rfl rfl ?_
    refine WO_gf rfl rfl ?_
    refine WO_pick (v := .s (.bool _)) rfl rfl ?_
    refine WO_mv (v := .s (.bool _)) rfl ?_
    refine WO_gf rfl rfl ?_
    refine WO_gf rfl rfl ?_
    refine WO_gf rfl rfl ?_
    refine WO_gf rfl rfl ?_
    refine WO_gf rfl rfl ?_
    refine WO_gf rfl rfl ?_
    refine WO_gf rfl rfl ?_
    refine WO_gf rfl rfl ?_
    refine WO_gf rfl rfl ?_
    refine WO_gf rfl rfl ?_
    refine WO_pick (v := .s (.bool _)) rfl rfl ?_
    refine WO_nil ?_
    refine WP_cond rfl (fun _ => ?_) (fun h => nomatch h)
    refine WP_seq ?_
    refine WP_ops ?_
    refine WO_call0 rfl (awake_run) rfl rfl rfl ?_
    refine WO_mv (v := .s (.bool _)) rfl ?_
    refine WO_nil ?_
    refine WP_ret ?_
    refine ⟨_, RS_tmp (v := .s (.bool _)) rfl (RS_nil), ?_⟩
    exact ⟨rfl, (.tail _ (.tail _ (.head _)))⟩
  · try simp only [beq_iff_eq, bne_iff_ne, ne_eq, decide_eq_true_eq, decide_eq_false_iff_not, beq_eq_false_iff_ne, bne_eq_false_iff_eq, Decidable.not_not, Int.not_lt, Int.not_le, gt_iff_lt, ge_iff_le, Bool.not_eq_true, Bool.not_eq_false, Bool.not_eq_true', Bool.not_eq_false', cond_true, cond_false] at h45
    refine WO_gt rfl ?_
    refine WO_fa (o' := 0) rfl rfl rfl ?_
    refine WO_gt rfl ?_
    refine WO_ldI rfl rfl (.head _) rfl ?_
    refine WO_gt rfl ?_
    refine WO_fa (o' := 1) rfl rfl rfl ?_
    refine WO_gt rfl ?_
    refine WO_ldI rfl rfl (.head _) rfl ?_
    refine WO_gt rfl ?_
    refine WO_fa (o' := 2) rfl rfl rfl ?_
    refine WO_gt rfl ?_
    refine WO_ldI rfl rfl (.head _) rfl ?_
    refine WO_gt rfl ?_
    refine WO_fa (o' := 3) rfl rfl rfl ?_
    refine WO_gt rfl ?_
    refine WO_ldI rfl rfl (.head _) rfl ?_
    refine WO_gt rfl ?_
    refine WO_mx4 rfl rfl rfl rfl ?_
    refine WO_gt rfl ?_
    refine WO_bin (r := .bool _) rfl rfl rfl ?_
    refine WO_pick (v := .s (.bool _)) rfl rfl ?_
    refine WO_mv (v := .s (.bool _)) rfl ?_
    refine WO_case (t := 26) rfl (fun h46 => ?_) (fun h46 => ?_)
    · try simp only [beq_iff_eq, bne_iff_ne, ne_eq, decide_eq_true_eq, decide_eq_false_iff_not, beq_eq_false_iff_ne, bne_eq_false_iff_eq, Decidable.not_not, Int.not_lt, Int.not_le, gt_iff_lt, ge_iff_le, Bool.not_eq_true, Bool.not_eq_false, Bool.not_eq_true', Bool.not_eq_false', cond_true, cond_false] at h46
      refine WO_gf rfl rfl ?_
      refine WO_gf rfl rfl ?_
      refine WO_gf rfl rfl ?_
      refine WO_gf rfl rfl ?_
      refine WO_gf rfl rfl ?_
      refine WO_gf rfl rfl ?_
      refine WO_gf rfl rfl ?_
      refine WO_gf rfl rfl ?_
      refine WO_gf rfl rfl ?_
      refine WO_gf rfl rfl ?_
      refine WO_pick (v := .s (.bool _)) rfl rfl ?_
      refine WO_nil ?_
      refine WP_cond rfl (fun _ => ?_) (fun h => nomatch h)
      refine WP_seq ?_
      refine WP_ops ?_
      refine WO_call0 rfl (awake_run) rfl rfl rfl ?_
      refine WO_mv (v := .s (.bool _)) rfl ?_
      refine WO_nil ?_
      refine WP_ret ?_
      refine ⟨_, RS_tmp (v := .s (.bool _)) rfl (RS_nil), ?_⟩
      exact ⟨rfl, (.tail _ (.tail _ (.head _)))⟩
    · try simp only [beq_iff_eq, bne_iff_ne, ne_eq, decide_eq_true_eq, decide_eq_false_iff_not, beq_eq_false_iff_ne, bne_eq_false_iff_eq, Decidable.not_not, Int.not_lt, Int.not_le, gt_iff_lt, ge_iff_le, Bool.not_eq_true, Bool.not_eq_false, Bool.not_eq_true', Bool.not_eq_false', cond_true, cond_false] at h46
      refine WO_gt rfl ?_
      refine WO_fa (o' := 0) rfl rfl rfl ?_
      refine WO_gt rfl ?_
      refine WO_ldI rfl rfl (.head _) rfl ?_
      refine WO_gt rfl ?_
      refine WO_fa (o' := 1) rfl rfl rfl ?_
      refine WO_gt rfl ?_
      refine WO_ldI rfl rfl (.head _) rfl ?_
      refine WO_gt rfl ?_
      refine WO_fa (o' := 2) rfl rfl rfl ?_
      refine WO_gt rfl ?_
      refine WO_ldI rfl rfl (.head _) rfl ?_
      refine WO_gt rfl ?_
      refine WO_fa (o' := 3) rfl rfl rfl ?_
      refine WO_gt rfl ?_
      refine WO_ldI rfl rfl (.head _) rfl ?_
      refine WO_gt rfl ?_
      refine WO_mn4 rfl rfl rfl rfl ?_
      refine WO_gt rfl ?_
      refine WO_bin (r := .bool _) rfl rfl rfl ?_
      refine WO_pick (v := .s (.bool _)) rfl rfl ?_
      refine WO_nil ?_
      refine WP_cond rfl (fun h47 => ?_) (fun h47 => ?_)
      · try simp only [beq_iff_eq, bne_iff_ne, ne_eq, decide_eq_true_eq, decide_eq_false_iff_not, beq_eq_false_iff_ne, bne_eq_false_iff_eq, Decidable.not_not, Int.not_lt, Int.not_le, gt_iff_lt, ge_iff_le, Bool.not_eq_true, Bool.not_eq_false, Bool.not_eq_true', Bool.not_eq_false', cond_true, cond_false] at h47
        refine WP_seq ?_
        refine WP_ops ?_
        refine WO_call0 rfl (awake_run) rfl rfl rfl ?_
        refine WO_mv (v := .s (.bool _)) rfl ?_
        refine WO_nil ?_
        refine WP_ret ?_
        refine ⟨_, RS_tmp (v := .s (.bool _)) rfl (RS_nil), ?_⟩
        exact ⟨rfl, (.tail _ (.tail _ (.head _)))⟩
      · try simp only [beq_iff_eq, bne_iff_ne, ne_eq, decide_eq_true_eq, decide_eq_false_iff_not, beq_eq_false_iff_ne, bne_eq_false_iff_eq, Decidable.not_not, Int.not_lt, Int.not_le, gt_iff_lt, ge_iff_le, Bool.not_eq_true, Bool.not_eq_false, Bool.not_eq_true', Bool.not_eq_false', cond_true, cond_false] at h47
        refine WP_skip ?_
        refine WP_seq ?_
        refine WP_ops ?_
        refine WO_fa (o' := 0) rfl rfl rfl ?_
        refine WO_ldI rfl rfl (.head _) rfl ?_
        refine WO_fa (o' := 1) rfl rfl rfl ?_
        refine WO_ldI rfl rfl (.head _) rfl ?_
        refine WO_fa (o' := 2) rfl rfl rfl ?_
        refine WO_ldI rfl rfl (.head _) rfl ?_
        refine WO_fa (o' := 3) rfl rfl rfl ?_
        refine WO_ldI rfl rfl (.head _) rfl ?_
        refine WO_buildI rfl (.one rfl (.one rfl (.one rfl (.one rfl .nil)))) ?_
        refine WO_allocI ?_
        refine WO_stA rfl rfl rfl rfl .here ?_
        refine WO_nil ?_
        refine WP_seq ?_
        refine WP_ops ?_
        refine WO_mkslS rfl .nil ?_
        refine WO_mv (v := .sl _ _ _ _ _) rfl ?_
        refine WO_appendN rfl rfl (.head _) (.tail _ (.tail _ (.tail _ (.tail _ (.head _))))) h0 (by simp [roomy]; omega) ?_
        refine WO_mv (v := .sl _ _ _ _ _) rfl ?_
        refine WO_nil ?_
        refine WP_seq ?_
        refine WP_ops ?_
        first | refine WO_ldA0 rfl rfl (.tail _ (.tail _ (.tail _ (.tail _ (.head _))))) ?_ | refine WO_ldAI rfl rfl (.tail _ (.tail _ (.tail _ (.tail _ (.head _))))) ?_
        refine WO_callq0 rfl (RF_of (Of_run _)) rfl rfl rfl ?_
        first | refine WO_ldA0 rfl rfl (.tail _ (.tail _ (.tail _ (.tail _ (.head _))))) ?_ | refine WO_ldAI rfl rfl (.tail _ (.tail _ (.tail _ (.tail _ (.head _))))) ?_
        refine WO_call0 rfl (RF_of (refOf_run _)) rfl rfl rfl ?_
        refine WO_call0 (av := [.agg 4 (ia _), .agg 4 (ia _)]) (v := .s (.bool true)) rfl ?_ rfl rfl rfl ?_
        · exact RF_of (same_run _ _ rfl rfl rfl rfl)
        refine WO_mv (v := .s (.bool _)) rfl ?_
        refine WO_gt rfl ?_
        first | refine WO_ldA0 rfl rfl (.tail _ (.tail _ (.tail _ (.tail _ (.head _))))) ?_ | refine WO_ldAI rfl rfl (.tail _ (.tail _ (.tail _ (.tail _ (.head _))))) ?_
        refine WO_gt rfl ?_
        refine WO_callq0 rfl (RF_of (Is_run _)) rfl rfl rfl ?_
        refine WO_gt rfl ?_
        first | refine WO_ldA0 rfl rfl (.tail _ (.tail _ (.tail _ (.tail _ (.head _))))) ?_ | refine WO_ldAI rfl rfl (.tail _ (.tail _ (.tail _ (.tail _ (.head _))))) ?_
        refine WO_gt rfl ?_
        refine WO_call0 rfl (RF_of (refOf_run _)) rfl rfl rfl ?_
        refine WO_gt rfl ?_
        refine WO_call0 rfl (RF_of (refDead_run _)) rfl rfl rfl ?_
        refine WO_gt rfl ?_
        refine WO_eqbT rfl rfl (rfl) ?_
        refine WO_pick (v := .s (.bool _)) rfl rfl ?_
        refine WO_mv (v := .s (.bool _)) rfl ?_
        refine WO_gt rfl ?_
        first | refine WO_ldA0 rfl rfl (.tail _ (.tail _ (.tail _ (.head _)))) ?_ | refine WO_ldAI rfl rfl (.tail _ (.tail _ (.tail _ (.head _)))) ?_
        refine WO_gt rfl ?_
        refine WO_callq0 rfl (RF_of (Dead_run _ (four (by omega) (by omega) (by omega) (by omega)))) rfl rfl rfl ?_
        refine WO_gt rfl ?_
        first | refine WO_ldA0 rfl rfl (.tail _ (.tail _ (.head _))) ?_ | refine WO_ldAI rfl rfl (.tail _ (.tail _ (.head _))) ?_
        refine WO_gt rfl ?_
        refine WO_call0 rfl (RF_of (refDead_run _)) rfl rfl rfl ?_
        refine WO_gt rfl ?_
        refine WO_eqbT rfl rfl (rfl) ?_
        refine WO_pick (v := .s (.bool _)) rfl rfl ?_
        refine WO_mv (v := .s (.bool _)) rfl ?_
        refine WO_gt rfl ?_
        first | refine WO_ldA0 rfl rfl (.tail _ (.tail _ (.tail _ (.head _)))) ?_ | refine WO_ldAI rfl rfl (.tail _ (.tail _ (.tail _ (.head _)))) ?_
        refine WO_gt rfl ?_
        refine WO_mv (v := .sl _ _ _ _ _) rfl ?_
        refine WO_gt rfl ?_
        refine WO_callq (rs := [5]) (Bs := [_]) rfl (RB_of1 (Add_run _ _ n (by omega) _ (four (by omega) (by omega) (by omega) (by omega)))) rfl rfl (Nat.le_of_ble_eq_true rfl) (fun _ h => h) rfl ⟨(.head _), ⟨_, _, _, rfl⟩, trivial⟩ rfl rfl rfl ?_
        refine WO_gt rfl ?_
        first | refine WO_ldA0 rfl rfl (.tail _ (.tail _ (.head _))) ?_ | refine WO_ldAI rfl rfl (.tail _ (.tail _ (.head _))) ?_
        refine WO_gt rfl ?_
        refine WO_mv (v := .sl _ _ _ _ _) rfl ?_
        refine WO_gt rfl ?_
        refine WO_call (rs := [0]) (Bs := [_]) rfl (RB_of1 (refAdd_run _ _ n (by omega) _ (bd_same (P := Q) (Q := cut 4 (ov (ov (ov (ov (fun _ => 0) 0 (Q 0)) 1 (Q 1)) 2 (Q 2)) 3 (Q 3))) (four4 rfl rfl rfl rfl) (four (by omega) (by omega) (by omega) (by omega))))) rfl rfl (Nat.le_of_ble_eq_true rfl) (fun _ h => h) rfl ⟨(.tail _ (.tail _ (.tail _ (.tail _ (.tail _ (.head _)))))), ⟨_, _, _, rfl⟩, trivial⟩ rfl rfl rfl (.cons (.there (.there (.there (.there (.there .here))))) .nil) ?_
        refine WO_gt rfl ?_
        refine WO_call0 rfl (RF_of (same_run (cut 4 (addM (fun i => K (0 + i)) 0 (cut 4 (cut 4 Q)) n)) (cut 4 (addM K 0 (cut 4 (ov (ov (ov (ov (fun _ => 0) 0 (Q 0)) 1 (Q 1)) 2 (Q 2)) 3 (Q 3))) n)) (addM_same (K := fun i => K (0 + i)) (K' := K) (o := 0) (o' := 0) (P := cut 4 (cut 4 Q)) (Q := cut 4 (ov (ov (ov (ov (fun _ => 0) 0 (Q 0)) 1 (Q 1)) 2 (Q 2)) 3 (Q 3))) (four4 rfl rfl rfl rfl) n (fun j _ => by simp) 0 (by omega)) (addM_same (K := fun i => K (0 + i)) (K' := K) (o := 0) (o' := 0) (P := cut 4 (cut 4 Q)) (Q := cut 4 (ov (ov (ov (ov (fun _ => 0) 0 (Q 0)) 1 (Q 1)) 2 (Q 2)) 3 (Q 3))) (four4 rfl rfl rfl rfl) n (fun j _ => by simp) 1 (by omega)) (addM_same (K := fun i => K (0 + i)) (K' := K) (o := 0) (o' := 0) (P := cut 4 (cut 4 Q)) (Q := cut 4 (ov (ov (ov (ov (fun _ => 0) 0 (Q 0)) 1 (Q 1)) 2 (Q 2)) 3 (Q 3))) (four4 rfl rfl rfl rfl) n (fun j _ => by simp) 2 (by omega)) (addM_same (K := fun i => K (0 + i)) (K' := K) (o := 0) (o' := 0) (P := cut 4 (cut 4 Q)) (Q := cut 4 (ov (ov (ov (ov (fun _ => 0) 0 (Q 0)) 1 (Q 1)) 2 (Q 2)) 3 (Q 3))) (four4 rfl rfl rfl rfl) n (fun j _ => by simp) 3 (by omega)))) rfl rfl rfl ?_
        refine WO_pick (v := .s (.bool _)) rfl rfl ?_
        refine WO_mv (v := .s (.bool _)) rfl ?_
        refine WO_nil ?_
        refine WP_seq ?_
        refine WP_seq ?_
        refine WP_ops ?_
        refine WO_mv rfl ?_
        refine WO_nil ?_
        refine WP_block ?_
        refine WP_sub (L' := [_, _]) (.cons_cons _ (.cons _ (.cons _ (.cons _ (.cons _ (.cons_cons _ .slnil)))))) ?_
        refine WP_loop (fun m f _ L => ∃ (i : Nat), (i ≤ n) ∧ (m = n - i) ∧ (f 2 = .sl 0 0 n 1 c) ∧ (f 8 = .sl 5 0 n 1 .whole) ∧ (f 9 = .s (.bool true)) ∧ (f 10 = .s (.int .i64 i)) ∧ (L = [(5, .sc .grow (n * 1) (ia fun i => K (0 + i))), (0, .sc md q (ia K))])) (fun m f nb L hI => ?_) (n) ⟨0, by omega, rfl, rfl, rfl, rfl, rfl, rfl⟩
        obtain ⟨i, hi, hm, k2, k8, k9, k10, rfl⟩ := hI
        refine WP_know (d := 2) (v := .sl 0 0 n 1 c) k2 ?_
        refine WP_know (d := 8) (v := .sl 5 0 n 1 .whole) k8 ?_
        refine WP_know (d := 9) (v := .s (.bool true)) k9 ?_
        refine WP_know (d := 10) (v := .s (.int .i64 i)) k10 ?_
        refine WP_seq ?_
        refine WP_seq ?_
        refine WP_ops ?_
        refine WO_mv (v := .s (.int _ _)) rfl ?_
        refine WO_mv (v := .sl _ _ _ _ _) rfl ?_
        refine WO_len rfl ?_
        refine WO_bin (r := .bool _) rfl rfl rfl ?_
        refine WO_nil ?_
        refine WP_cond rfl (fun h48 => ?_) (fun h48 => ?_)
        · try simp only [beq_iff_eq, bne_iff_ne, ne_eq, decide_eq_true_eq, decide_eq_false_iff_not, beq_eq_false_iff_ne, bne_eq_false_iff_eq, Decidable.not_not, Int.not_lt, Int.not_le, gt_iff_lt, ge_iff_le, Bool.not_eq_true, Bool.not_eq_false, Bool.not_eq_true', Bool.not_eq_false', cond_true, cond_false] at h48
          refine WP_skip ?_
          refine WP_seq ?_
          refine WP_block ?_
          refine WP_ops ?_
          refine WO_mv (v := .s (.bool _)) rfl ?_
          refine WO_mv (v := .s (.bool _)) rfl ?_
          refine WO_gt rfl ?_
          refine WO_mv (v := .sl _ _ _ _ _) rfl ?_
          refine WO_gt rfl ?_
          refine WO_mv (v := .s (.int _ _)) rfl ?_
          refine WO_gt rfl ?_
          refine WO_ixs rfl rfl (by omega) ?_
          refine WO_gt rfl ?_
          refine WO_ldI rfl rfl (.head _) rfl ?_
          refine WO_gt rfl ?_
          refine WO_mv (v := .sl _ _ _ _ _) rfl ?_
          refine WO_gt rfl ?_
          refine WO_mv (v := .s (.int _ _)) rfl ?_
          refine WO_gt rfl ?_
          refine WO_ixs rfl rfl (by omega) ?_
          refine WO_gt rfl ?_
          refine WO_ldI rfl rfl (.tail _ (.head _)) rfl ?_
          refine WO_gt rfl ?_
          refine WO_bin (r := .bool _) rfl rfl rfl ?_
          refine WO_pick (v := .s (.bool _)) rfl rfl ?_
          refine WO_mv (v := .s (.bool _)) rfl ?_
          refine WO_nil ?_
          refine WP_ops ?_
          refine WO_mv (v := .s (.int _ _)) rfl ?_
          refine WO_add rfl rfl (by omega) ?_
          refine WO_mv (v := .s (.int _ _)) rfl ?_
          refine WO_nil ?_
          exact ⟨n - (i + 1), _, by omega, (.cons_cons _ (.cons_cons _ .slnil)), i + 1, by omega, rfl, rfl, rfl, congrArg (fun b => V.s (S.bool b)) (by simp), rfl, rfl⟩
        · try simp only [beq_iff_eq, bne_iff_ne, ne_eq, decide_eq_true_eq, decide_eq_false_iff_not, beq_eq_false_iff_ne, bne_eq_false_iff_eq, Decidable.not_not, Int.not_lt, Int.not_le, gt_iff_lt, ge_iff_le, Bool.not_eq_true, Bool.not_eq_false, Bool.not_eq_true', Bool.not_eq_false', cond_true, cond_false] at h48
          refine WP_exit ?_
          refine xhere ?_
          refine WP_seq ?_
          refine WP_ops ?_
          refine WO_mv (v := .s (.bool _)) rfl ?_
          refine WO_mv (v := .s (.bool _)) rfl ?_
          refine WO_gt rfl ?_
          refine WO_call0 rfl (awake_run) rfl rfl rfl ?_
          refine WO_pick (v := .s (.bool _)) rfl rfl ?_
          refine WO_mv (v := .s (.bool _)) rfl ?_
          refine WO_nil ?_
          refine WP_ret ?_
          refine ⟨_, RS_tmp (v := .s (.bool _)) rfl (RS_nil), ?_⟩
          exact ⟨rfl, (.tail _ (.head _))⟩
theorem DeadTells_runZ (P Q : Nat → Int) : WR AM 3 [.agg 133 (ia P), .agg 4 (ia Q), .slz] [] (fun v _ L => v = .s (.bool true)) := by
  refine WR_fn (a := a3) rfl rfl (entryF _) (entry_E (Nat.le_of_ble_eq_true rfl)) (m := 0) rfl ?_
  refine WP_seq ?_
  refine WP_ops ?_
  refine WO_boxA rfl ?_
  refine WO_boxA rfl ?_
  refine WO_mv rfl ?_
  refine WO_nil ?_
  refine WP_seq ?_
  refine WP_seq ?_
  refine WP_ops ?_
  refine WO_mv (v := .slz) rfl ?_
  refine WO_lenZ rfl ?_
  refine WO_bin (r := .bool _) rfl rfl rfl ?_
  refine WO_mv (v := .s (.bool _)) rfl ?_
  refine WO_case (t := 14) rfl (fun h49 => ?_) (fun h49 => ?_)
  · try simp only [beq_iff_eq, bne_iff_ne, ne_eq, decide_eq_true_eq, decide_eq_false_iff_not, beq_eq_false_iff_ne, bne_eq_false_iff_eq, Decidable.not_not, Int.not_lt, Int.not_le, gt_iff_lt, ge_iff_le, Bool.not_eq_true, Bool.not_eq_false, Bool.not_eq_true', Bool.not_eq_false', cond_true, cond_false] at h49
    exfalso; omega
  · try simp only [beq_iff_eq, bne_iff_ne, ne_eq, decide_eq_true_eq, decide_eq_false_iff_not, beq_eq_false_iff_ne, bne_eq_false_iff_eq, Decidable.not_not, Int.not_lt, Int.not_le, gt_iff_lt, ge_iff_le, Bool.not_eq_true, Bool.not_eq_false, Bool.not_eq_true', Bool.not_eq_false', cond_true, cond_false] at h49
    refine WO_gt rfl ?_
    refine WO_fa (o' := 0) rfl rfl rfl ?_
    refine WO_gt rfl ?_
    refine WO_ldI rfl rfl (.head _) rfl ?_
    refine WO_gt rfl ?_
    refine WO_fa (o' := 1) rfl rfl rfl ?_
    refine WO_gt rfl ?_
    refine WO_ldI rfl rfl (.head _) rfl ?_
    refine WO_gt rfl ?_
    refine WO_fa (o' := 2) rfl rfl rfl ?_
    refine WO_gt rfl ?_
    refine WO_ldI rfl rfl (.head _) rfl ?_
    refine WO_gt rfl ?_
    refine WO_fa (o' := 3) rfl rfl rfl ?_
    refine WO_gt rfl ?_
    refine WO_ldI rfl rfl (.head _) rfl ?_
    refine WO_gt rfl ?_
    refine WO_mx4 rfl rfl rfl rfl ?_
    refine WO_gt rfl ?_
    refine WO_bin (r := .bool _) rfl rfl rfl ?_
    refine WO_pick (v := .s (.bool _)) rfl rfl ?_
    refine WO_mv (v := .s (.bool _)) rfl ?_
    refine WO_case (t := 26) rfl (fun h50 => ?_) (fun h50 => ?_)
    · try simp only [beq_iff_eq, bne_iff_ne, ne_eq, decide_eq_true_eq, decide_eq_false_iff_not, beq_eq_false_iff_ne, bne_eq_false_iff_eq, Decidable.not_not, Int.not_lt, Int.not_le, gt_iff_lt, ge_iff_le, Bool.not_eq_true, Bool.not_eq_false, Bool.not_eq_true', Bool.not_eq_false', cond_true, cond_false] at h50
      refine WO_gf rfl rfl ?_
      refine WO_gf rfl rfl ?_
      refine WO_gf rfl rfl ?_
      refine WO_gf rfl rfl ?_
      refine WO_gf rfl rfl ?_
      refine WO_gf rfl rfl ?_
      refine WO_gf rfl rfl ?_
      refine WO_gf rfl rfl ?_
      refine WO_gf rfl rfl ?_
      refine WO_gf rfl rfl ?_
      refine WO_pick (v := .s (.bool _)) rfl rfl ?_
      refine WO_nil ?_
      refine WP_cond rfl (fun _ => ?_) (fun h => nomatch h)
      refine WP_seq ?_
      refine WP_ops ?_
      refine WO_call0 rfl (awake_run) rfl rfl rfl ?_
      refine WO_mv (v := .s (.bool _)) rfl ?_
      refine WO_nil ?_
      refine WP_ret ?_
      refine ⟨_, RS_tmp (v := .s (.bool _)) rfl (RS_nil), ?_⟩
      rfl
    · try simp only [beq_iff_eq, bne_iff_ne, ne_eq, decide_eq_true_eq, decide_eq_false_iff_not, beq_eq_false_iff_ne, bne_eq_false_iff_eq, Decidable.not_not, Int.not_lt, Int.not_le, gt_iff_lt, ge_iff_le, Bool.not_eq_true, Bool.not_eq_false, Bool.not_eq_true', Bool.not_eq_false', cond_true, cond_false] at h50
      refine WO_gt rfl ?_
      refine WO_fa (o' := 0) rfl rfl rfl ?_
      refine WO_gt rfl ?_
      refine WO_ldI rfl rfl (.head _) rfl ?_
      refine WO_gt rfl ?_
      refine WO_fa (o' := 1) rfl rfl rfl ?_
      refine WO_gt rfl ?_
      refine WO_ldI rfl rfl (.head _) rfl ?_
      refine WO_gt rfl ?_
      refine WO_fa (o' := 2) rfl rfl rfl ?_
      refine WO_gt rfl ?_
      refine WO_ldI rfl rfl (.head _) rfl ?_
      refine WO_gt rfl ?_
      refine WO_fa (o' := 3) rfl rfl rfl ?_
      refine WO_gt rfl ?_
      refine WO_ldI rfl rfl (.head _) rfl ?_
      refine WO_gt rfl ?_
      refine WO_mn4 rfl rfl rfl rfl ?_
      refine WO_gt rfl ?_
      refine WO_bin (r := .bool _) rfl rfl rfl ?_
      refine WO_pick (v := .s (.bool _)) rfl rfl ?_
      refine WO_nil ?_
      refine WP_cond rfl (fun h51 => ?_) (fun h51 => ?_)
      · try simp only [beq_iff_eq, bne_iff_ne, ne_eq, decide_eq_true_eq, decide_eq_false_iff_not, beq_eq_false_iff_ne, bne_eq_false_iff_eq, Decidable.not_not, Int.not_lt, Int.not_le, gt_iff_lt, ge_iff_le, Bool.not_eq_true, Bool.not_eq_false, Bool.not_eq_true', Bool.not_eq_false', cond_true, cond_false] at h51
        refine WP_seq ?_
        refine WP_ops ?_
        refine WO_call0 rfl (awake_run) rfl rfl rfl ?_
        refine WO_mv (v := .s (.bool _)) rfl ?_
        refine WO_nil ?_
        refine WP_ret ?_
        refine ⟨_, RS_tmp (v := .s (.bool _)) rfl (RS_nil), ?_⟩
        rfl
      · try simp only [beq_iff_eq, bne_iff_ne, ne_eq, decide_eq_true_eq, decide_eq_false_iff_not, beq_eq_false_iff_ne, bne_eq_false_iff_eq, Decidable.not_not, Int.not_lt, Int.not_le, gt_iff_lt, ge_iff_le, Bool.not_eq_true, Bool.not_eq_false, Bool.not_eq_true', Bool.not_eq_false', cond_true, cond_false] at h51
        refine WP_skip ?_
        refine WP_seq ?_
        refine WP_ops ?_
        refine WO_fa (o' := 0) rfl rfl rfl ?_
        refine WO_ldI rfl rfl (.head _) rfl ?_
        refine WO_fa (o' := 1) rfl rfl rfl ?_
        refine WO_ldI rfl rfl (.head _) rfl ?_
        refine WO_fa (o' := 2) rfl rfl rfl ?_
        refine WO_ldI rfl rfl (.head _) rfl ?_
        refine WO_fa (o' := 3) rfl rfl rfl ?_
        refine WO_ldI rfl rfl (.head _) rfl ?_
        refine WO_buildI rfl (.one rfl (.one rfl (.one rfl (.one rfl .nil)))) ?_
        refine WO_allocI ?_
        refine WO_stA rfl rfl rfl rfl .here ?_
        refine WO_nil ?_
        refine WP_seq ?_
        refine WP_ops ?_
        refine WO_mkslS rfl .nil ?_
        refine WO_mv (v := .slz) rfl ?_
        refine WO_append0Z rfl rfl rfl .here ?_
        refine WO_mv (v := .sl _ _ _ _ _) rfl ?_
        refine WO_nil ?_
        refine WP_seq ?_
        refine WP_ops ?_
        first | refine WO_ldA0 rfl rfl (.tail _ (.tail _ (.tail _ (.head _)))) ?_ | refine WO_ldAI rfl rfl (.tail _ (.tail _ (.tail _ (.head _)))) ?_
        refine WO_callq0 rfl (RF_of (Of_run _)) rfl rfl rfl ?_
        first | refine WO_ldA0 rfl rfl (.tail _ (.tail _ (.tail _ (.head _)))) ?_ | refine WO_ldAI rfl rfl (.tail _ (.tail _ (.tail _ (.head _)))) ?_
        refine WO_call0 rfl (RF_of (refOf_run _)) rfl rfl rfl ?_
        refine WO_call0 (av := [.agg 4 (ia _), .agg 4 (ia _)]) (v := .s (.bool true)) rfl ?_ rfl rfl rfl ?_
        · exact RF_of (same_run _ _ rfl rfl rfl rfl)
        refine WO_mv (v := .s (.bool _)) rfl ?_
        refine WO_gt rfl ?_
        first | refine WO_ldA0 rfl rfl (.tail _ (.tail _ (.tail _ (.head _)))) ?_ | refine WO_ldAI rfl rfl (.tail _ (.tail _ (.tail _ (.head _)))) ?_
        refine WO_gt rfl ?_
        refine WO_callq0 rfl (RF_of (Is_run _)) rfl rfl rfl ?_
        refine WO_gt rfl ?_
        first | refine WO_ldA0 rfl rfl (.tail _ (.tail _ (.tail _ (.head _)))) ?_ | refine WO_ldAI rfl rfl (.tail _ (.tail _ (.tail _ (.head _)))) ?_
        refine WO_gt rfl ?_
        refine WO_call0 rfl (RF_of (refOf_run _)) rfl rfl rfl ?_
        refine WO_gt rfl ?_
        refine WO_call0 rfl (RF_of (refDead_run _)) rfl rfl rfl ?_
        refine WO_gt rfl ?_
        refine WO_eqbT rfl rfl (rfl) ?_
        refine WO_pick (v := .s (.bool _)) rfl rfl ?_
        refine WO_mv (v := .s (.bool _)) rfl ?_
        refine WO_gt rfl ?_
        first | refine WO_ldA0 rfl rfl (.tail _ (.tail _ (.head _))) ?_ | refine WO_ldAI rfl rfl (.tail _ (.tail _ (.head _))) ?_
        refine WO_gt rfl ?_
        refine WO_callq0 rfl (RF_of (Dead_run _ (four (by omega) (by omega) (by omega) (by omega)))) rfl rfl rfl ?_
        refine WO_gt rfl ?_
        first | refine WO_ldA0 rfl rfl (.tail _ (.head _)) ?_ | refine WO_ldAI rfl rfl (.tail _ (.head _)) ?_
        refine WO_gt rfl ?_
        refine WO_call0 rfl (RF_of (refDead_run _)) rfl rfl rfl ?_
        refine WO_gt rfl ?_
        refine WO_eqbT rfl rfl (rfl) ?_
        refine WO_pick (v := .s (.bool _)) rfl rfl ?_
        refine WO_mv (v := .s (.bool _)) rfl ?_
        refine WO_gt rfl ?_
        first | refine WO_ldA0 rfl rfl (.tail _ (.tail _ (.head _))) ?_ | refine WO_ldAI rfl rfl (.tail _ (.tail _ (.head _))) ?_
        refine WO_gt rfl ?_
        refine WO_mv (v := .sl _ _ _ _ _) rfl ?_
        refine WO_gt rfl ?_
        refine WO_callq (rs := [3]) (Bs := [_]) rfl (RB_of1 (Add_run _ _ 0 (by omega) _ (four (by omega) (by omega) (by omega) (by omega)))) rfl rfl (Nat.le_of_ble_eq_true rfl) (fun _ h => h) rfl ⟨(.head _), ⟨_, _, _, rfl⟩, trivial⟩ rfl rfl rfl ?_
        refine WO_gt rfl ?_
        first | refine WO_ldA0 rfl rfl (.tail _ (.head _)) ?_ | refine WO_ldAI rfl rfl (.tail _ (.head _)) ?_
        refine WO_gt rfl ?_
        refine WO_mv (v := .slz) rfl ?_
        refine WO_gt rfl ?_
        refine WO_call0 rfl (RF_of (refAdd_runZ _ (bd_same (P := Q) (Q := cut 4 (ov (ov (ov (ov (fun _ => 0) 0 (Q 0)) 1 (Q 1)) 2 (Q 2)) 3 (Q 3))) (four4 rfl rfl rfl rfl) (four (by omega) (by omega) (by omega) (by omega))))) rfl rfl rfl ?_
        refine WO_gt rfl ?_
        refine WO_call0 (av := [.agg 4 (ia _), .agg 4 (ia _)]) (v := .s (.bool true)) rfl ?_ rfl rfl rfl ?_
        · exact RF_of (same_run _ _ rfl rfl rfl rfl)
        refine WO_pick (v := .s (.bool _)) rfl rfl ?_
        refine WO_mv (v := .s (.bool _)) rfl ?_
        refine WO_nil ?_
        refine WP_seq ?_
        refine WP_seq ?_
        refine WP_ops ?_
        refine WO_mv rfl ?_
        refine WO_nil ?_
        refine WP_block ?_
        refine WP_sub (L' := []) (List.nil_sublist _) ?_
        refine WP_loop (fun m f _ L => f 2 = .slz ∧ f 9 = .s (.bool true) ∧ f 10 = .s (.int .i64 0) ∧ L = []) (fun m f nb L hI => ?_) 0 ⟨rfl, rfl, rfl, rfl⟩
        obtain ⟨k2, k9, k10, rfl⟩ := hI
        refine WP_know (d := 2) (v := .slz) k2 ?_
        refine WP_know (d := 9) (v := .s (.bool true)) k9 ?_
        refine WP_know (d := 10) (v := .s (.int .i64 0)) k10 ?_
        refine WP_seq ?_
        refine WP_seq ?_
        refine WP_ops ?_
        refine WO_mv (v := .s (.int _ _)) rfl ?_
        refine WO_mv (v := .slz) rfl ?_
        refine WO_lenZ rfl ?_
        refine WO_bin (r := .bool _) rfl rfl rfl ?_
        refine WO_nil ?_
        refine WP_cond rfl (fun h52 => ?_) (fun h52 => ?_)
        · try simp only [beq_iff_eq, bne_iff_ne, ne_eq, decide_eq_true_eq, decide_eq_false_iff_not, beq_eq_false_iff_ne, bne_eq_false_iff_eq, Decidable.not_not, Int.not_lt, Int.not_le, gt_iff_lt, ge_iff_le, Bool.not_eq_true, Bool.not_eq_false, Bool.not_eq_true', Bool.not_eq_false', cond_true, cond_false] at h52
          exfalso; omega
        · try simp only [beq_iff_eq, bne_iff_ne, ne_eq, decide_eq_true_eq, decide_eq_false_iff_not, beq_eq_false_iff_ne, bne_eq_false_iff_eq, Decidable.not_not, Int.not_lt, Int.not_le, gt_iff_lt, ge_iff_le, Bool.not_eq_true, Bool.not_eq_false, Bool.not_eq_true', Bool.not_eq_false', cond_true, cond_false] at h52
          refine WP_exit ?_
          refine xhere ?_
          refine WP_seq ?_
          refine WP_ops ?_
          refine WO_mv (v := .s (.bool _)) rfl ?_
          refine WO_mv (v := .s (.bool _)) rfl ?_
          refine WO_gt rfl ?_
          refine WO_call0 rfl (awake_run) rfl rfl rfl ?_
          refine WO_pick (v := .s (.bool _)) rfl rfl ?_
          refine WO_mv (v := .s (.bool _)) rfl ?_
          refine WO_nil ?_
          refine WP_ret ?_
          refine ⟨_, RS_tmp (v := .s (.bool _)) rfl (RS_nil), ?_⟩
          rfl
theorem DeadTells_runN (P Q : Nat → Int) : WR AM 3 [.agg 133 (ia P), .agg 4 (ia Q), .snil] [] (fun v _ L => v = .s (.bool true)) := by
  refine WR_fn (a := a3) rfl rfl (entryF _) (entry_E (Nat.le_of_ble_eq_true rfl)) (m := 0) rfl ?_
  refine WP_seq ?_
  refine WP_ops ?_
  refine WO_boxA rfl ?_
  refine WO_boxA rfl ?_
  refine WO_mv rfl ?_
  refine WO_nil ?_
  refine WP_seq ?_
  refine WP_seq ?_
  refine WP_ops ?_
  refine WO_mv (v := .snil) rfl ?_
  refine WO_lenN rfl ?_
  refine WO_bin (r := .bool _) rfl rfl rfl ?_
  refine WO_mv (v := .s (.bool _)) rfl ?_
  refine WO_case (t := 14) rfl (fun h53 => ?_) (fun h53 => ?_)
  · try simp only [beq_iff_eq, bne_iff_ne, ne_eq, decide_eq_true_eq, decide_eq_false_iff_not, beq_eq_false_iff_ne, bne_eq_false_iff_eq, Decidable.not_not, Int.not_lt, Int.not_le, gt_iff_lt, ge_iff_le, Bool.not_eq_true, Bool.not_eq_false, Bool.not_eq_true', Bool.not_eq_false', cond_true, cond_false] at h53
    exfalso; omega
  · try simp only [beq_iff_eq, bne_iff_ne, ne_eq, decide_eq_true_eq, decide_eq_false_iff_not, beq_eq_false_iff_ne, bne_eq_false_iff_eq, Decidable.not_not, Int.not_lt, Int.not_le, gt_iff_lt, ge_iff_le, Bool.not_eq_true, Bool.not_eq_false, Bool.not_eq_true', Bool.not_eq_false', cond_true, cond_false] at h53
    refine WO_gt rfl ?_
    refine WO_fa (o' := 0) rfl rfl rfl ?_
    refine WO_gt rfl ?_
    refine WO_ldI rfl rfl (.head _) rfl ?_
    refine WO_gt rfl ?_
    refine WO_fa (o' := 1) rfl rfl rfl ?_
    refine WO_gt rfl ?_
    refine WO_ldI rfl rfl (.head _) rfl ?_
    refine WO_gt rfl ?_
    refine WO_fa (o' := 2) rfl rfl rfl ?_
    refine WO_gt rfl ?_
    refine WO_ldI rfl rfl (.head _) rfl ?_
    refine WO_gt rfl ?_
    refine WO_fa (o' := 3) rfl rfl rfl ?_
    refine WO_gt rfl ?_
    refine WO_ldI rfl rfl (.head _) rfl ?_
    refine WO_gt rfl ?_
    refine WO_mx4 rfl rfl rfl rfl ?_
    refine WO_gt rfl ?_
    refine WO_bin (r := .bool _) rfl rfl rfl ?_
    refine WO_pick (v := .s (.bool _)) rfl rfl ?_
    refine WO_mv (v := .s (.bool _)) rfl ?_
    refine WO_case (t := 26) rfl (fun h54 => ?_) (fun h54 => ?_)
    · try simp only [beq_iff_eq, bne_iff_ne, ne_eq, decide_eq_true_eq, decide_eq_false_iff_not, beq_eq_false_iff_ne, bne_eq_false_iff_eq, Decidable.not_not, Int.not_lt, Int.not_le, gt_iff_lt, ge_iff_le, Bool.not_eq_true, Bool.not_eq_false, Bool.not_eq_true', Bool.not_eq_false', cond_true, cond_false] at h54
      refine WO_gf rfl rfl ?_
      refine WO_gf rfl rfl ?_
      refine WO_gf rfl rfl ?_
      refine WO_gf rfl rfl ?_
      refine WO_gf rfl rfl ?_
      refine WO_gf rfl rfl ?_
      refine WO_gf rfl rfl ?_
      refine WO_gf rfl rfl ?_
      refine WO_gf rfl rfl ?_
      refine WO_gf rfl rfl ?_
      refine WO_pick (v := .s (.bool _)) rfl rfl ?_
      refine WO_nil ?_
      refine WP_cond rfl (fun _ => ?_) (fun h => nomatch h)
      refine WP_seq ?_
      refine WP_ops ?_
      refine WO_call0 rfl (awake_run) rfl rfl rfl ?_
      refine WO_mv (v := .s (.bool _)) rfl ?_
      refine WO_nil ?_
      refine WP_ret ?_
      refine ⟨_, RS_tmp (v := .s (.bool _)) rfl (RS_nil), ?_⟩
      rfl
    · try simp only [beq_iff_eq, bne_iff_ne, ne_eq, decide_eq_true_eq, decide_eq_false_iff_not, beq_eq_false_iff_ne, bne_eq_false_iff_eq, Decidable.not_not, Int.not_lt, Int.not_le, gt_iff_lt, ge_iff_le, Bool.not_eq_true, Bool.not_eq_false, Bool.not_eq_true', Bool.not_eq_false', cond_true, cond_false] at h54
      refine WO_gt rfl ?_
      refine WO_fa (o' := 0) rfl rfl rfl ?_
      refine WO_gt rfl ?_
      refine WO_ldI rfl rfl (.head _) rfl ?_
      refine WO_gt rfl ?_
      refine WO_fa (o' := 1) rfl rfl rfl ?_
      refine WO_gt rfl ?_
      refine WO_ldI rfl rfl (.head _) rfl ?_
      refine WO_gt rfl ?_
      refine WO_fa (o' := 2) rfl rfl rfl ?_
      refine WO_gt rfl ?_
      refine WO_ldI rfl rfl (.head _) rfl ?_
      refine WO_gt rfl ?_
      refine WO_fa (o' := 3) rfl rfl rfl ?_
      refine WO_gt rfl ?_
      refine WO_ldI rfl rfl (.head _) rfl ?_
      refine WO_gt rfl ?_
      refine WO_mn4 rfl rfl rfl rfl ?_
      refine WO_gt rfl ?_
      refine WO_bin (r := .bool _) rfl rfl rfl ?_
      refine WO_pick (v := .s (.bool _)) rfl rfl ?_
      refine WO_nil ?_
      refine WP_cond rfl (fun h55 => ?_) (fun h55 => ?_)
      · try simp only [beq_iff_eq, bne_iff_ne, ne_eq, decide_eq_true_eq, decide_eq_false_iff_not, beq_eq_false_iff_ne, bne_eq_false_iff_eq, Decidable.not_not, Int.not_lt, Int.not_le, gt_iff_lt, ge_iff_le, Bool.not_eq_true, Bool.not_eq_false, Bool.not_eq_true', Bool.not_eq_false', cond_true, cond_false] at h55
        refine WP_seq ?_
        refine WP_ops ?_
        refine WO_call0 rfl (awake_run) rfl rfl rfl ?_
        refine WO_mv (v := .s (.bool _)) rfl ?_
        refine WO_nil ?_
        refine WP_ret ?_
        refine ⟨_, RS_tmp (v := .s (.bool _)) rfl (RS_nil), ?_⟩
        rfl
      · try simp only [beq_iff_eq, bne_iff_ne, ne_eq, decide_eq_true_eq, decide_eq_false_iff_not, beq_eq_false_iff_ne, bne_eq_false_iff_eq, Decidable.not_not, Int.not_lt, Int.not_le, gt_iff_lt, ge_iff_le, Bool.not_eq_true, Bool.not_eq_false, Bool.not_eq_true', Bool.not_eq_false', cond_true, cond_false] at h55
        refine WP_skip ?_
        refine WP_seq ?_
        refine WP_ops ?_
        refine WO_fa (o' := 0) rfl rfl rfl ?_
        refine WO_ldI rfl rfl (.head _) rfl ?_
        refine WO_fa (o' := 1) rfl rfl rfl ?_
        refine WO_ldI rfl rfl (.head _) rfl ?_
        refine WO_fa (o' := 2) rfl rfl rfl ?_
        refine WO_ldI rfl rfl (.head _) rfl ?_
        refine WO_fa (o' := 3) rfl rfl rfl ?_
        refine WO_ldI rfl rfl (.head _) rfl ?_
        refine WO_buildI rfl (.one rfl (.one rfl (.one rfl (.one rfl .nil)))) ?_
        refine WO_allocI ?_
        refine WO_stA rfl rfl rfl rfl .here ?_
        refine WO_nil ?_
        refine WP_seq ?_
        refine WP_ops ?_
        refine WO_mkslS rfl .nil ?_
        refine WO_mv (v := .snil) rfl ?_
        refine WO_append0 rfl rfl rfl .here ?_
        refine WO_mv (v := .sl _ _ _ _ _) rfl ?_
        refine WO_nil ?_
        refine WP_seq ?_
        refine WP_ops ?_
        first | refine WO_ldA0 rfl rfl (.tail _ (.tail _ (.tail _ (.head _)))) ?_ | refine WO_ldAI rfl rfl (.tail _ (.tail _ (.tail _ (.head _)))) ?_
        refine WO_callq0 rfl (RF_of (Of_run _)) rfl rfl rfl ?_
        first | refine WO_ldA0 rfl rfl (.tail _ (.tail _ (.tail _ (.head _)))) ?_ | refine WO_ldAI rfl rfl (.tail _ (.tail _ (.tail _ (.head _)))) ?_
        refine WO_call0 rfl (RF_of (refOf_run _)) rfl rfl rfl ?_
        refine WO_call0 (av := [.agg 4 (ia _), .agg 4 (ia _)]) (v := .s (.bool true)) rfl ?_ rfl rfl rfl ?_
        · exact RF_of (same_run _ _ rfl rfl rfl rfl)
        refine WO_mv (v := .s (.bool _)) rfl ?_
        refine WO_gt rfl ?_
        first | refine WO_ldA0 rfl rfl (.tail _ (.tail _ (.tail _ (.head _)))) ?_ | refine WO_ldAI rfl rfl (.tail _ (.tail _ (.tail _ (.head _)))) ?_
        refine WO_gt rfl ?_
        refine WO_callq0 rfl (RF_of (Is_run _)) rfl rfl rfl ?_
        refine WO_gt rfl ?_
        first | refine WO_ldA0 rfl rfl (.tail _ (.tail _ (.tail _ (.head _)))) ?_ | refine WO_ldAI rfl rfl (.tail _ (.tail _ (.tail _ (.head _)))) ?_
        refine WO_gt rfl ?_
        refine WO_call0 rfl (RF_of (refOf_run _)) rfl rfl rfl ?_
        refine WO_gt rfl ?_
        refine WO_call0 rfl (RF_of (refDead_run _)) rfl rfl rfl ?_
        refine WO_gt rfl ?_
        refine WO_eqbT rfl rfl (rfl) ?_
        refine WO_pick (v := .s (.bool _)) rfl rfl ?_
        refine WO_mv (v := .s (.bool _)) rfl ?_
        refine WO_gt rfl ?_
        first | refine WO_ldA0 rfl rfl (.tail _ (.tail _ (.head _))) ?_ | refine WO_ldAI rfl rfl (.tail _ (.tail _ (.head _))) ?_
        refine WO_gt rfl ?_
        refine WO_callq0 rfl (RF_of (Dead_run _ (four (by omega) (by omega) (by omega) (by omega)))) rfl rfl rfl ?_
        refine WO_gt rfl ?_
        first | refine WO_ldA0 rfl rfl (.tail _ (.head _)) ?_ | refine WO_ldAI rfl rfl (.tail _ (.head _)) ?_
        refine WO_gt rfl ?_
        refine WO_call0 rfl (RF_of (refDead_run _)) rfl rfl rfl ?_
        refine WO_gt rfl ?_
        refine WO_eqbT rfl rfl (rfl) ?_
        refine WO_pick (v := .s (.bool _)) rfl rfl ?_
        refine WO_mv (v := .s (.bool _)) rfl ?_
        refine WO_gt rfl ?_
        first | refine WO_ldA0 rfl rfl (.tail _ (.tail _ (.head _))) ?_ | refine WO_ldAI rfl rfl (.tail _ (.tail _ (.head _))) ?_
        refine WO_gt rfl ?_
        refine WO_mv (v := .sl _ _ _ _ _) rfl ?_
        refine WO_gt rfl ?_
        refine WO_callq (rs := [3]) (Bs := [_]) rfl (RB_of1 (Add_run _ _ 0 (by omega) _ (four (by omega) (by omega) (by omega) (by omega)))) rfl rfl (Nat.le_of_ble_eq_true rfl) (fun _ h => h) rfl ⟨(.head _), ⟨_, _, _, rfl⟩, trivial⟩ rfl rfl rfl ?_
        refine WO_gt rfl ?_
        first | refine WO_ldA0 rfl rfl (.tail _ (.head _)) ?_ | refine WO_ldAI rfl rfl (.tail _ (.head _)) ?_
        refine WO_gt rfl ?_
        refine WO_mv (v := .snil) rfl ?_
        refine WO_gt rfl ?_
        refine WO_call0 rfl (RF_of (refAdd_runN _ (bd_same (P := Q) (Q := cut 4 (ov (ov (ov (ov (fun _ => 0) 0 (Q 0)) 1 (Q 1)) 2 (Q 2)) 3 (Q 3))) (four4 rfl rfl rfl rfl) (four (by omega) (by omega) (by omega) (by omega))))) rfl rfl rfl ?_
        refine WO_gt rfl ?_
        refine WO_call0 (av := [.agg 4 (ia _), .agg 4 (ia _)]) (v := .s (.bool true)) rfl ?_ rfl rfl rfl ?_
        · exact RF_of (same_run _ _ rfl rfl rfl rfl)
        refine WO_pick (v := .s (.bool _)) rfl rfl ?_
        refine WO_mv (v := .s (.bool _)) rfl ?_
        refine WO_nil ?_
        refine WP_seq ?_
        refine WP_seq ?_
        refine WP_ops ?_
        refine WO_mv rfl ?_
        refine WO_nil ?_
        refine WP_block ?_
        refine WP_sub (L' := []) (List.nil_sublist _) ?_
        refine WP_loop (fun m f _ L => f 2 = .snil ∧ f 9 = .s (.bool true) ∧ f 10 = .s (.int .i64 0) ∧ L = []) (fun m f nb L hI => ?_) 0 ⟨rfl, rfl, rfl, rfl⟩
        obtain ⟨k2, k9, k10, rfl⟩ := hI
        refine WP_know (d := 2) (v := .snil) k2 ?_
        refine WP_know (d := 9) (v := .s (.bool true)) k9 ?_
        refine WP_know (d := 10) (v := .s (.int .i64 0)) k10 ?_
        refine WP_seq ?_
        refine WP_seq ?_
        refine WP_ops ?_
        refine WO_mv (v := .s (.int _ _)) rfl ?_
        refine WO_mv (v := .snil) rfl ?_
        refine WO_lenN rfl ?_
        refine WO_bin (r := .bool _) rfl rfl rfl ?_
        refine WO_nil ?_
        refine WP_cond rfl (fun h56 => ?_) (fun h56 => ?_)
        · try simp only [beq_iff_eq, bne_iff_ne, ne_eq, decide_eq_true_eq, decide_eq_false_iff_not, beq_eq_false_iff_ne, bne_eq_false_iff_eq, Decidable.not_not, Int.not_lt, Int.not_le, gt_iff_lt, ge_iff_le, Bool.not_eq_true, Bool.not_eq_false, Bool.not_eq_true', Bool.not_eq_false', cond_true, cond_false] at h56
          exfalso; omega
        · try simp only [beq_iff_eq, bne_iff_ne, ne_eq, decide_eq_true_eq, decide_eq_false_iff_not, beq_eq_false_iff_ne, bne_eq_false_iff_eq, Decidable.not_not, Int.not_lt, Int.not_le, gt_iff_lt, ge_iff_le, Bool.not_eq_true, Bool.not_eq_false, Bool.not_eq_true', Bool.not_eq_false', cond_true, cond_false] at h56
          refine WP_exit ?_
          refine xhere ?_
          refine WP_seq ?_
          refine WP_ops ?_
          refine WO_mv (v := .s (.bool _)) rfl ?_
          refine WO_mv (v := .s (.bool _)) rfl ?_
          refine WO_gt rfl ?_
          refine WO_call0 rfl (awake_run) rfl rfl rfl ?_
          refine WO_pick (v := .s (.bool _)) rfl rfl ?_
          refine WO_mv (v := .s (.bool _)) rfl ?_
          refine WO_nil ?_
          refine WP_ret ?_
          refine ⟨_, RS_tmp (v := .s (.bool _)) rfl (RS_nil), ?_⟩
          rfl
end Go.Proofs.Ytjldefmcnppdoaa
