/- The walks of places and colours. -/
import Derived.Test.YtjldefmcnppdoaaAmProg
namespace Go.Proofs.Ytjldefmcnppdoaa
open Go Go.Am
set_option linter.unusedSimpArgs false
set_option linter.unusedVariables false
/-- A square's file, rank, and that it is one. -/
def ofL (x : Int) : List S := if 0 ≤ x ∧ x < 64 then [.int .i64 (x % 8), .int .i64 (x / 8), .bool true] else [.int .i64 (-1), .int .i64 (-1), .bool false]

theorem of_run (x : Int) : WR AM 82 [.s (.int .i64 x)] [] (fun v _ _ => v = .agg 3 (lc (ofL x))) := by
 refine WR_fn (a := a82) rfl rfl (entryF _) (entry_E (Nat.le_of_ble_eq_true rfl)) (m := 0) rfl ?_
 refine WP_seq ?_
 refine WP_ops ?_
 refine WO_allocL rfl ?_
 refine WO_nil ?_
 refine WP_seq ?_
 refine WP_seq ?_
 refine WP_ops ?_
 refine WO_mv (v := .s (.int _ _)) rfl ?_
 refine WO_bin (r := .bool _) rfl rfl rfl ?_
 refine WO_mv (v := .s (.bool _)) rfl ?_
 refine WO_case (t := 5) rfl (fun h1 => ?_) (fun h1 => ?_)
 ·try simp only [NM] at h1
  refine WO_gf rfl rfl ?_
  refine WO_gf rfl rfl ?_
  refine WO_pick (v := .s (.bool _)) rfl rfl ?_
  refine WO_nil ?_
  refine WP_cond rfl (fun _ => ?_) (fun h => nomatch h)
  refine WP_seq ?_
  refine WP_ops ?_
  refine WO_buildI rfl (.one rfl (.one rfl .nil)) ?_
  refine WO_buildL rfl rfl (.part (v := .agg _ _) (ys := [_, _, _]) rfl rfl rfl rfl .nil) ?_
  refine WO_st (v := .agg _ _) rfl rfl rfl rfl rfl (over_spl (ys := [_, _, _]) rfl rfl) .here ?_
  refine WO_nil ?_
  refine WP_ret ?_
  refine ⟨_, RS_cell rfl rfl (.head _) (RS_nil), ?_⟩
  first | (rw [show ofL x = [.int .i64 (-1), .int .i64 (-1), .bool false] from if_neg (by omega)]; rfl) | (rw [show ofL x = [.int .i64 (x % 8), .int .i64 (x / 8), .bool true] from if_pos (by omega)]; rfl)
 ·try simp only [NM] at h1
  refine WO_gt rfl ?_
  refine WO_mv (v := .s (.int _ _)) rfl ?_
  refine WO_gt rfl ?_
  refine WO_bin (r := .bool _) rfl rfl rfl ?_
  refine WO_pick (v := .s (.bool _)) rfl rfl ?_
  refine WO_nil ?_
  refine WP_cond rfl (fun h2 => ?_) (fun h2 => ?_)
  ·try simp only [NM] at h2
   refine WP_seq ?_
   refine WP_ops ?_
   refine WO_buildI rfl (.one rfl (.one rfl .nil)) ?_
   refine WO_buildL rfl rfl (.part (v := .agg _ _) (ys := [_, _, _]) rfl rfl rfl rfl .nil) ?_
   refine WO_st (v := .agg _ _) rfl rfl rfl rfl rfl (over_spl (ys := [_, _, _]) rfl rfl) .here ?_
   refine WO_nil ?_
   refine WP_ret ?_
   refine ⟨_, RS_cell rfl rfl (.head _) (RS_nil), ?_⟩
   first | (rw [show ofL x = [.int .i64 (-1), .int .i64 (-1), .bool false] from if_neg (by omega)]; rfl) | (rw [show ofL x = [.int .i64 (x % 8), .int .i64 (x / 8), .bool true] from if_pos (by omega)]; rfl)
  ·try simp only [NM] at h2
   refine WP_skip ?_
   refine WP_seq ?_
   refine WP_ops ?_
   refine WO_mv (v := .s (.int _ _)) rfl ?_
   refine WO_rem rfl rfl (by omega) ?_
   refine WO_mv (v := .s (.int _ _)) rfl ?_
   refine WO_quo rfl rfl (by omega) ?_
   refine WO_buildI rfl (.one rfl (.one rfl .nil)) ?_
   refine WO_buildL rfl rfl (.part (v := .agg _ _) (ys := [_, _, _]) rfl rfl rfl rfl (.part (v := .s (.bool _)) (ys := [_, _, _]) rfl rfl rfl rfl .nil)) ?_
   refine WO_st (v := .agg _ _) rfl rfl rfl rfl rfl (over_spl (ys := [_, _, _]) rfl rfl) .here ?_
   refine WO_nil ?_
   refine WP_ret ?_
   refine ⟨_, RS_cell rfl rfl (.head _) (RS_nil), ?_⟩
   first | (rw [show ofL x = [.int .i64 (-1), .int .i64 (-1), .bool false] from if_neg (by omega)]; rfl) | (rw [show ofL x = [.int .i64 (x % 8), .int .i64 (x / 8), .bool true] from if_pos (by omega)]; rfl)
theorem of_in (x : Int) (h : 0 ≤ x ∧ x < 64) : RF AM 82 [.s (.int .i64 x)] (.agg 3 (lc [.int .i64 (x % 8), .int .i64 (x / 8), .bool true])) := by
  have := RF_of (of_run x)
  rw [ofL, if_pos h] at this
  exact this

theorem dark_run (x : Int) (hx : 0 ≤ x ∧ x < 64) : WR AM 40 [.s (.int .i64 x)] [] (fun v _ _ => v = .s (.bool ((x % 8 + x / 8) % 2 == 0))) := by
 refine WR_fn (a := a40) rfl rfl (entryF _) (entry_E (Nat.le_of_ble_eq_true rfl)) (m := 0) rfl ?_
 refine WP_seq ?_
 refine WP_ops ?_
 refine WO_mv rfl ?_
 refine WO_nil ?_
 refine WP_seq ?_
 refine WP_ops ?_
 refine WO_mv (v := .s (.int _ _)) rfl ?_
 refine WO_call0 rfl (of_in _ (by omega)) rfl rfl rfl ?_
 refine WO_allocL rfl ?_
 refine WO_st (v := .agg _ _) rfl rfl rfl rfl rfl (over_spl (ys := [_, _, _]) rfl rfl) .here ?_
 refine WO_nil ?_
 refine WP_seq ?_
 refine WP_ops ?_
 refine WO_fa (o' := 2) rfl rfl rfl ?_
 refine WO_ldS (x := .bool _) rfl rfl (.head _) rfl ?_
 refine WO_mv (v := .s (.bool _)) rfl ?_
 refine WO_gt rfl ?_
 refine WO_fa (o' := 0) rfl rfl rfl ?_
 refine WO_gt rfl ?_
 refine WO_fa (o' := 0) rfl rfl rfl ?_
 refine WO_gt rfl ?_
 refine WO_ldS (x := .int _ _) rfl rfl (.head _) rfl ?_
 refine WO_gt rfl ?_
 refine WO_fa (o' := 0) rfl rfl rfl ?_
 refine WO_gt rfl ?_
 refine WO_fa (o' := 1) rfl rfl rfl ?_
 refine WO_gt rfl ?_
 refine WO_ldS (x := .int _ _) rfl rfl (.head _) rfl ?_
 refine WO_gt rfl ?_
 refine WO_add rfl rfl (by omega) ?_
 refine WO_gt rfl ?_
 refine WO_rem rfl rfl (by omega) ?_
 refine WO_gt rfl ?_
 refine WO_bin (r := .bool _) rfl rfl rfl ?_
 refine WO_pick (v := .s (.bool _)) rfl rfl ?_
 refine WO_mv (v := .s (.bool _)) rfl ?_
 refine WO_nil ?_
 refine WP_ret ?_
 refine ⟨_, RS_tmp (v := .s (.bool _)) rfl (RS_nil), ?_⟩
 rfl
end Go.Proofs.Ytjldefmcnppdoaa
