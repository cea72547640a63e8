/- Texts of this seat, joined. -/
import Derived.Lib.SplitLaws
import Derived.Lib.CountLaws
import Derived.Lib.IndexBytes
import Derived.HandedShaped
import Derived.Test.YtlaogmemhephnaaGreatDoorAm0
import Derived.Test.YtlaogmemhephnaaGreatDoorAm1
import Derived.Test.YtlaogmemhephnaaGreatDoorAm2
import Derived.Test.YtlaogmemhephnaaGreatDoorM0
import Derived.Test.YtlaogmemhephnaaGreatDoorM1
import Derived.Test.YtlaogmemhephnaaGreatDoorM2
namespace Go.Proofs.YtlaogmemhephnaaGreatDoor
open Go Go.Am
set_option linter.unusedSimpArgs false
set_option linter.unusedVariables false
set_option maxRecDepth 100000
theorem rEmpty_run  : WR AM 16 [] [] (fun v _ _ => v = .agg 133 (ia emptyF)) := by
 refine WR_fn (a := a16) rfl rfl (entryF _) (entry_E (Nat.le_of_ble_eq_true rfl)) (m := 0) rfl ?_
 refine WP_seq ?_
 refine WP_ops ?_
 refine WO_allocI ?_
 refine WO_nil ?_
 refine WP_seq ?_
 refine WP_ops ?_
 refine WO_buildI rfl (.one rfl (.one rfl .nil)) ?_
 refine WO_stA rfl rfl rfl rfl .here ?_
 refine WO_nil ?_
 refine WP_ret ?_
 refine ⟨_, RS_cell rfl rfl (.head _) (RS_nil), ?_⟩
 refine congrArg (fun P => V.agg 133 (ia P)) ?_
 refine ovA_is (by decide +kernel) fun i hi => (emptyF_hi i hi).symm
theorem rStart_run  : WR AM 8 [] [] (fun v _ _ => v = .agg 133 (ia startF)) := by
 refine WR_fn (a := a8) rfl rfl (entryF _) (entry_E (Nat.le_of_ble_eq_true rfl)) (m := 0) rfl ?_
 refine WP_seq ?_
 refine WP_ops ?_
 refine WO_allocI ?_
 refine WO_nil ?_
 refine WP_seq ?_
 refine WP_ops ?_
 refine WO_call0 rfl (RF_of rEmpty_run) rfl rfl rfl ?_
 refine WO_allocI ?_
 refine WO_stA rfl rfl rfl rfl .here ?_
 refine WO_nil ?_
 refine WP_seq ?_
 refine WP_ops ?_
 refine WO_mkslS rfl (.one rfl (.one rfl (.one rfl (.one rfl (.one rfl (.one rfl (.one rfl (.one rfl .nil)))))))) ?_
 refine WO_mv (v := .sl _ _ _ _ _) rfl ?_
 refine WO_nil ?_
 refine WP_seq ?_
 refine WP_seq ?_
 refine WP_ops ?_
 refine WO_mv rfl ?_
 refine WO_nil ?_
 refine WP_block ?_
 refine WP_unroll ?_
 refine WP_seq ?_
 refine WP_seq ?_
 refine WP_ops ?_
 refine WO_mv (v := .s (.int _ _)) rfl ?_
 refine WO_bin (r := .bool _) rfl rfl rfl ?_
 refine WO_nil ?_
 refine WP_cond rfl (fun h1 => ?_) (fun h1 => ?_)
 ·try simp only [NM] at h1
  refine WP_skip ?_
  refine WP_seq ?_
  refine WP_block ?_
  refine WP_seq ?_
  refine WP_ops ?_
  refine WO_mv (v := .s (.int _ _)) rfl ?_
  refine WO_mv (v := .sl _ _ _ _ _) rfl ?_
  refine WO_mv (v := .s (.int _ _)) rfl ?_
  refine WO_ixs rfl rfl (by omega) ?_
  refine WO_ldI (x := _) rfl rfl (.head _) (rfl) ?_
  refine WO_buildI rfl (.one rfl (.one rfl .nil)) ?_
  refine WO_fa (o' := 0) rfl rfl rfl ?_
  refine WO_ixa rfl rfl rfl (by omega) ?_
  refine WO_stA rfl rfl rfl rfl (.there .here) ?_
  refine WO_nil ?_
  refine WP_seq ?_
  refine WP_ops ?_
  refine WO_mv (v := .s (.int _ _)) rfl ?_
  refine WO_add rfl rfl (by omega) ?_
  refine WO_buildI rfl (.one rfl (.one rfl .nil)) ?_
  refine WO_fa (o' := 0) rfl rfl rfl ?_
  refine WO_ixa rfl rfl rfl (by omega) ?_
  refine WO_stA rfl rfl rfl rfl (.there .here) ?_
  refine WO_nil ?_
  refine WP_seq ?_
  refine WP_ops ?_
  refine WO_mv (v := .s (.int _ _)) rfl ?_
  refine WO_add rfl rfl (by omega) ?_
  refine WO_buildI rfl (.one rfl (.one rfl .nil)) ?_
  refine WO_fa (o' := 0) rfl rfl rfl ?_
  refine WO_ixa rfl rfl rfl (by omega) ?_
  refine WO_stA rfl rfl rfl rfl (.there .here) ?_
  refine WO_nil ?_
  refine WP_ops ?_
  refine WO_mv (v := .s (.int _ _)) rfl ?_
  refine WO_add rfl rfl (by omega) ?_
  refine WO_mv (v := .sl _ _ _ _ _) rfl ?_
  refine WO_mv (v := .s (.int _ _)) rfl ?_
  refine WO_ixs rfl rfl (by omega) ?_
  refine WO_ldI (x := _) rfl rfl (.head _) (rfl) ?_
  refine WO_buildI rfl (.one rfl (.one rfl .nil)) ?_
  refine WO_fa (o' := 0) rfl rfl rfl ?_
  refine WO_ixa rfl rfl rfl (by omega) ?_
  refine WO_stA rfl rfl rfl rfl (.there .here) ?_
  refine WO_nil ?_
  refine WP_ops ?_
  refine WO_mv (v := .s (.int _ _)) rfl ?_
  refine WO_add rfl rfl (by omega) ?_
  refine WO_mv (v := .s (.int _ _)) rfl ?_
  refine WO_nil ?_
  refine WP_unroll ?_
  refine WP_seq ?_
  refine WP_seq ?_
  refine WP_ops ?_
  refine WO_mv (v := .s (.int _ _)) rfl ?_
  refine WO_bin (r := .bool _) rfl rfl rfl ?_
  refine WO_nil ?_
  refine WP_cond rfl (fun h2 => ?_) (fun h2 => ?_)
  ·try simp only [NM] at h2
   refine WP_skip ?_
   refine WP_seq ?_
   refine WP_block ?_
   refine WP_seq ?_
   refine WP_ops ?_
   refine WO_mv (v := .s (.int _ _)) rfl ?_
   refine WO_mv (v := .sl _ _ _ _ _) rfl ?_
   refine WO_mv (v := .s (.int _ _)) rfl ?_
   refine WO_ixs rfl rfl (by omega) ?_
   refine WO_ldI (x := _) rfl rfl (.head _) (rfl) ?_
   refine WO_buildI rfl (.one rfl (.one rfl .nil)) ?_
   refine WO_fa (o' := 0) rfl rfl rfl ?_
   refine WO_ixa rfl rfl rfl (by omega) ?_
   refine WO_stA rfl rfl rfl rfl (.there .here) ?_
   refine WO_nil ?_
   refine WP_seq ?_
   refine WP_ops ?_
   refine WO_mv (v := .s (.int _ _)) rfl ?_
   refine WO_add rfl rfl (by omega) ?_
   refine WO_buildI rfl (.one rfl (.one rfl .nil)) ?_
   refine WO_fa (o' := 0) rfl rfl rfl ?_
   refine WO_ixa rfl rfl rfl (by omega) ?_
   refine WO_stA rfl rfl rfl rfl (.there .here) ?_
   refine WO_nil ?_
   refine WP_seq ?_
   refine WP_ops ?_
   refine WO_mv (v := .s (.int _ _)) rfl ?_
   refine WO_add rfl rfl (by omega) ?_
   refine WO_buildI rfl (.one rfl (.one rfl .nil)) ?_
   refine WO_fa (o' := 0) rfl rfl rfl ?_
   refine WO_ixa rfl rfl rfl (by omega) ?_
   refine WO_stA rfl rfl rfl rfl (.there .here) ?_
   refine WO_nil ?_
   refine WP_ops ?_
   refine WO_mv (v := .s (.int _ _)) rfl ?_
   refine WO_add rfl rfl (by omega) ?_
   refine WO_mv (v := .sl _ _ _ _ _) rfl ?_
   refine WO_mv (v := .s (.int _ _)) rfl ?_
   refine WO_ixs rfl rfl (by omega) ?_
   refine WO_ldI (x := _) rfl rfl (.head _) (rfl) ?_
   refine WO_buildI rfl (.one rfl (.one rfl .nil)) ?_
   refine WO_fa (o' := 0) rfl rfl rfl ?_
   refine WO_ixa rfl rfl rfl (by omega) ?_
   refine WO_stA rfl rfl rfl rfl (.there .here) ?_
   refine WO_nil ?_
   refine WP_ops ?_
   refine WO_mv (v := .s (.int _ _)) rfl ?_
   refine WO_add rfl rfl (by omega) ?_
   refine WO_mv (v := .s (.int _ _)) rfl ?_
   refine WO_nil ?_
   refine WP_unroll ?_
   refine WP_seq ?_
   refine WP_seq ?_
   refine WP_ops ?_
   refine WO_mv (v := .s (.int _ _)) rfl ?_
   refine WO_bin (r := .bool _) rfl rfl rfl ?_
   refine WO_nil ?_
   refine WP_cond rfl (fun h3 => ?_) (fun h3 => ?_)
   ·try simp only [NM] at h3
    refine WP_skip ?_
    refine WP_seq ?_
    refine WP_block ?_
    refine WP_seq ?_
    refine WP_ops ?_
    refine WO_mv (v := .s (.int _ _)) rfl ?_
    refine WO_mv (v := .sl _ _ _ _ _) rfl ?_
    refine WO_mv (v := .s (.int _ _)) rfl ?_
    refine WO_ixs rfl rfl (by omega) ?_
    refine WO_ldI (x := _) rfl rfl (.head _) (rfl) ?_
    refine WO_buildI rfl (.one rfl (.one rfl .nil)) ?_
    refine WO_fa (o' := 0) rfl rfl rfl ?_
    refine WO_ixa rfl rfl rfl (by omega) ?_
    refine WO_stA rfl rfl rfl rfl (.there .here) ?_
    refine WO_nil ?_
    refine WP_seq ?_
    refine WP_ops ?_
    refine WO_mv (v := .s (.int _ _)) rfl ?_
    refine WO_add rfl rfl (by omega) ?_
    refine WO_buildI rfl (.one rfl (.one rfl .nil)) ?_
    refine WO_fa (o' := 0) rfl rfl rfl ?_
    refine WO_ixa rfl rfl rfl (by omega) ?_
    refine WO_stA rfl rfl rfl rfl (.there .here) ?_
    refine WO_nil ?_
    refine WP_seq ?_
    refine WP_ops ?_
    refine WO_mv (v := .s (.int _ _)) rfl ?_
    refine WO_add rfl rfl (by omega) ?_
    refine WO_buildI rfl (.one rfl (.one rfl .nil)) ?_
    refine WO_fa (o' := 0) rfl rfl rfl ?_
    refine WO_ixa rfl rfl rfl (by omega) ?_
    refine WO_stA rfl rfl rfl rfl (.there .here) ?_
    refine WO_nil ?_
    refine WP_ops ?_
    refine WO_mv (v := .s (.int _ _)) rfl ?_
    refine WO_add rfl rfl (by omega) ?_
    refine WO_mv (v := .sl _ _ _ _ _) rfl ?_
    refine WO_mv (v := .s (.int _ _)) rfl ?_
    refine WO_ixs rfl rfl (by omega) ?_
    refine WO_ldI (x := _) rfl rfl (.head _) (rfl) ?_
    refine WO_buildI rfl (.one rfl (.one rfl .nil)) ?_
    refine WO_fa (o' := 0) rfl rfl rfl ?_
    refine WO_ixa rfl rfl rfl (by omega) ?_
    refine WO_stA rfl rfl rfl rfl (.there .here) ?_
    refine WO_nil ?_
    refine WP_ops ?_
    refine WO_mv (v := .s (.int _ _)) rfl ?_
    refine WO_add rfl rfl (by omega) ?_
    refine WO_mv (v := .s (.int _ _)) rfl ?_
    refine WO_nil ?_
    refine WP_unroll ?_
    refine WP_seq ?_
    refine WP_seq ?_
    refine WP_ops ?_
    refine WO_mv (v := .s (.int _ _)) rfl ?_
    refine WO_bin (r := .bool _) rfl rfl rfl ?_
    refine WO_nil ?_
    refine WP_cond rfl (fun h4 => ?_) (fun h4 => ?_)
    ·try simp only [NM] at h4
     refine WP_skip ?_
     refine WP_seq ?_
     refine WP_block ?_
     refine WP_seq ?_
     refine WP_ops ?_
     refine WO_mv (v := .s (.int _ _)) rfl ?_
     refine WO_mv (v := .sl _ _ _ _ _) rfl ?_
     refine WO_mv (v := .s (.int _ _)) rfl ?_
     refine WO_ixs rfl rfl (by omega) ?_
     refine WO_ldI (x := _) rfl rfl (.head _) (rfl) ?_
     refine WO_buildI rfl (.one rfl (.one rfl .nil)) ?_
     refine WO_fa (o' := 0) rfl rfl rfl ?_
     refine WO_ixa rfl rfl rfl (by omega) ?_
     refine WO_stA rfl rfl rfl rfl (.there .here) ?_
     refine WO_nil ?_
     refine WP_seq ?_
     refine WP_ops ?_
     refine WO_mv (v := .s (.int _ _)) rfl ?_
     refine WO_add rfl rfl (by omega) ?_
     refine WO_buildI rfl (.one rfl (.one rfl .nil)) ?_
     refine WO_fa (o' := 0) rfl rfl rfl ?_
     refine WO_ixa rfl rfl rfl (by omega) ?_
     refine WO_stA rfl rfl rfl rfl (.there .here) ?_
     refine WO_nil ?_
     refine WP_seq ?_
     refine WP_ops ?_
     refine WO_mv (v := .s (.int _ _)) rfl ?_
     refine WO_add rfl rfl (by omega) ?_
     refine WO_buildI rfl (.one rfl (.one rfl .nil)) ?_
     refine WO_fa (o' := 0) rfl rfl rfl ?_
     refine WO_ixa rfl rfl rfl (by omega) ?_
     refine WO_stA rfl rfl rfl rfl (.there .here) ?_
     refine WO_nil ?_
     refine WP_ops ?_
     refine WO_mv (v := .s (.int _ _)) rfl ?_
     refine WO_add rfl rfl (by omega) ?_
     refine WO_mv (v := .sl _ _ _ _ _) rfl ?_
     refine WO_mv (v := .s (.int _ _)) rfl ?_
     refine WO_ixs rfl rfl (by omega) ?_
     refine WO_ldI (x := _) rfl rfl (.head _) (rfl) ?_
     refine WO_buildI rfl (.one rfl (.one rfl .nil)) ?_
     refine WO_fa (o' := 0) rfl rfl rfl ?_
     refine WO_ixa rfl rfl rfl (by omega) ?_
     refine WO_stA rfl rfl rfl rfl (.there .here) ?_
     refine WO_nil ?_
     refine WP_ops ?_
     refine WO_mv (v := .s (.int _ _)) rfl ?_
     refine WO_add rfl rfl (by omega) ?_
     refine WO_mv (v := .s (.int _ _)) rfl ?_
     refine WO_nil ?_
     refine WP_unroll ?_
     refine WP_seq ?_
     refine WP_seq ?_
     refine WP_ops ?_
     refine WO_mv (v := .s (.int _ _)) rfl ?_
     refine WO_bin (r := .bool _) rfl rfl rfl ?_
     refine WO_nil ?_
     refine WP_cond rfl (fun h5 => ?_) (fun h5 => ?_)
     ·try simp only [NM] at h5
      refine WP_skip ?_
      refine WP_seq ?_
      refine WP_block ?_
      refine WP_seq ?_
      refine WP_ops ?_
      refine WO_mv (v := .s (.int _ _)) rfl ?_
      refine WO_mv (v := .sl _ _ _ _ _) rfl ?_
      refine WO_mv (v := .s (.int _ _)) rfl ?_
      refine WO_ixs rfl rfl (by omega) ?_
      refine WO_ldI (x := _) rfl rfl (.head _) (rfl) ?_
      refine WO_buildI rfl (.one rfl (.one rfl .nil)) ?_
      refine WO_fa (o' := 0) rfl rfl rfl ?_
      refine WO_ixa rfl rfl rfl (by omega) ?_
      refine WO_stA rfl rfl rfl rfl (.there .here) ?_
      refine WO_nil ?_
      refine WP_seq ?_
      refine WP_ops ?_
      refine WO_mv (v := .s (.int _ _)) rfl ?_
      refine WO_add rfl rfl (by omega) ?_
      refine WO_buildI rfl (.one rfl (.one rfl .nil)) ?_
      refine WO_fa (o' := 0) rfl rfl rfl ?_
      refine WO_ixa rfl rfl rfl (by omega) ?_
      refine WO_stA rfl rfl rfl rfl (.there .here) ?_
      refine WO_nil ?_
      refine WP_seq ?_
      refine WP_ops ?_
      refine WO_mv (v := .s (.int _ _)) rfl ?_
      refine WO_add rfl rfl (by omega) ?_
      refine WO_buildI rfl (.one rfl (.one rfl .nil)) ?_
      refine WO_fa (o' := 0) rfl rfl rfl ?_
      refine WO_ixa rfl rfl rfl (by omega) ?_
      refine WO_stA rfl rfl rfl rfl (.there .here) ?_
      refine WO_nil ?_
      refine WP_ops ?_
      refine WO_mv (v := .s (.int _ _)) rfl ?_
      refine WO_add rfl rfl (by omega) ?_
      refine WO_mv (v := .sl _ _ _ _ _) rfl ?_
      refine WO_mv (v := .s (.int _ _)) rfl ?_
      refine WO_ixs rfl rfl (by omega) ?_
      refine WO_ldI (x := _) rfl rfl (.head _) (rfl) ?_
      refine WO_buildI rfl (.one rfl (.one rfl .nil)) ?_
      refine WO_fa (o' := 0) rfl rfl rfl ?_
      refine WO_ixa rfl rfl rfl (by omega) ?_
      refine WO_stA rfl rfl rfl rfl (.there .here) ?_
      refine WO_nil ?_
      refine WP_ops ?_
      refine WO_mv (v := .s (.int _ _)) rfl ?_
      refine WO_add rfl rfl (by omega) ?_
      refine WO_mv (v := .s (.int _ _)) rfl ?_
      refine WO_nil ?_
      refine WP_unroll ?_
      refine WP_seq ?_
      refine WP_seq ?_
      refine WP_ops ?_
      refine WO_mv (v := .s (.int _ _)) rfl ?_
      refine WO_bin (r := .bool _) rfl rfl rfl ?_
      refine WO_nil ?_
      refine WP_cond rfl (fun h6 => ?_) (fun h6 => ?_)
      ·try simp only [NM] at h6
       refine WP_skip ?_
       refine WP_seq ?_
       refine WP_block ?_
       refine WP_seq ?_
       refine WP_ops ?_
       refine WO_mv (v := .s (.int _ _)) rfl ?_
       refine WO_mv (v := .sl _ _ _ _ _) rfl ?_
       refine WO_mv (v := .s (.int _ _)) rfl ?_
       refine WO_ixs rfl rfl (by omega) ?_
       refine WO_ldI (x := _) rfl rfl (.head _) (rfl) ?_
       refine WO_buildI rfl (.one rfl (.one rfl .nil)) ?_
       refine WO_fa (o' := 0) rfl rfl rfl ?_
       refine WO_ixa rfl rfl rfl (by omega) ?_
       refine WO_stA rfl rfl rfl rfl (.there .here) ?_
       refine WO_nil ?_
       refine WP_seq ?_
       refine WP_ops ?_
       refine WO_mv (v := .s (.int _ _)) rfl ?_
       refine WO_add rfl rfl (by omega) ?_
       refine WO_buildI rfl (.one rfl (.one rfl .nil)) ?_
       refine WO_fa (o' := 0) rfl rfl rfl ?_
       refine WO_ixa rfl rfl rfl (by omega) ?_
       refine WO_stA rfl rfl rfl rfl (.there .here) ?_
       refine WO_nil ?_
       refine WP_seq ?_
       refine WP_ops ?_
       refine WO_mv (v := .s (.int _ _)) rfl ?_
       refine WO_add rfl rfl (by omega) ?_
       refine WO_buildI rfl (.one rfl (.one rfl .nil)) ?_
       refine WO_fa (o' := 0) rfl rfl rfl ?_
       refine WO_ixa rfl rfl rfl (by omega) ?_
       refine WO_stA rfl rfl rfl rfl (.there .here) ?_
       refine WO_nil ?_
       refine WP_ops ?_
       refine WO_mv (v := .s (.int _ _)) rfl ?_
       refine WO_add rfl rfl (by omega) ?_
       refine WO_mv (v := .sl _ _ _ _ _) rfl ?_
       refine WO_mv (v := .s (.int _ _)) rfl ?_
       refine WO_ixs rfl rfl (by omega) ?_
       refine WO_ldI (x := _) rfl rfl (.head _) (rfl) ?_
       refine WO_buildI rfl (.one rfl (.one rfl .nil)) ?_
       refine WO_fa (o' := 0) rfl rfl rfl ?_
       refine WO_ixa rfl rfl rfl (by omega) ?_
       refine WO_stA rfl rfl rfl rfl (.there .here) ?_
       refine WO_nil ?_
       refine WP_ops ?_
       refine WO_mv (v := .s (.int _ _)) rfl ?_
       refine WO_add rfl rfl (by omega) ?_
       refine WO_mv (v := .s (.int _ _)) rfl ?_
       refine WO_nil ?_
       refine WP_unroll ?_
       refine WP_seq ?_
       refine WP_seq ?_
       refine WP_ops ?_
       refine WO_mv (v := .s (.int _ _)) rfl ?_
       refine WO_bin (r := .bool _) rfl rfl rfl ?_
       refine WO_nil ?_
       refine WP_cond rfl (fun h7 => ?_) (fun h7 => ?_)
       ·try simp only [NM] at h7
        refine WP_skip ?_
        refine WP_seq ?_
        refine WP_block ?_
        refine WP_seq ?_
        refine WP_ops ?_
        refine WO_mv (v := .s (.int _ _)) rfl ?_
        refine WO_mv (v := .sl _ _ _ _ _) rfl ?_
        refine WO_mv (v := .s (.int _ _)) rfl ?_
        refine WO_ixs rfl rfl (by omega) ?_
        refine WO_ldI (x := _) rfl rfl (.head _) (rfl) ?_
        refine WO_buildI rfl (.one rfl (.one rfl .nil)) ?_
        refine WO_fa (o' := 0) rfl rfl rfl ?_
        refine WO_ixa rfl rfl rfl (by omega) ?_
        refine WO_stA rfl rfl rfl rfl (.there .here) ?_
        refine WO_nil ?_
        refine WP_seq ?_
        refine WP_ops ?_
        refine WO_mv (v := .s (.int _ _)) rfl ?_
        refine WO_add rfl rfl (by omega) ?_
        refine WO_buildI rfl (.one rfl (.one rfl .nil)) ?_
        refine WO_fa (o' := 0) rfl rfl rfl ?_
        refine WO_ixa rfl rfl rfl (by omega) ?_
        refine WO_stA rfl rfl rfl rfl (.there .here) ?_
        refine WO_nil ?_
        refine WP_seq ?_
        refine WP_ops ?_
        refine WO_mv (v := .s (.int _ _)) rfl ?_
        refine WO_add rfl rfl (by omega) ?_
        refine WO_buildI rfl (.one rfl (.one rfl .nil)) ?_
        refine WO_fa (o' := 0) rfl rfl rfl ?_
        refine WO_ixa rfl rfl rfl (by omega) ?_
        refine WO_stA rfl rfl rfl rfl (.there .here) ?_
        refine WO_nil ?_
        refine WP_ops ?_
        refine WO_mv (v := .s (.int _ _)) rfl ?_
        refine WO_add rfl rfl (by omega) ?_
        refine WO_mv (v := .sl _ _ _ _ _) rfl ?_
        refine WO_mv (v := .s (.int _ _)) rfl ?_
        refine WO_ixs rfl rfl (by omega) ?_
        refine WO_ldI (x := _) rfl rfl (.head _) (rfl) ?_
        refine WO_buildI rfl (.one rfl (.one rfl .nil)) ?_
        refine WO_fa (o' := 0) rfl rfl rfl ?_
        refine WO_ixa rfl rfl rfl (by omega) ?_
        refine WO_stA rfl rfl rfl rfl (.there .here) ?_
        refine WO_nil ?_
        refine WP_ops ?_
        refine WO_mv (v := .s (.int _ _)) rfl ?_
        refine WO_add rfl rfl (by omega) ?_
        refine WO_mv (v := .s (.int _ _)) rfl ?_
        refine WO_nil ?_
        refine WP_unroll ?_
        refine WP_seq ?_
        refine WP_seq ?_
        refine WP_ops ?_
        refine WO_mv (v := .s (.int _ _)) rfl ?_
        refine WO_bin (r := .bool _) rfl rfl rfl ?_
        refine WO_nil ?_
        refine WP_cond rfl (fun h8 => ?_) (fun h8 => ?_)
        ·try simp only [NM] at h8
         refine WP_skip ?_
         refine WP_seq ?_
         refine WP_block ?_
         refine WP_seq ?_
         refine WP_ops ?_
         refine WO_mv (v := .s (.int _ _)) rfl ?_
         refine WO_mv (v := .sl _ _ _ _ _) rfl ?_
         refine WO_mv (v := .s (.int _ _)) rfl ?_
         refine WO_ixs rfl rfl (by omega) ?_
         refine WO_ldI (x := _) rfl rfl (.head _) (rfl) ?_
         refine WO_buildI rfl (.one rfl (.one rfl .nil)) ?_
         refine WO_fa (o' := 0) rfl rfl rfl ?_
         refine WO_ixa rfl rfl rfl (by omega) ?_
         refine WO_stA rfl rfl rfl rfl (.there .here) ?_
         refine WO_nil ?_
         refine WP_seq ?_
         refine WP_ops ?_
         refine WO_mv (v := .s (.int _ _)) rfl ?_
         refine WO_add rfl rfl (by omega) ?_
         refine WO_buildI rfl (.one rfl (.one rfl .nil)) ?_
         refine WO_fa (o' := 0) rfl rfl rfl ?_
         refine WO_ixa rfl rfl rfl (by omega) ?_
         refine WO_stA rfl rfl rfl rfl (.there .here) ?_
         refine WO_nil ?_
         refine WP_seq ?_
         refine WP_ops ?_
         refine WO_mv (v := .s (.int _ _)) rfl ?_
         refine WO_add rfl rfl (by omega) ?_
         refine WO_buildI rfl (.one rfl (.one rfl .nil)) ?_
         refine WO_fa (o' := 0) rfl rfl rfl ?_
         refine WO_ixa rfl rfl rfl (by omega) ?_
         refine WO_stA rfl rfl rfl rfl (.there .here) ?_
         refine WO_nil ?_
         refine WP_ops ?_
         refine WO_mv (v := .s (.int _ _)) rfl ?_
         refine WO_add rfl rfl (by omega) ?_
         refine WO_mv (v := .sl _ _ _ _ _) rfl ?_
         refine WO_mv (v := .s (.int _ _)) rfl ?_
         refine WO_ixs rfl rfl (by omega) ?_
         refine WO_ldI (x := _) rfl rfl (.head _) (rfl) ?_
         refine WO_buildI rfl (.one rfl (.one rfl .nil)) ?_
         refine WO_fa (o' := 0) rfl rfl rfl ?_
         refine WO_ixa rfl rfl rfl (by omega) ?_
         refine WO_stA rfl rfl rfl rfl (.there .here) ?_
         refine WO_nil ?_
         refine WP_ops ?_
         refine WO_mv (v := .s (.int _ _)) rfl ?_
         refine WO_add rfl rfl (by omega) ?_
         refine WO_mv (v := .s (.int _ _)) rfl ?_
         refine WO_nil ?_
         refine WP_unroll ?_
         refine WP_seq ?_
         refine WP_seq ?_
         refine WP_ops ?_
         refine WO_mv (v := .s (.int _ _)) rfl ?_
         refine WO_bin (r := .bool _) rfl rfl rfl ?_
         refine WO_nil ?_
         refine WP_cond rfl (fun h9 => ?_) (fun h9 => ?_)
         ·try simp only [NM] at h9
          exfalso; first | omega | (simp at h9)
         ·try simp only [NM] at h9
          refine WP_exit ?_
          refine xhere ?_
          refine WP_seq ?_
          refine WP_ops ?_
          refine WO_fa (o' := 129) rfl rfl rfl ?_
          refine WO_stI rfl rfl rfl rfl (.there .here) ?_
          refine WO_nil ?_
          refine WP_seq ?_
          refine WP_ops ?_
          first | refine WO_ldA0 rfl rfl (.tail _ (.head _)) ?_ | refine WO_ldAI rfl rfl (.tail _ (.head _)) ?_
          refine WO_stA rfl rfl rfl rfl (.there (.there .here)) ?_
          refine WO_nil ?_
          refine WP_ret ?_
          refine ⟨_, RS_cell rfl rfl (.tail _ (.tail _ (.head _))) (RS_nil), ?_⟩
          refine congrArg (fun P => V.agg 133 (ia P)) ?_
          refine ovA_is (by decide +kernel) fun i hi => (startF_hi i hi).symm
        ·try simp only [NM] at h8
         exfalso; first | omega | (simp at h8)
       ·try simp only [NM] at h7
        exfalso; first | omega | (simp at h7)
      ·try simp only [NM] at h6
       exfalso; first | omega | (simp at h6)
     ·try simp only [NM] at h5
      exfalso; first | omega | (simp at h5)
    ·try simp only [NM] at h4
     exfalso; first | omega | (simp at h4)
   ·try simp only [NM] at h3
    exfalso; first | omega | (simp at h3)
  ·try simp only [NM] at h2
   exfalso; first | omega | (simp at h2)
 ·try simp only [NM] at h1
  exfalso; first | omega | (simp at h1)
theorem start_run : RF AM2 8 [] (.agg 133 (ia startF)) := RF2 (RF_of rStart_run)
end Go.Proofs.YtlaogmemhephnaaGreatDoor
set_option linter.unusedVariables false
set_option linter.unusedSimpArgs false
namespace Go.Proofs.YtlaogmemhephnaaGreatDoor
open Go Go.Am
theorem begin_run : RF AM2 7 [] (.s (.str beginS)) := by
 refine RF2 (RF_of ?_)
 refine WR_fn (a := a7) rfl rfl (entryF _) (entry_E (Nat.le_of_ble_eq_true rfl)) (m := 0) rfl ?_
 refine WP_seq (WP_ops (WO_mv rfl (WO_nil ?_)))
 refine WP_seq (WP_ops (WO_mv rfl (WO_nil ?_)))
 exact WP_ret ⟨_, RS_tmp rfl RS_nil, rfl⟩
theorem showR_begin : showR startF = (beginS, 0) := by
 have h := show_begin
 have e : (showR startF).1 = beginS := str_inj (by rw [toList_is, toList_is]; exact h.1)
 exact Prod.ext e h.2
theorem parse_begin_all : eqI 133 (parseR beginS).1 startF = true ∧ (parseR beginS).2 = (0, 0) := by
 have h := parse_begin_is
 unfold parse_begin at h
 simp only [Bool.and_eq_true, decide_eq_true_eq] at h
 exact ⟨h.1.1, Prod.ext h.1.2 h.2⟩
set_option maxRecDepth 100000 in
theorem awake_run : RF AM2 5 [] (.s (.bool true)) := by
 refine RF_of ?_
 refine WR_fn (a := a5) rfl rfl (entryF _) (entry_E (Nat.le_of_ble_eq_true rfl)) (m := 0) rfl ?_
 refine WP_seq (WP_ops (WO_mv rfl (WO_nil ?_)))
 refine WP_seq (WP_ops ?_)
 refine WO_call0 rfl start_run rfl rfl rfl ?_
 refine WO_call0 rfl (show_run startF) rfl rfl rfl ?_
 rw [showR_begin]
 refine WO_mv (v := .tup _) rfl (WO_ext rfl rfl (WO_ext rfl rfl (WO_mv rfl (WO_mv rfl (WO_nil ?_)))))
 refine WP_seq (WP_ops ?_)
 refine WO_mv rfl (WO_call0 rfl (parse_run beginS) rfl rfl rfl ?_)
 obtain ⟨h1, h2⟩ := parse_begin_all
 have hv : parseV beginS = .tup [.agg 133 (ia (parseR beginS).1), .s (.int .i64 0), .s (.int .i64 0)] := by
  show tup3 (parseR beginS) = _
  unfold tup3
  rw [h2]
 rw [hv]
 generalize (parseR beginS).1 = P at h1
 refine WO_mv (v := .tup _) rfl (WO_ext rfl rfl (WO_ext rfl rfl (WO_ext rfl rfl ?_)))
 refine WO_allocI (WO_stA rfl rfl rfl rfl .here ?_)
 refine WO_mv rfl (WO_mv rfl (WO_nil ?_))
 refine WP_seq (WP_par ?_)
 refine WO_mv rfl (WO_bin (r := .bool true) rfl rfl rfl (WO_mv rfl ?_))
 refine WO_gt rfl (WO_mv rfl ?_)
 refine WO_gt rfl (WO_call0 rfl begin_run rfl rfl rfl ?_)
 refine WO_gt rfl (WO_bin (r := .bool true) rfl rfl (by show some (S.bool (_ == _)) = _; rw [beq_self_eq_true]) ?_)
 refine WO_pick rfl rfl (WO_mv rfl ?_)
 refine WO_gt rfl (WO_mv rfl ?_)
 refine WO_gt rfl (WO_bin (r := .bool true) rfl rfl rfl ?_)
 refine WO_pick rfl rfl (WO_mv rfl ?_)
 refine WO_gt rfl (WO_ldA0 rfl rfl (.head _) ?_)
 refine WO_gt rfl (WO_callq0 rfl start_run rfl rfl rfl ?_)
 refine WO_gt rfl (WO_eqaC rfl rfl (b := true) ?_ ?_)
 ·show eqI 133 (ovA (fun _ => 0) 0 133 P) startF = true
  rw [eqI_iff] at h1 ⊢
  intro i hi
  rw [ovA_at (by omega)]
  exact h1 i hi
 refine WO_pick rfl rfl (WO_mv rfl (WO_nil ?_))
 exact WP_ret ⟨_, RS_tmp rfl RS_nil, rfl⟩
theorem Shows_run (P : Nat → Int) : RF AM2 9 [.agg 133 (ia P)] (.s (.bool true)) := by
 refine RF_of ?_
 refine WR_fn (a := a9) rfl rfl (entryF _) (entry_E (Nat.le_of_ble_eq_true rfl)) (m := 0) rfl ?_
 refine WP_seq (WP_ops (WO_boxA rfl (WO_mv rfl (WO_nil ?_))))
 refine WP_seq (WP_ops ?_)
 refine WO_ldA0 rfl rfl (.head _) (WO_call0 rfl (show_run P) rfl rfl rfl ?_)
 refine WO_mv (v := .tup _) rfl (WO_ext rfl rfl (WO_ext rfl rfl (WO_mv rfl (WO_mv rfl (WO_nil ?_)))))
 refine WP_seq (WP_ops ?_)
 refine WO_ldA0 rfl rfl (.head _) (WO_call0 rfl (dshow_run P) rfl rfl rfl ?_)
 refine WO_mv (v := .tup _) rfl (WO_ext rfl rfl (WO_ext rfl rfl (WO_mv rfl (WO_mv rfl (WO_nil ?_)))))
 refine WP_seq (WP_ops ?_)
 refine WO_mv rfl (WO_mv rfl (WO_bin (r := .bool true) rfl rfl (by show some (S.bool (_ == _)) = _; rw [beq_self_eq_true]) (WO_mv rfl ?_)))
 refine WO_gt rfl (WO_mv rfl ?_)
 refine WO_gt rfl (WO_mv rfl ?_)
 refine WO_gt rfl (WO_bin (r := .bool true) rfl rfl (by show some (S.bool (_ == _)) = _; rw [beq_self_eq_true]) ?_)
 refine WO_pick rfl rfl (WO_mv rfl ?_)
 refine WO_gt rfl (WO_call0 rfl awake_run rfl rfl rfl ?_)
 refine WO_pick rfl rfl (WO_mv rfl (WO_nil ?_))
 exact WP_ret ⟨_, RS_tmp rfl RS_nil, rfl⟩
end Go.Proofs.YtlaogmemhephnaaGreatDoor
set_option linter.unusedVariables false
set_option linter.unusedSimpArgs false
namespace Go.Proofs.YtlaogmemhephnaaGreatDoor
open Go Go.Am
end Go.Proofs.YtlaogmemhephnaaGreatDoor
set_option linter.unusedVariables false
set_option linter.unusedSimpArgs false
namespace Go.Proofs.YtlaogmemhephnaaGreatDoor
open Go Go.Am
def rrG (s : ByteArray) (k : Nat) (b : Bool) : Nat → S
 | 0 => .str s
 | 1 => .int .i64 (k : Int)
 | 2 => .bool b
 | _ => S.zero
theorem rr_at (s : ByteArray) (k k' : Nat) (b : Bool) (x : Int) (hx : x = (k' : Int)) : over (rrG s k b) 1 1 (fun _ => .int .i64 x) = rrG s k' b := by
 subst hx
 funext i
 match i with
 | 0 => rfl
 | 1 => rfl
 | 2 => rfl
 | i + 3 =>
  show (bif Nat.ble 1 (i + 3) && Nat.blt (i + 3) (1 + 1) then _ else _) = _
  rw [show Nat.blt (i + 3) (1 + 1) = false from blt_no (by omega), Bool.and_false]; rfl
theorem rr_stuck (s : ByteArray) (k : Nat) (b c : Bool) : over (rrG s k b) 2 1 (fun _ => .bool c) = rrG s k c := by
 funext i
 match i with
 | 0 => rfl
 | 1 => rfl
 | 2 => rfl
 | i + 3 =>
  show (bif Nat.ble 2 (i + 3) && Nat.blt (i + 3) (2 + 1) then _ else _) = _
  rw [show Nat.blt (i + 3) (2 + 1) = false from blt_no (by omega), Bool.and_false]; rfl
abbrev rrB (s : ByteArray) (k : Nat) (b : Bool) : Blk := .sc .var 3 (rrG s k b)
def nxt (s : ByteArray) (k : Nat) (b : Bool) : UInt8 := if b = true ∨ s.size ≤ k then 0 else chr s k
theorem next_run (s : ByteArray) (k : Nat) (b : Bool) : RL AM 55 [.ptr 0 0 3] [rrB s k b] (.s (.int .u8 ((nxt s k b).toNat : Int))) [rrB s k b] := by
 refine RL_of1 rfl ?_
 refine WR_fn (a := a55) rfl rfl (entryF _) (entry_E (Nat.le_of_ble_eq_true rfl)) (m := 1) rfl ?_
 refine WP_seq (WP_ops (WO_mv rfl (WO_nil ?_)))
 refine WP_seq (WP_seq (WP_par ?_))
 refine WO_mv rfl (WO_nilckP rfl (WO_fa (o' := 2) rfl rfl rfl ?_))
 refine WO_ldS (x := .bool b) rfl rfl (.head _) rfl ?_
 refine WO_mv rfl ?_
 cases b with
 | true =>
  refine WO_gf rfl rfl (WO_gf rfl rfl (WO_gf rfl rfl (WO_gf rfl rfl (WO_gf rfl rfl (WO_gf rfl rfl (WO_gf rfl rfl (WO_gf rfl rfl (WO_gf rfl rfl (WO_gf rfl rfl ?_)))))))))
  refine WO_pick rfl rfl (WO_nil ?_)
  refine WP_cond rfl (fun _ => ?_) (fun h => by cases h)
  refine WP_seq (WP_ops (WO_mv rfl (WO_nil ?_)))
  refine WP_ret ⟨_, RS_tmp rfl RS_nil, ?_, .head _⟩
  rw [nxt, if_pos (.inl rfl)]; rfl
 | false =>
  refine WO_gt rfl (WO_mv rfl ?_)
  refine WO_gt rfl (WO_nilckP rfl ?_)
  refine WO_gt rfl (WO_fa (o' := 1) rfl rfl rfl ?_)
  refine WO_gt rfl (WO_ldS rfl rfl (.head _) rfl ?_)
  refine WO_gt rfl (WO_mv rfl ?_)
  refine WO_gt rfl (WO_nilckP rfl ?_)
  refine WO_gt rfl (WO_fa (o' := 0) rfl rfl rfl ?_)
  refine WO_gt rfl (WO_ldS rfl rfl (.head _) rfl ?_)
  refine WO_gt rfl (WO_lenS rfl ?_)
  by_cases hk : s.size ≤ k
  ·refine WO_gt rfl (WO_bin (r := .bool true) rfl rfl (by show some (S.bool (decide _)) = _; rw [decide_eq_true (by omega)]) ?_)
   refine WO_pick rfl rfl (WO_nil ?_)
   refine WP_cond rfl (fun _ => ?_) (fun h => by cases h)
   refine WP_seq (WP_ops (WO_mv rfl (WO_nil ?_)))
   refine WP_ret ⟨_, RS_tmp rfl RS_nil, ?_, .head _⟩
   rw [nxt, if_pos (.inr hk)]; rfl
  ·refine WO_gt rfl (WO_bin (r := .bool false) rfl rfl (by show some (S.bool (decide _)) = _; rw [decide_eq_false (by omega)]) ?_)
   refine WO_pick rfl rfl (WO_nil ?_)
   refine WP_cond rfl (fun h => by cases h) (fun _ => WP_skip ?_)
   refine WP_seq (WP_par ?_)
   refine WO_mv rfl (WO_nilckP rfl (WO_fa (o' := 0) rfl rfl rfl ?_))
   refine WO_ldS rfl rfl (.head _) rfl ?_
   refine WO_mv rfl (WO_nilckP rfl (WO_fa (o' := 1) rfl rfl rfl ?_))
   refine WO_ldS rfl rfl (.head _) rfl ?_
   refine WO_ixstr rfl rfl (by omega) ?_
   refine WO_mv rfl (WO_nil ?_)
   refine WP_ret ⟨_, RS_tmp rfl RS_nil, ?_, .head _⟩
   rw [nxt, if_neg (by rintro (h | h); cases h; exact hk h)]
   show V.s (.int .u8 ((s.data.getD ((k : Nat) : Int).toNat 0).toNat : Nat)) = _
   rw [show ((k : Nat) : Int).toNat = k by omega]; rfl
section
variable {N : Nat} {f : FE} {n : Nat} {L : HA} {K : KN} {Zp : V → KN} {l : List I} {d : Nat}
theorem WO_next {x : O} {xs : List O} {b : Nat} {s : ByteArray} {k : Nat} {st : Bool} {L' : HA} (hf : x.fv N f = .fn 55 []) (ha : xs.map (O.fv N f) = [.ptr b 0 3]) (hat : At b (rrB s k st) (rrB s k st) L L')
  (kk : WO AM N l (upd f d (.s (.int .u8 ((nxt s k st).toNat : Int)))) n L' K Zp) : WO AM N (⟨some d, none, .h (.call x xs)⟩ :: l) f n L K Zp :=
 WO_callL (od := some d) (av := [.ptr b 0 3]) (rs := [b]) (Bs := [_]) (av' := [.ptr 0 0 3]) hf ha rfl (next_run s k st) (by simp [V.refsL, V.refs, dedup]) (by simp [V.refsL, V.refs]) (by simp [V.refsL, V.refs]) (by simp [rnL, V.renL, V.ren, pos]) ⟨hat.mem, rfl, trivial⟩ rfl rfl (.cons hat .nil) kk
end
theorem getD_list (J : ByteArray) (i : Nat) : J.data.getD i 0 = J.data.toList.getD i 0 := by
 rw [Array.getD_eq_getD_getElem?, List.getD_eq_getElem?_getD, Array.getElem?_toList]
theorem idx_at (c : UInt8) : ∀ (l : List UInt8) (i : Nat), i < l.length → l.getD i 0 = c → (∀ j, j < i → l.getD j 0 ≠ c) → Lib.indexByte l c = (i : Int)
 | [], _, h, _, _ => by simp at h
 | b :: l, 0, _, h, _ => by
  have : b = c := h
  unfold Lib.indexByte
  rw [this, beq_self_eq_true, if_pos rfl]; rfl
 | b :: l, i + 1, hi, h, hn => by
  have h0 : b ≠ c := hn 0 (by omega)
  have ih := idx_at c l i (by simpa using hi) h (fun j hj => hn (j + 1) (by omega))
  unfold Lib.indexByte
  rw [beq_eq_false_iff_ne.2 h0, if_neg (by decide), ih, if_neg (by rw [beq_iff_eq]; omega)]
  omega
theorem idx_none (c : UInt8) : ∀ (l : List UInt8), (∀ j, j < l.length → l.getD j 0 ≠ c) → Lib.indexByte l c = -1
 | [], _ => rfl
 | b :: l, hn => by
  have h0 : b ≠ c := hn 0 (by simp)
  have ih := idx_none c l (fun j hj => hn (j + 1) (by simpa using hj))
  unfold Lib.indexByte
  rw [beq_eq_false_iff_ne.2 h0, if_neg (by decide), ih]; rfl
theorem idx_some (c : UInt8) : ∀ (l : List UInt8) (i : Nat), i < l.length → l.getD i 0 = c → 0 ≤ Lib.indexByte l c
 | [], _, h, _ => by simp at h
 | b :: l, 0, _, h => by
  have : b = c := h
  unfold Lib.indexByte
  rw [this, beq_self_eq_true, if_pos rfl]; exact Int.le_refl _
 | b :: l, i + 1, hi, h => by
  have ih := idx_some c l i (by simpa using hi) h
  unfold Lib.indexByte
  split
  ·exact Int.le_refl _
  ·rw [if_neg (by rw [beq_iff_eq]; omega)]; omega
abbrev idxJ (J : ByteArray) (c : UInt8) : Int := Lib.indexByte J.data.toList c
theorem u8_eqT {c d : UInt8} (h : c = d) : binS .eql (.int .u8 (c.toNat : Int)) (.int .u8 (d.toNat : Int)) = some (.bool true) := by
 subst h
 show some (S.bool (_ == _)) = _
 rw [beq_self_eq_true]
theorem u8_eqF {c d : UInt8} (h : c ≠ d) : binS .eql (.int .u8 (c.toNat : Int)) (.int .u8 (d.toNat : Int)) = some (.bool false) := by
 show some (S.bool (_ == _)) = _
 rw [beq_eq_false_iff_ne.2 (fun e => h (UInt8.toNat_inj.1 (by omega)))]
theorem one_yes (s J : ByteArray) (k : Nat) (hs : s.size ≤ 1000) (hJ : J.size ≤ 1000) (h : takeC s k J = true) :
    RL AM 27 [.ptr 0 0 3, .s (.str J)] [rrB s k false] (.s (.int .i64 (idxJ J (chr s k)))) [rrB s (k + 1) false] := by
  have hk := take_lt h
  have hn : nxt s k false = chr s k := by rw [nxt, if_neg (by rintro (h | h); cases h; omega)]
  refine RL_of1 rfl ?_
  refine WR_fn (a := a27) rfl rfl (entryF _) (entry_E (Nat.le_of_ble_eq_true rfl)) (m := 1) rfl ?_
  refine WP_seq (WP_ops (WO_mv rfl (WO_nil ?_)))
  refine WP_seq (WP_ops ?_)
  refine WO_mv rfl ?_
  refine WO_next (b := 0) rfl rfl .here ?_
  rw [hn]
  refine WO_mv (v := .s (.int _ _)) rfl (WO_nil ?_)
  refine WP_cut (fun _ _ _ => False) ?_ (fun _ _ _ h => h.elim)
  refine WP_seq (WP_ops (WO_mv rfl (WO_nil ?_)))
  refine WP_block ?_
  refine WP_loop (fun m f nb L => ∃ i : Nat, m + i = J.size ∧ (∀ j, j < i → J.data.getD j 0 ≠ chr s k) ∧ f 0 = .ptr 0 0 3 ∧ f 1 = .s (.str J) ∧ f 5 = .s (.int .u8 ((chr s k).toNat : Int)) ∧ f 6 = .s (.int .i64 (i : Int)) ∧ L = [(0, rrB s k false)]) (fun m f nb L hI => ?_) J.size ⟨0, rfl, fun _ h => by omega, rfl, rfl, rfl, rfl, rfl⟩
  obtain ⟨i, hm, hno, k0, k1, k5, k6, rfl⟩ := hI
  refine WP_know (d := 0) k0 (WP_know (d := 1) k1 (WP_know (d := 5) k5 (WP_know (d := 6) k6 ?_)))
  have hi : i < J.size := by
    refine Nat.lt_of_not_le fun hge => ?_
    have : hasB J (chr s k) = false := by
      unfold hasB
      rw [idx_none _ _ (fun j hj => by rw [← getD_list]; exact hno j (by have : J.data.toList.length = J.size := by rw [Array.length_toList]; rfl
                                                                         omega))]
      rfl
    rw [take_has h] at this
    cases this
  refine WP_seq (WP_seq (WP_par ?_))
  refine WO_mv (v := .s (.int _ _)) rfl (WO_mv rfl (WO_lenS rfl ?_))
  refine WO_bin (r := .bool true) rfl rfl (by show some (S.bool (decide _)) = _; rw [decide_eq_true (by omega)]) ?_
  refine WO_mv rfl ?_
  refine WO_gt rfl (WO_mv rfl ?_)
  refine WO_gt rfl (WO_nilckP rfl ?_)
  refine WO_gt rfl (WO_fa (o' := 1) rfl rfl rfl ?_)
  refine WO_gt rfl (WO_ldS rfl rfl (.head _) rfl ?_)
  refine WO_gt rfl (WO_mv rfl ?_)
  refine WO_gt rfl (WO_nilckP rfl ?_)
  refine WO_gt rfl (WO_fa (o' := 0) rfl rfl rfl ?_)
  refine WO_gt rfl (WO_ldS rfl rfl (.head _) rfl ?_)
  refine WO_gt rfl (WO_lenS rfl ?_)
  refine WO_gt rfl (WO_bin (r := .bool true) rfl rfl (by show some (S.bool (decide _)) = _; rw [decide_eq_true (by omega)]) ?_)
  refine WO_pick rfl rfl (WO_nil ?_)
  refine WP_cond rfl (fun _ => WP_skip ?_) (fun h => by cases h)
  refine WP_seq (WP_block (WP_seq (WP_ops ?_)))
  refine WO_mv rfl (WO_mv (v := .s (.int _ _)) rfl ?_)
  refine WO_ixstr rfl rfl (by omega) ?_
  rw [show ((i : Int)).toNat = i by omega]
  refine WO_mv (v := .s (.int _ _)) rfl ?_
  by_cases he : J.data.getD i 0 = chr s k
  · refine WO_bin rfl rfl (u8_eqT he) ?_
    refine WO_mv rfl ?_
    refine WO_gt rfl (WO_mv rfl ?_)
    refine WO_gt rfl (WO_nilckP rfl ?_)
    refine WO_gt rfl (WO_fa (o' := 2) rfl rfl rfl ?_)
    refine WO_gt rfl (WO_ldS rfl rfl (.head _) rfl ?_)
    refine WO_gt rfl (WO_un rfl rfl ?_)
    refine WO_pick rfl rfl (WO_nil ?_)
    refine WP_cond rfl (fun _ => ?_) (fun h => by cases h)
    refine WP_seq (WP_ops ?_)
    refine WO_mv rfl (WO_nilckP rfl (WO_fa (o' := 1) rfl rfl rfl ?_))
    refine WO_ldS rfl rfl (.head _) rfl ?_
    refine WO_add rfl rfl (by omega) ?_
    refine WO_nilckP rfl (WO_fa (o' := 1) rfl rfl rfl ?_)
    refine WO_st rfl rfl (by simp [V.scells]; rfl) rfl rfl (rr_at s k (k + 1) false _ (by omega)) .here (WO_nil ?_)
    refine WP_seq (WP_ops (WO_mv (v := .s (.int _ _)) rfl (WO_mv (v := .s (.int _ _)) rfl (WO_nil ?_))))
    refine WP_ret ⟨_, RS_tmp (v := .s (.int _ _)) rfl RS_nil, ?_, .head _⟩
    rw [idxJ, idx_at _ _ i (by rw [Array.length_toList]; exact hi) (by rw [← getD_list]; exact he) (fun j hj => by rw [← getD_list]; exact hno j hj)]
    rfl
  · refine WO_bin rfl rfl (u8_eqF he) ?_
    refine WO_mv rfl ?_
    refine WO_gf rfl rfl (WO_gf rfl rfl (WO_gf rfl rfl (WO_gf rfl rfl (WO_gf rfl rfl ?_))))
    refine WO_pick rfl rfl (WO_nil ?_)
    refine WP_cond rfl (fun h => by cases h) (fun _ => WP_skip ?_)
    refine WP_ops ?_
    refine WO_mv (v := .s (.int _ _)) rfl (WO_add rfl rfl (by omega) (WO_mv (v := .s (.int _ _)) rfl (WO_nil ?_)))
    refine ⟨J.size - (i + 1), _, by omega, .refl _, i + 1, by omega, fun j hj => ?_, rfl, rfl, rfl, rfl, rfl⟩
    by_cases hj2 : j = i
    · rw [hj2]; exact he
    · exact hno j (by omega)
theorem one_no (s J : ByteArray) (k : Nat) (st : Bool) (hs : s.size ≤ 1000) (hJ : J.size ≤ 1000) (h : st = true ∨ takeC s k J = false) :
  RL AM 27 [.ptr 0 0 3, .s (.str J)] [rrB s k st] (.s (.int .i64 (-1))) [rrB s k true] := by
 refine RL_of1 rfl ?_
 refine WR_fn (a := a27) rfl rfl (entryF _) (entry_E (Nat.le_of_ble_eq_true rfl)) (m := 1) rfl ?_
 refine WP_seq (WP_ops (WO_mv rfl (WO_nil ?_)))
 refine WP_seq (WP_ops ?_)
 refine WO_mv rfl ?_
 refine WO_next (b := 0) rfl rfl .here ?_
 refine WO_mv (v := .s (.int _ _)) rfl (WO_nil ?_)
 refine WP_cut (fun f n L => f 0 = .ptr 0 0 3 ∧ L = [(0, rrB s k st)]) ?_ ?_
 ·refine WP_seq (WP_ops (WO_mv rfl (WO_nil ?_)))
  refine WP_block ?_
  refine WP_loop (fun m f nb L => ∃ i : Nat, m + i = J.size ∧ f 0 = .ptr 0 0 3 ∧ f 1 = .s (.str J) ∧ f 5 = .s (.int .u8 ((nxt s k st).toNat : Int)) ∧ f 6 = .s (.int .i64 (i : Int)) ∧ L = [(0, rrB s k st)]) (fun m f nb L hI => ?_) J.size ⟨0, rfl, rfl, rfl, rfl, rfl, rfl⟩
  obtain ⟨i, hm, k0, k1, k5, k6, rfl⟩ := hI
  refine WP_know (d := 0) k0 (WP_know (d := 1) k1 (WP_know (d := 5) k5 (WP_know (d := 6) k6 ?_)))
  refine WP_seq (WP_seq (WP_par ?_))
  refine WO_mv (v := .s (.int _ _)) rfl (WO_mv rfl (WO_lenS rfl ?_))
  by_cases hi : i < J.size
  case neg =>
   refine WO_bin (r := .bool false) rfl rfl (by show some (S.bool (decide _)) = _; rw [decide_eq_false (by omega)]) ?_
   refine WO_mv rfl ?_
   refine WO_gf rfl rfl (WO_gf rfl rfl (WO_gf rfl rfl (WO_gf rfl rfl (WO_gf rfl rfl (WO_gf rfl rfl (WO_gf rfl rfl (WO_gf rfl rfl (WO_gf rfl rfl (WO_gf rfl rfl ?_)))))))))
   refine WO_pick rfl rfl (WO_nil ?_)
   refine WP_cond rfl (fun h => by cases h) (fun _ => ?_)
   exact WP_exit (xhere ⟨_, .refl _, rfl, rfl⟩)
  refine WO_bin (r := .bool true) rfl rfl (by show some (S.bool (decide _)) = _; rw [decide_eq_true (by omega)]) ?_
  refine WO_mv rfl ?_
  refine WO_gt rfl (WO_mv rfl ?_)
  refine WO_gt rfl (WO_nilckP rfl ?_)
  refine WO_gt rfl (WO_fa (o' := 1) rfl rfl rfl ?_)
  refine WO_gt rfl (WO_ldS rfl rfl (.head _) rfl ?_)
  refine WO_gt rfl (WO_mv rfl ?_)
  refine WO_gt rfl (WO_nilckP rfl ?_)
  refine WO_gt rfl (WO_fa (o' := 0) rfl rfl rfl ?_)
  refine WO_gt rfl (WO_ldS rfl rfl (.head _) rfl ?_)
  refine WO_gt rfl (WO_lenS rfl ?_)
  by_cases hk : k < s.size
  case neg =>
   refine WO_gt rfl (WO_bin (r := .bool false) rfl rfl (by show some (S.bool (decide _)) = _; rw [decide_eq_false (by omega)]) ?_)
   refine WO_pick rfl rfl (WO_nil ?_)
   refine WP_cond rfl (fun h => by cases h) (fun _ => ?_)
   exact WP_exit (xhere ⟨_, .refl _, rfl, rfl⟩)
  refine WO_gt rfl (WO_bin (r := .bool true) rfl rfl (by show some (S.bool (decide _)) = _; rw [decide_eq_true (by omega)]) ?_)
  refine WO_pick rfl rfl (WO_nil ?_)
  refine WP_cond rfl (fun _ => WP_skip ?_) (fun h => by cases h)
  refine WP_seq (WP_block (WP_seq (WP_ops ?_)))
  refine WO_mv rfl (WO_mv (v := .s (.int _ _)) rfl ?_)
  refine WO_ixstr rfl rfl (by omega) ?_
  rw [show ((i : Int)).toNat = i by omega]
  refine WO_mv (v := .s (.int _ _)) rfl ?_
  by_cases he : J.data.getD i 0 = nxt s k st
  ·have hst : st = true := by
    rcases h with h | h
    ·exact h
    ·cases st with
     | true => rfl
     | false =>
      exfalso
      rw [nxt, if_neg (by rintro (h | h); cases h; omega)] at he
      unfold takeC hasB at h
      rw [decide_eq_true hk, Bool.true_and, decide_eq_true (idx_some _ _ i (by rw [Array.length_toList]; exact hi) (by rw [← getD_list]; exact he))] at h
      cases h
   subst hst
   refine WO_bin rfl rfl (u8_eqT he) ?_
   refine WO_mv rfl ?_
   refine WO_gt rfl (WO_mv rfl ?_)
   refine WO_gt rfl (WO_nilckP rfl ?_)
   refine WO_gt rfl (WO_fa (o' := 2) rfl rfl rfl ?_)
   refine WO_gt rfl (WO_ldS rfl rfl (.head _) rfl ?_)
   refine WO_gt rfl (WO_un rfl rfl ?_)
   refine WO_pick rfl rfl (WO_nil ?_)
   refine WP_cond rfl (fun h => by cases h) (fun _ => WP_skip ?_)
   refine WP_ops ?_
   refine WO_mv (v := .s (.int _ _)) rfl (WO_add rfl rfl (by omega) (WO_mv (v := .s (.int _ _)) rfl (WO_nil ?_)))
   exact ⟨J.size - (i + 1), _, by omega, .refl _, i + 1, by omega, rfl, rfl, rfl, rfl, rfl⟩
  ·refine WO_bin rfl rfl (u8_eqF he) ?_
   refine WO_mv rfl ?_
   refine WO_gf rfl rfl (WO_gf rfl rfl (WO_gf rfl rfl (WO_gf rfl rfl (WO_gf rfl rfl ?_))))
   refine WO_pick rfl rfl (WO_nil ?_)
   refine WP_cond rfl (fun h => by cases h) (fun _ => WP_skip ?_)
   refine WP_ops ?_
   refine WO_mv (v := .s (.int _ _)) rfl (WO_add rfl rfl (by omega) (WO_mv (v := .s (.int _ _)) rfl (WO_nil ?_)))
   exact ⟨J.size - (i + 1), _, by omega, .refl _, i + 1, by omega, rfl, rfl, rfl, rfl, rfl⟩
 ·rintro f n L ⟨k0, rfl⟩
  refine WP_know (d := 0) k0 ?_
  refine WP_seq (WP_ops ?_)
  refine WO_mv rfl (WO_nilckP rfl (WO_fa (o' := 2) rfl rfl rfl ?_))
  refine WO_st rfl rfl (by simp [V.scells]; rfl) rfl rfl (rr_stuck s k st true) .here (WO_nil ?_)
  refine WP_seq (WP_ops (WO_mv (v := .s (.int _ _)) rfl (WO_nil ?_)))
  exact WP_ret ⟨_, RS_tmp (v := .s (.int _ _)) rfl RS_nil, rfl, .head _⟩
end Go.Proofs.YtlaogmemhephnaaGreatDoor
set_option linter.unusedVariables false
set_option linter.unusedSimpArgs false
namespace Go.Proofs.YtlaogmemhephnaaGreatDoor
open Go Go.Am
section
variable {N : Nat} {f : FE} {n : Nat} {L : HA} {K : KN} {Zp : V → KN} {l : List I}
theorem WO_oneY {od : Option Nat} {x : O} {xs : List O} {b : Nat} {s J : ByteArray} {k : Nat} {L' : HA} (hf : x.fv N f = .fn 27 []) (ha : xs.map (O.fv N f) = [.ptr b 0 3, .s (.str J)]) (hs : s.size ≤ 1000) (hJ : J.size ≤ 1000) (h : takeC s k J = true) (hat : At b (rrB s k false) (rrB s (k + 1) false) L L')
  (kk : WO AM N l (updO f od (.s (.int .i64 (idxJ J (chr s k))))) n L' K Zp) : WO AM N (⟨od, none, .h (.call x xs)⟩ :: l) f n L K Zp :=
 WO_callL (av := [.ptr b 0 3, .s (.str J)]) (rs := [b]) (Bs := [_]) (av' := [.ptr 0 0 3, .s (.str J)]) hf ha rfl (one_yes s J k hs hJ h) (by simp [V.refsL, V.refs, dedup]) (by simp [V.refsL, V.refs]) (by simp [V.refsL, V.refs]) (by simp [rnL, V.renL, V.ren, pos]) ⟨hat.mem, rfl, trivial⟩ rfl rfl (.cons hat .nil) kk
theorem WO_oneN {od : Option Nat} {x : O} {xs : List O} {b : Nat} {s J : ByteArray} {k : Nat} {st : Bool} {L' : HA} (hf : x.fv N f = .fn 27 []) (ha : xs.map (O.fv N f) = [.ptr b 0 3, .s (.str J)]) (hs : s.size ≤ 1000) (hJ : J.size ≤ 1000) (h : st = true ∨ takeC s k J = false) (hat : At b (rrB s k st) (rrB s k true) L L')
  (kk : WO AM N l (updO f od (.s (.int .i64 (-1)))) n L' K Zp) : WO AM N (⟨od, none, .h (.call x xs)⟩ :: l) f n L K Zp :=
 WO_callL (av := [.ptr b 0 3, .s (.str J)]) (rs := [b]) (Bs := [_]) (av' := [.ptr 0 0 3, .s (.str J)]) hf ha rfl (one_no s J k st hs hJ h) (by simp [V.refsL, V.refs, dedup]) (by simp [V.refsL, V.refs]) (by simp [V.refsL, V.refs]) (by simp [rnL, V.renL, V.ren, pos]) ⟨hat.mem, rfl, trivial⟩ rfl rfl (.cons hat .nil) kk
end
theorem nxt_in {s : ByteArray} {k : Nat} (h : k < s.size) : nxt s k false = chr s k := by rw [nxt, if_neg (by rintro (h | h); cases h; omega)]
theorem nxt_out {s : ByteArray} {k : Nat} {st : Bool} (h : st = true ∨ s.size ≤ k) : nxt s k st = 0 := by rw [nxt, if_pos h]
theorem dig_ix : ∀ c : Fin 256, hasB digS (UInt8.ofNat c.val) = decide (48 ≤ c.val ∧ c.val ≤ 57) ∧ (hasB digS (UInt8.ofNat c.val) = true → idxJ digS (UInt8.ofNat c.val) = ((c.val - 48 : Nat) : Int)) := by decide +kernel
theorem dig_has (c : UInt8) : hasB digS c = decide (48 ≤ c.toNat ∧ c.toNat ≤ 57) := by
 have := (dig_ix ⟨c.toNat, c.toNat_lt⟩).1
 simpa only [UInt8.ofNat_toNat] using this
theorem dig_idx {c : UInt8} (h : hasB digS c = true) : idxJ digS c = ((c.toNat - 48 : Nat) : Int) := by
 have := (dig_ix ⟨c.toNat, c.toNat_lt⟩).2
 simp only [UInt8.ofNat_toNat] at this
 exact this h
theorem take_dig {s : ByteArray} {k : Nat} (h : takeC s k digS = true) : nxt s k false = chr s k ∧ 48 ≤ (chr s k).toNat ∧ (chr s k).toNat ≤ 57 := ⟨nxt_in (take_lt h), dig_of (take_has h)⟩
theorem take_nodig {s : ByteArray} {k : Nat} (h : takeC s k digS = false) : (nxt s k false).toNat < 48 ∨ 57 < (nxt s k false).toNat := by
 by_cases hk : k < s.size
 ·rw [nxt_in hk]
  unfold takeC at h
  rw [decide_eq_true hk, Bool.true_and, dig_has] at h
  have := of_decide_eq_false h
  omega
 ·rw [nxt_out (.inr (by omega))]; exact .inl (by decide)
theorem dnum_ok (s : ByteArray) (k : Nat) (hs : s.size ≤ 1000) (h : takeC s k digS = true) :
  RL AM 30 [.ptr 0 0 3] [rrB s k false] (.s (.int .i64 ((numR s 5 (k + 1) (digV s k)).2 : Int))) [rrB s (numR s 5 (k + 1) (digV s k)).1 false] := by
 refine RL_of1 rfl ?_
 refine WR_fn (a := a30) rfl rfl (entryF _) (entry_E (Nat.le_of_ble_eq_true rfl)) (m := 1) rfl ?_
 have hd := dig_of (take_has h)
 refine WP_seq (WP_ops (WO_mv rfl (WO_nil ?_)))
 refine WP_seq (WP_ops (WO_mv rfl ?_))
 refine WO_oneY (b := 0) rfl rfl hs (by decide) h .here ?_
 rw [dig_idx (take_has h)]
 refine WO_mv (v := .s (.int _ _)) rfl (WO_nil ?_)
 have hk := take_lt h
 have hv9 : digV s k < 10 := by unfold digV; omega
 refine WP_cut (fun f n L => f 3 = .s (.int .i64 ((numR s 5 (k + 1) (digV s k)).2 : Int)) ∧ L = [(0, rrB s (numR s 5 (k + 1) (digV s k)).1 false)]) ?_ ?_
 ·refine WP_seq (WP_ops (WO_mv rfl (WO_nil ?_)))
  refine WP_block ?_
  refine WP_loop (fun m f nb L => ∃ (j k' v : Nat), j ≤ 5 ∧ m = j ∧ k' ≤ s.size ∧ v < 10 ^ (6 - j) ∧ numR s j k' v = numR s 5 (k + 1) (digV s k) ∧ f 0 = .ptr 0 0 3 ∧ f 3 = .s (.int .i64 (v : Int)) ∧ f 4 = .s (.int .i64 (5 - (j : Int))) ∧ L = [(0, rrB s k' false)]) (fun m f nb L hI => ?_) 5 ⟨5, k + 1, digV s k, by omega, rfl, by omega, hv9, rfl, rfl, rfl, rfl, rfl⟩
  obtain ⟨j, k', v, hj, hm, hk', hv, he, k0, k3, k4, rfl⟩ := hI
  have hv6 : v < 1000000 := Nat.lt_of_lt_of_le hv (Nat.pow_le_pow_right (by omega) (show 6 - j ≤ 6 by omega))
  refine WP_know (d := 0) k0 (WP_know (d := 3) k3 (WP_know (d := 4) k4 ?_))
  refine WP_seq (WP_seq (WP_ops ?_))
  refine WO_mv (v := .s (.int _ _)) rfl ?_
  by_cases hv0 : 0 < v
  case neg =>
   refine WO_bin (r := .bool false) rfl rfl (by show some (S.bool (decide _)) = _; rw [decide_eq_false (by omega)]) ?_
   refine WO_mv rfl (WO_gf rfl rfl (WO_gf rfl rfl (WO_pick rfl rfl ?_)))
   refine WO_mv rfl (WO_gf rfl rfl (WO_gf rfl rfl (WO_gf rfl rfl (WO_pick rfl rfl ?_))))
   refine WO_mv rfl (WO_gf rfl rfl (WO_gf rfl rfl (WO_gf rfl rfl (WO_pick rfl rfl (WO_nil ?_)))))
   refine WP_cond rfl (fun h => by cases h) (fun _ => ?_)
   refine WP_exit (xhere ?_)
   have e : numR s j k' v = (k', v) := by
    cases j with
    | zero => rfl
    | succ j => rw [numR, if_neg hv0]
   rw [← he, e]
   exact ⟨_, .refl _, rfl, rfl⟩
  refine WO_bin (r := .bool true) rfl rfl (by show some (S.bool (decide _)) = _; rw [decide_eq_true (by omega)]) ?_
  refine WO_mv rfl (WO_gt rfl (WO_mv (v := .s (.int _ _)) rfl ?_))
  cases j with
  | zero =>
   refine WO_gt rfl (WO_bin (r := .bool false) rfl rfl rfl ?_)
   refine WO_pick rfl rfl ?_
   refine WO_mv rfl (WO_gf rfl rfl (WO_gf rfl rfl (WO_gf rfl rfl (WO_pick rfl rfl ?_))))
   refine WO_mv rfl (WO_gf rfl rfl (WO_gf rfl rfl (WO_gf rfl rfl (WO_pick rfl rfl (WO_nil ?_)))))
   refine WP_cond rfl (fun h => by cases h) (fun _ => ?_)
   refine WP_exit (xhere ?_)
   rw [← he]
   exact ⟨_, .refl _, rfl, rfl⟩
  | succ j =>
   refine WO_gt rfl (WO_bin (r := .bool true) rfl rfl (by show some (S.bool (decide _)) = _; rw [decide_eq_true (by omega)]) ?_)
   refine WO_pick rfl rfl ?_
   refine WO_mv rfl (WO_gt rfl (WO_mv rfl ?_))
   refine WO_gt rfl ?_
   refine WO_next (b := 0) rfl rfl .here ?_
   cases ht : takeC s k' digS with
   | false =>
    have e : numR s (j + 1) k' v = (k', v) := by rw [numR, if_pos hv0, if_neg (by rw [ht]; decide)]
    by_cases h48 : 48 ≤ (nxt s k' false).toNat
    ·have h57 : 57 < (nxt s k' false).toNat := by have := take_nodig ht; omega
     refine WO_gt rfl (WO_bin (r := .bool true) rfl rfl (by show some (S.bool (decide _)) = _; rw [decide_eq_true (by omega)]) ?_)
     refine WO_pick rfl rfl ?_
     refine WO_mv rfl (WO_gt rfl (WO_mv rfl ?_))
     refine WO_gt rfl ?_
     refine WO_next (b := 0) rfl rfl .here ?_
     refine WO_gt rfl (WO_bin (r := .bool false) rfl rfl (by show some (S.bool (decide _)) = _; rw [decide_eq_false (by omega)]) ?_)
     refine WO_pick rfl rfl (WO_nil ?_)
     refine WP_cond rfl (fun h => by cases h) (fun _ => ?_)
     refine WP_exit (xhere ?_)
     rw [← he, e]
     exact ⟨_, .refl _, rfl, rfl⟩
    ·refine WO_gt rfl (WO_bin (r := .bool false) rfl rfl (by show some (S.bool (decide _)) = _; rw [decide_eq_false (by omega)]) ?_)
     refine WO_pick rfl rfl ?_
     refine WO_mv rfl (WO_gf rfl rfl (WO_gf rfl rfl (WO_gf rfl rfl (WO_pick rfl rfl (WO_nil ?_)))))
     refine WP_cond rfl (fun h => by cases h) (fun _ => ?_)
     refine WP_exit (xhere ?_)
     rw [← he, e]
     exact ⟨_, .refl _, rfl, rfl⟩
   | true =>
    obtain ⟨hn, hd1, hd2⟩ := take_dig ht
    have hk2 := take_lt ht
    rw [hn]
    refine WO_gt rfl (WO_bin (r := .bool true) rfl rfl (by show some (S.bool (decide _)) = _; rw [decide_eq_true (by omega)]) ?_)
    refine WO_pick rfl rfl ?_
    refine WO_mv rfl (WO_gt rfl (WO_mv rfl ?_))
    refine WO_gt rfl ?_
    refine WO_next (b := 0) rfl rfl .here ?_
    rw [hn]
    refine WO_gt rfl (WO_bin (r := .bool true) rfl rfl (by show some (S.bool (decide _)) = _; rw [decide_eq_true (by omega)]) ?_)
    refine WO_pick rfl rfl (WO_nil ?_)
    refine WP_cond rfl (fun _ => WP_skip ?_) (fun h => by cases h)
    refine WP_seq (WP_block (WP_seq (WP_ops ?_)))
    refine WO_mv (v := .s (.int _ _)) rfl (WO_mul rfl rfl (by omega) (WO_mv rfl ?_))
    refine WO_next (b := 0) rfl rfl .here ?_
    rw [hn]
    refine WO_bin rfl rfl (u8_sub hd1 (chr s k').toNat_lt) ?_
    refine WO_conv (a := ((digV s k' : Nat) : Int)) rfl (IntWalk.i64_in _ (by unfold digV; omega)) ?_
    refine WO_add rfl rfl (by unfold digV; omega) ?_
    refine WO_mv (v := .s (.int _ _)) rfl (WO_nil ?_)
    refine WP_ops ?_
    refine WO_mv rfl (WO_nilckP rfl (WO_fa (o' := 1) rfl rfl rfl ?_))
    refine WO_ldS rfl rfl (.head _) rfl ?_
    refine WO_add rfl rfl (by omega) ?_
    refine WO_nilckP rfl (WO_fa (o' := 1) rfl rfl rfl ?_)
    refine WO_st rfl rfl (by simp [V.scells]; rfl) rfl rfl (rr_at s k' (k' + 1) false _ (by omega)) .here (WO_nil ?_)
    refine WP_ops ?_
    refine WO_mv (v := .s (.int _ _)) rfl (WO_add rfl rfl (by omega) (WO_mv (v := .s (.int _ _)) rfl (WO_nil ?_)))
    refine ⟨j, _, by omega, .refl _, j, k' + 1, 10 * v + digV s k', by omega, rfl, by omega, ?_, ?_, rfl, by rw [show ((10 * v + digV s k' : Nat) : Int) = 10 * (v : Int) + (digV s k' : Int) by omega]; rfl, by rw [show (5 - (j : Int)) = 5 - ((j + 1 : Nat) : Int) + 1 by omega]; rfl, rfl⟩
    ·have hp : 10 ^ (6 - j) = 10 * 10 ^ (6 - (j + 1)) := by
      rw [show 6 - j = (6 - (j + 1)) + 1 by omega, Nat.pow_succ, Nat.mul_comm]
     unfold digV
     rw [hp]; omega
    ·rw [← he]
     show _ = numR s (j + 1) k' v
     rw [numR, if_pos hv0, if_pos ht]
 rintro f n L ⟨k3, rfl⟩
 refine WP_know (d := 3) k3 ?_
 refine WP_seq (WP_ops (WO_mv (v := .s (.int _ _)) rfl (WO_mv (v := .s (.int _ _)) rfl (WO_nil ?_))))
 exact WP_ret ⟨_, RS_tmp (v := .s (.int _ _)) rfl RS_nil, rfl, .head _⟩
theorem dnum_no (s : ByteArray) (k : Nat) (st : Bool) (hs : s.size ≤ 1000) (h : st = true ∨ takeC s k digS = false) :
  RL AM 30 [.ptr 0 0 3] [rrB s k st] (.s (.int .i64 (-1))) [rrB s k true] := by
 refine RL_of1 rfl ?_
 refine WR_fn (a := a30) rfl rfl (entryF _) (entry_E (Nat.le_of_ble_eq_true rfl)) (m := 1) rfl ?_
 refine WP_seq (WP_ops (WO_mv rfl (WO_nil ?_)))
 refine WP_seq (WP_ops (WO_mv rfl ?_))
 refine WO_oneN (b := 0) rfl rfl hs (by decide) h .here ?_
 refine WO_mv (v := .s (.int _ _)) rfl (WO_nil ?_)
 refine WP_seq (WP_seq (WP_ops (WO_mv rfl (WO_nil ?_))))
 refine WP_block (WP_unroll ?_)
 refine WP_seq (WP_seq (WP_ops ?_))
 refine WO_mv (v := .s (.int _ _)) rfl ?_
 refine WO_bin (r := .bool false) rfl rfl rfl ?_
 refine WO_mv rfl (WO_gf rfl rfl (WO_gf rfl rfl (WO_pick rfl rfl ?_)))
 refine WO_mv rfl (WO_gf rfl rfl (WO_gf rfl rfl (WO_gf rfl rfl (WO_pick rfl rfl ?_))))
 refine WO_mv rfl (WO_gf rfl rfl (WO_gf rfl rfl (WO_gf rfl rfl (WO_pick rfl rfl (WO_nil ?_)))))
 refine WP_cond rfl (fun h => by cases h) (fun _ => ?_)
 refine WP_exit (xhere ?_)
 refine WP_seq (WP_ops (WO_mv (v := .s (.int _ _)) rfl (WO_mv (v := .s (.int _ _)) rfl (WO_nil ?_))))
 exact WP_ret ⟨_, RS_tmp (v := .s (.int _ _)) rfl RS_nil, rfl, .head _⟩
theorem lin_ix : ∀ c : Fin 256, hasB linS (UInt8.ofNat c.val) = Nat.beq c.val 45 := by decide +kernel
theorem nxt_lin {s : ByteArray} {k : Nat} : binS .eql (.int .u8 ((nxt s k false).toNat : Int)) (.int .u8 45) = some (.bool (takeC s k linS)) := by
 show some (S.bool (_ == _)) = _
 congr 2
 by_cases hk : k < s.size
 ·rw [nxt_in hk]
  unfold takeC
  rw [decide_eq_true hk, Bool.true_and]
  have := lin_ix ⟨(chr s k).toNat, (chr s k).toNat_lt⟩
  simp only [UInt8.ofNat_toNat] at this
  rw [this]
  rw [Bool.eq_iff_iff, beq_iff_eq, Nat.beq_eq]
  omega
 ·rw [nxt_out (.inr (by omega))]
  unfold takeC
  rw [decide_eq_false hk, Bool.false_and]; rfl
theorem fil_ix : ∀ c : Fin 256, hasB filS (UInt8.ofNat c.val) = true → idxJ filS (UInt8.ofNat c.val) = ((c.val - 97 : Nat) : Int) := by decide +kernel
theorem fil_idx {c : UInt8} (h : hasB filS c = true) : idxJ filS c = ((c.toNat - 97 : Nat) : Int) := by
 have := fil_ix ⟨c.toNat, c.toNat_lt⟩
 simp only [UInt8.ofNat_toNat] at this
 exact this h
theorem rnk_ix : ∀ c : Fin 256, hasB rnkS (UInt8.ofNat c.val) = true → idxJ rnkS (UInt8.ofNat c.val) = ((c.val - 49 : Nat) : Int) := by decide +kernel
theorem rnk_idx {c : UInt8} (h : hasB rnkS c = true) : idxJ rnkS c = ((c.toNat - 49 : Nat) : Int) := by
 have := rnk_ix ⟨c.toNat, c.toNat_lt⟩
 simp only [UInt8.ofNat_toNat] at this
 exact this h
def DDoes (fid : FuncId) (s : ByteArray) (k : Nat) (r : Except Nat (Int × Nat)) : Prop :=
 match r with
 | .ok (x, k') => RL AM fid [.ptr 0 0 3] [rrB s k false] (.s (.int .i64 x)) [rrB s k' false]
 | .error e => ∃ x, RL AM fid [.ptr 0 0 3] [rrB s k false] (.s (.int .i64 x)) [rrB s e true]
theorem dover_does (s : ByteArray) (k : Nat) (hs : s.size ≤ 1000) : DDoes 29 s k (overR s k) := by
 have start : ∀ {K : KR}, WP AM a29.nt a29.body (entryF [.ptr 0 0 3]) 1 (known 0 [rrB s k false]) (fun f n L => ∃ vs, RS a29.nt f L a29.res vs ∧ K (retV vs) n L) (fun _ _ _ _ => False) (fun f n L => ∃ vs, RS a29.nt f L a29.res vs ∧ K (retV vs) n L) (fun v _ n L => K (.pan v) n L) → WR AM 29 [.ptr 0 0 3] [rrB s k false] K := fun h =>
  WR_fn (a := a29) rfl rfl (entryF _) (entry_E (Nat.le_of_ble_eq_true rfl)) (m := 1) rfl h
 unfold overR
 cases h1 : takeC s k linS with
 | true =>
  rw [if_pos rfl]
  have hk := take_lt h1
  refine RL_of1 rfl (start ?_)
  refine WP_seq (WP_ops (WO_mv rfl (WO_nil ?_)))
  refine WP_seq (WP_seq (WP_ops ?_))
  refine WO_mv rfl (WO_next (b := 0) rfl rfl .here ?_)
  refine WO_bin rfl rfl nxt_lin (WO_nil ?_)
  rw [h1]
  refine WP_cond rfl (fun _ => ?_) (fun h => by cases h)
  refine WP_seq (WP_ops ?_)
  refine WO_mv rfl (WO_nilckP rfl (WO_fa (o' := 1) rfl rfl rfl ?_))
  refine WO_ldS rfl rfl (.head _) rfl ?_
  refine WO_add rfl rfl (by omega) ?_
  refine WO_nilckP rfl (WO_fa (o' := 1) rfl rfl rfl ?_)
  refine WO_st rfl rfl (by simp [V.scells]; rfl) rfl rfl (rr_at s k (k + 1) false _ (by omega)) .here (WO_nil ?_)
  refine WP_seq (WP_ops (WO_mv rfl (WO_nil ?_)))
  exact WP_ret ⟨_, RS_tmp (v := .s (.int _ _)) rfl RS_nil, rfl, .head _⟩
 | false =>
  rw [if_neg (by decide)]
  cases h2 : takeC s k filS with
  | false =>
   rw [if_neg (by decide)]
   refine ⟨-9, RL_of1 rfl (start ?_)⟩
   refine WP_seq (WP_ops (WO_mv rfl (WO_nil ?_)))
   refine WP_seq (WP_seq (WP_ops ?_))
   refine WO_mv rfl (WO_next (b := 0) rfl rfl .here ?_)
   refine WO_bin rfl rfl nxt_lin (WO_nil ?_)
   rw [h1]
   refine WP_cond rfl (fun h => by cases h) (fun _ => WP_skip ?_)
   refine WP_seq (WP_ops (WO_mv rfl (WO_oneN (b := 0) rfl rfl hs (by decide) (.inr h2) .here ?_)))
   refine WO_mv (v := .s (.int _ _)) rfl (WO_nil ?_)
   refine WP_seq (WP_ops (WO_mv rfl (WO_oneN (b := 0) rfl rfl hs (by decide) (.inl rfl) .here ?_)))
   refine WO_mv (v := .s (.int _ _)) rfl (WO_nil ?_)
   refine WP_seq (WP_ops ?_)
   refine WO_mv (v := .s (.int _ _)) rfl (WO_mul rfl rfl (by omega) (WO_mv (v := .s (.int _ _)) rfl (WO_add rfl rfl (by omega) (WO_mv (v := .s (.int _ _)) rfl (WO_nil ?_)))))
   exact WP_ret ⟨_, RS_tmp (v := .s (.int _ _)) rfl RS_nil, rfl, .head _⟩
  | true =>
   rw [if_pos rfl]
   have hf := fil_of (take_has h2)
   cases h3 : takeC s (k + 1) rnkS with
   | false =>
    rw [if_neg (by decide)]
    refine ⟨8 * -1 + ((chr s k).toNat - 97 : Nat), RL_of1 rfl (start ?_)⟩
    refine WP_seq (WP_ops (WO_mv rfl (WO_nil ?_)))
    refine WP_seq (WP_seq (WP_ops ?_))
    refine WO_mv rfl (WO_next (b := 0) rfl rfl .here ?_)
    refine WO_bin rfl rfl nxt_lin (WO_nil ?_)
    rw [h1]
    refine WP_cond rfl (fun h => by cases h) (fun _ => WP_skip ?_)
    refine WP_seq (WP_ops (WO_mv rfl (WO_oneY (b := 0) rfl rfl hs (by decide) h2 .here ?_)))
    rw [fil_idx (take_has h2)]
    refine WO_mv (v := .s (.int _ _)) rfl (WO_nil ?_)
    refine WP_seq (WP_ops (WO_mv rfl (WO_oneN (b := 0) rfl rfl hs (by decide) (.inr h3) .here ?_)))
    refine WO_mv (v := .s (.int _ _)) rfl (WO_nil ?_)
    refine WP_seq (WP_ops ?_)
    refine WO_mv (v := .s (.int _ _)) rfl (WO_mul rfl rfl (by omega) (WO_mv (v := .s (.int _ _)) rfl (WO_add rfl rfl (by omega) (WO_mv (v := .s (.int _ _)) rfl (WO_nil ?_)))))
    exact WP_ret ⟨_, RS_tmp (v := .s (.int _ _)) rfl RS_nil, rfl, .head _⟩
   | true =>
    rw [if_pos rfl]
    have hr := rnk_of (take_has h3)
    refine RL_of1 rfl (start ?_)
    refine WP_seq (WP_ops (WO_mv rfl (WO_nil ?_)))
    refine WP_seq (WP_seq (WP_ops ?_))
    refine WO_mv rfl (WO_next (b := 0) rfl rfl .here ?_)
    refine WO_bin rfl rfl nxt_lin (WO_nil ?_)
    rw [h1]
    refine WP_cond rfl (fun h => by cases h) (fun _ => WP_skip ?_)
    refine WP_seq (WP_ops (WO_mv rfl (WO_oneY (b := 0) rfl rfl hs (by decide) h2 .here ?_)))
    rw [fil_idx (take_has h2)]
    refine WO_mv (v := .s (.int _ _)) rfl (WO_nil ?_)
    refine WP_seq (WP_ops (WO_mv rfl (WO_oneY (b := 0) rfl rfl hs (by decide) h3 .here ?_)))
    rw [rnk_idx (take_has h3)]
    refine WO_mv (v := .s (.int _ _)) rfl (WO_nil ?_)
    refine WP_seq (WP_ops ?_)
    refine WO_mv (v := .s (.int _ _)) rfl (WO_mul rfl rfl (by omega) (WO_mv (v := .s (.int _ _)) rfl (WO_add rfl rfl (by omega) (WO_mv (v := .s (.int _ _)) rfl (WO_nil ?_)))))
    refine WP_ret ⟨_, RS_tmp (v := .s (.int _ _)) rfl RS_nil, ?_, .head _⟩
    show V.s (.int .i64 (8 * ((((chr s (k + 1)).toNat - 49 : Nat)) : Int) + (((chr s k).toNat - 97 : Nat) : Int))) = _
    congr 2
end Go.Proofs.YtlaogmemhephnaaGreatDoor
set_option linter.unusedVariables false
set_option linter.unusedSimpArgs false
namespace Go.Proofs.YtlaogmemhephnaaGreatDoor
open Go Go.Am
abbrev kqB (m : Nat) : UInt8 := castS.data.getD m 0
def refC (s : ByteArray) : Nat → Nat → Nat → Int → Int × Nat
 | 0, _, k, C => (C, k)
 | j + 1, m, k, C => if nxt s k false = kqB m then refC s j (m + 1) (k + 1) (C + 2 ^ m) else refC s j (m + 1) k C
theorem cst_ix : ∀ (m : Fin 4) (c : Fin 256), hasB (castL m.val) (UInt8.ofNat c.val) = (Nat.beq c.val (kqB m.val).toNat || hasB (castL (m.val + 1)) (UInt8.ofNat c.val)) := by decide +kernel
theorem cst_at : ∀ m : Fin 4, ixC (kqB m.val) = (m.val : Int) ∧ kqB m.val ≠ 0 := by decide +kernel
theorem cst_4 : ∀ c : Fin 256, hasB (castL 4) (UInt8.ofNat c.val) = false := by decide +kernel
theorem cst_has {m : Nat} (h : m < 4) (c : UInt8) : hasB (castL m) c = (Nat.beq c.toNat (kqB m).toNat || hasB (castL (m + 1)) c) := by
 have := cst_ix ⟨m, h⟩ ⟨c.toNat, c.toNat_lt⟩
 simpa only [UInt8.ofNat_toNat] using this
theorem ref_cst (s : ByteArray) : ∀ (d m j k : Nat) (C : Int), d + m = 4 → d ≤ j → refC s d m k C = cstR s j m k C
 | 0, m, j, k, C, hm, _ => by
  obtain rfl : m = 4 := by omega
  cases j with
  | zero => rfl
  | succ j =>
   have h : takeC s k (castL 4) = false := by
    have := cst_4 ⟨(chr s k).toNat, (chr s k).toNat_lt⟩
    simp only [UInt8.ofNat_toNat] at this
    unfold takeC
    rw [this, Bool.and_false]
   rw [cstR, if_neg (by rw [h]; decide)]; rfl
 | d + 1, m, j, k, C, hm, hj => by
  obtain ⟨j, rfl⟩ : ∃ i, j = i + 1 := ⟨j - 1, by omega⟩
  have h4 : m < 4 := by omega
  have hc := cst_has h4 (chr s k)
  have hat := cst_at ⟨m, h4⟩
  rw [refC]
  by_cases hn : nxt s k false = kqB m
  ·rw [if_pos hn]
   have hk : k < s.size := by
    refine Nat.lt_of_not_le fun hge => ?_
    rw [nxt_out (.inr hge)] at hn
    exact hat.2 hn.symm
   rw [nxt_in hk] at hn
   have ht : takeC s k (castL m) = true := by
    unfold takeC
    rw [decide_eq_true hk, hc, hn, show Nat.beq (kqB m).toNat (kqB m).toNat = true from Nat.beq_refl _]; rfl
   rw [cstR, if_pos ht, hn, hat.1]
   exact ref_cst s d (m + 1) j (k + 1) (C + 2 ^ m) (by omega) (by omega)
  ·rw [if_neg hn, ref_cst s d (m + 1) (j + 1) k C (by omega) (by omega)]
   have ht : takeC s k (castL m) = takeC s k (castL (m + 1)) := by
    unfold takeC
    by_cases hk : k < s.size
    ·rw [nxt_in hk] at hn
     rw [hc, beq_no (fun e => hn (UInt8.toNat_inj.1 e)), Bool.false_or]
    ·rw [decide_eq_false hk, Bool.false_and, Bool.false_and]
   rw [cstR, cstR, ht]
theorem cstR_ge (s : ByteArray) : ∀ (j m k : Nat) (C : Int), C ≤ (cstR s j m k C).1
 | 0, _, _, C => Int.le_refl C
 | j + 1, m, k, C => by
  rw [cstR]
  split
  ·refine Int.le_trans ?_ (cstR_ge s j _ _ _)
   have : (0 : Int) ≤ 2 ^ (ixC (chr s k)).toNat := Int.le_of_lt (Int.pow_pos (by decide))
   omega
  ·exact Int.le_refl C
theorem ref_castle (s : ByteArray) (k : Nat) (h : takeC s k linS = false) : castleR s k = if (refC s 4 0 k 0).1 = 0 then .error (refC s 4 0 k 0).2 else .ok (refC s 4 0 k 0) := by
 have e := ref_cst s 4 0 5 k 0 rfl (by omega)
 unfold castleR
 rw [if_neg (by rw [h]; decide), e]
 cases ht : takeC s k (castL 0) with
 | false =>
  have : cstR s 5 0 k 0 = (0, k) := by rw [cstR, if_neg (by rw [ht]; decide)]
  rw [this, if_neg (by decide), if_pos rfl]
 | true =>
  rw [if_pos rfl, if_neg]
  have : cstR s 5 0 k 0 = cstR s 4 ((ixC (chr s k)).toNat + 1) (k + 1) (0 + 2 ^ (ixC (chr s k)).toNat) := by rw [cstR, if_pos ht]
  rw [this]
  have hge := cstR_ge s 4 ((ixC (chr s k)).toNat + 1) (k + 1) (0 + 2 ^ (ixC (chr s k)).toNat)
  have : (0 : Int) < 2 ^ (ixC (chr s k)).toNat := Int.pow_pos (by decide)
  omega
theorem dcastle_does (s : ByteArray) (k : Nat) (hs : s.size ≤ 1000) (hk : k ≤ s.size) : DDoes 28 s k (castleR s k) := by
 have start : ∀ {K : KR}, WP AM a28.nt a28.body (entryF [.ptr 0 0 3]) 1 (known 0 [rrB s k false]) (fun f n L => ∃ vs, RS a28.nt f L a28.res vs ∧ K (retV vs) n L) (fun _ _ _ _ => False) (fun f n L => ∃ vs, RS a28.nt f L a28.res vs ∧ K (retV vs) n L) (fun v _ n L => K (.pan v) n L) → WR AM 28 [.ptr 0 0 3] [rrB s k false] K := fun h =>
  WR_fn (a := a28) rfl rfl (entryF _) (entry_E (Nat.le_of_ble_eq_true rfl)) (m := 1) rfl h
 cases h1 : takeC s k linS with
 | true =>
  unfold castleR
  rw [if_pos h1]
  have hk := take_lt h1
  refine RL_of1 rfl (start ?_)
  refine WP_seq (WP_ops (WO_mv rfl (WO_nil ?_)))
  refine WP_seq (WP_seq (WP_ops ?_))
  refine WO_mv rfl (WO_next (b := 0) rfl rfl .here ?_)
  refine WO_bin rfl rfl nxt_lin (WO_nil ?_)
  rw [h1]
  refine WP_cond rfl (fun _ => ?_) (fun h => by cases h)
  refine WP_seq (WP_ops ?_)
  refine WO_mv rfl (WO_nilckP rfl (WO_fa (o' := 1) rfl rfl rfl ?_))
  refine WO_ldS rfl rfl (.head _) rfl ?_
  refine WO_add rfl rfl (by omega) ?_
  refine WO_nilckP rfl (WO_fa (o' := 1) rfl rfl rfl ?_)
  refine WO_st rfl rfl (by simp [V.scells]; rfl) rfl rfl (rr_at s k (k + 1) false _ (by omega)) .here (WO_nil ?_)
  refine WP_seq (WP_ops (WO_mv rfl (WO_nil ?_)))
  exact WP_ret ⟨_, RS_tmp (v := .s (.int _ _)) rfl RS_nil, rfl, .head _⟩
 | false =>
  have loop : ∀ {K : KR}, (∀ {f : FE} {n : Nat}, f 0 = .ptr 0 0 3 → f 3 = .s (.int .i64 (refC s 4 0 k 0).1) → WP AM a28.nt (qR (qR (qR (qR a28.body)))) f n [(0, rrB s (refC s 4 0 k 0).2 false)] (fun f n L => ∃ vs, RS a28.nt f L a28.res vs ∧ K (retV vs) n L) (fun _ _ _ _ => False) (fun f n L => ∃ vs, RS a28.nt f L a28.res vs ∧ K (retV vs) n L) (fun v _ n L => K (.pan v) n L)) → WR AM 28 [.ptr 0 0 3] [rrB s k false] K := by
   intro K hrest
   refine start ?_
   refine WP_seq (WP_ops (WO_mv rfl (WO_nil ?_)))
   refine WP_seq (WP_seq (WP_ops ?_))
   refine WO_mv rfl (WO_next (b := 0) rfl rfl .here ?_)
   refine WO_bin rfl rfl nxt_lin (WO_nil ?_)
   rw [h1]
   refine WP_cond rfl (fun h => by cases h) (fun _ => WP_skip ?_)
   refine WP_seq (WP_ops (WO_mv rfl (WO_nil ?_)))
   refine WP_cut (fun f n L => f 0 = .ptr 0 0 3 ∧ f 3 = .s (.int .i64 (refC s 4 0 k 0).1) ∧ L = [(0, rrB s (refC s 4 0 k 0).2 false)]) ?_ ?_
   ·refine WP_seq (WP_ops (WO_mv rfl (WO_nil ?_)))
    refine WP_block ?_
    refine WP_loop (fun m f nb L => ∃ (j i k' : Nat) (C : Int), m = j ∧ j + i = 4 ∧ k' ≤ s.size ∧ 0 ≤ C ∧ C < 2 ^ i ∧ refC s j i k' C = refC s 4 0 k 0 ∧ f 0 = .ptr 0 0 3 ∧ f 3 = .s (.int .i64 C) ∧ f 4 = .s (.int .i64 (i : Int)) ∧ L = [(0, rrB s k' false)]) (fun m f nb L hI => ?_) 4 ⟨4, 0, k, 0, rfl, rfl, hk, by omega, by decide, rfl, rfl, rfl, rfl, rfl⟩
    obtain ⟨j, i, k', C, hm, hji, hk', hC0, hC1, he, k0, k3, k4, rfl⟩ := hI
    refine WP_know (d := 0) k0 (WP_know (d := 3) k3 (WP_know (d := 4) k4 ?_))
    refine WP_seq (WP_seq (WP_ops ?_))
    refine WO_mv (v := .s (.int _ _)) rfl ?_
    cases j with
    | zero =>
     refine WO_bin (r := .bool false) rfl rfl (by show some (S.bool (decide _)) = _; rw [decide_eq_false (by omega)]) (WO_nil ?_)
     refine WP_cond rfl (fun h => by cases h) (fun _ => ?_)
     refine WP_exit (xhere ?_)
     rw [← he]
     exact ⟨_, .refl _, rfl, rfl, rfl⟩
    | succ j =>
     have hi4 : i < 4 := by omega
     have hCb : C < 16 := Int.lt_of_lt_of_le hC1 (by
      have : i = 0 ∨ i = 1 ∨ i = 2 ∨ i = 3 := by omega
      rcases this with rfl | rfl | rfl | rfl <;> decide)
     have h2i : (0 : Int) ≤ 2 ^ i ∧ (2 : Int) ^ i ≤ 16 ∧ (2 : Int) ^ (i + 1) = 2 ^ i + 2 ^ i := by
      have : i = 0 ∨ i = 1 ∨ i = 2 ∨ i = 3 := by omega
      rcases this with rfl | rfl | rfl | rfl <;> decide
     refine WO_bin (r := .bool true) rfl rfl (by show some (S.bool (decide _)) = _; rw [decide_eq_true (by omega)]) (WO_nil ?_)
     refine WP_cond rfl (fun _ => WP_skip ?_) (fun h => by cases h)
     refine WP_seq (WP_block (WP_seq (WP_par ?_)))
     refine WO_mv rfl (WO_next (b := 0) rfl rfl .here ?_)
     refine WO_mv (v := .s (.int _ _)) rfl ?_
     refine WO_ixstr rfl rfl (by show _ ∧ _ < ((4 : Nat) : Int); omega) ?_
     rw [show ((i : Int)).toNat = i by omega]
     by_cases hn : nxt s k' false = kqB i
     ·have hk2 : k' < s.size := by
       refine Nat.lt_of_not_le fun hge => ?_
       rw [nxt_out (.inr hge)] at hn
       exact (cst_at ⟨i, hi4⟩).2 hn.symm
      refine WO_bin rfl rfl (u8_eqT hn) (WO_nil ?_)
      refine WP_cond rfl (fun _ => ?_) (fun h => by cases h)
      refine WP_seq (WP_ops ?_)
      refine WO_mv (v := .s (.int _ _)) rfl (WO_mv (v := .s (.int _ _)) rfl ?_)
      refine WO_bin rfl rfl (shl_ix hi4) ?_
      refine WO_add rfl rfl (by omega) (WO_mv (v := .s (.int _ _)) rfl (WO_nil ?_))
      refine WP_ops ?_
      refine WO_mv rfl (WO_nilckP rfl (WO_fa (o' := 1) rfl rfl rfl ?_))
      refine WO_ldS rfl rfl (.head _) rfl ?_
      refine WO_add rfl rfl (by omega) ?_
      refine WO_nilckP rfl (WO_fa (o' := 1) rfl rfl rfl ?_)
      refine WO_st rfl rfl (by simp [V.scells]; rfl) rfl rfl (rr_at s k' (k' + 1) false _ (by omega)) .here (WO_nil ?_)
      refine WP_ops ?_
      refine WO_mv (v := .s (.int _ _)) rfl (WO_add rfl rfl (by omega) (WO_mv (v := .s (.int _ _)) rfl (WO_nil ?_)))
      refine ⟨j, _, by omega, .refl _, j, i + 1, k' + 1, C + 2 ^ i, rfl, by omega, by omega, by omega, by omega, ?_, rfl, rfl, rfl, rfl⟩
      rw [← he, refC, if_pos hn]
     ·refine WO_bin rfl rfl (u8_eqF hn) (WO_nil ?_)
      refine WP_cond rfl (fun h => by cases h) (fun _ => WP_skip ?_)
      refine WP_ops ?_
      refine WO_mv (v := .s (.int _ _)) rfl (WO_add rfl rfl (by omega) (WO_mv (v := .s (.int _ _)) rfl (WO_nil ?_)))
      refine ⟨j, _, by omega, .refl _, j, i + 1, k', C, rfl, by omega, by omega, by omega, by omega, ?_, rfl, rfl, rfl, rfl⟩
      rw [← he, refC, if_neg hn]
   ·rintro f n L ⟨k0, k3, rfl⟩
    exact hrest k0 k3
  rw [ref_castle s k h1]
  by_cases hz : (refC s 4 0 k 0).1 = 0
  ·rw [if_pos hz]
   refine ⟨0, RL_of1 rfl (loop ?_)⟩
   intro f n k0 k3
   rw [hz] at k3
   refine WP_know (d := 0) k0 (WP_know (d := 3) k3 ?_)
   refine WP_seq (WP_seq (WP_ops ?_))
   refine WO_mv (v := .s (.int _ _)) rfl (WO_bin (r := .bool true) rfl rfl rfl (WO_nil ?_))
   refine WP_cond rfl (fun _ => ?_) (fun h => by cases h)
   refine WP_ops ?_
   refine WO_mv rfl (WO_nilckP rfl (WO_fa (o' := 2) rfl rfl rfl ?_))
   refine WO_st rfl rfl (by simp [V.scells]; rfl) rfl rfl (rr_stuck s _ false true) .here (WO_nil ?_)
   refine WP_seq (WP_ops (WO_mv (v := .s (.int _ _)) rfl (WO_mv (v := .s (.int _ _)) rfl (WO_nil ?_))))
   exact WP_ret ⟨_, RS_tmp (v := .s (.int _ _)) rfl RS_nil, rfl, .head _⟩
  ·rw [if_neg hz]
   refine RL_of1 rfl (loop ?_)
   intro f n k0 k3
   refine WP_know (d := 0) k0 (WP_know (d := 3) k3 ?_)
   refine WP_seq (WP_seq (WP_ops ?_))
   refine WO_mv (v := .s (.int _ _)) rfl (WO_bin (r := .bool false) rfl rfl (by show some (S.bool (_ == _)) = _; rw [beq_eq_false_iff_ne.2 hz]) (WO_nil ?_))
   refine WP_cond rfl (fun h => by cases h) (fun _ => WP_skip ?_)
   refine WP_seq (WP_ops (WO_mv (v := .s (.int _ _)) rfl (WO_mv (v := .s (.int _ _)) rfl (WO_nil ?_))))
   exact WP_ret ⟨_, RS_tmp (v := .s (.int _ _)) rfl RS_nil, rfl, .head _⟩
def DStuck (fid : FuncId) (s : ByteArray) (k : Nat) : Prop := ∃ x, RL AM fid [.ptr 0 0 3] [rrB s k true] (.s (.int .i64 x)) [rrB s k true]
theorem dnum_stuck (s : ByteArray) (k : Nat) (hs : s.size ≤ 1000) : DStuck 30 s k := ⟨-1, dnum_no s k true hs (.inl rfl)⟩
theorem nxt_stuck {s : ByteArray} {k : Nat} : binS .eql (.int .u8 ((nxt s k true).toNat : Int)) (.int .u8 45) = some (.bool false) := by rw [nxt_out (.inl rfl)]; rfl
theorem dover_stuck (s : ByteArray) (k : Nat) (hs : s.size ≤ 1000) : DStuck 29 s k := by
 refine ⟨-9, RL_of1 rfl ?_⟩
 refine WR_fn (a := a29) rfl rfl (entryF _) (entry_E (Nat.le_of_ble_eq_true rfl)) (m := 1) rfl ?_
 refine WP_seq (WP_ops (WO_mv rfl (WO_nil ?_)))
 refine WP_seq (WP_seq (WP_ops ?_))
 refine WO_mv rfl (WO_next (b := 0) rfl rfl .here ?_)
 refine WO_bin rfl rfl nxt_stuck (WO_nil ?_)
 refine WP_cond rfl (fun h => by cases h) (fun _ => WP_skip ?_)
 refine WP_seq (WP_ops (WO_mv rfl (WO_oneN (b := 0) rfl rfl hs (by decide) (.inl rfl) .here ?_)))
 refine WO_mv (v := .s (.int _ _)) rfl (WO_nil ?_)
 refine WP_seq (WP_ops (WO_mv rfl (WO_oneN (b := 0) rfl rfl hs (by decide) (.inl rfl) .here ?_)))
 refine WO_mv (v := .s (.int _ _)) rfl (WO_nil ?_)
 refine WP_seq (WP_ops ?_)
 refine WO_mv (v := .s (.int _ _)) rfl (WO_mul rfl rfl (by omega) (WO_mv (v := .s (.int _ _)) rfl (WO_add rfl rfl (by omega) (WO_mv (v := .s (.int _ _)) rfl (WO_nil ?_)))))
 exact WP_ret ⟨_, RS_tmp (v := .s (.int _ _)) rfl RS_nil, rfl, .head _⟩
theorem dcastle_stuck (s : ByteArray) (k : Nat) (hs : s.size ≤ 1000) : DStuck 28 s k := by
 refine ⟨0, RL_of1 rfl ?_⟩
 refine WR_fn (a := a28) rfl rfl (entryF _) (entry_E (Nat.le_of_ble_eq_true rfl)) (m := 1) rfl ?_
 refine WP_seq (WP_ops (WO_mv rfl (WO_nil ?_)))
 refine WP_seq (WP_seq (WP_ops ?_))
 refine WO_mv rfl (WO_next (b := 0) rfl rfl .here ?_)
 refine WO_bin rfl rfl nxt_stuck (WO_nil ?_)
 refine WP_cond rfl (fun h => by cases h) (fun _ => WP_skip ?_)
 refine WP_seq (WP_ops (WO_mv rfl (WO_nil ?_)))
 refine WP_cut (fun f n L => f 0 = .ptr 0 0 3 ∧ f 3 = .s (.int .i64 0) ∧ L = [(0, rrB s k true)]) ?_ ?_
 ·refine WP_seq (WP_ops (WO_mv rfl (WO_nil ?_)))
  refine WP_block ?_
  refine WP_loop (fun m f nb L => ∃ (j i : Nat), m = j ∧ j + i = 4 ∧ f 0 = .ptr 0 0 3 ∧ f 3 = .s (.int .i64 0) ∧ f 4 = .s (.int .i64 (i : Int)) ∧ L = [(0, rrB s k true)]) (fun m f nb L hI => ?_) 4 ⟨4, 0, rfl, rfl, rfl, rfl, rfl, rfl⟩
  obtain ⟨j, i, hm, hji, k0, k3, k4, rfl⟩ := hI
  refine WP_know (d := 0) k0 (WP_know (d := 3) k3 (WP_know (d := 4) k4 ?_))
  refine WP_seq (WP_seq (WP_ops ?_))
  refine WO_mv (v := .s (.int _ _)) rfl ?_
  cases j with
  | zero =>
   refine WO_bin (r := .bool false) rfl rfl (by show some (S.bool (decide _)) = _; rw [decide_eq_false (by omega)]) (WO_nil ?_)
   refine WP_cond rfl (fun h => by cases h) (fun _ => ?_)
   exact WP_exit (xhere ⟨_, .refl _, rfl, rfl, rfl⟩)
  | succ j =>
   have hi4 : i < 4 := by omega
   refine WO_bin (r := .bool true) rfl rfl (by show some (S.bool (decide _)) = _; rw [decide_eq_true (by omega)]) (WO_nil ?_)
   refine WP_cond rfl (fun _ => WP_skip ?_) (fun h => by cases h)
   refine WP_seq (WP_block (WP_seq (WP_par ?_)))
   refine WO_mv rfl (WO_next (b := 0) rfl rfl .here ?_)
   refine WO_mv (v := .s (.int _ _)) rfl ?_
   refine WO_ixstr rfl rfl (by show _ ∧ _ < ((4 : Nat) : Int); omega) ?_
   rw [show ((i : Int)).toNat = i by omega]
   refine WO_bin rfl rfl (u8_eqF (by rw [nxt_out (.inl rfl)]; exact fun e => (cst_at ⟨i, hi4⟩).2 e.symm)) (WO_nil ?_)
   refine WP_cond rfl (fun h => by cases h) (fun _ => WP_skip ?_)
   refine WP_ops ?_
   refine WO_mv (v := .s (.int _ _)) rfl (WO_add rfl rfl (by omega) (WO_mv (v := .s (.int _ _)) rfl (WO_nil ?_)))
   exact ⟨j, _, by omega, .refl _, j, i + 1, rfl, by omega, rfl, rfl, rfl, rfl⟩
 ·rintro f n L ⟨k0, k3, rfl⟩
  refine WP_know (d := 0) k0 (WP_know (d := 3) k3 ?_)
  refine WP_seq (WP_seq (WP_ops ?_))
  refine WO_mv (v := .s (.int _ _)) rfl (WO_bin (r := .bool true) rfl rfl rfl (WO_nil ?_))
  refine WP_cond rfl (fun _ => ?_) (fun h => by cases h)
  refine WP_ops ?_
  refine WO_mv rfl (WO_nilckP rfl (WO_fa (o' := 2) rfl rfl rfl ?_))
  refine WO_st rfl rfl (by simp [V.scells]; rfl) rfl rfl (rr_stuck s _ true true) .here (WO_nil ?_)
  refine WP_seq (WP_ops (WO_mv (v := .s (.int _ _)) rfl (WO_mv (v := .s (.int _ _)) rfl (WO_nil ?_))))
  exact WP_ret ⟨_, RS_tmp (v := .s (.int _ _)) rfl RS_nil, rfl, .head _⟩
end Go.Proofs.YtlaogmemhephnaaGreatDoor
set_option linter.unusedVariables false
set_option linter.unusedSimpArgs false
namespace Go.Proofs.YtlaogmemhephnaaGreatDoor
open Go Go.Am
def rowJ (free : Bool) (f : Nat) : ByteArray := if free = true then ltrS ++ rnkS.extract 0 (8 - f) else ltrS
theorem rowJ_ix : ∀ (f : Fin 8) (free : Bool) (c : Fin 256), hasB (rowJ free f.val) (UInt8.ofNat c.val) = hasB (rowL free f.val) (UInt8.ofNat c.val) ∧ (hasB (rowL free f.val) (UInt8.ofNat c.val) = true → (match pcI (UInt8.ofNat c.val) with | some i => decide (idxJ (rowJ free f.val) (UInt8.ofNat c.val) = ((i / 2 + 6 * (i % 2) : Nat) : Int)) | none => decide (idxJ (rowJ free f.val) (UInt8.ofNat c.val) = ((c.val - 49 + 12 : Nat) : Int))) = true) := by decide +kernel
theorem rowJ_has {f : Nat} (hf : f < 8) (free : Bool) (c : UInt8) : hasB (rowJ free f) c = hasB (rowL free f) c := by
 have := (rowJ_ix ⟨f, hf⟩ free ⟨c.toNat, c.toNat_lt⟩).1
 simpa only [UInt8.ofNat_toNat] using this
theorem rowJ_some {f : Nat} (hf : f < 8) {free : Bool} {c : UInt8} (h : hasB (rowL free f) c = true) {i : Nat} (hi : pcI c = some i) : idxJ (rowJ free f) c = ((i / 2 + 6 * (i % 2) : Nat) : Int) := by
 have := (rowJ_ix ⟨f, hf⟩ free ⟨c.toNat, c.toNat_lt⟩).2
 simp only [UInt8.ofNat_toNat] at this
 have := this h
 rw [hi] at this
 exact of_decide_eq_true this
theorem rowJ_none {f : Nat} (hf : f < 8) {free : Bool} {c : UInt8} (h : hasB (rowL free f) c = true) (hi : pcI c = none) : idxJ (rowJ free f) c = ((c.toNat - 49 + 12 : Nat) : Int) := by
 have := (rowJ_ix ⟨f, hf⟩ free ⟨c.toNat, c.toNat_lt⟩).2
 simp only [UInt8.ofNat_toNat] at this
 have := this h
 rw [hi] at this
 exact of_decide_eq_true this
theorem rowJ_take {f : Nat} (hf : f < 8) (free : Bool) (s : ByteArray) (k : Nat) : takeC s k (rowJ free f) = takeC s k (rowL free f) := by
 unfold takeC
 rw [rowJ_has hf]
theorem rowJ_size {f : Nat} (free : Bool) : (rowJ free f).size ≤ 1000 := by
 unfold rowJ
 cases free with
 | false => rw [if_neg (by decide)]; decide
 | true =>
  rw [if_pos rfl, ByteArray.size_append, ByteArray.size_extract]
  show 12 + (min (8 - f) 8 - 0) ≤ 1000
  omega
theorem drow_walk (s : ByteArray) (r : Nat) (hr : r < 8) (k : Nat) (P : Nat → Int) (hs : s.size ≤ 1000) (hk : k ≤ s.size) :
  WR AM 26 [.ptr 0 0 3, .ptr 1 0 133, .s (.int .i64 (r : Int))] [rrB s k false, .sc .var 133 (ia P)] (fun v _ L => v = .tup [] ∧ match rowR s r 9 0 true k P with
   | .ok (P', k') => (0, rrB s k' false) ∈ L ∧ (1, Blk.sc .var 133 (ia P')) ∈ L
   | .error e => (0, rrB s e true) ∈ L ∧ ∃ P', (1, Blk.sc .var 133 (ia P')) ∈ L) := by
 refine WR_fn (a := a26) rfl rfl (entryF _) (entry_E (Nat.le_of_ble_eq_true rfl)) (m := 2) rfl ?_
 refine WP_seq (WP_ops (WO_mv rfl (WO_nil ?_)))
 refine WP_seq (WP_ops (WO_mv rfl (WO_nil ?_)))
 refine WP_block ?_
 refine WP_loop (fun m f nb L => (∃ (j fl k' : Nat) (free : Bool) (P' : Nat → Int), m = j ∧ 9 ≤ j + fl ∧ fl ≤ 8 ∧ k' ≤ s.size ∧ rowR s r j fl free k' P' = rowR s r 9 0 true k P ∧ f 0 = .ptr 0 0 3 ∧ f 1 = .ptr 1 0 133 ∧ f 2 = .s (.int .i64 (r : Int)) ∧ f 6 = .s (.int .i64 (fl : Int)) ∧ f 7 = .s (.bool (!free)) ∧ L = [(0, rrB s k' false), (1, .sc .var 133 (ia P'))])
  ∨ (∃ (e fl : Nat) (P' : Nat → Int), m = 0 ∧ fl < 8 ∧ rowR s r 9 0 true k P = .error e ∧ f 0 = .ptr 0 0 3 ∧ f 6 = .s (.int .i64 (fl : Int)) ∧ L = [(0, rrB s e true), (1, .sc .var 133 (ia P'))])) (fun m f nb L hI => ?_) 9 (.inl ⟨9, 0, k, true, P, rfl, by omega, by omega, hk, rfl, rfl, rfl, rfl, rfl, rfl, rfl⟩)
 rcases hI with ⟨j, fl, k', free, P', hm, hjf, hfl, hk', he, k0, k1, k2, k6, k7, rfl⟩ | ⟨e, fl, P', hm, hfl, he, k0, k6, rfl⟩
 case inr =>
  refine WP_know (d := 0) k0 (WP_know (d := 6) k6 ?_)
  refine WP_seq (WP_seq (WP_ops ?_))
  refine WO_mv (v := .s (.int _ _)) rfl (WO_bin (r := .bool true) rfl rfl (by show some (S.bool (decide _)) = _; rw [decide_eq_true (by omega)]) ?_)
  refine WO_mv rfl (WO_gt rfl (WO_mv rfl ?_))
  refine WO_gt rfl (WO_nilckP rfl ?_)
  refine WO_gt rfl (WO_fa (o' := 2) rfl rfl rfl ?_)
  refine WO_gt rfl (WO_ldS rfl rfl (.head _) rfl ?_)
  refine WO_gt rfl (WO_un rfl rfl ?_)
  refine WO_pick rfl rfl (WO_nil ?_)
  refine WP_cond rfl (fun h => by cases h) (fun _ => ?_)
  refine WP_exit (xhere ?_)
  refine ⟨_, RS_nil, rfl, ?_⟩
  rw [he]
  exact ⟨.head _, P', .tail _ (.head _)⟩
 obtain ⟨j, rfl⟩ : ∃ i, j = i + 1 := ⟨j - 1, by omega⟩
 refine WP_know (d := 0) k0 (WP_know (d := 1) k1 (WP_know (d := 2) k2 (WP_know (d := 6) k6 (WP_know (d := 7) k7 ?_))))
 rw [rowR] at he
 refine WP_seq (WP_seq (WP_ops ?_))
 by_cases hf8 : fl < 8
 case neg =>
  rw [if_neg hf8] at he
  refine WO_mv (v := .s (.int _ _)) rfl (WO_bin (r := .bool false) rfl rfl (by show some (S.bool (decide _)) = _; rw [decide_eq_false (by omega)]) ?_)
  refine WO_mv rfl (WO_gf rfl rfl (WO_gf rfl rfl (WO_gf rfl rfl (WO_gf rfl rfl (WO_gf rfl rfl (WO_pick rfl rfl (WO_nil ?_)))))))
  refine WP_cond rfl (fun h => by cases h) (fun _ => ?_)
  refine WP_exit (xhere ?_)
  refine ⟨_, RS_nil, rfl, ?_⟩
  rw [← he]
  exact ⟨.head _, .tail _ (.head _)⟩
 rw [if_pos hf8] at he
 refine WO_mv (v := .s (.int _ _)) rfl (WO_bin (r := .bool true) rfl rfl (by show some (S.bool (decide _)) = _; rw [decide_eq_true (by omega)]) ?_)
 refine WO_mv rfl (WO_gt rfl (WO_mv rfl ?_))
 refine WO_gt rfl (WO_nilckP rfl ?_)
 refine WO_gt rfl (WO_fa (o' := 2) rfl rfl rfl ?_)
 refine WO_gt rfl (WO_ldS rfl rfl (.head _) rfl ?_)
 refine WO_gt rfl (WO_un rfl rfl ?_)
 refine WO_pick rfl rfl (WO_nil ?_)
 refine WP_cond rfl (fun _ => WP_skip ?_) (fun h => by cases h)
 refine WP_block ?_
 refine WP_seq (WP_ops (WO_mv rfl (WO_nil ?_)))
 refine WP_cut (fun f n L => f 0 = .ptr 0 0 3 ∧ f 1 = .ptr 1 0 133 ∧ f 2 = .s (.int .i64 (r : Int)) ∧ f 6 = .s (.int .i64 (fl : Int)) ∧ f 8 = .s (.str (rowJ free fl)) ∧ L = [(0, rrB s k' false), (1, .sc .var 133 (ia P'))]) ?_ ?_
 ·refine WP_seq (WP_ops (WO_mv rfl (WO_un rfl rfl (WO_nil ?_))))
  cases free with
  | true =>
   refine WP_cond rfl (fun _ => ?_) (fun h => by cases h)
   refine WP_ops ?_
   refine WO_mv rfl (WO_mv (v := .s (.int _ _)) rfl (WO_sub rfl rfl (by omega) ?_))
   refine WO_slS (a := 0) (b := 8 - (fl : Int)) rfl rfl rfl (by show _ ∧ _ ∧ _ ≤ ((8 : Nat) : Int); omega) ?_
   rw [show (0 : Int).toNat = 0 from rfl, show (8 - (fl : Int)).toNat = 8 - fl by omega]
   refine WO_bin (r := .str (rowJ true fl)) rfl rfl (by rw [rowJ, if_pos rfl]; exact add_str (by rw [ByteArray.size_extract]; show 12 + (min (8 - fl) 8 - 0) ≤ _; omega)) ?_
   refine WO_mv rfl (WO_nil ?_)
   exact ⟨_, .refl _, rfl, rfl, rfl, rfl, rfl, rfl⟩
  | false =>
   refine WP_cond rfl (fun h => by cases h) (fun _ => ?_)
   exact WP_skip ⟨_, .refl _, rfl, rfl, rfl, rfl, rfl, rfl⟩
 clear k0 k1 k2 k6 k7
 rintro f n L ⟨k0, k1, k2, k6, k8, rfl⟩
 refine WP_know (d := 0) k0 (WP_know (d := 1) k1 (WP_know (d := 2) k2 (WP_know (d := 6) k6 (WP_know (d := 8) k8 ?_))))
 refine WP_seq (WP_ops ?_)
 refine WO_mv rfl (WO_mv rfl ?_)
 cases ht : takeC s k' (rowL free fl) with
 | false =>
  rw [if_neg (by rw [ht]; decide)] at he
  refine WO_oneN (b := 0) rfl rfl hs (rowJ_size free) (.inr (by rw [rowJ_take hf8, ht])) .here ?_
  refine WO_mv rfl (WO_nil ?_)
  refine WP_seq (WP_ops (WO_mv (v := .s (.int _ _)) rfl (WO_bin (r := .bool false) rfl rfl rfl (WO_mv rfl (WO_nil ?_)))))
  refine WP_block ?_
  refine WP_seq (WP_ops (WO_mv (v := .s (.int _ _)) rfl (WO_bin (r := .bool true) rfl rfl rfl (WO_mv rfl (WO_nil ?_)))))
  refine WP_cond rfl (fun _ => ?_) (fun h => by cases h)
  exact WP_skip ⟨0, _, by omega, .refl _, .inr ⟨k', fl, P', rfl, hf8, he.symm, rfl, rfl, rfl⟩⟩
 | true =>
  rw [if_pos ht] at he
  have hk2 := take_lt ht
  refine WO_oneY (b := 0) rfl rfl hs (rowJ_size free) (by rw [rowJ_take hf8, ht]) .here ?_
  rcases row_of hf8 (take_has ht) with ⟨i, hi⟩ | ⟨hi, hd1, hd2⟩
  ·rw [rowJ_some hf8 (take_has ht) hi]
   rw [hi] at he
   have hi12 := pcI_lt hi
   refine WO_mv (v := .s (.int _ _)) rfl (WO_nil ?_)
   refine WP_seq (WP_ops (WO_mv (v := .s (.int _ _)) rfl (WO_bin (r := .bool false) rfl rfl (by show some (S.bool (decide _)) = _; rw [decide_eq_false (by omega)]) (WO_mv rfl (WO_nil ?_)))))
   refine WP_block ?_
   refine WP_seq (WP_ops (WO_mv (v := .s (.int _ _)) rfl (WO_bin (r := .bool false) rfl rfl (by show some (S.bool (decide _)) = _; rw [decide_eq_false (by omega)]) (WO_mv rfl (WO_nil ?_)))))
   refine WP_cond rfl (fun h => by cases h) (fun _ => ?_)
   by_cases hc : i % 2 = 0
   ·refine WP_seq (WP_ops (WO_mv (v := .s (.int _ _)) rfl (WO_bin (r := .bool true) rfl rfl (by show some (S.bool (decide _)) = _; rw [decide_eq_true (by omega)]) (WO_mv rfl (WO_nil ?_)))))
    refine WP_cond rfl (fun _ => ?_) (fun h => by cases h)
    refine WP_seq (WP_ops ?_)
    refine WO_mv rfl (WO_mv (v := .s (.int _ _)) rfl (WO_mul rfl rfl (by omega) ?_))
    refine WO_mv (v := .s (.int _ _)) rfl (WO_add rfl rfl (by omega) ?_)
    refine WO_mv (v := .s (.int _ _)) rfl (WO_add rfl rfl (by omega) ?_)
    refine WO_buildI rfl (.one rfl (.one rfl .nil)) ?_
    refine WO_nilckP rfl (WO_fa (o' := 0) rfl rfl rfl ?_)
    refine WO_ixa rfl rfl rfl (by omega) ?_
    rw [show 0 + (8 * (r : Int) + (fl : Int)).toNat * 2 = 2 * (8 * r + fl) by omega]
    refine WO_stA rfl rfl (Nat.ble_eq_true_of_le (by omega)) rfl (.there .here) (WO_nil ?_)
    refine WP_ops ?_
    refine WO_mv (v := .s (.int _ _)) rfl (WO_add rfl rfl (by omega) (WO_mv (v := .s (.int _ _)) rfl (WO_nil ?_)))
    refine ⟨j, _, by omega, .refl _, .inl ⟨j, fl + 1, k' + 1, true, _, rfl, by omega, by omega, by omega, he, rfl, rfl, rfl, by rw [Int.natCast_add]; rfl, rfl, ?_⟩⟩
    rw [ovA_two (X := ov (ov (fun _ => 0) 0 (((i / 2 + 6 * (i % 2) : Nat) : Int) + 1)) 1 0) (Y := pX ((i / 2 + 1 : Nat) : Int) ((i % 2 : Nat) : Int)) (show (((i / 2 + 6 * (i % 2) : Nat) : Int) + 1) = ((i / 2 + 1 : Nat) : Int) by omega) (show (0 : Int) = ((i % 2 : Nat) : Int) by omega)]
   ·refine WP_seq (WP_ops (WO_mv (v := .s (.int _ _)) rfl (WO_bin (r := .bool false) rfl rfl (by show some (S.bool (decide _)) = _; rw [decide_eq_false (by omega)]) (WO_mv rfl (WO_nil ?_)))))
    refine WP_cond rfl (fun h => by cases h) (fun _ => ?_)
    refine WP_seq (WP_ops (WO_mv (v := .s (.int _ _)) rfl (WO_bin (r := .bool true) rfl rfl (by show some (S.bool (decide _)) = _; rw [decide_eq_true (by omega)]) (WO_mv rfl (WO_nil ?_)))))
    refine WP_cond rfl (fun _ => ?_) (fun h => by cases h)
    refine WP_seq (WP_ops ?_)
    refine WO_mv rfl (WO_mv (v := .s (.int _ _)) rfl (WO_mul rfl rfl (by omega) ?_))
    refine WO_mv (v := .s (.int _ _)) rfl (WO_add rfl rfl (by omega) ?_)
    refine WO_mv (v := .s (.int _ _)) rfl (WO_sub rfl rfl (by omega) ?_)
    refine WO_buildI rfl (.one rfl (.one rfl .nil)) ?_
    refine WO_nilckP rfl (WO_fa (o' := 0) rfl rfl rfl ?_)
    refine WO_ixa rfl rfl rfl (by omega) ?_
    rw [show 0 + (8 * (r : Int) + (fl : Int)).toNat * 2 = 2 * (8 * r + fl) by omega]
    refine WO_stA rfl rfl (Nat.ble_eq_true_of_le (by omega)) rfl (.there .here) (WO_nil ?_)
    refine WP_ops ?_
    refine WO_mv (v := .s (.int _ _)) rfl (WO_add rfl rfl (by omega) (WO_mv (v := .s (.int _ _)) rfl (WO_nil ?_)))
    refine ⟨j, _, by omega, .refl _, .inl ⟨j, fl + 1, k' + 1, true, _, rfl, by omega, by omega, by omega, he, rfl, rfl, rfl, by rw [Int.natCast_add]; rfl, rfl, ?_⟩⟩
    rw [ovA_two (X := ov (ov (fun _ => 0) 0 (((i / 2 + 6 * (i % 2) : Nat) : Int) - 5)) 1 1) (Y := pX ((i / 2 + 1 : Nat) : Int) ((i % 2 : Nat) : Int)) (show (((i / 2 + 6 * (i % 2) : Nat) : Int) - 5) = ((i / 2 + 1 : Nat) : Int) by omega) (show (1 : Int) = ((i % 2 : Nat) : Int) by omega)]
  ·rw [rowJ_none hf8 (take_has ht) hi]
   rw [hi] at he
   refine WO_mv (v := .s (.int _ _)) rfl (WO_nil ?_)
   refine WP_seq (WP_ops (WO_mv (v := .s (.int _ _)) rfl (WO_bin (r := .bool true) rfl rfl (by show some (S.bool (decide _)) = _; rw [decide_eq_true (by omega)]) (WO_mv rfl (WO_nil ?_)))))
   refine WP_block ?_
   refine WP_seq (WP_ops (WO_mv (v := .s (.int _ _)) rfl (WO_bin (r := .bool false) rfl rfl (by show some (S.bool (decide _)) = _; rw [decide_eq_false (by omega)]) (WO_mv rfl (WO_nil ?_)))))
   refine WP_cond rfl (fun h => by cases h) (fun _ => ?_)
   refine WP_seq (WP_ops (WO_mv (v := .s (.int _ _)) rfl (WO_bin (r := .bool false) rfl rfl (by show some (S.bool (decide _)) = _; rw [decide_eq_false (by omega)]) (WO_mv rfl (WO_nil ?_)))))
   refine WP_cond rfl (fun h => by cases h) (fun _ => ?_)
   refine WP_seq (WP_ops (WO_mv (v := .s (.int _ _)) rfl (WO_bin (r := .bool false) rfl rfl (by show some (S.bool (decide _)) = _; rw [decide_eq_false (by omega)]) (WO_mv rfl (WO_nil ?_)))))
   refine WP_cond rfl (fun h => by cases h) (fun _ => ?_)
   refine WP_ops ?_
   refine WO_mv (v := .s (.int _ _)) rfl (WO_mv (v := .s (.int _ _)) rfl (WO_add rfl rfl (by omega) (WO_sub rfl rfl (by omega) (WO_mv (v := .s (.int _ _)) rfl (WO_nil ?_)))))
   refine ⟨j, _, by omega, .refl _, .inl ⟨j, fl + ((chr s k').toNat - 48), k' + 1, false, P', rfl, by omega, by omega, by omega, he, rfl, rfl, rfl, ?_, rfl, rfl⟩⟩
   rw [show ((fl + ((chr s k').toNat - 48) : Nat) : Int) = (fl : Int) + (((chr s k').toNat - 49 + 12 : Nat) : Int) - 11 by omega]
   rfl
theorem drow_ok {s : ByteArray} {r k : Nat} {P P' : Nat → Int} {k' : Nat} (hr : r < 8) (hs : s.size ≤ 1000) (hk : k ≤ s.size) (h : rowR s r 9 0 true k P = .ok (P', k')) :
  RL AM 26 [.ptr 0 0 3, .ptr 1 0 133, .s (.int .i64 (r : Int))] [rrB s k false, .sc .var 133 (ia P)] (.tup []) [rrB s k' false, .sc .var 133 (ia P')] := by
 refine RL_of2 rfl rfl ?_
 have := drow_walk s r hr k P hs hk
 rw [h] at this
 exact this
theorem drow_no {s : ByteArray} {r k : Nat} {P : Nat → Int} {e : Nat} (hr : r < 8) (hs : s.size ≤ 1000) (hk : k ≤ s.size) (h : rowR s r 9 0 true k P = .error e) :
  ∃ P', RL AM 26 [.ptr 0 0 3, .ptr 1 0 133, .s (.int .i64 (r : Int))] [rrB s k false, .sc .var 133 (ia P)] (.tup []) [rrB s e true, .sc .var 133 (ia P')] := by
 have := drow_walk s r hr k P hs hk
 rw [h] at this
 obtain ⟨v, σ', n', L', h1, h2, rfl, h3, P', h4⟩ := this
 exact ⟨P', σ', h1, (h2.2.mem h3).2, rfl, (h2.2.mem h4).2, rfl, trivial⟩
theorem drow_stuck (s : ByteArray) (r : Nat) (k : Nat) (P : Nat → Int) :
  RL AM 26 [.ptr 0 0 3, .ptr 1 0 133, .s (.int .i64 (r : Int))] [rrB s k true, .sc .var 133 (ia P)] (.tup []) [rrB s k true, .sc .var 133 (ia P)] := by
 refine RL_of2 rfl rfl ?_
 refine WR_fn (a := a26) rfl rfl (entryF _) (entry_E (Nat.le_of_ble_eq_true rfl)) (m := 2) rfl ?_
 refine WP_seq (WP_ops (WO_mv rfl (WO_nil ?_)))
 refine WP_seq (WP_ops (WO_mv rfl (WO_nil ?_)))
 refine WP_block (WP_unroll ?_)
 refine WP_seq (WP_seq (WP_ops ?_))
 refine WO_mv (v := .s (.int _ _)) rfl (WO_bin (r := .bool true) rfl rfl rfl ?_)
 refine WO_mv rfl (WO_gt rfl (WO_mv rfl ?_))
 refine WO_gt rfl (WO_nilckP rfl ?_)
 refine WO_gt rfl (WO_fa (o' := 2) rfl rfl rfl ?_)
 refine WO_gt rfl (WO_ldS rfl rfl (.head _) rfl ?_)
 refine WO_gt rfl (WO_un rfl rfl ?_)
 refine WO_pick rfl rfl (WO_nil ?_)
 refine WP_cond rfl (fun h => by cases h) (fun _ => ?_)
 exact WP_exit (xhere ⟨_, RS_nil, rfl, .head _, .tail _ (.head _)⟩)
end Go.Proofs.YtlaogmemhephnaaGreatDoor
set_option linter.unusedVariables false
set_option linter.unusedSimpArgs false
namespace Go.Proofs.YtlaogmemhephnaaGreatDoor
open Go Go.Am
section
variable {R : Runner} {N : Nat} {f : FE} {σ : Heap} {l : List I}
theorem opsX_p {d : Option Nat} {i : PIns} {v : V} (h : pureV i (E N f) = some v) : opsX R (⟨d, none, .p i⟩ :: l) (E N f) σ = opsX R l (E N (updO f d v)) σ := by
 simp only [opsX, stepI, insV, h, Option.map_some, put_E]
theorem opsX_h {d : Option Nat} {i : HIns} {v : V} {σ' : Heap} (h : heapV R i (E N f) σ = some (v, σ')) : opsX R (⟨d, none, .h i⟩ :: l) (E N f) σ = opsX R l (E N (updO f d v)) σ' := by
 simp only [opsX, stepI, insV, h, Option.map_some, put_E]
end
abbrev e0 : I := ⟨some 64, none, .p (.build (.ints 133) [])⟩
abbrev e1 : I := ⟨some 65, none, .p (.mv (.t 6))⟩
abbrev e2 : I := ⟨some 66, none, .p (.nilck (.t 65))⟩
abbrev e3 : I := ⟨some 67, none, .p (.fa 1 1 (.t 66))⟩
abbrev e4 : I := ⟨some 68, none, .h (.load false 1 (.t 67))⟩
abbrev e5 : I := ⟨none, none, .h (.store 133 (.t 2) (.t 64))⟩
abbrev e6 : I := ⟨some 3, none, .p (.mv (.t 68))⟩
abbrev e7 : I := ⟨some 4, none, .p (.mv (.k (.s (.int .i64 13))))⟩
abbrev zAg : V := .agg 133 (ia fun _ => 0)
section
variable {R : Runner} {f : FE} {σ : Heap} {l : List I}
theorem x0 : opsX R (e0 :: l) (E 74 f) σ = opsX R l (E 74 (upd f 64 zAg)) σ := opsX_p rfl
theorem x1 (h : f 6 = .ptr 2 0 3) : opsX R (e1 :: l) (E 74 f) σ = opsX R l (E 74 (upd f 65 (.ptr 2 0 3))) σ := opsX_p (v := .ptr 2 0 3) (by simp only [pureV, ev_E]; show some (f 6) = _; rw [h])
theorem x2 (h : f 65 = .ptr 2 0 3) : opsX R (e2 :: l) (E 74 f) σ = opsX R l (E 74 (upd f 66 (.ptr 2 0 3))) σ := opsX_p (v := .ptr 2 0 3) (by
 have h : (O.t 65).fv 74 f = .ptr 2 0 3 := h
 simp only [pureV, ev_E, h])
theorem x3 (h : f 66 = .ptr 2 0 3) : opsX R (e3 :: l) (E 74 f) σ = opsX R l (E 74 (upd f 67 (.ptr 2 1 1))) σ := opsX_p (v := .ptr 2 1 1) (by
 have h : (O.t 66).fv 74 f = .ptr 2 0 3 := h
 simp only [pureV, ev_E, h]; rfl)
theorem x4 {s : ByteArray} {k : Nat} {st : Bool} (h : f 67 = .ptr 2 1 1) (hσ : σ[2]? = some (rrB s k st)) : opsX R (e4 :: l) (E 74 f) σ = opsX R l (E 74 (upd f 68 (.s (.int .i64 (k : Int))))) σ := opsX_h (v := .s (.int .i64 (k : Int))) (σ' := σ) (by
 have h : (O.t 67).fv 74 f = .ptr 2 1 1 := h
 simp only [heapV, ev_E, h, if_pos (Nat.le_refl 1), rdV, hσ, cond_false, Option.map_some]; rfl)
theorem x5 {g : Nat → S} (h : f 2 = .ptr 0 0 133) (h2 : f 64 = zAg) (hσ : σ[0]? = some (.sc .var 133 g)) : opsX R (e5 :: l) (E 74 f) σ = opsX R l (E 74 f) (σ.set 0 (.sc .var 133 (over g 0 133 (ia fun _ => 0)))) := opsX_h (d := none) (v := .undef) (by
 have h : (O.t 2).fv 74 f = .ptr 0 0 133 := h
 have h2 : (O.t 64).fv 74 f = zAg := h2
 simp only [heapV, ev_E, h, h2, if_pos (Nat.le_refl 133), wrV, hσ, Md.mut, if_true, V.scells, Option.map_some])
theorem x6 {k : Int} (h : f 68 = .s (.int .i64 k)) : opsX R (e6 :: l) (E 74 f) σ = opsX R l (E 74 (upd f 3 (.s (.int .i64 k)))) σ := opsX_p (v := .s (.int .i64 k)) (by simp only [pureV, ev_E]; show some (f 68) = _; rw [h])
theorem x7 : opsX R (e7 :: l) (E 74 f) σ = opsX R l (E 74 (upd f 4 (.s (.int .i64 13)))) σ := opsX_p rfl
theorem upd_comm {d d' : Nat} {v w : V} (hd : d ≠ d') : upd (upd f d v) d' w = upd (upd f d' w) d v := by
 funext i
 unfold upd
 by_cases h1 : i = d
 ·subst h1
  rw [beq_no hd, cond_false, Nat.beq_refl, cond_true, cond_true]
 ·rw [beq_no h1, cond_false, cond_false]
end
abbrev eF (f : FE) (k : Int) : FE := upd (upd (upd (upd (upd (upd (upd f 64 zAg) 65 (.ptr 2 0 3)) 66 (.ptr 2 0 3)) 67 (.ptr 2 1 1)) 68 (.s (.int .i64 k))) 3 (.s (.int .i64 k))) 4 (.s (.int .i64 13))
section
variable {R : Runner} {f : FE} {σ : Heap} {s : ByteArray} {k : Nat} {st : Bool} {g : Nat → S}
theorem or0 (h6 : f 6 = .ptr 2 0 3) (h2 : f 2 = .ptr 0 0 133) (g0 : σ[0]? = some (.sc .var 133 g)) (g2 : σ[2]? = some (rrB s k st)) : opsX R [e0, e1, e2, e3, e4, e5, e6, e7] (E 74 f) σ = some (.normal, E 74 (eF f k), σ.set 0 (.sc .var 133 (over g 0 133 (ia fun _ => 0)))) := by
 have g2s : (σ.set 0 (.sc .var 133 (over g 0 133 (ia fun _ => 0))))[2]? = some (rrB s k st) := by rw [List.getElem?_set_ne (by decide)]; exact g2
 have : opsX R [e0, e1, e2, e3, e4, e5, e6, e7] (E 74 f) σ = some (.normal, E 74 (upd (upd (upd (upd (upd (upd (upd f 64 zAg) 65 (.ptr 2 0 3)) 66 (.ptr 2 0 3)) 67 (.ptr 2 1 1)) 68 (.s (.int .i64 (k : Int)))) 3 (.s (.int .i64 (k : Int)))) 4 (.s (.int .i64 13))), σ.set 0 (.sc .var 133 (over g 0 133 (ia fun _ => 0)))) := (x0).trans (((x1 (by exact h6))).trans (((x2 (by rfl))).trans (((x3 (by rfl))).trans (((x4 (by rfl) g2)).trans (((x5 (by exact h2) (by rfl) g0)).trans (((x6 (by rfl))).trans (x7)))))))
 exact this
theorem or1 (h6 : f 6 = .ptr 2 0 3) (h2 : f 2 = .ptr 0 0 133) (g0 : σ[0]? = some (.sc .var 133 g)) (g2 : σ[2]? = some (rrB s k st)) : opsX R [e0, e1, e2, e3, e5, e4, e6, e7] (E 74 f) σ = some (.normal, E 74 (eF f k), σ.set 0 (.sc .var 133 (over g 0 133 (ia fun _ => 0)))) := by
 have g2s : (σ.set 0 (.sc .var 133 (over g 0 133 (ia fun _ => 0))))[2]? = some (rrB s k st) := by rw [List.getElem?_set_ne (by decide)]; exact g2
 have : opsX R [e0, e1, e2, e3, e5, e4, e6, e7] (E 74 f) σ = some (.normal, E 74 (upd (upd (upd (upd (upd (upd (upd f 64 zAg) 65 (.ptr 2 0 3)) 66 (.ptr 2 0 3)) 67 (.ptr 2 1 1)) 68 (.s (.int .i64 (k : Int)))) 3 (.s (.int .i64 (k : Int)))) 4 (.s (.int .i64 13))), σ.set 0 (.sc .var 133 (over g 0 133 (ia fun _ => 0)))) := (x0).trans (((x1 (by exact h6))).trans (((x2 (by rfl))).trans (((x3 (by rfl))).trans (((x5 (by exact h2) (by rfl) g0)).trans (((x4 (by rfl) g2s)).trans (((x6 (by rfl))).trans (x7)))))))
 exact this
theorem or2 (h6 : f 6 = .ptr 2 0 3) (h2 : f 2 = .ptr 0 0 133) (g0 : σ[0]? = some (.sc .var 133 g)) (g2 : σ[2]? = some (rrB s k st)) : opsX R [e0, e1, e2, e5, e3, e4, e6, e7] (E 74 f) σ = some (.normal, E 74 (eF f k), σ.set 0 (.sc .var 133 (over g 0 133 (ia fun _ => 0)))) := by
 have g2s : (σ.set 0 (.sc .var 133 (over g 0 133 (ia fun _ => 0))))[2]? = some (rrB s k st) := by rw [List.getElem?_set_ne (by decide)]; exact g2
 have : opsX R [e0, e1, e2, e5, e3, e4, e6, e7] (E 74 f) σ = some (.normal, E 74 (upd (upd (upd (upd (upd (upd (upd f 64 zAg) 65 (.ptr 2 0 3)) 66 (.ptr 2 0 3)) 67 (.ptr 2 1 1)) 68 (.s (.int .i64 (k : Int)))) 3 (.s (.int .i64 (k : Int)))) 4 (.s (.int .i64 13))), σ.set 0 (.sc .var 133 (over g 0 133 (ia fun _ => 0)))) := (x0).trans (((x1 (by exact h6))).trans (((x2 (by rfl))).trans (((x5 (by exact h2) (by rfl) g0)).trans (((x3 (by rfl))).trans (((x4 (by rfl) g2s)).trans (((x6 (by rfl))).trans (x7)))))))
 exact this
theorem or3 (h6 : f 6 = .ptr 2 0 3) (h2 : f 2 = .ptr 0 0 133) (g0 : σ[0]? = some (.sc .var 133 g)) (g2 : σ[2]? = some (rrB s k st)) : opsX R [e0, e1, e5, e2, e3, e4, e6, e7] (E 74 f) σ = some (.normal, E 74 (eF f k), σ.set 0 (.sc .var 133 (over g 0 133 (ia fun _ => 0)))) := by
 have g2s : (σ.set 0 (.sc .var 133 (over g 0 133 (ia fun _ => 0))))[2]? = some (rrB s k st) := by rw [List.getElem?_set_ne (by decide)]; exact g2
 have : opsX R [e0, e1, e5, e2, e3, e4, e6, e7] (E 74 f) σ = some (.normal, E 74 (upd (upd (upd (upd (upd (upd (upd f 64 zAg) 65 (.ptr 2 0 3)) 66 (.ptr 2 0 3)) 67 (.ptr 2 1 1)) 68 (.s (.int .i64 (k : Int)))) 3 (.s (.int .i64 (k : Int)))) 4 (.s (.int .i64 13))), σ.set 0 (.sc .var 133 (over g 0 133 (ia fun _ => 0)))) := (x0).trans (((x1 (by exact h6))).trans (((x5 (by exact h2) (by rfl) g0)).trans (((x2 (by rfl))).trans (((x3 (by rfl))).trans (((x4 (by rfl) g2s)).trans (((x6 (by rfl))).trans (x7)))))))
 exact this
theorem or4 (h6 : f 6 = .ptr 2 0 3) (h2 : f 2 = .ptr 0 0 133) (g0 : σ[0]? = some (.sc .var 133 g)) (g2 : σ[2]? = some (rrB s k st)) : opsX R [e0, e5, e1, e2, e3, e4, e6, e7] (E 74 f) σ = some (.normal, E 74 (eF f k), σ.set 0 (.sc .var 133 (over g 0 133 (ia fun _ => 0)))) := by
 have g2s : (σ.set 0 (.sc .var 133 (over g 0 133 (ia fun _ => 0))))[2]? = some (rrB s k st) := by rw [List.getElem?_set_ne (by decide)]; exact g2
 have : opsX R [e0, e5, e1, e2, e3, e4, e6, e7] (E 74 f) σ = some (.normal, E 74 (upd (upd (upd (upd (upd (upd (upd f 64 zAg) 65 (.ptr 2 0 3)) 66 (.ptr 2 0 3)) 67 (.ptr 2 1 1)) 68 (.s (.int .i64 (k : Int)))) 3 (.s (.int .i64 (k : Int)))) 4 (.s (.int .i64 13))), σ.set 0 (.sc .var 133 (over g 0 133 (ia fun _ => 0)))) := (x0).trans (((x5 (by exact h2) (by rfl) g0)).trans (((x1 (by exact h6))).trans (((x2 (by rfl))).trans (((x3 (by rfl))).trans (((x4 (by rfl) g2s)).trans (((x6 (by rfl))).trans (x7)))))))
 exact this
theorem or5 (h6 : f 6 = .ptr 2 0 3) (h2 : f 2 = .ptr 0 0 133) (g0 : σ[0]? = some (.sc .var 133 g)) (g2 : σ[2]? = some (rrB s k st)) : opsX R [e1, e0, e2, e3, e4, e5, e6, e7] (E 74 f) σ = some (.normal, E 74 (eF f k), σ.set 0 (.sc .var 133 (over g 0 133 (ia fun _ => 0)))) := by
 have g2s : (σ.set 0 (.sc .var 133 (over g 0 133 (ia fun _ => 0))))[2]? = some (rrB s k st) := by rw [List.getElem?_set_ne (by decide)]; exact g2
 have : opsX R [e1, e0, e2, e3, e4, e5, e6, e7] (E 74 f) σ = some (.normal, E 74 (upd (upd (upd (upd (upd (upd (upd f 65 (.ptr 2 0 3)) 64 zAg) 66 (.ptr 2 0 3)) 67 (.ptr 2 1 1)) 68 (.s (.int .i64 (k : Int)))) 3 (.s (.int .i64 (k : Int)))) 4 (.s (.int .i64 13))), σ.set 0 (.sc .var 133 (over g 0 133 (ia fun _ => 0)))) := ((x1 (by exact h6))).trans ((x0).trans (((x2 (by rfl))).trans (((x3 (by rfl))).trans (((x4 (by rfl) g2)).trans (((x5 (by exact h2) (by rfl) g0)).trans (((x6 (by rfl))).trans (x7)))))))
 rw [upd_comm (d := 65) (d' := 64) (by decide)] at this; exact this
theorem or6 (h6 : f 6 = .ptr 2 0 3) (h2 : f 2 = .ptr 0 0 133) (g0 : σ[0]? = some (.sc .var 133 g)) (g2 : σ[2]? = some (rrB s k st)) : opsX R [e1, e0, e2, e3, e5, e4, e6, e7] (E 74 f) σ = some (.normal, E 74 (eF f k), σ.set 0 (.sc .var 133 (over g 0 133 (ia fun _ => 0)))) := by
 have g2s : (σ.set 0 (.sc .var 133 (over g 0 133 (ia fun _ => 0))))[2]? = some (rrB s k st) := by rw [List.getElem?_set_ne (by decide)]; exact g2
 have : opsX R [e1, e0, e2, e3, e5, e4, e6, e7] (E 74 f) σ = some (.normal, E 74 (upd (upd (upd (upd (upd (upd (upd f 65 (.ptr 2 0 3)) 64 zAg) 66 (.ptr 2 0 3)) 67 (.ptr 2 1 1)) 68 (.s (.int .i64 (k : Int)))) 3 (.s (.int .i64 (k : Int)))) 4 (.s (.int .i64 13))), σ.set 0 (.sc .var 133 (over g 0 133 (ia fun _ => 0)))) := ((x1 (by exact h6))).trans ((x0).trans (((x2 (by rfl))).trans (((x3 (by rfl))).trans (((x5 (by exact h2) (by rfl) g0)).trans (((x4 (by rfl) g2s)).trans (((x6 (by rfl))).trans (x7)))))))
 rw [upd_comm (d := 65) (d' := 64) (by decide)] at this; exact this
theorem or7 (h6 : f 6 = .ptr 2 0 3) (h2 : f 2 = .ptr 0 0 133) (g0 : σ[0]? = some (.sc .var 133 g)) (g2 : σ[2]? = some (rrB s k st)) : opsX R [e1, e0, e2, e5, e3, e4, e6, e7] (E 74 f) σ = some (.normal, E 74 (eF f k), σ.set 0 (.sc .var 133 (over g 0 133 (ia fun _ => 0)))) := by
 have g2s : (σ.set 0 (.sc .var 133 (over g 0 133 (ia fun _ => 0))))[2]? = some (rrB s k st) := by rw [List.getElem?_set_ne (by decide)]; exact g2
 have : opsX R [e1, e0, e2, e5, e3, e4, e6, e7] (E 74 f) σ = some (.normal, E 74 (upd (upd (upd (upd (upd (upd (upd f 65 (.ptr 2 0 3)) 64 zAg) 66 (.ptr 2 0 3)) 67 (.ptr 2 1 1)) 68 (.s (.int .i64 (k : Int)))) 3 (.s (.int .i64 (k : Int)))) 4 (.s (.int .i64 13))), σ.set 0 (.sc .var 133 (over g 0 133 (ia fun _ => 0)))) := ((x1 (by exact h6))).trans ((x0).trans (((x2 (by rfl))).trans (((x5 (by exact h2) (by rfl) g0)).trans (((x3 (by rfl))).trans (((x4 (by rfl) g2s)).trans (((x6 (by rfl))).trans (x7)))))))
 rw [upd_comm (d := 65) (d' := 64) (by decide)] at this; exact this
theorem or8 (h6 : f 6 = .ptr 2 0 3) (h2 : f 2 = .ptr 0 0 133) (g0 : σ[0]? = some (.sc .var 133 g)) (g2 : σ[2]? = some (rrB s k st)) : opsX R [e1, e0, e5, e2, e3, e4, e6, e7] (E 74 f) σ = some (.normal, E 74 (eF f k), σ.set 0 (.sc .var 133 (over g 0 133 (ia fun _ => 0)))) := by
 have g2s : (σ.set 0 (.sc .var 133 (over g 0 133 (ia fun _ => 0))))[2]? = some (rrB s k st) := by rw [List.getElem?_set_ne (by decide)]; exact g2
 have : opsX R [e1, e0, e5, e2, e3, e4, e6, e7] (E 74 f) σ = some (.normal, E 74 (upd (upd (upd (upd (upd (upd (upd f 65 (.ptr 2 0 3)) 64 zAg) 66 (.ptr 2 0 3)) 67 (.ptr 2 1 1)) 68 (.s (.int .i64 (k : Int)))) 3 (.s (.int .i64 (k : Int)))) 4 (.s (.int .i64 13))), σ.set 0 (.sc .var 133 (over g 0 133 (ia fun _ => 0)))) := ((x1 (by exact h6))).trans ((x0).trans (((x5 (by exact h2) (by rfl) g0)).trans (((x2 (by rfl))).trans (((x3 (by rfl))).trans (((x4 (by rfl) g2s)).trans (((x6 (by rfl))).trans (x7)))))))
 rw [upd_comm (d := 65) (d' := 64) (by decide)] at this; exact this
theorem or9 (h6 : f 6 = .ptr 2 0 3) (h2 : f 2 = .ptr 0 0 133) (g0 : σ[0]? = some (.sc .var 133 g)) (g2 : σ[2]? = some (rrB s k st)) : opsX R [e1, e2, e0, e3, e4, e5, e6, e7] (E 74 f) σ = some (.normal, E 74 (eF f k), σ.set 0 (.sc .var 133 (over g 0 133 (ia fun _ => 0)))) := by
 have g2s : (σ.set 0 (.sc .var 133 (over g 0 133 (ia fun _ => 0))))[2]? = some (rrB s k st) := by rw [List.getElem?_set_ne (by decide)]; exact g2
 have : opsX R [e1, e2, e0, e3, e4, e5, e6, e7] (E 74 f) σ = some (.normal, E 74 (upd (upd (upd (upd (upd (upd (upd f 65 (.ptr 2 0 3)) 66 (.ptr 2 0 3)) 64 zAg) 67 (.ptr 2 1 1)) 68 (.s (.int .i64 (k : Int)))) 3 (.s (.int .i64 (k : Int)))) 4 (.s (.int .i64 13))), σ.set 0 (.sc .var 133 (over g 0 133 (ia fun _ => 0)))) := ((x1 (by exact h6))).trans (((x2 (by rfl))).trans ((x0).trans (((x3 (by rfl))).trans (((x4 (by rfl) g2)).trans (((x5 (by exact h2) (by rfl) g0)).trans (((x6 (by rfl))).trans (x7)))))))
 rw [upd_comm (d := 66) (d' := 64) (by decide), upd_comm (d := 65) (d' := 64) (by decide)] at this; exact this
theorem or10 (h6 : f 6 = .ptr 2 0 3) (h2 : f 2 = .ptr 0 0 133) (g0 : σ[0]? = some (.sc .var 133 g)) (g2 : σ[2]? = some (rrB s k st)) : opsX R [e1, e2, e0, e3, e5, e4, e6, e7] (E 74 f) σ = some (.normal, E 74 (eF f k), σ.set 0 (.sc .var 133 (over g 0 133 (ia fun _ => 0)))) := by
 have g2s : (σ.set 0 (.sc .var 133 (over g 0 133 (ia fun _ => 0))))[2]? = some (rrB s k st) := by rw [List.getElem?_set_ne (by decide)]; exact g2
 have : opsX R [e1, e2, e0, e3, e5, e4, e6, e7] (E 74 f) σ = some (.normal, E 74 (upd (upd (upd (upd (upd (upd (upd f 65 (.ptr 2 0 3)) 66 (.ptr 2 0 3)) 64 zAg) 67 (.ptr 2 1 1)) 68 (.s (.int .i64 (k : Int)))) 3 (.s (.int .i64 (k : Int)))) 4 (.s (.int .i64 13))), σ.set 0 (.sc .var 133 (over g 0 133 (ia fun _ => 0)))) := ((x1 (by exact h6))).trans (((x2 (by rfl))).trans ((x0).trans (((x3 (by rfl))).trans (((x5 (by exact h2) (by rfl) g0)).trans (((x4 (by rfl) g2s)).trans (((x6 (by rfl))).trans (x7)))))))
 rw [upd_comm (d := 66) (d' := 64) (by decide), upd_comm (d := 65) (d' := 64) (by decide)] at this; exact this
theorem or11 (h6 : f 6 = .ptr 2 0 3) (h2 : f 2 = .ptr 0 0 133) (g0 : σ[0]? = some (.sc .var 133 g)) (g2 : σ[2]? = some (rrB s k st)) : opsX R [e1, e2, e0, e5, e3, e4, e6, e7] (E 74 f) σ = some (.normal, E 74 (eF f k), σ.set 0 (.sc .var 133 (over g 0 133 (ia fun _ => 0)))) := by
 have g2s : (σ.set 0 (.sc .var 133 (over g 0 133 (ia fun _ => 0))))[2]? = some (rrB s k st) := by rw [List.getElem?_set_ne (by decide)]; exact g2
 have : opsX R [e1, e2, e0, e5, e3, e4, e6, e7] (E 74 f) σ = some (.normal, E 74 (upd (upd (upd (upd (upd (upd (upd f 65 (.ptr 2 0 3)) 66 (.ptr 2 0 3)) 64 zAg) 67 (.ptr 2 1 1)) 68 (.s (.int .i64 (k : Int)))) 3 (.s (.int .i64 (k : Int)))) 4 (.s (.int .i64 13))), σ.set 0 (.sc .var 133 (over g 0 133 (ia fun _ => 0)))) := ((x1 (by exact h6))).trans (((x2 (by rfl))).trans ((x0).trans (((x5 (by exact h2) (by rfl) g0)).trans (((x3 (by rfl))).trans (((x4 (by rfl) g2s)).trans (((x6 (by rfl))).trans (x7)))))))
 rw [upd_comm (d := 66) (d' := 64) (by decide), upd_comm (d := 65) (d' := 64) (by decide)] at this; exact this
theorem or12 (h6 : f 6 = .ptr 2 0 3) (h2 : f 2 = .ptr 0 0 133) (g0 : σ[0]? = some (.sc .var 133 g)) (g2 : σ[2]? = some (rrB s k st)) : opsX R [e1, e2, e3, e0, e4, e5, e6, e7] (E 74 f) σ = some (.normal, E 74 (eF f k), σ.set 0 (.sc .var 133 (over g 0 133 (ia fun _ => 0)))) := by
 have g2s : (σ.set 0 (.sc .var 133 (over g 0 133 (ia fun _ => 0))))[2]? = some (rrB s k st) := by rw [List.getElem?_set_ne (by decide)]; exact g2
 have : opsX R [e1, e2, e3, e0, e4, e5, e6, e7] (E 74 f) σ = some (.normal, E 74 (upd (upd (upd (upd (upd (upd (upd f 65 (.ptr 2 0 3)) 66 (.ptr 2 0 3)) 67 (.ptr 2 1 1)) 64 zAg) 68 (.s (.int .i64 (k : Int)))) 3 (.s (.int .i64 (k : Int)))) 4 (.s (.int .i64 13))), σ.set 0 (.sc .var 133 (over g 0 133 (ia fun _ => 0)))) := ((x1 (by exact h6))).trans (((x2 (by rfl))).trans (((x3 (by rfl))).trans ((x0).trans (((x4 (by rfl) g2)).trans (((x5 (by exact h2) (by rfl) g0)).trans (((x6 (by rfl))).trans (x7)))))))
 rw [upd_comm (d := 67) (d' := 64) (by decide), upd_comm (d := 66) (d' := 64) (by decide), upd_comm (d := 65) (d' := 64) (by decide)] at this; exact this
theorem or13 (h6 : f 6 = .ptr 2 0 3) (h2 : f 2 = .ptr 0 0 133) (g0 : σ[0]? = some (.sc .var 133 g)) (g2 : σ[2]? = some (rrB s k st)) : opsX R [e1, e2, e3, e0, e5, e4, e6, e7] (E 74 f) σ = some (.normal, E 74 (eF f k), σ.set 0 (.sc .var 133 (over g 0 133 (ia fun _ => 0)))) := by
 have g2s : (σ.set 0 (.sc .var 133 (over g 0 133 (ia fun _ => 0))))[2]? = some (rrB s k st) := by rw [List.getElem?_set_ne (by decide)]; exact g2
 have : opsX R [e1, e2, e3, e0, e5, e4, e6, e7] (E 74 f) σ = some (.normal, E 74 (upd (upd (upd (upd (upd (upd (upd f 65 (.ptr 2 0 3)) 66 (.ptr 2 0 3)) 67 (.ptr 2 1 1)) 64 zAg) 68 (.s (.int .i64 (k : Int)))) 3 (.s (.int .i64 (k : Int)))) 4 (.s (.int .i64 13))), σ.set 0 (.sc .var 133 (over g 0 133 (ia fun _ => 0)))) := ((x1 (by exact h6))).trans (((x2 (by rfl))).trans (((x3 (by rfl))).trans ((x0).trans (((x5 (by exact h2) (by rfl) g0)).trans (((x4 (by rfl) g2s)).trans (((x6 (by rfl))).trans (x7)))))))
 rw [upd_comm (d := 67) (d' := 64) (by decide), upd_comm (d := 66) (d' := 64) (by decide), upd_comm (d := 65) (d' := 64) (by decide)] at this; exact this
theorem or14 (h6 : f 6 = .ptr 2 0 3) (h2 : f 2 = .ptr 0 0 133) (g0 : σ[0]? = some (.sc .var 133 g)) (g2 : σ[2]? = some (rrB s k st)) : opsX R [e1, e2, e3, e4, e0, e5, e6, e7] (E 74 f) σ = some (.normal, E 74 (eF f k), σ.set 0 (.sc .var 133 (over g 0 133 (ia fun _ => 0)))) := by
 have g2s : (σ.set 0 (.sc .var 133 (over g 0 133 (ia fun _ => 0))))[2]? = some (rrB s k st) := by rw [List.getElem?_set_ne (by decide)]; exact g2
 have : opsX R [e1, e2, e3, e4, e0, e5, e6, e7] (E 74 f) σ = some (.normal, E 74 (upd (upd (upd (upd (upd (upd (upd f 65 (.ptr 2 0 3)) 66 (.ptr 2 0 3)) 67 (.ptr 2 1 1)) 68 (.s (.int .i64 (k : Int)))) 64 zAg) 3 (.s (.int .i64 (k : Int)))) 4 (.s (.int .i64 13))), σ.set 0 (.sc .var 133 (over g 0 133 (ia fun _ => 0)))) := ((x1 (by exact h6))).trans (((x2 (by rfl))).trans (((x3 (by rfl))).trans (((x4 (by rfl) g2)).trans ((x0).trans (((x5 (by exact h2) (by rfl) g0)).trans (((x6 (by rfl))).trans (x7)))))))
 rw [upd_comm (d := 68) (d' := 64) (by decide), upd_comm (d := 67) (d' := 64) (by decide), upd_comm (d := 66) (d' := 64) (by decide), upd_comm (d := 65) (d' := 64) (by decide)] at this; exact this
end
theorem stuck_tells {f : FE} {n : Nat} {s : ByteArray} {k : Nat} {st : Bool} {g : Nat → S} {L : HA} {K : KN} {X : Nat → KN} {R : KN} {Zp : V → KN} (h6 : f 6 = .ptr 2 0 3) (h2 : f 2 = .ptr 0 0 133) {L' : HA} (hat : At 0 (.sc .var 133 g) (.sc .var 133 (over g 0 133 (ia fun _ => 0))) L L') (m2 : (2, rrB s k st) ∈ L)
  (hk : K (eF f k) n L') : WP AM 74 (.parc [[0, 1, 2, 3, 4, 5, 6, 7], [0, 1, 2, 3, 5, 4, 6, 7], [0, 1, 2, 5, 3, 4, 6, 7], [0, 1, 5, 2, 3, 4, 6, 7], [0, 5, 1, 2, 3, 4, 6, 7], [1, 0, 2, 3, 4, 5, 6, 7], [1, 0, 2, 3, 5, 4, 6, 7], [1, 0, 2, 5, 3, 4, 6, 7], [1, 0, 5, 2, 3, 4, 6, 7], [1, 2, 0, 3, 4, 5, 6, 7], [1, 2, 0, 3, 5, 4, 6, 7], [1, 2, 0, 5, 3, 4, 6, 7], [1, 2, 3, 0, 4, 5, 6, 7], [1, 2, 3, 0, 5, 4, 6, 7], [1, 2, 3, 4, 0, 5, 6, 7]] [e0, e1, e2, e3, e4, e5, e6, e7]) f n L K X R Zp := by
 refine WP_parc fun σ hσ => ?_
 have g0 := (hσ.2.mem hat.mem).2
 have g2 := (hσ.2.mem m2).2
 refine ⟨.normal, eF f k, _, n, L', or0 h6 h2 g0 g2, fun p hp => ?_, hσ.set hat, hk⟩
 simp only [List.mem_cons, List.not_mem_nil, or_false] at hp
 rcases hp with rfl | rfl | rfl | rfl | rfl | rfl | rfl | rfl | rfl | rfl | rfl | rfl | rfl | rfl | rfl
 ·show sameR (opsX _ [e0, e1, e2, e3, e4, e5, e6, e7] _ _) _
  rw [or0 h6 h2 g0 g2]; exact sameR_refl _
 ·show sameR (opsX _ [e0, e1, e2, e3, e5, e4, e6, e7] _ _) _
  rw [or1 h6 h2 g0 g2]; exact sameR_refl _
 ·show sameR (opsX _ [e0, e1, e2, e5, e3, e4, e6, e7] _ _) _
  rw [or2 h6 h2 g0 g2]; exact sameR_refl _
 ·show sameR (opsX _ [e0, e1, e5, e2, e3, e4, e6, e7] _ _) _
  rw [or3 h6 h2 g0 g2]; exact sameR_refl _
 ·show sameR (opsX _ [e0, e5, e1, e2, e3, e4, e6, e7] _ _) _
  rw [or4 h6 h2 g0 g2]; exact sameR_refl _
 ·show sameR (opsX _ [e1, e0, e2, e3, e4, e5, e6, e7] _ _) _
  rw [or5 h6 h2 g0 g2]; exact sameR_refl _
 ·show sameR (opsX _ [e1, e0, e2, e3, e5, e4, e6, e7] _ _) _
  rw [or6 h6 h2 g0 g2]; exact sameR_refl _
 ·show sameR (opsX _ [e1, e0, e2, e5, e3, e4, e6, e7] _ _) _
  rw [or7 h6 h2 g0 g2]; exact sameR_refl _
 ·show sameR (opsX _ [e1, e0, e5, e2, e3, e4, e6, e7] _ _) _
  rw [or8 h6 h2 g0 g2]; exact sameR_refl _
 ·show sameR (opsX _ [e1, e2, e0, e3, e4, e5, e6, e7] _ _) _
  rw [or9 h6 h2 g0 g2]; exact sameR_refl _
 ·show sameR (opsX _ [e1, e2, e0, e3, e5, e4, e6, e7] _ _) _
  rw [or10 h6 h2 g0 g2]; exact sameR_refl _
 ·show sameR (opsX _ [e1, e2, e0, e5, e3, e4, e6, e7] _ _) _
  rw [or11 h6 h2 g0 g2]; exact sameR_refl _
 ·show sameR (opsX _ [e1, e2, e3, e0, e4, e5, e6, e7] _ _) _
  rw [or12 h6 h2 g0 g2]; exact sameR_refl _
 ·show sameR (opsX _ [e1, e2, e3, e0, e5, e4, e6, e7] _ _) _
  rw [or13 h6 h2 g0 g2]; exact sameR_refl _
 ·show sameR (opsX _ [e1, e2, e3, e4, e0, e5, e6, e7] _ _) _
  rw [or14 h6 h2 g0 g2]; exact sameR_refl _
end Go.Proofs.YtlaogmemhephnaaGreatDoor
set_option linter.unusedVariables false
set_option linter.unusedSimpArgs false
namespace Go.Proofs.YtlaogmemhephnaaGreatDoor
open Go Go.Am
def StD (s : ByteArray) (r : Except Nat ((Nat → Int) × Nat)) (L : HA) : Prop :=
 match r with
 | .ok (P, k) => k ≤ s.size ∧ L = [(2, rrB s k false), (1, .sc .var 133 (ia P)), (0, .sc .var 133 (ia fun _ => 0))]
 | .error e => ∃ P : Nat → Int, L = [(2, rrB s e true), (1, .sc .var 133 (ia P)), (0, .sc .var 133 (ia fun _ => 0))]
def IP (s : ByteArray) (r : Except Nat ((Nat → Int) × Nat)) : KN := fun f n L => f 0 = .s (.str s) ∧ f 2 = .ptr 0 0 133 ∧ f 5 = .ptr 1 0 133 ∧ f 6 = .ptr 2 0 3 ∧ StD s r L
def blR (s : ByteArray) (r : Except Nat ((Nat → Int) × Nat)) : Except Nat ((Nat → Int) × Nat) :=
 match r with
 | .error e => .error e
 | .ok (P, k) => if takeC s k spcS = true then .ok (P, k + 1) else .error k
def fdR (s : ByteArray) (i : Nat) (r : Except Nat ((Nat → Int) × Nat)) : Except Nat ((Nat → Int) × Nat) :=
 match r with
 | .error e => .error e
 | .ok (P, k) => innR s i P k
section
variable {K : KN} {X : Nat → KN} {R : KN} {Zp : V → KN}
theorem bl0 {s : ByteArray} (hs : s.size ≤ 1000) {r : Except Nat ((Nat → Int) × Nat)} {f : FE} {n : Nat} {L : HA} (h : IP s r f n L) : WP AM 74 (.ops [⟨some 26, none, .p (.mv (.t 6))⟩, ⟨some 27, none, .h (.call (.k (.fn 27 [])) [(.t 26), (.k (.s (.str ⟨#[32]⟩)))])⟩]) f n L (fun f n L => ∃ L', List.Sublist L' L ∧ IP s (blR s r) f n L') X R Zp := by
 obtain ⟨k0, k2, k5, k6, hL⟩ := h
 refine WP_know (d := 0) k0 (WP_know (d := 2) k2 (WP_know (d := 5) k5 (WP_know (d := 6) k6 ?_)))
 refine WP_ops (WO_mv rfl ?_)
 match r, hL with
 | .ok (P, k), ⟨hk, hL⟩ =>
  subst hL
  cases ht : takeC s k spcS with
  | true =>
   refine WO_oneY (b := 2) rfl rfl hs (by decide) ht .here (WO_nil ?_)
   refine ⟨_, .refl _, rfl, rfl, rfl, rfl, ?_⟩
   show StD s (if takeC s k spcS = true then .ok (P, k + 1) else .error k) _
   rw [if_pos ht]
   exact ⟨by have := take_lt ht; omega, rfl⟩
  | false =>
   refine WO_oneN (b := 2) rfl rfl hs (by decide) (.inr ht) .here (WO_nil ?_)
   refine ⟨_, .refl _, rfl, rfl, rfl, rfl, ?_⟩
   show StD s (if takeC s k spcS = true then .ok (P, k + 1) else .error k) _
   rw [if_neg (by rw [ht]; decide)]
   exact ⟨P, rfl⟩
 | .error e, ⟨P, hL⟩ =>
  subst hL
  refine WO_oneN (b := 2) rfl rfl hs (by decide) (.inl rfl) .here (WO_nil ?_)
  exact ⟨_, .refl _, rfl, rfl, rfl, rfl, P, rfl⟩
theorem bl1 {s : ByteArray} (hs : s.size ≤ 1000) {r : Except Nat ((Nat → Int) × Nat)} {f : FE} {n : Nat} {L : HA} (h : IP s r f n L) : WP AM 74 (.ops [⟨some 31, none, .p (.mv (.t 6))⟩, ⟨some 32, none, .h (.call (.k (.fn 27 [])) [(.t 31), (.k (.s (.str ⟨#[32]⟩)))])⟩]) f n L (fun f n L => ∃ L', List.Sublist L' L ∧ IP s (blR s r) f n L') X R Zp := by
 obtain ⟨k0, k2, k5, k6, hL⟩ := h
 refine WP_know (d := 0) k0 (WP_know (d := 2) k2 (WP_know (d := 5) k5 (WP_know (d := 6) k6 ?_)))
 refine WP_ops (WO_mv rfl ?_)
 match r, hL with
 | .ok (P, k), ⟨hk, hL⟩ =>
  subst hL
  cases ht : takeC s k spcS with
  | true =>
   refine WO_oneY (b := 2) rfl rfl hs (by decide) ht .here (WO_nil ?_)
   refine ⟨_, .refl _, rfl, rfl, rfl, rfl, ?_⟩
   show StD s (if takeC s k spcS = true then .ok (P, k + 1) else .error k) _
   rw [if_pos ht]
   exact ⟨by have := take_lt ht; omega, rfl⟩
  | false =>
   refine WO_oneN (b := 2) rfl rfl hs (by decide) (.inr ht) .here (WO_nil ?_)
   refine ⟨_, .refl _, rfl, rfl, rfl, rfl, ?_⟩
   show StD s (if takeC s k spcS = true then .ok (P, k + 1) else .error k) _
   rw [if_neg (by rw [ht]; decide)]
   exact ⟨P, rfl⟩
 | .error e, ⟨P, hL⟩ =>
  subst hL
  refine WO_oneN (b := 2) rfl rfl hs (by decide) (.inl rfl) .here (WO_nil ?_)
  exact ⟨_, .refl _, rfl, rfl, rfl, rfl, P, rfl⟩
theorem bl2 {s : ByteArray} (hs : s.size ≤ 1000) {r : Except Nat ((Nat → Int) × Nat)} {f : FE} {n : Nat} {L : HA} (h : IP s r f n L) : WP AM 74 (.ops [⟨some 36, none, .p (.mv (.t 6))⟩, ⟨some 37, none, .h (.call (.k (.fn 27 [])) [(.t 36), (.k (.s (.str ⟨#[32]⟩)))])⟩]) f n L (fun f n L => ∃ L', List.Sublist L' L ∧ IP s (blR s r) f n L') X R Zp := by
 obtain ⟨k0, k2, k5, k6, hL⟩ := h
 refine WP_know (d := 0) k0 (WP_know (d := 2) k2 (WP_know (d := 5) k5 (WP_know (d := 6) k6 ?_)))
 refine WP_ops (WO_mv rfl ?_)
 match r, hL with
 | .ok (P, k), ⟨hk, hL⟩ =>
  subst hL
  cases ht : takeC s k spcS with
  | true =>
   refine WO_oneY (b := 2) rfl rfl hs (by decide) ht .here (WO_nil ?_)
   refine ⟨_, .refl _, rfl, rfl, rfl, rfl, ?_⟩
   show StD s (if takeC s k spcS = true then .ok (P, k + 1) else .error k) _
   rw [if_pos ht]
   exact ⟨by have := take_lt ht; omega, rfl⟩
  | false =>
   refine WO_oneN (b := 2) rfl rfl hs (by decide) (.inr ht) .here (WO_nil ?_)
   refine ⟨_, .refl _, rfl, rfl, rfl, rfl, ?_⟩
   show StD s (if takeC s k spcS = true then .ok (P, k + 1) else .error k) _
   rw [if_neg (by rw [ht]; decide)]
   exact ⟨P, rfl⟩
 | .error e, ⟨P, hL⟩ =>
  subst hL
  refine WO_oneN (b := 2) rfl rfl hs (by decide) (.inl rfl) .here (WO_nil ?_)
  exact ⟨_, .refl _, rfl, rfl, rfl, rfl, P, rfl⟩
theorem bl3 {s : ByteArray} (hs : s.size ≤ 1000) {r : Except Nat ((Nat → Int) × Nat)} {f : FE} {n : Nat} {L : HA} (h : IP s r f n L) : WP AM 74 (.ops [⟨some 41, none, .p (.mv (.t 6))⟩, ⟨some 42, none, .h (.call (.k (.fn 27 [])) [(.t 41), (.k (.s (.str ⟨#[32]⟩)))])⟩]) f n L (fun f n L => ∃ L', List.Sublist L' L ∧ IP s (blR s r) f n L') X R Zp := by
 obtain ⟨k0, k2, k5, k6, hL⟩ := h
 refine WP_know (d := 0) k0 (WP_know (d := 2) k2 (WP_know (d := 5) k5 (WP_know (d := 6) k6 ?_)))
 refine WP_ops (WO_mv rfl ?_)
 match r, hL with
 | .ok (P, k), ⟨hk, hL⟩ =>
  subst hL
  cases ht : takeC s k spcS with
  | true =>
   refine WO_oneY (b := 2) rfl rfl hs (by decide) ht .here (WO_nil ?_)
   refine ⟨_, .refl _, rfl, rfl, rfl, rfl, ?_⟩
   show StD s (if takeC s k spcS = true then .ok (P, k + 1) else .error k) _
   rw [if_pos ht]
   exact ⟨by have := take_lt ht; omega, rfl⟩
  | false =>
   refine WO_oneN (b := 2) rfl rfl hs (by decide) (.inr ht) .here (WO_nil ?_)
   refine ⟨_, .refl _, rfl, rfl, rfl, rfl, ?_⟩
   show StD s (if takeC s k spcS = true then .ok (P, k + 1) else .error k) _
   rw [if_neg (by rw [ht]; decide)]
   exact ⟨P, rfl⟩
 | .error e, ⟨P, hL⟩ =>
  subst hL
  refine WO_oneN (b := 2) rfl rfl hs (by decide) (.inl rfl) .here (WO_nil ?_)
  exact ⟨_, .refl _, rfl, rfl, rfl, rfl, P, rfl⟩
theorem bl4 {s : ByteArray} (hs : s.size ≤ 1000) {r : Except Nat ((Nat → Int) × Nat)} {f : FE} {n : Nat} {L : HA} (h : IP s r f n L) : WP AM 74 (.ops [⟨some 46, none, .p (.mv (.t 6))⟩, ⟨some 47, none, .h (.call (.k (.fn 27 [])) [(.t 46), (.k (.s (.str ⟨#[32]⟩)))])⟩]) f n L (fun f n L => ∃ L', List.Sublist L' L ∧ IP s (blR s r) f n L') X R Zp := by
 obtain ⟨k0, k2, k5, k6, hL⟩ := h
 refine WP_know (d := 0) k0 (WP_know (d := 2) k2 (WP_know (d := 5) k5 (WP_know (d := 6) k6 ?_)))
 refine WP_ops (WO_mv rfl ?_)
 match r, hL with
 | .ok (P, k), ⟨hk, hL⟩ =>
  subst hL
  cases ht : takeC s k spcS with
  | true =>
   refine WO_oneY (b := 2) rfl rfl hs (by decide) ht .here (WO_nil ?_)
   refine ⟨_, .refl _, rfl, rfl, rfl, rfl, ?_⟩
   show StD s (if takeC s k spcS = true then .ok (P, k + 1) else .error k) _
   rw [if_pos ht]
   exact ⟨by have := take_lt ht; omega, rfl⟩
  | false =>
   refine WO_oneN (b := 2) rfl rfl hs (by decide) (.inr ht) .here (WO_nil ?_)
   refine ⟨_, .refl _, rfl, rfl, rfl, rfl, ?_⟩
   show StD s (if takeC s k spcS = true then .ok (P, k + 1) else .error k) _
   rw [if_neg (by rw [ht]; decide)]
   exact ⟨P, rfl⟩
 | .error e, ⟨P, hL⟩ =>
  subst hL
  refine WO_oneN (b := 2) rfl rfl hs (by decide) (.inl rfl) .here (WO_nil ?_)
  exact ⟨_, .refl _, rfl, rfl, rfl, rfl, P, rfl⟩
theorem fd0 {s : ByteArray} (hs : s.size ≤ 1000) {r : Except Nat ((Nat → Int) × Nat)} {f : FE} {n : Nat} {L : HA} (h : IP s r f n L) : WP AM 74 (.ops [⟨some 28, none, .p (.mv (.t 6))⟩, ⟨some 29, none, .h (.call (.k (.fn 27 [])) [(.t 28), (.k (.s (.str ⟨#[119, 98]⟩)))])⟩, ⟨some 30, none, .p (.fa 128 1 (.t 5))⟩, ⟨none, none, .h (.store 1 (.t 30) (.t 29))⟩]) f n L (fun f n L => ∃ L', List.Sublist L' L ∧ IP s (fdR s 0 r) f n L') X R Zp := by
 obtain ⟨k0, k2, k5, k6, hL⟩ := h
 refine WP_know (d := 0) k0 (WP_know (d := 2) k2 (WP_know (d := 5) k5 (WP_know (d := 6) k6 ?_)))
 refine WP_ops (WO_mv rfl ?_)
 match r, hL with
 | .ok (P, k), ⟨hk, hL⟩ =>
  subst hL
  cases ht : takeC s k wbS with
  | true =>
   refine WO_oneY (b := 2) rfl rfl hs (by decide) ht .here ?_
   refine WO_fa (o' := 128) rfl rfl rfl (WO_stI rfl rfl rfl rfl (.there .here) (WO_nil ?_))
   refine ⟨_, .refl _, rfl, rfl, rfl, rfl, ?_⟩
   show StD s (if takeC s k wbS = true then .ok (ov P 128 (wbI (chr s k)), k + 1) else .error k) _
   rw [if_pos ht]
   exact ⟨by have := take_lt ht; omega, rfl⟩
  | false =>
   refine WO_oneN (b := 2) rfl rfl hs (by decide) (.inr ht) .here ?_
   refine WO_fa (o' := 128) rfl rfl rfl (WO_stI rfl rfl rfl rfl (.there .here) (WO_nil ?_))
   refine ⟨_, .refl _, rfl, rfl, rfl, rfl, ?_⟩
   show StD s (if takeC s k wbS = true then .ok (ov P 128 (wbI (chr s k)), k + 1) else .error k) _
   rw [if_neg (by rw [ht]; decide)]
   exact ⟨_, rfl⟩
 | .error e, ⟨P, hL⟩ =>
  subst hL
  refine WO_oneN (b := 2) rfl rfl hs (by decide) (.inl rfl) .here ?_
  refine WO_fa (o' := 128) rfl rfl rfl (WO_stI rfl rfl rfl rfl (.there .here) (WO_nil ?_))
  exact ⟨_, .refl _, rfl, rfl, rfl, rfl, _, rfl⟩
theorem dnum_does (s : ByteArray) (k : Nat) (hs : s.size ≤ 1000) : DDoes 30 s k ((numberR s k).map fun q => ((q.2 : Int), q.1)) := by
 unfold numberR
 cases ht : takeC s k digS with
 | true => rw [if_pos rfl]; exact dnum_ok s k hs ht
 | false => rw [if_neg (by decide)]; exact ⟨-1, dnum_no s k false hs (.inr ht)⟩
def numberX (s : ByteArray) (k : Nat) : Except Nat (Int × Nat) := (numberR s k).map fun q => ((q.2 : Int), q.1)
theorem numP_X (s : ByteArray) (c : Nat) (P : Nat → Int) (k : Nat) : numP s c P k = (numberX s k).map fun r => (ov P c r.1, r.2) := by
 unfold numP numberX
 cases numberR s k <;> rfl
theorem castle_le {s : ByteArray} {k : Nat} (hk : k ≤ s.size) : ∀ x k', castleR s k = .ok (x, k') → k' ≤ s.size := by
 intro x k' h
 have e : innR s 1 (fun _ => 0) k = .ok (ov (fun _ => 0) 129 x, k') := by show castP s _ k = _; unfold castP; rw [h]; rfl
 exact (inn_keep2 e).1
theorem over_le {s : ByteArray} {k : Nat} (hk : k ≤ s.size) : ∀ x k', overR s k = .ok (x, k') → k' ≤ s.size := by
 intro x k' h
 have e : innR s 2 (fun _ => 0) k = .ok (ov (fun _ => 0) 130 x, k') := by show overP s _ k = _; unfold overP; rw [h]; rfl
 exact (inn_keep2 e).1
theorem number_le {s : ByteArray} {k : Nat} (hk : k ≤ s.size) : ∀ x k', numberX s k = .ok (x, k') → k' ≤ s.size := by
 intro x k' h
 have e : innR s 3 (fun _ => 0) k = .ok (ov (fun _ => 0) 131 x, k') := by show numP s 131 _ k = _; rw [numP_X, h]; rfl
 exact (inn_keep2 e).1
theorem fd1 {s : ByteArray} (hs : s.size ≤ 1000) {r : Except Nat ((Nat → Int) × Nat)} {f : FE} {n : Nat} {L : HA} (h : IP s r f n L) : WP AM 74 (.ops [⟨some 33, none, .p (.mv (.t 6))⟩, ⟨some 34, none, .h (.call (.k (.fn 28 [])) [(.t 33)])⟩, ⟨some 35, none, .p (.fa 129 1 (.t 5))⟩, ⟨none, none, .h (.store 1 (.t 35) (.t 34))⟩]) f n L (fun f n L => ∃ L', List.Sublist L' L ∧ IP s (fdR s 1 r) f n L') X R Zp := by
 obtain ⟨k0, k2, k5, k6, hL⟩ := h
 refine WP_know (d := 0) k0 (WP_know (d := 2) k2 (WP_know (d := 5) k5 (WP_know (d := 6) k6 ?_)))
 refine WP_ops (WO_mv rfl ?_)
 match r, hL with
 | .ok (P, k), ⟨hk, hL⟩ =>
  subst hL
  have hd := dcastle_does s k hs hk
  show WO _ _ _ _ _ _ (fun f n L => ∃ L', List.Sublist L' L ∧ IP s ((castleR s k).map fun r => (ov P 129 r.1, r.2)) f n L') _
  have hb : ∀ x k', castleR s k = .ok (x, k') → k' ≤ s.size := castle_le hk
  cases hr : castleR s k with
  | ok q =>
   obtain ⟨x, k'⟩ := q
   rw [hr] at hd
   refine WO_callL (od := some 34) (av := [.ptr 2 0 3]) (rs := [2]) (Bs := [_]) (av' := [.ptr 0 0 3]) rfl rfl rfl hd rfl (Nat.le_of_ble_eq_true rfl) (fun _ h => h) rfl ⟨.head _, rfl, trivial⟩ rfl rfl (.cons .here .nil) ?_
   refine WO_fa (o' := 129) rfl rfl rfl (WO_stI rfl rfl rfl rfl (.there .here) (WO_nil ?_))
   exact ⟨_, .refl _, rfl, rfl, rfl, rfl, hb x k' hr, rfl⟩
  | error e =>
   rw [hr] at hd
   obtain ⟨x, hd⟩ := hd
   refine WO_callL (od := some 34) (av := [.ptr 2 0 3]) (rs := [2]) (Bs := [_]) (av' := [.ptr 0 0 3]) rfl rfl rfl hd rfl (Nat.le_of_ble_eq_true rfl) (fun _ h => h) rfl ⟨.head _, rfl, trivial⟩ rfl rfl (.cons .here .nil) ?_
   refine WO_fa (o' := 129) rfl rfl rfl (WO_stI rfl rfl rfl rfl (.there .here) (WO_nil ?_))
   exact ⟨_, .refl _, rfl, rfl, rfl, rfl, _, rfl⟩
 | .error e, ⟨P, hL⟩ =>
  subst hL
  obtain ⟨x, hd⟩ := dcastle_stuck s e hs
  refine WO_callL (od := some 34) (av := [.ptr 2 0 3]) (rs := [2]) (Bs := [_]) (av' := [.ptr 0 0 3]) rfl rfl rfl hd rfl (Nat.le_of_ble_eq_true rfl) (fun _ h => h) rfl ⟨.head _, rfl, trivial⟩ rfl rfl (.cons .here .nil) ?_
  refine WO_fa (o' := 129) rfl rfl rfl (WO_stI rfl rfl rfl rfl (.there .here) (WO_nil ?_))
  exact ⟨_, .refl _, rfl, rfl, rfl, rfl, _, rfl⟩
theorem fd2 {s : ByteArray} (hs : s.size ≤ 1000) {r : Except Nat ((Nat → Int) × Nat)} {f : FE} {n : Nat} {L : HA} (h : IP s r f n L) : WP AM 74 (.ops [⟨some 38, none, .p (.mv (.t 6))⟩, ⟨some 39, none, .h (.call (.k (.fn 29 [])) [(.t 38)])⟩, ⟨some 40, none, .p (.fa 130 1 (.t 5))⟩, ⟨none, none, .h (.store 1 (.t 40) (.t 39))⟩]) f n L (fun f n L => ∃ L', List.Sublist L' L ∧ IP s (fdR s 2 r) f n L') X R Zp := by
 obtain ⟨k0, k2, k5, k6, hL⟩ := h
 refine WP_know (d := 0) k0 (WP_know (d := 2) k2 (WP_know (d := 5) k5 (WP_know (d := 6) k6 ?_)))
 refine WP_ops (WO_mv rfl ?_)
 match r, hL with
 | .ok (P, k), ⟨hk, hL⟩ =>
  subst hL
  have hd := dover_does s k hs
  show WO _ _ _ _ _ _ (fun f n L => ∃ L', List.Sublist L' L ∧ IP s ((overR s k).map fun r => (ov P 130 r.1, r.2)) f n L') _
  have hb : ∀ x k', overR s k = .ok (x, k') → k' ≤ s.size := over_le hk
  cases hr : overR s k with
  | ok q =>
   obtain ⟨x, k'⟩ := q
   rw [hr] at hd
   refine WO_callL (od := some 39) (av := [.ptr 2 0 3]) (rs := [2]) (Bs := [_]) (av' := [.ptr 0 0 3]) rfl rfl rfl hd rfl (Nat.le_of_ble_eq_true rfl) (fun _ h => h) rfl ⟨.head _, rfl, trivial⟩ rfl rfl (.cons .here .nil) ?_
   refine WO_fa (o' := 130) rfl rfl rfl (WO_stI rfl rfl rfl rfl (.there .here) (WO_nil ?_))
   exact ⟨_, .refl _, rfl, rfl, rfl, rfl, hb x k' hr, rfl⟩
  | error e =>
   rw [hr] at hd
   obtain ⟨x, hd⟩ := hd
   refine WO_callL (od := some 39) (av := [.ptr 2 0 3]) (rs := [2]) (Bs := [_]) (av' := [.ptr 0 0 3]) rfl rfl rfl hd rfl (Nat.le_of_ble_eq_true rfl) (fun _ h => h) rfl ⟨.head _, rfl, trivial⟩ rfl rfl (.cons .here .nil) ?_
   refine WO_fa (o' := 130) rfl rfl rfl (WO_stI rfl rfl rfl rfl (.there .here) (WO_nil ?_))
   exact ⟨_, .refl _, rfl, rfl, rfl, rfl, _, rfl⟩
 | .error e, ⟨P, hL⟩ =>
  subst hL
  obtain ⟨x, hd⟩ := dover_stuck s e hs
  refine WO_callL (od := some 39) (av := [.ptr 2 0 3]) (rs := [2]) (Bs := [_]) (av' := [.ptr 0 0 3]) rfl rfl rfl hd rfl (Nat.le_of_ble_eq_true rfl) (fun _ h => h) rfl ⟨.head _, rfl, trivial⟩ rfl rfl (.cons .here .nil) ?_
  refine WO_fa (o' := 130) rfl rfl rfl (WO_stI rfl rfl rfl rfl (.there .here) (WO_nil ?_))
  exact ⟨_, .refl _, rfl, rfl, rfl, rfl, _, rfl⟩
theorem fd3 {s : ByteArray} (hs : s.size ≤ 1000) {r : Except Nat ((Nat → Int) × Nat)} {f : FE} {n : Nat} {L : HA} (h : IP s r f n L) : WP AM 74 (.ops [⟨some 43, none, .p (.mv (.t 6))⟩, ⟨some 44, none, .h (.call (.k (.fn 30 [])) [(.t 43)])⟩, ⟨some 45, none, .p (.fa 131 1 (.t 5))⟩, ⟨none, none, .h (.store 1 (.t 45) (.t 44))⟩]) f n L (fun f n L => ∃ L', List.Sublist L' L ∧ IP s (fdR s 3 r) f n L') X R Zp := by
 obtain ⟨k0, k2, k5, k6, hL⟩ := h
 refine WP_know (d := 0) k0 (WP_know (d := 2) k2 (WP_know (d := 5) k5 (WP_know (d := 6) k6 ?_)))
 refine WP_ops (WO_mv rfl ?_)
 match r, hL with
 | .ok (P, k), ⟨hk, hL⟩ =>
  subst hL
  have hd := (show DDoes _ s k (numberX s k) from dnum_does s k hs)
  show WO _ _ _ _ _ _ (fun f n L => ∃ L', List.Sublist L' L ∧ IP s (numP s 131 P k) f n L') _
  rw [numP_X]
  have hb : ∀ x k', numberX s k = .ok (x, k') → k' ≤ s.size := number_le hk
  cases hr : numberX s k with
  | ok q =>
   obtain ⟨x, k'⟩ := q
   rw [hr] at hd
   refine WO_callL (od := some 44) (av := [.ptr 2 0 3]) (rs := [2]) (Bs := [_]) (av' := [.ptr 0 0 3]) rfl rfl rfl hd rfl (Nat.le_of_ble_eq_true rfl) (fun _ h => h) rfl ⟨.head _, rfl, trivial⟩ rfl rfl (.cons .here .nil) ?_
   refine WO_fa (o' := 131) rfl rfl rfl (WO_stI rfl rfl rfl rfl (.there .here) (WO_nil ?_))
   exact ⟨_, .refl _, rfl, rfl, rfl, rfl, hb x k' hr, rfl⟩
  | error e =>
   rw [hr] at hd
   obtain ⟨x, hd⟩ := hd
   refine WO_callL (od := some 44) (av := [.ptr 2 0 3]) (rs := [2]) (Bs := [_]) (av' := [.ptr 0 0 3]) rfl rfl rfl hd rfl (Nat.le_of_ble_eq_true rfl) (fun _ h => h) rfl ⟨.head _, rfl, trivial⟩ rfl rfl (.cons .here .nil) ?_
   refine WO_fa (o' := 131) rfl rfl rfl (WO_stI rfl rfl rfl rfl (.there .here) (WO_nil ?_))
   exact ⟨_, .refl _, rfl, rfl, rfl, rfl, _, rfl⟩
 | .error e, ⟨P, hL⟩ =>
  subst hL
  obtain ⟨x, hd⟩ := dnum_stuck s e hs
  refine WO_callL (od := some 44) (av := [.ptr 2 0 3]) (rs := [2]) (Bs := [_]) (av' := [.ptr 0 0 3]) rfl rfl rfl hd rfl (Nat.le_of_ble_eq_true rfl) (fun _ h => h) rfl ⟨.head _, rfl, trivial⟩ rfl rfl (.cons .here .nil) ?_
  refine WO_fa (o' := 131) rfl rfl rfl (WO_stI rfl rfl rfl rfl (.there .here) (WO_nil ?_))
  exact ⟨_, .refl _, rfl, rfl, rfl, rfl, _, rfl⟩
theorem fd4 {s : ByteArray} (hs : s.size ≤ 1000) {r : Except Nat ((Nat → Int) × Nat)} {f : FE} {n : Nat} {L : HA} (h : IP s r f n L) : WP AM 74 (.ops [⟨some 48, none, .p (.mv (.t 6))⟩, ⟨some 49, none, .h (.call (.k (.fn 30 [])) [(.t 48)])⟩, ⟨some 50, none, .p (.fa 132 1 (.t 5))⟩, ⟨none, none, .h (.store 1 (.t 50) (.t 49))⟩]) f n L (fun f n L => ∃ L', List.Sublist L' L ∧ IP s (fdR s 4 r) f n L') X R Zp := by
 obtain ⟨k0, k2, k5, k6, hL⟩ := h
 refine WP_know (d := 0) k0 (WP_know (d := 2) k2 (WP_know (d := 5) k5 (WP_know (d := 6) k6 ?_)))
 refine WP_ops (WO_mv rfl ?_)
 match r, hL with
 | .ok (P, k), ⟨hk, hL⟩ =>
  subst hL
  have hd := (show DDoes _ s k (numberX s k) from dnum_does s k hs)
  show WO _ _ _ _ _ _ (fun f n L => ∃ L', List.Sublist L' L ∧ IP s (numP s 132 P k) f n L') _
  rw [numP_X]
  have hb : ∀ x k', numberX s k = .ok (x, k') → k' ≤ s.size := number_le hk
  cases hr : numberX s k with
  | ok q =>
   obtain ⟨x, k'⟩ := q
   rw [hr] at hd
   refine WO_callL (od := some 49) (av := [.ptr 2 0 3]) (rs := [2]) (Bs := [_]) (av' := [.ptr 0 0 3]) rfl rfl rfl hd rfl (Nat.le_of_ble_eq_true rfl) (fun _ h => h) rfl ⟨.head _, rfl, trivial⟩ rfl rfl (.cons .here .nil) ?_
   refine WO_fa (o' := 132) rfl rfl rfl (WO_stI rfl rfl rfl rfl (.there .here) (WO_nil ?_))
   exact ⟨_, .refl _, rfl, rfl, rfl, rfl, hb x k' hr, rfl⟩
  | error e =>
   rw [hr] at hd
   obtain ⟨x, hd⟩ := hd
   refine WO_callL (od := some 49) (av := [.ptr 2 0 3]) (rs := [2]) (Bs := [_]) (av' := [.ptr 0 0 3]) rfl rfl rfl hd rfl (Nat.le_of_ble_eq_true rfl) (fun _ h => h) rfl ⟨.head _, rfl, trivial⟩ rfl rfl (.cons .here .nil) ?_
   refine WO_fa (o' := 132) rfl rfl rfl (WO_stI rfl rfl rfl rfl (.there .here) (WO_nil ?_))
   exact ⟨_, .refl _, rfl, rfl, rfl, rfl, _, rfl⟩
 | .error e, ⟨P, hL⟩ =>
  subst hL
  obtain ⟨x, hd⟩ := dnum_stuck s e hs
  refine WO_callL (od := some 49) (av := [.ptr 2 0 3]) (rs := [2]) (Bs := [_]) (av' := [.ptr 0 0 3]) rfl rfl rfl hd rfl (Nat.le_of_ble_eq_true rfl) (fun _ h => h) rfl ⟨.head _, rfl, trivial⟩ rfl rfl (.cons .here .nil) ?_
  refine WO_fa (o' := 132) rfl rfl rfl (WO_stI rfl rfl rfl rfl (.there .here) (WO_nil ?_))
  exact ⟨_, .refl _, rfl, rfl, rfl, rfl, _, rfl⟩
end
end Go.Proofs.YtlaogmemhephnaaGreatDoor
set_option linter.unusedVariables false
set_option linter.unusedSimpArgs false
namespace Go.Proofs.YtlaogmemhephnaaGreatDoor
open Go Go.Am
def rowS (s : ByteArray) (j : Nat) (r : Except Nat ((Nat → Int) × Nat)) : Except Nat ((Nat → Int) × Nat) :=
 match r with
 | .error e => .error e
 | .ok (P, k) => rowR s j 9 0 true k P
def rksS (s : ByteArray) (j : Nat) (r : Except Nat ((Nat → Int) × Nat)) : Except Nat ((Nat → Int) × Nat) :=
 match r with
 | .error e => .error e
 | .ok (P, k) => rksR s j k P
def slaR (s : ByteArray) (r : Except Nat ((Nat → Int) × Nat)) : Except Nat ((Nat → Int) × Nat) :=
 match r with
 | .error e => .error e
 | .ok (P, k) => if takeC s k slaS = true then .ok (P, k + 1) else .error k
theorem rks_step (s : ByteArray) (j : Nat) (hj : 0 < j) (r : Except Nat ((Nat → Int) × Nat)) : rksS s (j + 1) r = rksS s j (slaR s (rowS s j r)) := by
 match r with
 | .error e => rfl
 | .ok (P, k) =>
  show rksR s (j + 1) k P = rksS s j (slaR s (rowR s j 9 0 true k P))
  rw [rksR]
  match rowR s j 9 0 true k P with
  | .error e => rfl
  | .ok (P', k') =>
   show (if 0 < j then (if takeC s k' slaS = true then rksR s j (k' + 1) P' else .error k') else .ok (P', k')) = rksS s j (if takeC s k' slaS = true then .ok (P', k' + 1) else .error k')
   rw [if_pos hj]
   split <;> rfl
theorem rks_last (s : ByteArray) (r : Except Nat ((Nat → Int) × Nat)) : rksS s 1 r = rowS s 0 r := by
 match r with
 | .error e => rfl
 | .ok (P, k) =>
  show rksR s 1 k P = rowR s 0 9 0 true k P
  rw [rksR]
  match rowR s 0 9 0 true k P with
  | .error e => rfl
  | .ok (P', k') => rfl
theorem rks_none (s : ByteArray) (r : Except Nat ((Nat → Int) × Nat)) : rksS s 0 r = r := by
 match r with
 | .error e => rfl
 | .ok (P, k) => rfl
def ptsS (s : ByteArray) (j i : Nat) (r : Except Nat ((Nat → Int) × Nat)) : Except Nat ((Nat → Int) × Nat) :=
 match r with
 | .error e => .error e
 | .ok (P, k) => partsR s j i k P
theorem pts_step (s : ByteArray) (j i : Nat) (r : Except Nat ((Nat → Int) × Nat)) : ptsS s (j + 1) i r = ptsS s j (i + 1) (fdR s i (blR s r)) := by
 match r with
 | .error e => rfl
 | .ok (P, k) =>
  show partsR s (j + 1) i k P = _
  rw [partsR]
  unfold partR spR
  show _ = ptsS s j (i + 1) (fdR s i (if takeC s k spcS = true then .ok (P, k + 1) else .error k))
  cases takeC s k spcS with
  | true =>
   rw [if_pos rfl, if_pos rfl]
   show _ = ptsS s j (i + 1) (innR s i P (k + 1))
   match innR s i P (k + 1) with
   | .error e => rfl
   | .ok (P', k') => rfl
  | false => rw [if_neg (by decide), if_neg (by decide)]; rfl
theorem pts_none (s : ByteArray) (i : Nat) (r : Except Nat ((Nat → Int) × Nat)) : ptsS s 0 i r = r := by
 match r with
 | .error e => rfl
 | .ok (P, k) => rfl
def endR (s : ByteArray) : Except Nat ((Nat → Int) × Nat) := fdR s 4 (blR s (fdR s 3 (blR s (fdR s 2 (blR s (fdR s 1 (blR s (fdR s 0 (blR s (rksR s 8 0 fun _ => 0))))))))))
theorem all_end (s : ByteArray) : allR s = match endR s with
  | .error e => .error e
  | .ok (P, k) => if k < s.size then .error k else .ok P := by
 have e : endR s = ptsS s 5 0 (rksR s 8 0 fun _ => 0) := by
  rw [pts_step, pts_step, pts_step, pts_step, pts_step, pts_none]; rfl
 rw [e]
 unfold allR
 match rksR s 8 0 fun _ => 0 with
 | .error e => rfl
 | .ok (P, k) =>
  show (match partsR s 5 0 k P with
   | .error e => Except.error e
   | .ok (P, k) => if k < s.size then .error k else .ok P) = match partsR s 5 0 k P with
   | .error e => Except.error e
   | .ok (P, k) => if k < s.size then .error k else .ok P
  rfl
def HiR (r : Except Nat ((Nat → Int) × Nat)) : Prop := ∀ P k, r = .ok (P, k) → ∀ i, 133 ≤ i → P i = 0
theorem bl_hi {s : ByteArray} {r : Except Nat ((Nat → Int) × Nat)} (h : HiR r) : HiR (blR s r) := by
 match r, h with
 | .error e, h => exact h
 | .ok (P, k), h =>
  intro P' k' he
  have : (if takeC s k spcS = true then .ok (P, k + 1) else .error k : Except Nat ((Nat → Int) × Nat)) = .ok (P', k') := he
  split at this
  ·injection this with this
   injection this with h1 h2
   subst h1
   exact h P k rfl
  ·cases this
theorem fd_hi {s : ByteArray} {j : Nat} {r : Except Nat ((Nat → Int) × Nat)} (h : HiR r) : HiR (fdR s j r) := by
 match r, h with
 | .error e, h => exact h
 | .ok (P, k), h =>
  intro P' k' he i hi
  have he : innR s j P k = .ok (P', k') := he
  obtain ⟨_, _, x, rfl⟩ := inn_keep2 he
  rw [ov_out (by omega)]
  exact h P k rfl i hi
theorem end_hi (s : ByteArray) : HiR (endR s) := by
 unfold endR
 refine fd_hi (bl_hi (fd_hi (bl_hi (fd_hi (bl_hi (fd_hi (bl_hi (fd_hi (bl_hi ?_)))))))))
 intro P k he i hi
 rw [(rks_keep 8 0 _ P k (by omega) (by omega) he).2 i (by omega)]
theorem zero_over : over (ia fun _ => 0) 0 133 (ia fun _ => 0) = ia fun _ => 0 := by
 rw [over_ia, ovA_is (R := fun _ => 0) (fun _ _ => rfl) (fun _ _ => rfl)]
theorem drows_walk (s : ByteArray) (hs : s.size ≤ 1000) {f : FE} {n : Nat} {L : HA} (hI : IP s (.ok (fun _ => 0, 0)) f n L) {X : Nat → KN} {R : KN} {Zp : V → KN} : WP AM 74 (qL (qR (qR (qR (qR a12.body))))) f n L (fun f n L => ∃ L', List.Sublist L' L ∧ IP s (rksR s 8 0 fun _ => 0) f n L') X R Zp := by
 obtain ⟨k0, k2, k5, k6, hL⟩ := hI
 refine WP_know (d := 0) k0 (WP_know (d := 2) k2 (WP_know (d := 5) k5 (WP_know (d := 6) k6 ?_)))
 refine WP_seq (WP_ops (WO_mv rfl (WO_nil ?_)))
 refine WP_block ?_
 refine WP_loop (fun m f nb L => ∃ (j : Nat) (r : Except Nat ((Nat → Int) × Nat)), m = j ∧ j ≤ 8 ∧ rksS s j r = rksR s 8 0 (fun _ => 0) ∧ f 7 = .s (.int .i64 ((j : Int) - 1)) ∧ IP s r f nb L) (fun m f nb L hI => ?_) 8 ⟨8, .ok (fun _ => 0, 0), rfl, by omega, rfl, rfl, rfl, rfl, rfl, rfl, hL⟩
 clear k0 k2 k5 k6 hL
 obtain ⟨j, r, hm, hj, he, k7, hI⟩ := hI
 have hI2 := hI
 obtain ⟨k0, k2, k5, k6, hL⟩ := hI
 cases j with
 | zero =>
  refine WP_know (d := 7) k7 ?_
  refine WP_seq (WP_seq (WP_ops ?_))
  refine WO_mv (v := .s (.int _ _)) rfl (WO_bin (r := .bool false) rfl rfl rfl (WO_nil ?_))
  refine WP_cond rfl (fun h => by cases h) (fun _ => ?_)
  refine WP_exit (xhere ?_)
  rw [rks_none] at he
  rw [← he]
  refine ⟨_, .refl _, ?_⟩
  exact ⟨k0, k2, k5, k6, hL⟩
 | succ j =>
  rw [show ((j + 1 : Nat) : Int) - 1 = (j : Int) by omega] at k7
  refine WP_know (d := 7) k7 (WP_know (d := 0) k0 (WP_know (d := 2) k2 (WP_know (d := 5) k5 (WP_know (d := 6) k6 ?_))))
  refine WP_seq (WP_seq (WP_ops ?_))
  refine WO_mv (v := .s (.int _ _)) rfl (WO_bin (r := .bool true) rfl rfl (by show some (S.bool (decide _)) = _; rw [decide_eq_true (by omega)]) (WO_nil ?_))
  refine WP_cond rfl (fun _ => WP_skip ?_) (fun h => by cases h)
  refine WP_seq (WP_block (WP_cut (fun f n L => f 7 = .s (.int .i64 (j : Int)) ∧ IP s (rowS s j r) f n L) ?_ ?_))
  ·refine WP_ops (WO_mv rfl (WO_mv (v := .s (.int _ _)) rfl ?_))
   match r, hL with
   | .ok (P, k), ⟨hk, hL⟩ =>
    subst hL
    cases hr : rowR s j 9 0 true k P with
    | ok q =>
     obtain ⟨P', k'⟩ := q
     refine WO_callL (od := some 21) (av := [.ptr 2 0 3, .ptr 1 0 133, .s (.int .i64 (j : Int))]) (rs := [2, 1]) (Bs := [_, _]) (av' := [.ptr 0 0 3, .ptr 1 0 133, .s (.int .i64 (j : Int))]) rfl rfl rfl (drow_ok (by omega) hs hk hr) (by simp [V.refsL, V.refs, dedup]) (by simp [V.refsL, V.refs]) (by simp [V.refsL, V.refs]) (by simp [rnL, V.renL, V.ren, pos]) ⟨.head _, rfl, .tail _ (.head _), rfl, trivial⟩ rfl rfl (.cons .here (.cons (.there .here) .nil)) (WO_nil ?_)
     refine ⟨_, .refl _, rfl, rfl, rfl, rfl, rfl, ?_⟩
     show StD s (rowR s j 9 0 true k P) _
     rw [hr]
     exact ⟨(row_keep (by omega) 9 0 true k P P' k' hk hr).1, rfl⟩
    | error e =>
     obtain ⟨P', h⟩ := drow_no (by omega) hs hk hr
     refine WO_callL (od := some 21) (av := [.ptr 2 0 3, .ptr 1 0 133, .s (.int .i64 (j : Int))]) (rs := [2, 1]) (Bs := [_, _]) (av' := [.ptr 0 0 3, .ptr 1 0 133, .s (.int .i64 (j : Int))]) rfl rfl rfl h (by simp [V.refsL, V.refs, dedup]) (by simp [V.refsL, V.refs]) (by simp [V.refsL, V.refs]) (by simp [rnL, V.renL, V.ren, pos]) ⟨.head _, rfl, .tail _ (.head _), rfl, trivial⟩ rfl rfl (.cons .here (.cons (.there .here) .nil)) (WO_nil ?_)
     refine ⟨_, .refl _, rfl, rfl, rfl, rfl, rfl, ?_⟩
     show StD s (rowR s j 9 0 true k P) _
     rw [hr]
     exact ⟨P', rfl⟩
   | .error e, ⟨P, hL⟩ =>
    subst hL
    refine WO_callL (od := some 21) (av := [.ptr 2 0 3, .ptr 1 0 133, .s (.int .i64 (j : Int))]) (rs := [2, 1]) (Bs := [_, _]) (av' := [.ptr 0 0 3, .ptr 1 0 133, .s (.int .i64 (j : Int))]) rfl rfl rfl (drow_stuck s j e P) (by simp [V.refsL, V.refs, dedup]) (by simp [V.refsL, V.refs]) (by simp [V.refsL, V.refs]) (by simp [rnL, V.renL, V.ren, pos]) ⟨.head _, rfl, .tail _ (.head _), rfl, trivial⟩ rfl rfl (.cons .here (.cons (.there .here) .nil)) (WO_nil ?_)
    exact ⟨_, .refl _, rfl, rfl, rfl, rfl, rfl, P, rfl⟩
  ·clear k0 k2 k5 k6 k7 hL hI2
   rintro f n L ⟨k7, k0, k2, k5, k6, hL⟩
   refine WP_know (d := 7) k7 (WP_know (d := 0) k0 (WP_know (d := 2) k2 (WP_know (d := 5) k5 (WP_know (d := 6) k6 ?_))))
   refine WP_seq (WP_ops ?_)
   by_cases hj0 : 0 < j
   ·rw [rks_step s j hj0] at he
    generalize rowS s j r = q at he hL
    refine WO_mv (v := .s (.int _ _)) rfl (WO_bin (r := .bool true) rfl rfl (by show some (S.bool (decide _)) = _; rw [decide_eq_true (by omega)]) (WO_nil ?_))
    refine WP_cond rfl (fun _ => ?_) (fun h => by cases h)
    refine WP_ops (WO_mv rfl ?_)
    match q, hL with
    | .ok (P, k), ⟨hk, hL⟩ =>
     subst hL
     cases ht : takeC s k slaS with
     | true =>
      refine WO_oneY (b := 2) rfl rfl hs (by decide) ht .here (WO_nil ?_)
      refine WP_ops (WO_mv (v := .s (.int _ _)) rfl (WO_sub rfl rfl (by omega) (WO_mv (v := .s (.int _ _)) rfl (WO_nil ?_))))
      refine ⟨j, _, by omega, .refl _, j, _, rfl, by omega, he, rfl, rfl, rfl, rfl, rfl, ?_⟩
      show StD s (if takeC s k slaS = true then .ok (P, k + 1) else .error k) _
      rw [if_pos ht]
      exact ⟨by have := take_lt ht; omega, rfl⟩
     | false =>
      refine WO_oneN (b := 2) rfl rfl hs (by decide) (.inr ht) .here (WO_nil ?_)
      refine WP_ops (WO_mv (v := .s (.int _ _)) rfl (WO_sub rfl rfl (by omega) (WO_mv (v := .s (.int _ _)) rfl (WO_nil ?_))))
      refine ⟨j, _, by omega, .refl _, j, _, rfl, by omega, he, rfl, rfl, rfl, rfl, rfl, ?_⟩
      show StD s (if takeC s k slaS = true then .ok (P, k + 1) else .error k) _
      rw [if_neg (by rw [ht]; decide)]
      exact ⟨P, rfl⟩
    | .error e, ⟨P, hL⟩ =>
     subst hL
     refine WO_oneN (b := 2) rfl rfl hs (by decide) (.inl rfl) .here (WO_nil ?_)
     refine WP_ops (WO_mv (v := .s (.int _ _)) rfl (WO_sub rfl rfl (by omega) (WO_mv (v := .s (.int _ _)) rfl (WO_nil ?_))))
     exact ⟨j, _, by omega, .refl _, j, _, rfl, by omega, he, rfl, rfl, rfl, rfl, rfl, P, rfl⟩
   ·obtain rfl : j = 0 := by omega
    rw [rks_last] at he
    refine WO_mv (v := .s (.int _ _)) rfl (WO_bin (r := .bool false) rfl rfl rfl (WO_nil ?_))
    refine WP_cond rfl (fun h => by cases h) (fun _ => WP_skip ?_)
    refine WP_ops (WO_mv (v := .s (.int _ _)) rfl (WO_sub rfl rfl (by omega) (WO_mv (v := .s (.int _ _)) rfl (WO_nil ?_))))
    exact ⟨0, _, by omega, .refl _, 0, rowS s 0 r, rfl, by omega, by rw [rks_none]; exact he, rfl, rfl, rfl, rfl, rfl, hL⟩
theorem dParse_walk (s : ByteArray) (hs : s.size ≤ 1000) : WR AM 12 [.s (.str s)] [] (fun v _ _ => v = parseV s) := by
 refine WR_fn (a := a12) rfl rfl (entryF _) (entry_E (Nat.le_of_ble_eq_true rfl)) (m := 0) rfl ?_
 refine WP_seq (WP_ops (WO_allocI (WO_mv rfl (WO_mv rfl (WO_nil ?_)))))
 refine WP_seq (WP_seq (WP_ops (WO_mv rfl (WO_lenS rfl ?_))))
 by_cases h128 : 128 < s.size
 ·refine WO_bin (r := .bool true) rfl rfl (by show some (S.bool (decide _)) = _; rw [decide_eq_true (by omega)]) (WO_nil ?_)
  refine WP_cond rfl (fun _ => ?_) (fun h => by cases h)
  refine WP_seq (WP_ops (WO_buildI rfl .nil (WO_stA rfl rfl rfl rfl .here (WO_mv rfl (WO_mv rfl (WO_nil ?_))))))
  refine WP_ret ⟨_, RS_cell rfl rfl (.head _) (RS_tmp rfl (RS_tmp rfl RS_nil)), ?_⟩
  rw [ovA_is (R := fun _ => 0) (fun _ _ => rfl) (fun _ _ => rfl)]
  unfold parseV parseR
  rw [if_pos h128]; rfl
 refine WO_bin (r := .bool false) rfl rfl (by show some (S.bool (decide _)) = _; rw [decide_eq_false (by omega)]) (WO_nil ?_)
 refine WP_cond rfl (fun h => by cases h) (fun _ => WP_skip ?_)
 refine WP_seq (WP_ops (WO_allocI (WO_nil ?_)))
 refine WP_seq (WP_ops (WO_mv rfl ?_))
 refine WO_buildL (m := 3) (zs := [.str s, .int .i64 0, .bool false]) rfl rfl (.part rfl rfl rfl rfl .nil) ?_
 refine WO_boxA rfl (WO_mv rfl (WO_nil ?_))
 have hlc : lc [S.str s, .int .i64 0, .bool false] = rrG s 0 false := by
  funext i
  match i with
  | 0 => rfl
  | 1 => rfl
  | 2 => rfl
  | i + 3 => rfl
 rw [hlc]
 refine WP_cut (IP s (rksR s 8 0 fun _ => 0)) (drows_walk s hs ⟨rfl, rfl, rfl, rfl, by omega, rfl⟩) (fun f n L h => ?_)
 refine WP_cut (IP s _) (bl0 hs h) (fun f n L h => ?_)
 refine WP_cut (IP s _) (fd0 hs h) (fun f n L h => ?_)
 refine WP_cut (IP s _) (bl1 hs h) (fun f n L h => ?_)
 refine WP_cut (IP s _) (fd1 hs h) (fun f n L h => ?_)
 refine WP_cut (IP s _) (bl2 hs h) (fun f n L h => ?_)
 refine WP_cut (IP s _) (fd2 hs h) (fun f n L h => ?_)
 refine WP_cut (IP s _) (bl3 hs h) (fun f n L h => ?_)
 refine WP_cut (IP s _) (fd3 hs h) (fun f n L h => ?_)
 refine WP_cut (IP s _) (bl4 hs h) (fun f n L h => ?_)
 refine WP_cut (IP s _) (fd4 hs h) (fun f n L h => ?_)
 have h : IP s (endR s) f n L := h
 have hall := all_end s
 have hhi := end_hi s
 have hpar : parseR s = (match allR s with
  | .error e => (fun _ => 0, (e : Int), 13)
  | .ok P => if rightM P = true then (P, 0, 0) else (fun _ => 0, 0, 2)) := by
  unfold parseR
  rw [if_neg h128]
  cases allR s <;> rfl
 generalize endR s = r at h hall hhi
 obtain ⟨k0, k2, k5, k6, hL⟩ := h
 refine WP_know (d := 0) k0 (WP_know (d := 2) k2 (WP_know (d := 5) k5 (WP_know (d := 6) k6 ?_)))
 refine WP_seq (WP_seq (WP_ops ?_))
 refine WO_mv rfl (WO_nilckP rfl (WO_fa (o' := 2) rfl rfl rfl ?_))
 match r, hL, hall, hhi with
 | .error e, ⟨P, hL⟩, hall, hhi =>
  subst hL
  have hall : allR s = .error e := hall
  rw [hall] at hpar
  refine WO_ldS rfl rfl (.head _) rfl ?_
  refine WO_mv rfl ?_
  refine WO_gf rfl rfl (WO_gf rfl rfl (WO_gf rfl rfl (WO_gf rfl rfl (WO_gf rfl rfl (WO_gf rfl rfl (WO_gf rfl rfl (WO_pick rfl rfl (WO_nil ?_))))))))
  refine WP_cond rfl (fun _ => ?_) (fun h => by cases h)
  refine WP_seq (stuck_tells (k := e) rfl rfl (.there (.there .here)) (.head _) ?_)
  refine WP_ret ⟨_, RS_cell rfl rfl (.tail _ (.tail _ (.head _))) (RS_tmp rfl (RS_tmp rfl RS_nil)), ?_⟩
  rw [zero_over, parseV, hpar]; rfl
 | .ok (P, k), ⟨hk, hL⟩, hall, hhi =>
  subst hL
  have hall : allR s = if k < s.size then .error k else .ok P := hall
  refine WO_ldS rfl rfl (.head _) rfl ?_
  refine WO_mv rfl ?_
  refine WO_gt rfl (WO_mv rfl ?_)
  refine WO_gt rfl (WO_nilckP rfl ?_)
  refine WO_gt rfl (WO_fa (o' := 1) rfl rfl rfl ?_)
  refine WO_gt rfl (WO_ldS rfl rfl (.head _) rfl ?_)
  refine WO_gt rfl (WO_mv rfl ?_)
  refine WO_gt rfl (WO_lenS rfl ?_)
  by_cases hks : k < s.size
  ·rw [if_pos hks] at hall
   rw [hall] at hpar
   refine WO_gt rfl (WO_bin (r := .bool true) rfl rfl (by show some (S.bool (decide _)) = _; rw [decide_eq_true (by omega)]) ?_)
   refine WO_pick rfl rfl (WO_nil ?_)
   refine WP_cond rfl (fun _ => ?_) (fun h => by cases h)
   refine WP_seq (stuck_tells (k := k) rfl rfl (.there (.there .here)) (.head _) ?_)
   refine WP_ret ⟨_, RS_cell rfl rfl (.tail _ (.tail _ (.head _))) (RS_tmp rfl (RS_tmp rfl RS_nil)), ?_⟩
   rw [zero_over, parseV, hpar]; rfl
  ·rw [if_neg hks] at hall
   rw [hall] at hpar
   have hpar : parseR s = if rightM P = true then (P, 0, 0) else (fun _ => 0, 0, 2) := hpar
   refine WO_gt rfl (WO_bin (r := .bool false) rfl rfl (by show some (S.bool (decide _)) = _; rw [decide_eq_false (by omega)]) ?_)
   refine WO_pick rfl rfl (WO_nil ?_)
   refine WP_cond rfl (fun h => by cases h) (fun _ => WP_skip ?_)
   refine WP_seq (WP_seq (WP_ops ?_))
   refine WO_ldA0 rfl rfl (.tail _ (.head _)) ?_
   refine WO_call0 rfl (RF_of (rRight_run P)) rfl rfl rfl ?_
   refine WO_un rfl rfl (WO_nil ?_)
   cases hR : rightM P with
   | false =>
    rw [if_neg (by rw [hR]; decide)] at hpar
    refine WP_cond rfl (fun _ => ?_) (fun h => by cases h)
    refine WP_seq (WP_ops (WO_buildI rfl .nil (WO_stA rfl rfl rfl rfl (.there (.there .here)) (WO_mv rfl (WO_mv rfl (WO_nil ?_))))))
    refine WP_ret ⟨_, RS_cell rfl rfl (.tail _ (.tail _ (.head _))) (RS_tmp rfl (RS_tmp rfl RS_nil)), ?_⟩
    rw [ovA_is (R := fun _ => 0) (fun _ _ => rfl) (fun _ _ => rfl), parseV, hpar]; rfl
   | true =>
    rw [if_pos hR] at hpar
    refine WP_cond rfl (fun h => by cases h) (fun _ => WP_skip ?_)
    refine WP_seq (WP_ops ?_)
    refine WO_ldA0 rfl rfl (.tail _ (.head _)) ?_
    refine WO_stA rfl rfl rfl rfl (.there (.there .here)) (WO_mv rfl (WO_mv rfl (WO_nil ?_)))
    refine WP_ret ⟨_, RS_cell rfl rfl (.tail _ (.tail _ (.head _))) (RS_tmp rfl (RS_tmp rfl RS_nil)), ?_⟩
    rw [ovA_is (R := P) (fun _ _ => rfl) (fun i hi => (hhi P k rfl i hi).symm), parseV, hpar]; rfl
theorem dparse_run (s : ByteArray) (hs : s.size ≤ 1000) : RF AM2 12 [.s (.str s)] (parseV s) := RF2 (RF_of (dParse_walk s hs))
end Go.Proofs.YtlaogmemhephnaaGreatDoor
set_option linter.unusedVariables false
set_option linter.unusedSimpArgs false
namespace Go.Proofs.YtlaogmemhephnaaGreatDoor
open Go Go.Am
def rpts (s : ByteArray) : Nat → Nat → Nat → List ByteArray
 | 0, _, _ => []
 | j + 1, i, fr => if i = s.size ∨ chr s i = 32 then s.extract fr i :: rpts s j (i + 1) (i + 1) else rpts s j (i + 1) fr
def ptsR (s : ByteArray) : List ByteArray := rpts s (s.size + 1) 0 0
theorem ext_list (s : ByteArray) (a b : Nat) : (s.extract a b).data.toList = (s.data.toList.drop a).take (b - a) := by
 simp only [ByteArray.data_extract, Array.toList_extract, List.extract_eq_take_drop]
theorem len_list (s : ByteArray) : s.data.toList.length = s.size := by rw [Array.length_toList]; rfl
theorem tail_list (s : ByteArray) (a : Nat) : (s.extract a s.size).data.toList = s.data.toList.drop a := by
 rw [ext_list, List.take_of_length_le (by rw [List.length_drop, len_list]; omega)]
theorem tail_getD (s : ByteArray) (a q : Nat) : (s.data.toList.drop a).getD q 0 = chr s (a + q) := by
 unfold chr
 rw [getD_list, List.getD_eq_getElem?_getD, List.getD_eq_getElem?_getD, List.getElem?_drop]
theorem ext_head (s : ByteArray) {fr i : Nat} (h : fr ≤ i) (hi : i ≤ s.size) : (s.extract fr s.size).extract 0 (i - fr + 0) = s.extract fr i := by
 apply str_inj
 rw [toList_is, toList_is, ext_list, tail_list, ext_list, List.drop_zero, Nat.add_zero, Nat.sub_zero]
theorem ext_rest (s : ByteArray) {fr i : Nat} (h : fr ≤ i) : (s.extract fr s.size).extract (i - fr + spcS.size) (s.extract fr s.size).size = s.extract (i + 1) s.size := by
 apply str_inj
 rw [toList_is, toList_is, tail_list, tail_list, tail_list, List.drop_drop]
 congr 1
 show fr + (i - fr + 1) = i + 1
 omega
theorem rpts_split (s : ByteArray) : ∀ j i fr, j = s.size + 1 - i → fr ≤ i → i ≤ s.size → (∀ q, fr ≤ q → q < i → chr s q ≠ 32) → rpts s j i fr = Lib.splitB spcS 0 (Lib.countB (s.extract fr s.size) spcS) (s.extract fr s.size)
 | 0, i, fr, hj, _, hi, _ => by omega
 | j + 1, i, fr, hj, hf, hi, hn => by
  have hix : Lib.indexB (s.extract fr s.size) spcS = Lib.indexByte (s.data.toList.drop fr) 32 := by
   show Lib.index (s.extract fr s.size).data.toList [32] = _
   rw [tail_list, Lib.index_one]
  rw [rpts]
  by_cases he : i = s.size
  ·subst he
   rw [if_pos (.inl rfl)]
   have hm : Lib.indexB (s.extract fr s.size) spcS = -1 := by
    rw [hix]
    refine idx_none _ _ fun q hq => ?_
    rw [List.length_drop, len_list] at hq
    rw [tail_getD]
    exact hn _ (by omega) (by omega)
   rw [Lib.countB_miss _ _ hm, Lib.splitB_zero]
   obtain rfl : j = 0 := by omega
   rfl
  ·by_cases hc : chr s i = 32
   ·rw [if_pos (.inr hc)]
    have hm : Lib.indexB (s.extract fr s.size) spcS = ((i - fr : Nat) : Int) := by
     rw [hix]
     refine idx_at _ _ _ (by rw [List.length_drop, len_list]; omega) ?_ fun q hq => ?_
     ·rw [tail_getD, show fr + (i - fr) = i by omega]; exact hc
     ·rw [tail_getD]; exact hn _ (by omega) (by omega)
    rw [Lib.countB_hit _ _ _ (by decide) hm, Nat.add_comm 1, Lib.splitB_hit _ _ _ _ _ hm, ext_head s hf hi, ext_rest s hf]
    rw [rpts_split s j (i + 1) (i + 1) (by omega) (Nat.le_refl _) (by omega) (fun q h1 h2 => by omega)]
   ·rw [if_neg (by rintro (h | h); exact he h; exact hc h)]
    refine rpts_split s j (i + 1) fr (by omega) (by omega) (by omega) fun q h1 h2 => ?_
    by_cases hq : q = i
    ·rw [hq]; exact hc
    ·exact hn q h1 (by omega)
theorem ptsR_split (s : ByteArray) : ptsR s = Lib.splitB spcS 0 (Lib.countB s spcS) s := by
 have h := rpts_split s (s.size + 1) 0 0 rfl (Nat.le_refl _) (by omega) (fun q h1 h2 => by omega)
 have e : s.extract 0 s.size = s := by
  apply str_inj
  rw [toList_is, toList_is, tail_list, List.drop_zero]
 rw [e] at h
 exact h
theorem rpts_ne (s : ByteArray) : ∀ j i fr, j + i = s.size + 1 → i ≤ s.size → rpts s j i fr ≠ []
 | 0, i, fr, hj, hi => by omega
 | j + 1, i, fr, hj, hi => by
  rw [rpts]
  split
  ·simp
  ·rename_i h
   have : i ≠ s.size := fun e => h (.inl e)
   exact rpts_ne s j (i + 1) fr (by omega) (by omega)
def Txts (l : List ByteArray) (g : Nat → S) : Prop := ∀ q, q < l.length → g q = .str (l.getD q ByteArray.empty)
theorem txts_add {l : List ByteArray} {g : Nat → S} {t : ByteArray} (h : Txts l g) : Txts (l ++ [t]) (fun i => bif Nat.blt i (l.length * 1) then g (0 + i) else over (fun _ => S.str ⟨#[]⟩) (0 * 1) 1 (fun _ => S.str t) (0 + (i - l.length * 1))) := by
 intro q hq
 rw [List.length_append] at hq
 by_cases e : q < l.length
 ·show (bif Nat.blt q (l.length * 1) then g (0 + q) else _) = _
  rw [show Nat.blt q (l.length * 1) = true from Nat.ble_eq_true_of_le (by omega), cond_true, Nat.zero_add, h q e, List.getD_eq_getElem?_getD, List.getD_eq_getElem?_getD, List.getElem?_append_left e]
 ·obtain rfl : q = l.length := by simp at hq; omega
  show (bif Nat.blt l.length (l.length * 1) then _ else over (fun _ => S.str ⟨#[]⟩) (0 * 1) 1 (fun _ => S.str t) (0 + (l.length - l.length * 1))) = _
  rw [blt_no (by omega), cond_false, show 0 + (l.length - l.length * 1) = 0 by omega, List.getD_eq_getElem?_getD, List.getElem?_append_right (Nat.le_refl _), Nat.sub_self]
  rfl
theorem dParts_walk (s : ByteArray) (hs : s.size ≤ 1000) : WR AM 15 [.s (.str s)] [] (fun v _ L => ∃ b g, v = .sl b 0 (ptsR s).length 1 .whole ∧ (b, Blk.sc .grow ((ptsR s).length * 1) g) ∈ L ∧ Txts (ptsR s) g) := by
 refine WR_fn (a := a15) rfl rfl (entryF _) (entry_E (Nat.le_of_ble_eq_true rfl)) (m := 0) rfl ?_
 refine WP_seq (WP_ops (WO_mv rfl (WO_nil ?_)))
 refine WP_seq (WP_ops (WO_mv rfl (WO_nil ?_)))
 refine WP_seq (WP_ops (WO_mv rfl (WO_nil ?_)))
 refine WP_cut (fun f n L => ∃ b g, f 3 = .sl b 0 (ptsR s).length 1 .whole ∧ L = [(b, Blk.sc .grow ((ptsR s).length * 1) g)] ∧ Txts (ptsR s) g) ?_ ?_
 ·refine WP_seq (WP_ops (WO_mv rfl (WO_nil ?_)))
  refine WP_block ?_
  refine WP_loop (fun m f nb L => ∃ (j i fr : Nat) (done : List ByteArray), m = j ∧ j + i = s.size + 1 ∧ fr ≤ i ∧ fr ≤ s.size + 1 ∧ done.length ≤ i ∧ done ++ rpts s j i fr = ptsR s ∧ f 0 = .s (.str s) ∧ f 4 = .s (.int .i64 (fr : Int)) ∧ f 5 = .s (.int .i64 (i : Int)) ∧ ((done = [] ∧ f 3 = .snil ∧ L = []) ∨ (0 < done.length ∧ ∃ b g, f 3 = .sl b 0 done.length 1 .whole ∧ Txts done g ∧ L = [(b, .sc .grow (done.length * 1) g)]))) (fun m f nb L hI => ?_) (s.size + 1) ⟨s.size + 1, 0, 0, [], rfl, rfl, by omega, by omega, by simp, rfl, rfl, rfl, rfl, .inl ⟨rfl, rfl, rfl⟩⟩
  obtain ⟨j, i, fr, done, hm, hji, hf, hf2, hd, he, k0, k4, k5, hc⟩ := hI
  refine WP_know (d := 0) k0 (WP_know (d := 4) k4 (WP_know (d := 5) k5 ?_))
  refine WP_seq (WP_seq (WP_ops ?_))
  refine WO_mv (v := .s (.int _ _)) rfl (WO_mv rfl (WO_lenS rfl ?_))
  by_cases hi : i ≤ s.size
  case neg =>
   refine WO_bin (r := .bool false) rfl rfl (by show some (S.bool (decide _)) = _; rw [decide_eq_false (by omega)]) (WO_nil ?_)
   refine WP_cond rfl (fun h => by cases h) (fun _ => ?_)
   obtain rfl : j = 0 := by omega
   have he : done ++ [] = ptsR s := he
   rw [List.append_nil] at he
   subst he
   rcases hc with ⟨e, _⟩ | ⟨_, b, g, k3, hg, rfl⟩
   ·exact absurd e (rpts_ne s (s.size + 1) 0 0 rfl (by omega))
   exact WP_exit (xhere ⟨_, .refl _, b, g, k3, rfl, hg⟩)
  obtain ⟨j, rfl⟩ : ∃ q, j = q + 1 := ⟨j - 1, by omega⟩
  rw [rpts] at he
  refine WO_bin (r := .bool true) rfl rfl (by show some (S.bool (decide _)) = _; rw [decide_eq_true (by omega)]) (WO_nil ?_)
  refine WP_cond rfl (fun _ => WP_skip ?_) (fun h => by cases h)
  refine WP_seq (WP_block (WP_cut (fun f n L => f 0 = .s (.str s) ∧ f 4 = .s (.int .i64 (fr : Int)) ∧ f 5 = .s (.int .i64 (i : Int)) ∧ f 21 = .s (.bool (decide (i = s.size ∨ chr s i = 32))) ∧ ((done = [] ∧ f 3 = .snil ∧ L = []) ∨ (0 < done.length ∧ ∃ b g, f 3 = .sl b 0 done.length 1 .whole ∧ Txts done g ∧ L = [(b, .sc .grow (done.length * 1) g)]))) ?_ ?_))
  ·refine WP_ops (WO_mv (v := .s (.int _ _)) rfl (WO_mv rfl (WO_lenS rfl ?_)))
   by_cases hie : i = s.size
   ·refine WO_bin (r := .bool true) rfl rfl (by show some (S.bool (_ == _)) = _; rw [hie, beq_self_eq_true]) ?_
    refine WO_mv rfl (WO_gf rfl rfl (WO_gf rfl rfl (WO_gf rfl rfl (WO_gf rfl rfl (WO_pick rfl rfl (WO_nil ?_))))))
    exact ⟨_, .refl _, rfl, rfl, rfl, by rw [decide_eq_true (.inl hie)]; rfl, hc⟩
   ·refine WO_bin (r := .bool false) rfl rfl (by show some (S.bool (_ == _)) = _; rw [beq_eq_false_iff_ne.2 (by omega)]) ?_
    refine WO_mv rfl (WO_gt rfl (WO_mv rfl ?_))
    refine WO_gt rfl (WO_mv (v := .s (.int _ _)) rfl ?_)
    refine WO_gt rfl (WO_ixstr rfl rfl (by omega) ?_)
    rw [show ((i : Int)).toNat = i by omega]
    by_cases hc32 : chr s i = 32
    ·refine WO_gt rfl (WO_bin rfl rfl (u8_eqT (c := s.data.getD i 0) (d := 32) hc32) ?_)
     refine WO_pick rfl rfl (WO_nil ?_)
     exact ⟨_, .refl _, rfl, rfl, rfl, by rw [decide_eq_true (.inr hc32)]; rfl, hc⟩
    ·refine WO_gt rfl (WO_bin rfl rfl (u8_eqF (c := s.data.getD i 0) (d := 32) hc32) ?_)
     refine WO_pick rfl rfl (WO_nil ?_)
     exact ⟨_, .refl _, rfl, rfl, rfl, by rw [decide_eq_false (by rintro (h | h); exact hie h; exact hc32 h)]; rfl, hc⟩
  ·clear k0 k4 k5 hc
   rintro f n L ⟨k0, k4, k5, k21, hc⟩
   refine WP_know (d := 0) k0 (WP_know (d := 4) k4 (WP_know (d := 5) k5 (WP_know (d := 21) k21 ?_)))
   by_cases hcut : i = s.size ∨ chr s i = 32
   ·rw [if_pos hcut] at he
    refine WP_cond rfl (fun _ => ?_) (fun h => by simp only [NM] at h; exact absurd hcut h)
    rcases hc with ⟨rfl, k3, rfl⟩ | ⟨hd0, b, g, k3, hg, rfl⟩
    ·refine WP_know (d := 3) k3 ?_
     refine WP_seq (WP_ops ?_)
     refine WO_mv rfl (WO_mv rfl (WO_mv (v := .s (.int _ _)) rfl (WO_mv (v := .s (.int _ _)) rfl ?_)))
     refine WO_slS (a := (fr : Int)) (b := (i : Int)) rfl rfl rfl (by omega) ?_
     rw [show ((fr : Int)).toNat = fr by omega, show ((i : Int)).toNat = i by omega]
     refine WO_mkslG rfl (.one rfl .nil) ?_
     refine WO_appNilS rfl rfl (.head _) (by omega) rfl ?_
     refine WO_mv rfl (WO_nil ?_)
     refine WP_ops (WO_mv (v := .s (.int _ _)) rfl (WO_add rfl rfl (by omega) (WO_mv (v := .s (.int _ _)) rfl (WO_nil ?_))))
     refine WP_ops (WO_mv (v := .s (.int _ _)) rfl (WO_add rfl rfl (by omega) (WO_mv (v := .s (.int _ _)) rfl (WO_nil ?_))))
     refine ⟨j, _, by omega, .cons_cons _ (.cons _ (.refl _)), j, i + 1, i + 1, [s.extract fr i], rfl, by omega, by omega, by omega, by simp, he, rfl, rfl, rfl, .inr ⟨by simp, _, _, rfl, fun q hq => ?_, rfl⟩⟩
     obtain rfl : q = 0 := by simp at hq; omega
     rfl
    ·refine WP_know (d := 3) k3 ?_
     refine WP_seq (WP_ops ?_)
     refine WO_mv rfl (WO_mv rfl (WO_mv (v := .s (.int _ _)) rfl (WO_mv (v := .s (.int _ _)) rfl ?_)))
     refine WO_slS (a := (fr : Int)) (b := (i : Int)) rfl rfl rfl (by omega) ?_
     rw [show ((fr : Int)).toNat = fr by omega, show ((i : Int)).toNat = i by omega]
     refine WO_mkslG rfl (.one rfl .nil) ?_
     refine WO_appWS rfl rfl (.head _) (.there .here) (by simp [roomy]; omega) ?_
     refine WO_mv rfl (WO_nil ?_)
     refine WP_ops (WO_mv (v := .s (.int _ _)) rfl (WO_add rfl rfl (by omega) (WO_mv (v := .s (.int _ _)) rfl (WO_nil ?_))))
     refine WP_ops (WO_mv (v := .s (.int _ _)) rfl (WO_add rfl rfl (by omega) (WO_mv (v := .s (.int _ _)) rfl (WO_nil ?_))))
     refine ⟨j, _, by omega, .cons_cons _ (.cons _ (.cons _ (.refl _))), j, i + 1, i + 1, done ++ [s.extract fr i], rfl, by omega, by omega, by omega, by simp; omega, by rw [List.append_assoc]; exact he, rfl, rfl, rfl, .inr ⟨by simp, _, _, by rw [List.length_append]; rfl, txts_add hg, by rw [List.length_append, show (done.length + [s.extract fr i].length) * 1 = done.length * 1 + 1 * 1 by simp]⟩⟩
   ·rw [if_neg hcut] at he
    refine WP_cond rfl (fun h => by simp only [NM] at h; exact absurd h hcut) (fun _ => WP_skip ?_)
    refine WP_ops (WO_mv (v := .s (.int _ _)) rfl (WO_add rfl rfl (by omega) (WO_mv (v := .s (.int _ _)) rfl (WO_nil ?_))))
    exact ⟨j, _, by omega, .refl _, j, i + 1, fr, done, rfl, by omega, by omega, by omega, by omega, he, rfl, rfl, rfl, hc⟩
 ·rintro f n L ⟨b, g, k3, rfl, hg⟩
  refine WP_know (d := 3) k3 ?_
  refine WP_seq (WP_ops (WO_mv rfl (WO_mv rfl (WO_nil ?_))))
  exact WP_ret ⟨_, RS_tmp rfl RS_nil, b, g, rfl, .head _, hg⟩
theorem dParts_RN (s : ByteArray) (hs : s.size ≤ 1000) : ∃ g, Txts (ptsR s) g ∧ RN AM 15 [.s (.str s)] [] (fun b => .sl b 0 (ptsR s).length 1 .whole) (.sc .grow ((ptsR s).length * 1) g) [] := by
 obtain ⟨v, σ', n', L', h1, h2, b, g, rfl, h3, hg⟩ := dParts_walk s hs
 exact ⟨g, hg, b, σ', h1, Nat.zero_le _, (h2.2.mem h3).2, trivial⟩
theorem same_run {l : List ByteArray} {g g' : Nat → S} {md md' : Md} {q q' : Nat} {c c' : Cp} (hl : l.length ≤ 2000) (hg : Txts l g) (hg' : Txts l g') :
  RL AM 13 [.sl 0 0 l.length 1 c, .sl 1 0 l.length 1 c'] [.sc md q g, .sc md' q' g'] (.s (.bool true)) [.sc md q g, .sc md' q' g'] := by
 refine RL_of2 rfl rfl ?_
 refine WR_fn (a := a13) rfl rfl (entryF _) (entry_E (Nat.le_of_ble_eq_true rfl)) (m := 2) rfl ?_
 refine WP_seq (WP_ops (WO_mv rfl (WO_nil ?_)))
 refine WP_seq (WP_seq (WP_ops ?_))
 refine WO_mv rfl (WO_len rfl (WO_mv rfl (WO_len rfl ?_)))
 refine WO_bin (r := .bool false) rfl rfl (by show some (S.bool (_ != _)) = _; rw [bne_self_eq_false]) (WO_nil ?_)
 refine WP_cond rfl (fun h => by cases h) (fun _ => WP_skip ?_)
 refine WP_cut (fun f n L => L = [(0, .sc md q g), (1, .sc md' q' g')]) ?_ ?_
 ·refine WP_seq (WP_ops (WO_mv rfl (WO_nil ?_)))
  refine WP_block ?_
  refine WP_loop (fun m f nb L => ∃ i : Nat, m + i = l.length ∧ f 0 = .sl 0 0 l.length 1 c ∧ f 1 = .sl 1 0 l.length 1 c' ∧ f 5 = .s (.int .i64 (i : Int)) ∧ L = [(0, .sc md q g), (1, .sc md' q' g')]) (fun m f nb L hI => ?_) l.length ⟨0, rfl, rfl, rfl, rfl, rfl⟩
  obtain ⟨i, hm, k0, k1, k5, rfl⟩ := hI
  refine WP_know (d := 0) k0 (WP_know (d := 1) k1 (WP_know (d := 5) k5 ?_))
  refine WP_seq (WP_seq (WP_ops ?_))
  refine WO_mv (v := .s (.int _ _)) rfl (WO_mv rfl (WO_len rfl ?_))
  by_cases hi : i < l.length
  case neg =>
   refine WO_bin (r := .bool false) rfl rfl (by show some (S.bool (decide _)) = _; rw [decide_eq_false (by omega)]) (WO_nil ?_)
   refine WP_cond rfl (fun h => by cases h) (fun _ => ?_)
   exact WP_exit (xhere ⟨_, .refl _, rfl⟩)
  refine WO_bin (r := .bool true) rfl rfl (by show some (S.bool (decide _)) = _; rw [decide_eq_true (by omega)]) (WO_nil ?_)
  refine WP_cond rfl (fun _ => WP_skip ?_) (fun h => by cases h)
  refine WP_seq (WP_block (WP_seq (WP_par ?_)))
  refine WO_mv rfl (WO_mv (v := .s (.int _ _)) rfl (WO_ixs rfl rfl (by omega) ?_))
  refine WO_ldS rfl rfl (.head _) (show g (0 + ((i : Nat) : Int).toNat * 1) = .str (l.getD i ByteArray.empty) by rw [show 0 + ((i : Nat) : Int).toNat * 1 = i by omega]; exact hg i hi) ?_
  refine WO_mv rfl (WO_mv (v := .s (.int _ _)) rfl (WO_ixs rfl rfl (by omega) ?_))
  refine WO_ldS rfl rfl (.tail _ (.head _)) (show g' (0 + ((i : Nat) : Int).toNat * 1) = .str (l.getD i ByteArray.empty) by rw [show 0 + ((i : Nat) : Int).toNat * 1 = i by omega]; exact hg' i hi) ?_
  refine WO_bin (r := .bool false) rfl rfl (by show some (S.bool (!(_ == _))) = _; rw [beq_self_eq_true]; rfl) (WO_nil ?_)
  refine WP_cond rfl (fun h => by cases h) (fun _ => WP_skip ?_)
  refine WP_ops (WO_mv (v := .s (.int _ _)) rfl (WO_add rfl rfl (by omega) (WO_mv (v := .s (.int _ _)) rfl (WO_nil ?_))))
  exact ⟨l.length - (i + 1), _, by omega, .refl _, i + 1, by omega, rfl, rfl, rfl, rfl⟩
 ·rintro f n L rfl
  refine WP_seq (WP_ops (WO_mv rfl (WO_nil ?_)))
  exact WP_ret ⟨_, RS_tmp rfl RS_nil, rfl, .head _, .tail _ (.head _)⟩
end Go.Proofs.YtlaogmemhephnaaGreatDoor
set_option linter.unusedVariables false
set_option linter.unusedSimpArgs false
namespace Go.Proofs.YtlaogmemhephnaaGreatDoor
open Go Go.Am Go.Shelf Go.RowKit
abbrev maxG : Nat := Tryz.laysM146_ren.g 1
theorem split_at (s t : ByteArray) (m : Int) (w : World) (hs : s.size < 4294967281) (hm : w.cell? ⟨maxG, 0, none⟩ = some (.int .i64 m)) (h1 : 1 ≤ t.size) :
 Calls Tryz.prog 32 #[.string s, .string t] w fun e w' =>
  e = .returned (.slice (some ⟨w.heap.size, 0, none⟩) (Lib.countB s t + 1) (Lib.countB s t + 1)) ∧ w' = w.alloc (.cells ((Lib.splitB t 0 (Lib.countB s t) s).map Value.string).toArray 9) := Any.strings_Split { Tryz.laysM146 with } Tryz.laysM146.i9 s t m w hs hm h1
class TabsZ extends Tabs where
 maxlen : ∃ m, w.cell? ⟨maxG, 0, none⟩ = some (.int .i64 m)
theorem maxlen_of [B : TabsZ] {ι : Inj} {σ : Heap} {W : World} (hR : RelW ι σ W) : ∃ m, W.cell? ⟨maxG, 0, none⟩ = some (.int .i64 m) := by
 obtain ⟨m, h⟩ := B.maxlen
 have hlt := World.block_lt_of_cell? _ _ h
 refine ⟨m, ?_⟩
 rw [← h]
 have e := hR.bas maxG hlt
 simp only [World.cell?, e]
def splitPrim : List V → Heap → Option (V × Heap)
 | [.s (.str s), .s (.str t)], σ => if s.size < 4294967281 ∧ 1 ≤ t.size then some (.sl σ.length 0 (Lib.splitB t 0 (Lib.countB s t) s).length 1 (.ex (Lib.splitB t 0 (Lib.countB s t) s).length), σ ++ [.sc .ro (Lib.splitB t 0 (Lib.countB s t) s).length fun i => .str ((Lib.splitB t 0 (Lib.countB s t) s).getD i ByteArray.empty)]) else none
 | _, _ => none
def primF3 (f : FuncId) : Option (List V → Heap → Option (V × Heap)) := bif Nat.beq f 32 then some splitPrim else primF2 f
def AM3 : AP := { fns := AM.fns, prims := primF3 }
theorem split_new : primF2 32 = none ∧ lookF 32 fnsL = none := ⟨rfl, rfl⟩
theorem le3 : LeR (Run AM2) (Run AM3) := Run_ext (fun _ _ h => h)
 (fun f pf h => by
  show (bif Nat.beq f _ then some splitPrim else primF2 f) = some pf
  cases hb : Nat.beq f 32 with
  | true =>
   have := Nat.eq_of_beq_eq_true hb
   subst this
   have h : primF2 32 = some pf := h
   rw [split_new.1] at h; cases h
  | false => exact h)
 (fun f a h ha => by
  show (bif Nat.beq f _ then some splitPrim else primF2 f) = none
  cases hb : Nat.beq f 32 with
  | true =>
   have := Nat.eq_of_beq_eq_true hb
   subst this
   have ha : lookF 32 fnsL = some a := ha
   rw [split_new.2] at ha; cases ha
  | false => exact h)
theorem RF3 {f : FuncId} {av : List V} {v : V} (h : RF AM2 f av v) : RF AM3 f av v := by
 obtain ⟨σ, h⟩ := h
 exact ⟨σ, le3 _ _ _ _ h⟩
theorem RL3 {f : FuncId} {av : List V} {Bs Bs' : List Blk} {v : V} (h : RL AM f av Bs v Bs') : RL AM3 f av Bs v Bs' := by
 obtain ⟨σ, h, k⟩ := h
 exact ⟨σ, le3 _ _ _ _ (le2 _ _ _ _ h), k⟩
theorem RN3 {f : FuncId} {av : List V} {Bs Bs' : List Blk} {mk : Nat → V} {B : Blk} (h : RN AM f av Bs mk B Bs') : RN AM3 f av Bs mk B Bs' := by
 obtain ⟨b, σ, h, k⟩ := h
 exact ⟨b, σ, le3 _ _ _ _ (le2 _ _ _ _ h), k⟩
theorem split_ok [TabsZ] {σ σ' : Heap} {args : List V} {v : V} {ι : Inj} {W : World} {av : List Value} (h : splitPrim args σ = some (v, σ')) (hR : RelW ι σ W) (hD : Dom ι σ) (hv : VRL ι args av) :
  Calls Tryz.prog 32 av.toArray W fun e W' => ∃ ι' v', e = .returned v' ∧ VR ι' v v' ∧ Post ι σ W ι' σ' W' := by
 unfold splitPrim at h
 split at h
 ·rename_i s t
  split at h
  ·rename_i hb
   injection h with h
   injection h with h1 h2
   subst h1; subst h2
   simp only [VRL, VR, S.val] at hv
   obtain ⟨_, _, rfl, rfl, _, _, rfl, rfl, rfl⟩ := hv
   obtain ⟨m, hm⟩ := maxlen_of hR
   refine (split_at s t m W hb.1 hm hb.2).mono ?_
   rintro e W' ⟨rfl, rfl⟩
   have hlen := Lib.splitB_all t hb.2 0 _ s rfl
   generalize Lib.splitB t 0 (Lib.countB s t) s = l at hlen
   have hnone : ι σ.length = none := by
    cases q : ι σ.length with
    | none => rfl
    | some r => exact absurd (hD _ _ q) (Nat.lt_irrefl _)
   have hcs : ((l.map Value.string).toArray).size = l.length := by simp
   have q := row_q hR hnone (l.map Value.string).toArray 9 (.sc .ro l.length fun i => .str (l.getD i ByteArray.empty)) l.length ⟨hcs, fun i hi => by
    simp [S.val, hi]⟩ trivial
   refine ⟨_, _, rfl, ⟨⟨W.heap.size, 0, _, l.length, _⟩, l.length, Inj.put_same _ _ _, ?_, ?_, rfl, Nat.le_refl _, ?_⟩, q.post⟩
   ·show 0 + l.length * 1 ≤ ((l.map Value.string).toArray).size
    rw [hcs]; omega
   ·rw [hlen]
   ·show 0 + l.length * 1 ≤ ((l.map Value.string).toArray).size
    rw [hcs]; omega
  ·cases h
 ·cases h
theorem primsOK3 [TabsZ] : PrimsOK Tryz.prog AM3 := by
 intro f pf hpf args σ v σ' h
 have hb : primF3 f = some pf := hpf
 unfold primF3 at hb
 cases h0 : Nat.beq f 32 with
 | true =>
  rw [h0] at hb; injection hb with hb; subst hb
  obtain rfl := Nat.eq_of_beq_eq_true h0
  exact ⟨⟨_, Tryz.func32, by kernel_rfl, by decide⟩, fun ι W av hR hD hv => split_ok h hR hD hv⟩
 | false => rw [h0, cond_false] at hb; exact primsOK2 f pf hb args σ v σ' h
theorem runOK3 [TabsZ] : RunOK Tryz.prog (Run AM3) := run_ok fnsOK primsOK3 (by kernel_rfl)
theorem split_RN (s : ByteArray) (hs : s.size ≤ 1000) : RN AM3 32 [.s (.str s), .s (.str spcS)] [] (fun b => .sl b 0 (ptsR s).length 1 (.ex (ptsR s).length)) (.sc .ro (ptsR s).length fun i => .str ((ptsR s).getD i ByteArray.empty)) [] := by
 refine ⟨0, [.sc .ro (ptsR s).length fun i => .str ((ptsR s).getD i ByteArray.empty)], ?_, Nat.zero_le _, rfl, trivial⟩
 rw [Run_prim (pf := splitPrim) rfl]
 simp only [splitPrim]
 rw [if_pos ⟨by omega, by decide⟩, ← ptsR_split]
 rfl
theorem Parts_RN (s : ByteArray) (hs : s.size ≤ 1000) : RN AM3 14 [.s (.str s)] [] (fun b => .sl b 0 (ptsR s).length 1 (.ex (ptsR s).length)) (.sc .ro (ptsR s).length fun i => .str ((ptsR s).getD i ByteArray.empty)) [] := by
 refine RN_of0 ?_
 refine WR_fn (a := a14) rfl rfl (entryF _) (entry_E (Nat.le_of_ble_eq_true rfl)) (m := 0) rfl ?_
 refine WP_seq (WP_ops (WO_mv rfl (WO_nil ?_)))
 refine WP_seq (WP_ops (WO_mv rfl ?_))
 refine WO_callN (mk := fun b => .sl b 0 (ptsR s).length 1 (.ex (ptsR s).length)) One_sl rfl (split_RN s hs) rfl rfl (Nat.le_of_ble_eq_true rfl) (fun _ h => by cases h) rfl trivial rfl rfl .nil ?_
 refine WO_mv rfl (WO_nil ?_)
 exact WP_ret ⟨_, RS_tmp rfl RS_nil, _, rfl, .head _⟩
end Go.Proofs.YtlaogmemhephnaaGreatDoor
namespace Go.Proofs.YtlaogmemhephnaaGreatDoor
set_option linter.unusedSimpArgs false
set_option linter.unusedVariables false
open Go Go.Am Go.ChangeShapes Go.WideShapes Go.ChangeAt Go.RowKit
@[reducible] def tabsZ {W : World} (h : laidMetH Tryz.prog tabsL W) (hs : W.ShapedOpen Tryz.prog) : TabsZ := { w := W, pow := pow_laid h, maxlen := Tryz.laysM146.s1_3 W hs }
theorem handed_both {H : Type} {enc : TypeId × Value → H} {a : Assume} {C : Checked} {os : Os} {f : FuncId} {fn : Func} {s : ChangeSpec} {conds : List PathCond} {apart fresh handsOn again : Bool} {X : World → Array Value → Prop}
  (hX : ∀ (w w' : World) (args : Array Value), w.heap = w'.heap → X w args → X w' args)
  (own : ownKnob C.prog.godebug = none) (started : os.Started) (noInit : C.prog.inits.idxOf? f = none) (hfn : C.prog.funcs[f]? = some fn)
  (witness : ∃ (w : World) (tape : Tape) (i : Input), w.os = os ∧ (w.forCall tape i).Shaped C.prog ∧ i.vars = [] ∧ Input.okWide C.prog (w.forCall tape i) .any w.heap.size f i ∧
   ((s.pre enc C.prog fn conds apart (w.forCall tape i).memory i.args ∧ X (w.forCall tape i).memory i.args) ∧ sizedMet enc C.prog fn (OpenSpec.ofChange s) apart (w.forCall tape i).memory i.args) ∧ a.holds C.prog (lone (Frame.enter C.prog f i.args .normal) [] (w.forCall tape i)))
  (contract : ∀ (W : World) (base : Nat) (args : Array Value) (ds gs : List (DataW H)) (before : List MemPlace),
   (∀ (j : Nat) t v, fn.params[j]? = some t → args[j]? = some v → Value.okWide C.prog W .any base t v) →
   DataW.Whole enc C.prog fn.params.toList s.vars apart W args.toList ds gs before →
   (DataW.weightsEach C.prog (fn.params.toList ++ s.plain.varTypes C.prog) (ds ++ gs)).all (· ≤ reachBytes) = true → X W args → W.ShapedOpen C.prog →
   Calls C.prog f args W fun e W' => ∃ v, e = .returned v ∧ s.post enc C.prog fn apart fresh handsOn again W args v W') :
  ReturnsInHanded a C os f .any (fun w args => (s.pre enc C.prog fn conds apart w args ∧ X w args) ∧ sizedMet enc C.prog fn (OpenSpec.ofChange s) apart w args) (s.post enc C.prog fn apart fresh handsOn again) := by
 refine returnsInHanded_of_calls own started noInit witness ?_
 intro w tape i _ hsh _ hok hpre _
 obtain ⟨_, _, _, fn', hfn', _, _, _, _, hval⟩ := hok
 obtain rfl : fn' = fn := Option.some.inj (hfn'.symm.trans hfn)
 obtain ⟨⟨⟨ds, gs, before, hw, hc⟩, hx⟩, hz⟩ := hpre
 refine (contract (w.forCall tape i) w.heap.size i.args ds gs before hval (DataW.Whole.of_heap (w' := w.forCall tape i) (by rfl) hw) (hz.weights hw) (hX _ _ _ (by rfl) hx) hsh).mono fun e W' ⟨v, he, hp⟩ => ?_
 subst he
 exact ChangeSpec.post_blind hp
end Go.Proofs.YtlaogmemhephnaaGreatDoor
set_option linter.unusedVariables false
set_option linter.unusedSimpArgs false
namespace Go.Proofs.YtlaogmemhephnaaGreatDoor
open Go Go.Am
theorem rpts_len (s : ByteArray) : ∀ j i fr, (rpts s j i fr).length ≤ j
 | 0, _, _ => Nat.le_refl _
 | j + 1, i, fr => by
  rw [rpts]
  split
  ·have := rpts_len s j (i + 1) (i + 1)
   simp only [List.length_cons]; omega
  ·have := rpts_len s j (i + 1) fr
   omega
theorem ptsR_len {s : ByteArray} (hs : s.size ≤ 1000) : (ptsR s).length ≤ 2000 := by
 have := rpts_len s (s.size + 1) 0 0
 unfold ptsR
 omega
theorem eqI_same (P : Nat → Int) (n : Nat) : eqI n P P = true := eqI_iff.2 fun _ _ => rfl
set_option maxRecDepth 100000 in
theorem reads_run (s : ByteArray) (hs : s.size ≤ 1000) : RF AM3 6 [.s (.str s)] (.s (.bool true)) := by
 refine RF_of ?_
 obtain ⟨g, hg, hp⟩ := dParts_RN s hs
 refine WR_fn (a := a6) rfl rfl (entryF _) (entry_E (Nat.le_of_ble_eq_true rfl)) (m := 0) rfl ?_
 refine WP_seq (WP_ops (WO_mv rfl (WO_nil ?_)))
 refine WP_seq (WP_ops ?_)
 refine WO_mv rfl (WO_call0 rfl (RF3 (parse_run s)) rfl rfl rfl ?_)
 refine WO_mv (v := .tup _) rfl (WO_ext rfl rfl (WO_ext rfl rfl (WO_ext rfl rfl ?_)))
 refine WO_allocI (WO_stA rfl rfl rfl rfl .here ?_)
 refine WO_mv rfl (WO_mv rfl (WO_nil ?_))
 refine WP_seq (WP_ops ?_)
 refine WO_mv rfl (WO_call0 rfl (RF3 (dparse_run s hs)) rfl rfl rfl ?_)
 refine WO_mv (v := .tup _) rfl (WO_ext rfl rfl (WO_ext rfl rfl (WO_ext rfl rfl ?_)))
 refine WO_allocI (WO_stA rfl rfl rfl rfl .here ?_)
 refine WO_mv rfl (WO_mv rfl (WO_nil ?_))
 refine WP_seq (WP_ops ?_)
 refine WO_ldA0 rfl rfl (.tail _ (.head _)) ?_
 refine WO_ldA0 rfl rfl (.head _) ?_
 refine WO_eqaC rfl rfl (b := true) (eqI_same _ _) ?_
 refine WO_mv rfl (WO_gt rfl (WO_mv rfl ?_))
 refine WO_gt rfl (WO_mv rfl ?_)
 refine WO_gt rfl (WO_bin (r := .bool true) rfl rfl (by show some (S.bool (_ == _)) = _; rw [beq_self_eq_true]) ?_)
 refine WO_pick rfl rfl (WO_mv rfl ?_)
 refine WO_gt rfl (WO_mv rfl ?_)
 refine WO_gt rfl (WO_mv rfl ?_)
 refine WO_gt rfl (WO_bin (r := .bool true) rfl rfl (by show some (S.bool (_ == _)) = _; rw [beq_self_eq_true]) ?_)
 refine WO_pick rfl rfl (WO_mv rfl ?_)
 refine WO_gt rfl (WO_mv rfl ?_)
 refine WO_gt rfl ?_
 refine WO_callN (mk := fun b => .sl b 0 (ptsR s).length 1 (.ex (ptsR s).length)) One_sl rfl (Parts_RN s hs) rfl rfl (Nat.le_of_ble_eq_true rfl) (fun _ h => by cases h) rfl trivial rfl rfl .nil ?_
 refine WO_gt rfl (WO_mv rfl ?_)
 refine WO_gt rfl ?_
 refine WO_callN (mk := fun b => .sl b 0 (ptsR s).length 1 .whole) One_sl rfl (RN3 hp) rfl rfl (Nat.le_of_ble_eq_true rfl) (fun _ h => by cases h) rfl trivial rfl rfl .nil ?_
 refine WO_gt rfl ?_
 refine WO_callL (od := some 39) (av := [.sl 2 0 (ptsR s).length 1 (.ex (ptsR s).length), .sl 3 0 (ptsR s).length 1 .whole]) (rs := [2, 3]) (Bs := [_, _]) (av' := [.sl 0 0 (ptsR s).length 1 (.ex (ptsR s).length), .sl 1 0 (ptsR s).length 1 .whole]) rfl rfl rfl (RL3 (same_run (ptsR_len hs) (fun q _ => rfl) hg)) (by simp [V.refsL, V.refs, dedup]) (by simp [V.refsL, V.refs]) (by simp [V.refsL, V.refs]) (by simp [rnL, V.renL, V.ren, pos]) ⟨.tail _ (.head _), rfl, .head _, rfl, trivial⟩ rfl rfl (.cons (.there .here) (.cons .here .nil)) ?_
 refine WO_pick rfl rfl (WO_mv rfl (WO_nil ?_))
 exact WP_ret ⟨_, RS_tmp rfl RS_nil, rfl⟩
theorem Reads_run (s : ByteArray) : RF AM3 3 [.s (.str s)] (.s (.bool true)) := by
 refine RF_of ?_
 refine WR_fn (a := a3) rfl rfl (entryF _) (entry_E (Nat.le_of_ble_eq_true rfl)) (m := 0) rfl ?_
 refine WP_seq (WP_ops (WO_mv rfl (WO_nil ?_)))
 refine WP_seq (WP_seq (WP_ops (WO_mv rfl (WO_lenS rfl ?_))))
 by_cases hs : s.size ≤ 1000
 ·refine WO_bin (r := .bool false) rfl rfl (by show some (S.bool (decide _)) = _; rw [decide_eq_false (by omega)]) (WO_nil ?_)
  refine WP_cond rfl (fun h => by cases h) (fun _ => WP_skip ?_)
  refine WP_seq (WP_ops ?_)
  refine WO_mv rfl (WO_call0 rfl (reads_run s hs) rfl rfl rfl ?_)
  refine WO_mv rfl (WO_gt rfl (WO_call0 rfl (RF3 awake_run) rfl rfl rfl ?_))
  refine WO_pick rfl rfl (WO_mv rfl (WO_nil ?_))
  exact WP_ret ⟨_, RS_tmp rfl RS_nil, rfl⟩
 ·refine WO_bin (r := .bool true) rfl rfl (by show some (S.bool (decide _)) = _; rw [decide_eq_true (by omega)]) (WO_nil ?_)
  refine WP_cond rfl (fun _ => ?_) (fun h => by cases h)
  refine WP_seq (WP_ops (WO_call0 rfl (RF3 awake_run) rfl rfl rfl (WO_mv rfl (WO_nil ?_))))
  exact WP_ret ⟨_, RS_tmp rfl RS_nil, rfl⟩
end Go.Proofs.YtlaogmemhephnaaGreatDoor
set_option linter.unusedVariables false
set_option linter.unusedSimpArgs false
namespace Go.Proofs.YtlaogmemhephnaaGreatDoor
open Go Go.Am
theorem szx {s : ByteArray} {m : Nat} (h : s.size ≤ m) (a b : Nat) : (s.extract a b).size ≤ m := by
 rw [ByteArray.size_extract]; omega
theorem szA {a b : ByteArray} {p q : Nat} (h : a.size ≤ p) (k : b.size ≤ q) : (a ++ b).size ≤ p + q := by
 rw [ByteArray.size_append]; omega
theorem strA {a b : ByteArray} {p q : Nat} (h : a.size ≤ p) (k : b.size ≤ q) (hp : p ≤ 1000) (hq : q ≤ 1000) : binS .add (.str a) (.str b) = some (.str (a ++ b)) := add_str (by omega)
theorem readsA {s : ByteArray} {p : Nat} (h : s.size ≤ p) (hp : p ≤ 1000) : RF AM3 6 [.s (.str s)] (.s (.bool true)) := reads_run s (Nat.le_trans h hp)
abbrev eB : AC := a4.body
theorem ends1 {B M : ByteArray} (hB : B.size ≤ 100) (hM : M.size ≤ 100) {f : FE} {n : Nat} (k1 : f 1 = .s (.str B)) (k2 : f 2 = .s (.str M)) {X : Nat → KN} {R : KN} {Zp : V → KN} : WP AM3 180 (qL (qR (qR (qR eB)))) f n [] (fun f n L => ∃ L', List.Sublist L' L ∧ (f 1 = .s (.str B) ∧ L' = [])) X R Zp := by
 refine WP_know (d := 1) k1 (WP_know (d := 2) k2 ?_)
 refine WP_seq (WP_ops (WO_mv rfl (WO_nil ?_)))
 refine WP_block ?_
 refine WP_loop (fun m f nb L => ∃ i : Nat, m + i = B.size + 1 ∧ f 1 = .s (.str B) ∧ f 2 = .s (.str M) ∧ f 3 = .s (.int .i64 (i : Int)) ∧ L = []) (fun m f nb L hI => ?_) (B.size + 1) ⟨0, rfl, rfl, rfl, rfl, rfl⟩
 clear k1 k2
 obtain ⟨i, hm, k1, k2, k3, rfl⟩ := hI
 refine WP_know (d := 1) k1 (WP_know (d := 2) k2 (WP_know (d := 3) k3 ?_))
 refine WP_seq (WP_seq (WP_ops ?_))
 refine WO_mv (v := .s (.int _ _)) rfl (WO_mv rfl (WO_lenS rfl ?_))
 by_cases hi : i ≤ B.size
 case neg =>
  refine WO_bin (r := .bool false) rfl rfl (by show some (S.bool (decide _)) = _; rw [decide_eq_false (by omega)]) (WO_nil ?_)
  refine WP_cond rfl (fun h => by cases h) (fun _ => ?_)
  exact WP_exit (xhere ⟨_, .refl _, rfl, rfl⟩)
 refine WO_bin (r := .bool true) rfl rfl (by show some (S.bool (decide _)) = _; rw [decide_eq_true (by omega)]) (WO_nil ?_)
 refine WP_cond rfl (fun _ => WP_skip ?_) (fun h => by cases h)
 refine WP_seq (WP_block (WP_seq (WP_seq (WP_ops ?_))))
 refine WO_mv rfl (WO_mv (v := .s (.int _ _)) rfl (WO_slS (a := 0) (b := (i : Int)) rfl rfl rfl (by omega) ?_))
 refine WO_call0 rfl (readsA (szx hB _ _) (by decide)) rfl rfl rfl ?_
 refine WO_un rfl rfl (WO_mv rfl ?_)
 refine WO_gt rfl (WO_mv rfl ?_)
 refine WO_gt rfl (WO_mv (v := .s (.int _ _)) rfl ?_)
 refine WO_gt rfl (WO_slS (a := (i : Int)) (b := (B.size : Int)) rfl rfl rfl (by omega) ?_)
 refine WO_gt rfl (WO_call0 rfl (readsA (szx hB _ _) (by decide)) rfl rfl rfl ?_)
 refine WO_gt rfl (WO_un rfl rfl ?_)
 refine WO_pick rfl rfl (WO_nil ?_)
 refine WP_cond rfl (fun h => by cases h) (fun _ => WP_skip ?_)
 refine WP_seq (WP_ops (WO_mv rfl (WO_nil ?_)))
 refine WP_block ?_
 refine WP_loop (fun m f nb L => ∃ j : Nat, m + j = M.size ∧ f 1 = .s (.str B) ∧ f 2 = .s (.str M) ∧ f 3 = .s (.int .i64 (i : Int)) ∧ f 4 = .s (.int .i64 (j : Int)) ∧ L = []) (fun m2 f nb L hI => ?_) M.size ⟨0, rfl, rfl, rfl, rfl, rfl, rfl⟩
 clear k1 k2 k3
 obtain ⟨j, hm2, k1, k2, k3, k4, rfl⟩ := hI
 refine WP_know (d := 1) k1 (WP_know (d := 2) k2 (WP_know (d := 3) k3 (WP_know (d := 4) k4 ?_)))
 refine WP_seq (WP_seq (WP_ops ?_))
 refine WO_mv (v := .s (.int _ _)) rfl (WO_mv rfl (WO_lenS rfl ?_))
 by_cases hj : j < M.size
 case neg =>
  refine WO_bin (r := .bool false) rfl rfl (by show some (S.bool (decide _)) = _; rw [decide_eq_false (by omega)]) (WO_nil ?_)
  refine WP_cond rfl (fun h => by cases h) (fun _ => ?_)
  refine WP_exit (xhere ?_)
  refine WP_ops (WO_mv (v := .s (.int _ _)) rfl (WO_add rfl rfl (by omega) (WO_mv (v := .s (.int _ _)) rfl (WO_nil ?_))))
  exact ⟨B.size - i, _, by omega, .refl _, i + 1, by omega, rfl, rfl, rfl, rfl⟩
 refine WO_bin (r := .bool true) rfl rfl (by show some (S.bool (decide _)) = _; rw [decide_eq_true (by omega)]) (WO_nil ?_)
 refine WP_cond rfl (fun _ => WP_skip ?_) (fun h => by cases h)
 refine WP_seq (WP_block (WP_seq (WP_par ?_)))
 refine WO_mv rfl (WO_mv (v := .s (.int _ _)) rfl (WO_slS (a := 0) (b := (i : Int)) rfl rfl rfl (by omega) ?_))
 refine WO_mv rfl (WO_mv (v := .s (.int _ _)) rfl (WO_mv (v := .s (.int _ _)) rfl (WO_add rfl rfl (by omega) ?_)))
 refine WO_slS (a := (j : Int)) (b := (j : Int) + 1) rfl rfl rfl (by omega) ?_
 refine WO_bin rfl rfl (strA (szx hB _ _) (szx hM _ _) (by decide) (by decide)) ?_
 refine WO_mv rfl (WO_mv (v := .s (.int _ _)) rfl (WO_slS (a := (i : Int)) (b := (B.size : Int)) rfl rfl rfl (by omega) ?_))
 refine WO_bin rfl rfl (strA (szA (szx hB _ _) (szx hM _ _)) (szx hB _ _) (by decide) (by decide)) ?_
 refine WO_call0 rfl (readsA (szA (szA (szx hB _ _) (szx hM _ _)) (szx hB _ _)) (by decide)) rfl rfl rfl ?_
 refine WO_un rfl rfl (WO_mv rfl ?_)
 refine WO_gt rfl (WO_mv (v := .s (.int _ _)) rfl ?_)
 refine WO_gt rfl (WO_mv rfl ?_)
 refine WO_gt rfl (WO_lenS rfl ?_)
 by_cases hlt : i < B.size
 ·refine WO_gt rfl (WO_bin (r := .bool true) rfl rfl (by show some (S.bool (decide _)) = _; rw [decide_eq_true (by omega)]) ?_)
  refine WO_gt rfl (WO_mv rfl ?_)
  refine WO_gt rfl (WO_mv rfl ?_)
  refine WO_gt rfl (WO_mv (v := .s (.int _ _)) rfl ?_)
  refine WO_gt rfl (WO_slS (a := 0) (b := (i : Int)) rfl rfl rfl (by omega) ?_)
  refine WO_gt rfl (WO_mv rfl ?_)
  refine WO_gt rfl (WO_mv (v := .s (.int _ _)) rfl ?_)
  refine WO_gt rfl (WO_mv (v := .s (.int _ _)) rfl ?_)
  refine WO_gt rfl (WO_add rfl rfl (by omega) ?_)
  refine WO_gt rfl (WO_slS (a := (j : Int)) (b := (j : Int) + 1) rfl rfl rfl (by omega) ?_)
  refine WO_gt rfl (WO_bin rfl rfl (strA (szx hB _ _) (szx hM _ _) (by decide) (by decide)) ?_)
  refine WO_gt rfl (WO_mv rfl ?_)
  refine WO_gt rfl (WO_mv (v := .s (.int _ _)) rfl ?_)
  refine WO_gt rfl (WO_add rfl rfl (by omega) ?_)
  refine WO_gt rfl (WO_slS (a := (i : Int) + 1) (b := (B.size : Int)) rfl rfl rfl (by omega) ?_)
  refine WO_gt rfl (WO_bin rfl rfl (strA (szA (szx hB _ _) (szx hM _ _)) (szx hB _ _) (by decide) (by decide)) ?_)
  refine WO_gt rfl (WO_call0 rfl (readsA (szA (szA (szx hB _ _) (szx hM _ _)) (szx hB _ _)) (by decide)) rfl rfl rfl ?_)
  refine WO_gt rfl (WO_un rfl rfl ?_)
  refine WO_gt rfl (WO_mv rfl ?_)
  refine WO_gt rfl (WO_mv rfl ?_)
  refine WO_gt rfl (WO_mv (v := .s (.int _ _)) rfl ?_)
  refine WO_gt rfl (WO_slS (a := 0) (b := (i : Int)) rfl rfl rfl (by omega) ?_)
  refine WO_gt rfl (WO_mv rfl ?_)
  refine WO_gt rfl (WO_mv (v := .s (.int _ _)) rfl ?_)
  refine WO_gt rfl (WO_add rfl rfl (by omega) ?_)
  refine WO_gt rfl (WO_slS (a := (i : Int) + 1) (b := (B.size : Int)) rfl rfl rfl (by omega) ?_)
  refine WO_gt rfl (WO_bin rfl rfl (strA (szx hB _ _) (szx hB _ _) (by decide) (by decide)) ?_)
  refine WO_gt rfl (WO_call0 rfl (readsA (szA (szx hB _ _) (szx hB _ _)) (by decide)) rfl rfl rfl ?_)
  refine WO_gt rfl (WO_un rfl rfl ?_)
  refine WO_gt rfl (WO_pick rfl rfl ?_)
  refine WO_gt rfl (WO_pick rfl rfl ?_)
  refine WO_pick rfl rfl (WO_nil ?_)
  refine WP_cond rfl (fun h => by cases h) (fun _ => WP_skip ?_)
  refine WP_ops (WO_mv (v := .s (.int _ _)) rfl (WO_add rfl rfl (by omega) (WO_mv (v := .s (.int _ _)) rfl (WO_nil ?_))))
  exact ⟨M.size - (j + 1), _, by omega, .refl _, j + 1, by omega, rfl, rfl, rfl, rfl, rfl⟩
 ·refine WO_gt rfl (WO_bin (r := .bool false) rfl rfl (by show some (S.bool (decide _)) = _; rw [decide_eq_false (by omega)]) ?_)
  refine WO_gt rfl (WO_mv rfl ?_)
  refine WO_gf rfl rfl (WO_gf rfl rfl (WO_gf rfl rfl (WO_gf rfl rfl (WO_gf rfl rfl (WO_gf rfl rfl (WO_gf rfl rfl (WO_gf rfl rfl (WO_gf rfl rfl (WO_gf rfl rfl (WO_gf rfl rfl (WO_gf rfl rfl (WO_gf rfl rfl (WO_gf rfl rfl (WO_gf rfl rfl (WO_gf rfl rfl (WO_gf rfl rfl ?_))))))))))))))))
  refine WO_gu rfl (WO_gu rfl (WO_gu rfl (WO_gu rfl (WO_gu rfl (WO_gu rfl (WO_gu rfl (WO_gu rfl (WO_gu rfl (WO_gu rfl ?_)))))))))
  refine WO_gf rfl rfl ?_
  refine WO_gt rfl (WO_pick rfl rfl ?_)
  refine WO_pick rfl rfl (WO_nil ?_)
  refine WP_cond rfl (fun h => by cases h) (fun _ => WP_skip ?_)
  refine WP_ops (WO_mv (v := .s (.int _ _)) rfl (WO_add rfl rfl (by omega) (WO_mv (v := .s (.int _ _)) rfl (WO_nil ?_))))
  exact ⟨M.size - (j + 1), _, by omega, .refl _, j + 1, by omega, rfl, rfl, rfl, rfl, rfl⟩
def Tbl (m : Nat) (g : Nat → S) : Prop := ∀ i, i < m → ∃ t : ByteArray, g i = .str t ∧ t.size ≤ 40
theorem tbl_ld {m : Nat} {g : Nat → S} (h : Tbl m g) {x : Int} (hx : 0 ≤ x ∧ x < m) : ∃ t : ByteArray, g (0 + x.toNat * 1) = .str t ∧ t.size ≤ 40 := by
 rw [show 0 + x.toNat * 1 = x.toNat by omega]
 exact h _ (by omega)
theorem ends2 {B : ByteArray} {L0 : HA} {b5 b6 b7 b8 b9 : Nat} {g5 g6 g7 g8 g9 : Nat → S} (t5 : Tbl 7 g5) (t6 : Tbl 5 g6) (t7 : Tbl 10 g7) (t8 : Tbl 7 g8) (t9 : Tbl 13 g9)
  (m5 : (b5, Blk.sc .var 7 g5) ∈ L0) (m6 : (b6, Blk.sc .var 5 g6) ∈ L0) (m7 : (b7, Blk.sc .var 10 g7) ∈ L0) (m8 : (b8, Blk.sc .var 7 g8) ∈ L0) (m9 : (b9, Blk.sc .var 13 g9) ∈ L0)
  {f : FE} {n : Nat} (k1 : f 1 = .s (.str B)) (k5 : f 5 = .sl b5 0 7 1 (.ex 7)) (k6 : f 6 = .sl b6 0 5 1 (.ex 5)) (k7 : f 7 = .sl b7 0 10 1 (.ex 10)) (k8 : f 8 = .sl b8 0 7 1 (.ex 7)) (k9 : f 9 = .sl b9 0 13 1 (.ex 13)) {X : Nat → KN} {R : KN} {Zp : V → KN} :
  WP AM3 180 (qL (qR (qR (qR (qR (qR (qR (qR (qR (qR eB)))))))))) f n L0 (fun f n L => ∃ L', List.Sublist L' L ∧ (f 1 = .s (.str B) ∧ L' = [])) X R Zp := by
 refine WP_know (d := 1) k1 (WP_know (d := 5) k5 (WP_know (d := 6) k6 (WP_know (d := 7) k7 (WP_know (d := 8) k8 (WP_know (d := 9) k9 ?_)))))
 refine WP_seq (WP_ops (WO_mv rfl (WO_nil ?_)))
 refine WP_block ?_
 refine WP_loop (fun m f nb L => ∃ k : Nat, m + k = 31850 ∧ f 1 = .s (.str B) ∧ f 5 = .sl b5 0 7 1 (.ex 7) ∧ f 6 = .sl b6 0 5 1 (.ex 5) ∧ f 7 = .sl b7 0 10 1 (.ex 10) ∧ f 8 = .sl b8 0 7 1 (.ex 7) ∧ f 9 = .sl b9 0 13 1 (.ex 13) ∧ f 10 = .s (.int .i64 (k : Int)) ∧ L = L0) (fun m f nb L hI => ?_) 31850 ⟨0, rfl, rfl, rfl, rfl, rfl, rfl, rfl, rfl, rfl⟩
 clear k1 k5 k6 k7 k8 k9
 obtain ⟨k, hm, k1, k5, k6, k7, k8, k9, k10, rfl⟩ := hI
 refine WP_know (d := 1) k1 (WP_know (d := 5) k5 (WP_know (d := 6) k6 (WP_know (d := 7) k7 (WP_know (d := 8) k8 (WP_know (d := 9) k9 (WP_know (d := 10) k10 ?_))))))
 refine WP_seq (WP_seq (WP_ops ?_))
 refine WO_mv (v := .s (.int _ _)) rfl ?_
 by_cases hk : k < 31850
 case neg =>
  refine WO_bin (r := .bool false) rfl rfl (by show some (S.bool (decide _)) = _; rw [decide_eq_false (by omega)]) (WO_nil ?_)
  refine WP_cond rfl (fun h => by cases h) (fun _ => ?_)
  exact WP_exit (xhere ⟨[], List.nil_sublist _, rfl, rfl⟩)
 refine WO_bin (r := .bool true) rfl rfl (by show some (S.bool (decide _)) = _; rw [decide_eq_true (by omega)]) (WO_nil ?_)
 refine WP_cond rfl (fun _ => WP_skip ?_) (fun h => by cases h)
 refine WP_cut (fun f n L' => f 1 = .s (.str B) ∧ f 5 = .sl b5 0 7 1 (.ex 7) ∧ f 6 = .sl b6 0 5 1 (.ex 5) ∧ f 7 = .sl b7 0 10 1 (.ex 10) ∧ f 8 = .sl b8 0 7 1 (.ex 7) ∧ f 9 = .sl b9 0 13 1 (.ex 13) ∧ f 10 = .s (.int .i64 (k : Int)) ∧ L' = L) ?_ ?_
 ·refine WP_block ?_
  refine WP_cut (fun f n L' => f 1 = .s (.str B) ∧ f 5 = .sl b5 0 7 1 (.ex 7) ∧ f 6 = .sl b6 0 5 1 (.ex 5) ∧ f 7 = .sl b7 0 10 1 (.ex 10) ∧ f 8 = .sl b8 0 7 1 (.ex 7) ∧ f 9 = .sl b9 0 13 1 (.ex 13) ∧ f 10 = .s (.int .i64 (k : Int)) ∧ L' = L) ?_ ?_
  ·refine WP_seq (WP_ops ?_)
   refine WO_mv (v := .s (.int _ _)) rfl (WO_rem rfl rfl (by omega) ?_)
   by_cases h7 : 0 < (k : Int) % 7
   ·refine WO_bin (r := .bool true) rfl rfl (by show some (S.bool (decide _)) = _; rw [decide_eq_true (by omega)]) ?_
    refine WO_mv rfl (WO_gt rfl (WO_mv (v := .s (.int _ _)) rfl ?_))
    refine WO_gt rfl (WO_rem rfl rfl (by omega) ?_)
    refine WO_gt rfl (WO_bin (r := .bool _) rfl rfl rfl ?_)
    refine WO_pick rfl rfl (WO_nil ?_)
    refine WP_cond rfl (fun _ => ?_) (fun _ => ?_)
    ·exact WP_exit (xhere ⟨_, .refl _, rfl, rfl, rfl, rfl, rfl, rfl, rfl, rfl⟩)
    ·exact WP_skip ⟨_, .refl _, rfl, rfl, rfl, rfl, rfl, rfl, rfl, rfl⟩
   ·refine WO_bin (r := .bool false) rfl rfl (by show some (S.bool (decide _)) = _; rw [decide_eq_false (by omega)]) ?_
    refine WO_mv rfl (WO_gf rfl rfl (WO_gf rfl rfl (WO_gf rfl rfl (WO_pick rfl rfl (WO_nil ?_)))))
    refine WP_cond rfl (fun h => by cases h) (fun _ => ?_)
    exact WP_skip ⟨_, .refl _, rfl, rfl, rfl, rfl, rfl, rfl, rfl, rfl⟩
  ·clear k1 k5 k6 k7 k8 k9 k10
   rintro f n L' ⟨k1, k5, k6, k7, k8, k9, k10, rfl⟩
   refine WP_know (d := 1) k1 (WP_know (d := 5) k5 (WP_know (d := 6) k6 (WP_know (d := 7) k7 (WP_know (d := 8) k8 (WP_know (d := 9) k9 (WP_know (d := 10) k10 ?_))))))
   obtain ⟨s5, e5, z5⟩ := tbl_ld t5 (x := (k : Int) % 7) (by omega)
   obtain ⟨s6, e6, z6⟩ := tbl_ld t6 (x := (k : Int) / 7 % 5) (by omega)
   obtain ⟨s7, e7, z7⟩ := tbl_ld t7 (x := (k : Int) / 35 % 10) (by omega)
   obtain ⟨s8, e8, z8⟩ := tbl_ld t8 (x := (k : Int) / 350 % 7) (by omega)
   obtain ⟨s9, e9, z9⟩ := tbl_ld t9 (x := (k : Int) / 2450) (by omega)
   have zb : (⟨#[32]⟩ : ByteArray).size ≤ 1 := Nat.le_refl _
   refine WP_seq (WP_par ?_)
   refine WO_mv rfl (WO_mv (v := .s (.int _ _)) rfl (WO_rem rfl rfl (by omega) (WO_ixs rfl rfl (by omega) (WO_ldS rfl rfl m5 e5 ?_))))
   refine WO_bin rfl rfl (strA z5 zb (by decide) (by decide)) ?_
   have z := szA z5 zb
   generalize s5 ++ (⟨#[32]⟩ : ByteArray) = x1 at z
   refine WO_mv rfl (WO_mv (v := .s (.int _ _)) rfl (WO_quo rfl rfl (by omega) (WO_rem rfl rfl (by omega) (WO_ixs rfl rfl (by omega) (WO_ldS rfl rfl m6 e6 ?_)))))
   refine WO_bin rfl rfl (strA z z6 (by decide) (by decide)) ?_
   refine WO_bin rfl rfl (strA (szA z z6) zb (by decide) (by decide)) ?_
   have z := szA (szA z z6) zb
   generalize x1 ++ s6 ++ (⟨#[32]⟩ : ByteArray) = x2 at z
   refine WO_mv rfl (WO_mv (v := .s (.int _ _)) rfl (WO_quo rfl rfl (by omega) (WO_rem rfl rfl (by omega) (WO_ixs rfl rfl (by omega) (WO_ldS rfl rfl m7 e7 ?_)))))
   refine WO_bin rfl rfl (strA z z7 (by decide) (by decide)) ?_
   refine WO_bin rfl rfl (strA (szA z z7) zb (by decide) (by decide)) ?_
   have z := szA (szA z z7) zb
   generalize x2 ++ s7 ++ (⟨#[32]⟩ : ByteArray) = x3 at z
   refine WO_mv rfl (WO_mv (v := .s (.int _ _)) rfl (WO_quo rfl rfl (by omega) (WO_rem rfl rfl (by omega) (WO_ixs rfl rfl (by omega) (WO_ldS rfl rfl m8 e8 ?_)))))
   refine WO_bin rfl rfl (strA z z8 (by decide) (by decide)) ?_
   refine WO_bin rfl rfl (strA (szA z z8) zb (by decide) (by decide)) ?_
   have z := szA (szA z z8) zb
   generalize x3 ++ s8 ++ (⟨#[32]⟩ : ByteArray) = x4 at z
   refine WO_mv rfl (WO_mv (v := .s (.int _ _)) rfl (WO_quo rfl rfl (by omega) (WO_ixs rfl rfl (by omega) (WO_ldS rfl rfl m9 e9 ?_))))
   refine WO_bin rfl rfl (strA z z9 (by decide) (by decide)) ?_
   have z := szA z z9
   generalize x4 ++ s9 = x5 at z
   refine WO_mv rfl (WO_nil ?_)
   refine WP_seq (WP_ops (WO_mv rfl (WO_call0 rfl (readsA z (by decide)) rfl rfl rfl (WO_un rfl rfl (WO_nil ?_)))))
   refine WP_cond rfl (fun h => by cases h) (fun _ => WP_skip ?_)
   exact ⟨_, .refl _, rfl, rfl, rfl, rfl, rfl, rfl, rfl, rfl⟩
 ·clear k1 k5 k6 k7 k8 k9 k10
  rintro f n L' ⟨k1, k5, k6, k7, k8, k9, k10, rfl⟩
  refine WP_know (d := 1) k1 (WP_know (d := 5) k5 (WP_know (d := 6) k6 (WP_know (d := 7) k7 (WP_know (d := 8) k8 (WP_know (d := 9) k9 (WP_know (d := 10) k10 ?_))))))
  refine WP_ops (WO_mv (v := .s (.int _ _)) rfl (WO_add rfl rfl (by omega) (WO_mv (v := .s (.int _ _)) rfl (WO_nil ?_))))
  exact ⟨31850 - (k + 1), _, by omega, .refl _, k + 1, by omega, rfl, rfl, rfl, rfl, rfl, rfl, rfl, rfl⟩
theorem ends3 {B : ByteArray} (hB : B.size ≤ 131) {f : FE} {n : Nat} (k12 : f 12 = .s (.str B)) {X : Nat → KN} {R : KN} {Zp : V → KN} : WP AM3 180 (qL (qR (qR (qR (qR (qR (qR (qR (qR (qR (qR (qR eB)))))))))))) f n [] (fun f n L => ∃ L', List.Sublist L' L ∧ L' = []) X R Zp := by
 refine WP_know (d := 12) k12 ?_
 refine WP_block ?_
 refine WP_loop (fun m f nb L => ∃ T : ByteArray, m + T.size = 131 ∧ f 12 = .s (.str T) ∧ L = []) (fun m f nb L hI => ?_) (131 - B.size) ⟨B, by omega, rfl, rfl⟩
 clear k12
 obtain ⟨T, hm, k12, rfl⟩ := hI
 refine WP_know (d := 12) k12 ?_
 refine WP_seq (WP_seq (WP_ops ?_))
 refine WO_mv rfl (WO_lenS rfl ?_)
 by_cases hT : T.size < 131
 case neg =>
  refine WO_bin (r := .bool false) rfl rfl (by show some (S.bool (decide _)) = _; rw [decide_eq_false (by omega)]) (WO_nil ?_)
  refine WP_cond rfl (fun h => by cases h) (fun _ => ?_)
  exact WP_exit (xhere ⟨_, .refl _, rfl⟩)
 refine WO_bin (r := .bool true) rfl rfl (by show some (S.bool (decide _)) = _; rw [decide_eq_true (by omega)]) (WO_nil ?_)
 refine WP_cond rfl (fun _ => WP_skip ?_) (fun h => by cases h)
 have hz : (T ++ (⟨#[49]⟩ : ByteArray)).size = T.size + 1 := ByteArray.size_append
 refine WP_block (WP_seq (WP_ops ?_))
 refine WO_mv rfl (WO_bin rfl rfl (add_str (by show T.size + 1 ≤ _; omega)) ?_)
 generalize T ++ (⟨#[49]⟩ : ByteArray) = U at hz
 refine WO_mv rfl (WO_nil ?_)
 refine WP_seq (WP_ops ?_)
 refine WO_mv rfl (WO_lenS rfl ?_)
 by_cases h125 : 125 < U.size
 ·refine WO_bin (r := .bool true) rfl rfl (by show some (S.bool (decide _)) = _; rw [decide_eq_true (by omega)]) ?_
  refine WO_mv rfl (WO_gt rfl (WO_mv rfl ?_))
  refine WO_gt rfl (WO_call0 rfl (reads_run U (by omega)) rfl rfl rfl ?_)
  refine WO_gt rfl (WO_un rfl rfl ?_)
  refine WO_pick rfl rfl (WO_nil ?_)
  refine WP_cond rfl (fun h => by cases h) (fun _ => WP_skip ?_)
  exact ⟨131 - U.size, _, by omega, .refl _, U, by omega, rfl, rfl⟩
 ·refine WO_bin (r := .bool false) rfl rfl (by show some (S.bool (decide _)) = _; rw [decide_eq_false (by omega)]) ?_
  refine WO_mv rfl (WO_gf rfl rfl (WO_gf rfl rfl (WO_gf rfl rfl (WO_pick rfl rfl (WO_nil ?_)))))
  refine WP_cond rfl (fun h => by cases h) (fun _ => WP_skip ?_)
  exact ⟨131 - U.size, _, by omega, .refl _, U, by omega, rfl, rfl⟩
theorem ends4 {b : Nat} {P : Nat → Int} {f : FE} {n : Nat} (k13 : f 13 = .ptr b 0 133) {X : Nat → KN} {R : KN} {Zp : V → KN} : WP AM3 180 (qL (qR (qR (qR (qR (qR (qR (qR (qR (qR (qR (qR (qR (qR eB)))))))))))))) f n [(b, .sc .var 133 (ia P))] (fun f n L => ∃ L', List.Sublist L' L ∧ (f 13 = .ptr b 0 133 ∧ ∃ Q, L' = [(b, .sc .var 133 (ia Q))])) X R Zp := by
 refine WP_know (d := 13) k13 ?_
 refine WP_seq (WP_ops (WO_mv rfl (WO_nil ?_)))
 refine WP_block ?_
 refine WP_loop (fun m f nb L => ∃ (j : Nat) (Q : Nat → Int), m + j = 16 ∧ f 13 = .ptr b 0 133 ∧ f 14 = .s (.int .i64 (j : Int)) ∧ L = [(b, .sc .var 133 (ia Q))]) (fun m f nb L hI => ?_) 16 ⟨0, P, rfl, rfl, rfl, rfl⟩
 clear k13
 obtain ⟨j, Q, hm, k13, k14, rfl⟩ := hI
 refine WP_know (d := 13) k13 (WP_know (d := 14) k14 ?_)
 refine WP_seq (WP_seq (WP_ops ?_))
 refine WO_mv (v := .s (.int _ _)) rfl ?_
 by_cases hj : j < 16
 case neg =>
  refine WO_bin (r := .bool false) rfl rfl (by show some (S.bool (decide _)) = _; rw [decide_eq_false (by omega)]) (WO_nil ?_)
  refine WP_cond rfl (fun h => by cases h) (fun _ => ?_)
  exact WP_exit (xhere ⟨_, .refl _, rfl, Q, rfl⟩)
 refine WO_bin (r := .bool true) rfl rfl (by show some (S.bool (decide _)) = _; rw [decide_eq_true (by omega)]) (WO_nil ?_)
 refine WP_cond rfl (fun _ => WP_skip ?_) (fun h => by cases h)
 refine WP_seq (WP_block (WP_seq (WP_ops ?_)))
 refine WO_mv (v := .s (.int _ _)) rfl (WO_fa (o' := 129) rfl rfl rfl ?_)
 refine WO_stI rfl rfl rfl rfl .here (WO_nil ?_)
 refine WP_seq (WP_ops ?_)
 refine WO_ldA0 rfl rfl (.head _) (WO_call0 rfl (RF3 (Shows_run _)) rfl rfl rfl (WO_un rfl rfl (WO_nil ?_)))
 refine WP_cond rfl (fun h => by cases h) (fun _ => WP_skip ?_)
 refine WP_ops (WO_mv (v := .s (.int _ _)) rfl (WO_add rfl rfl (by omega) (WO_mv (v := .s (.int _ _)) rfl (WO_nil ?_))))
 exact ⟨16 - (j + 1), _, by omega, .refl _, j + 1, _, by omega, rfl, rfl, rfl⟩
theorem Ends_run : RF AM3 4 [] (.s (.bool true)) := by
 refine RF_of ?_
 refine WR_fn (a := a4) rfl rfl (entryF _) (entry_E (Nat.le_of_ble_eq_true rfl)) (m := 0) rfl ?_
 refine WP_seq (WP_ops (WO_mv rfl (WO_nil ?_)))
 refine WP_seq (WP_ops (WO_call0 rfl (RF3 begin_run) rfl rfl rfl (WO_mv rfl (WO_nil ?_))))
 refine WP_seq (WP_ops (WO_mv rfl (WO_nil ?_)))
 refine WP_cut (fun f n L => f 1 = .s (.str beginS) ∧ L = []) (ends1 (by decide) (by decide) rfl rfl) ?_
 rintro f n L ⟨k1, rfl⟩
 refine WP_know (d := 1) k1 ?_
 refine WP_seq (WP_ops (WO_mkslG rfl (.one rfl (.one rfl (.one rfl (.one rfl (.one rfl (.one rfl (.one rfl .nil))))))) (WO_mv rfl (WO_nil ?_))))
 refine WP_seq (WP_ops (WO_mkslG rfl (.one rfl (.one rfl (.one rfl (.one rfl (.one rfl .nil))))) (WO_mv rfl (WO_nil ?_))))
 refine WP_seq (WP_ops (WO_mkslG rfl (.one rfl (.one rfl (.one rfl (.one rfl (.one rfl (.one rfl (.one rfl (.one rfl (.one rfl (.one rfl .nil)))))))))) (WO_mv rfl (WO_nil ?_))))
 refine WP_seq (WP_ops (WO_mkslG rfl (.one rfl (.one rfl (.one rfl (.one rfl (.one rfl (.one rfl (.one rfl .nil))))))) (WO_mv rfl (WO_nil ?_))))
 refine WP_seq (WP_ops (WO_mkslG rfl (.one rfl (.one rfl (.one rfl (.one rfl (.one rfl (.one rfl (.one rfl (.one rfl (.one rfl (.one rfl (.one rfl (.one rfl (.one rfl .nil))))))))))))) (WO_mv rfl (WO_nil ?_))))
 refine WP_cut (fun f n L => f 1 = .s (.str beginS) ∧ L = []) (ends2 (fun i hi => ?_) (fun i hi => ?_) (fun i hi => ?_) (fun i hi => ?_) (fun i hi => ?_) (.tail _ (.tail _ (.tail _ (.tail _ (.head _))))) (.tail _ (.tail _ (.tail _ (.head _)))) (.tail _ (.tail _ (.head _))) (.tail _ (.head _)) (.head _) rfl rfl rfl rfl rfl rfl) ?_
 ·match i, hi with
  | 0, _ => exact ⟨_, rfl, by decide⟩
  | 1, _ => exact ⟨_, rfl, by decide⟩
  | 2, _ => exact ⟨_, rfl, by decide⟩
  | 3, _ => exact ⟨_, rfl, by decide⟩
  | 4, _ => exact ⟨_, rfl, by decide⟩
  | 5, _ => exact ⟨_, rfl, by decide⟩
  | 6, _ => exact ⟨_, rfl, by decide⟩
 ·match i, hi with
  | 0, _ => exact ⟨_, rfl, by decide⟩
  | 1, _ => exact ⟨_, rfl, by decide⟩
  | 2, _ => exact ⟨_, rfl, by decide⟩
  | 3, _ => exact ⟨_, rfl, by decide⟩
  | 4, _ => exact ⟨_, rfl, by decide⟩
 ·match i, hi with
  | 0, _ => exact ⟨_, rfl, by decide⟩
  | 1, _ => exact ⟨_, rfl, by decide⟩
  | 2, _ => exact ⟨_, rfl, by decide⟩
  | 3, _ => exact ⟨_, rfl, by decide⟩
  | 4, _ => exact ⟨_, rfl, by decide⟩
  | 5, _ => exact ⟨_, rfl, by decide⟩
  | 6, _ => exact ⟨_, rfl, by decide⟩
  | 7, _ => exact ⟨_, rfl, by decide⟩
  | 8, _ => exact ⟨_, rfl, by decide⟩
  | 9, _ => exact ⟨_, rfl, by decide⟩
 ·match i, hi with
  | 0, _ => exact ⟨_, rfl, by decide⟩
  | 1, _ => exact ⟨_, rfl, by decide⟩
  | 2, _ => exact ⟨_, rfl, by decide⟩
  | 3, _ => exact ⟨_, rfl, by decide⟩
  | 4, _ => exact ⟨_, rfl, by decide⟩
  | 5, _ => exact ⟨_, rfl, by decide⟩
  | 6, _ => exact ⟨_, rfl, by decide⟩
 ·match i, hi with
  | 0, _ => exact ⟨_, rfl, by decide⟩
  | 1, _ => exact ⟨_, rfl, by decide⟩
  | 2, _ => exact ⟨_, rfl, by decide⟩
  | 3, _ => exact ⟨_, rfl, by decide⟩
  | 4, _ => exact ⟨_, rfl, by decide⟩
  | 5, _ => exact ⟨_, rfl, by decide⟩
  | 6, _ => exact ⟨_, rfl, by decide⟩
  | 7, _ => exact ⟨_, rfl, by decide⟩
  | 8, _ => exact ⟨_, rfl, by decide⟩
  | 9, _ => exact ⟨_, rfl, by decide⟩
  | 10, _ => exact ⟨_, rfl, by decide⟩
  | 11, _ => exact ⟨_, rfl, by decide⟩
  | 12, _ => exact ⟨_, rfl, by decide⟩
 clear k1
 rintro f n L ⟨k1, rfl⟩
 refine WP_know (d := 1) k1 ?_
 refine WP_seq (WP_ops (WO_mv rfl (WO_mv rfl (WO_nil ?_))))
 refine WP_cut (fun f n L => L = []) (ends3 (B := beginS) (by decide) rfl) ?_
 rintro f n L rfl
 refine WP_seq (WP_ops (WO_call0 rfl (RF3 start_run) rfl rfl rfl (WO_allocI (WO_stA rfl rfl rfl rfl .here (WO_nil ?_)))))
 refine WP_cut (fun f n' L => f 13 = .ptr n 0 133 ∧ ∃ Q, L = [(n, .sc .var 133 (ia Q))]) (ends4 rfl) ?_
 rintro f n' L ⟨k13, Q, rfl⟩
 refine WP_know (d := 13) k13 ?_
 refine WP_seq (WP_ops (WO_fa (o' := 132) rfl rfl rfl (WO_stI rfl rfl rfl rfl .here (WO_nil ?_))))
 refine WP_seq (WP_ops ?_)
 refine WO_ldA0 rfl rfl (.head _) (WO_call0 rfl (RF3 (Shows_run _)) rfl rfl rfl ?_)
 refine WO_mv rfl (WO_gt rfl (WO_call0 rfl (Reads_run _) rfl rfl rfl ?_))
 refine WO_pick rfl rfl (WO_mv rfl (WO_gt rfl (WO_call0 rfl (RF3 awake_run) rfl rfl rfl ?_)))
 refine WO_pick rfl rfl (WO_mv rfl (WO_nil ?_))
 exact WP_ret ⟨_, RS_tmp rfl RS_nil, rfl⟩
end Go.Proofs.YtlaogmemhephnaaGreatDoor
