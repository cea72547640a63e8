/- The walks of the chapter board: what is right, whole. -/
import Derived.Test.YtjldefmcnppdoaaBoardA
namespace Go.Proofs.Ytjldefmcnppdoaa
open Go Go.Am
set_option linter.unusedSimpArgs false
set_option linter.unusedVariables false
theorem ovK {F : Nat → Int} {x y : Int} : ov (ov F 0 x) 1 y 0 = x ∧ ov (ov F 0 x) 1 y 1 = y := ⟨rfl, rfl⟩
theorem rank_run (s : Nat) (h : s < 64) : RF AM 38 [.s (.int .i64 (s : Int))] (.s (.int .i64 ((s : Int) / 8))) := by
  have := Rank_run (s : Int)
  rw [rankM, if_pos (by omega)] at this
  exact this

theorem pieces_ok (P : Nat → Int) : WR AM 89 [.agg 133 (ia P)] [] (fun v _ _ => v = .s (.bool (piecesM P))) := by
 refine WR_fn (a := a89) rfl rfl (entryF _) (entry_E (Nat.le_of_ble_eq_true rfl)) (m := 0) rfl ?_
 refine WP_seq ?_
 refine WP_ops ?_
 refine WO_boxA rfl ?_
 refine WO_mv rfl ?_
 refine WO_nil ?_
 refine WP_seq ?_
 refine WP_ops ?_
 refine WO_allocI ?_
 refine WO_nil ?_
 refine WP_seq ?_
 refine WP_seq ?_
 refine WP_ops ?_
 refine WO_fa (o' := 0) rfl rfl rfl ?_
 refine WO_fa (o' := 0) rfl rfl rfl ?_
 first | refine WO_ldA0 rfl rfl (.tail _ (.head _)) ?_ | refine WO_ldAI rfl rfl (.tail _ (.head _)) ?_
 refine WO_mv rfl ?_
 refine WO_nil ?_
 refine WP_block ?_
 refine WP_sub (L' := [_, _]) (.cons_cons _ (.cons_cons _ .slnil)) ?_
 refine WP_loop (fun m f _ L => ∃ (i : Nat) (C : Nat → Int), (i ≤ 64) ∧ (m = 64 - i) ∧ (∀ s : Nat, s < i → okM P s) ∧ (C 0 = kM P 0 i) ∧ (C 1 = kM P 1 i) ∧ (f 1 = .ptr 0 0 133) ∧ (f 3 = .ptr 1 0 2) ∧ (f 9 = .agg 128 (ia P)) ∧ (f 10 = .s (.int .i64 i)) ∧ (L = [(1, .sc .var 2 (ia C)), (0, .sc .var 133 (ia P))])) (fun m f nb L hI => ?_) (64) ⟨0, fun _ => 0, by omega, rfl, fun s h => by omega, rfl, rfl, rfl, rfl, rfl, rfl, rfl⟩
 obtain ⟨i, C, hi, hm, hok, hc0, hc1, k1, k3, k9, k10, rfl⟩ := hI
 refine WP_know (d := 1) (v := .ptr 0 0 133) k1 ?_
 refine WP_know (d := 3) (v := .ptr 1 0 2) k3 ?_
 refine WP_know (d := 9) (v := .agg 128 (ia P)) k9 ?_
 refine WP_know (d := 10) (v := .s (.int .i64 i)) k10 ?_
 refine WP_seq ?_
 refine WP_ops ?_
 refine WO_bin (r := .bool _) rfl rfl rfl ?_
 refine WO_nil ?_
 refine WP_seq ?_
 refine WP_cond rfl (fun h1 => ?_) (fun h1 => ?_)
 ·try simp only [NM] at h1
  try simp only [eq_two, ovA2.1, ovA2.2, ovK.1, ovK.2, decide_eq_true_eq, decide_eq_false_iff_not, mayM, dp, Nat.add_zero] at h1
  refine WP_skip ?_
  refine WP_seq ?_
  refine WP_block ?_
  refine WP_seq ?_
  refine WP_ops ?_
  refine WO_mv (v := .s (.int _ _)) rfl ?_
  refine WO_ixA rfl rfl rfl (by first | omega | (simp only [mayM, decide_eq_true_eq] at *; omega)) ?_
  rw [dp_ix]
  refine WO_allocI ?_
  refine WO_mv (v := .s (.int _ _)) rfl ?_
  refine WO_stA rfl rfl rfl rfl .here ?_
  refine WO_nil ?_
  refine WP_seq ?_
  refine WP_seq ?_
  refine WP_ops ?_
  first | refine WO_ldA0 rfl rfl (.head _) ?_ | refine WO_ldAI rfl rfl (.head _) ?_
  refine WO_buildI rfl .nil ?_
  refine WO_eqa rfl rfl ?_
  refine WO_nil ?_
  refine WP_cond rfl (fun h2 => ?_) (fun h2 => ?_)
  ·try simp only [NM] at h2
   try simp only [eq_two, ovA2.1, ovA2.2, ovK.1, ovK.2, decide_eq_true_eq, decide_eq_false_iff_not, mayM, dp, Nat.add_zero] at h2
   refine WP_exit ?_
   refine xhere ?_
   refine WP_ops ?_
   refine WO_add rfl rfl (by omega) ?_
   refine WO_mv (v := .s (.int _ _)) rfl ?_
   refine WO_nil ?_
   first | (have hk := kings_yes hc0 hc1 (by omega) (by omega); refine ⟨64 - (i + 1), _, by omega, (.cons _ (.cons_cons _ (.cons_cons _ .slnil))), i + 1, _, by omega, rfl, ok_next hok (by unfold okM; omega), hk.1, hk.2, rfl, rfl, rfl, rfl, rfl⟩) | (have hk := kings_no hc0 hc1 (by omega); refine ⟨64 - (i + 1), _, by omega, (.cons _ (.cons_cons _ (.cons_cons _ .slnil))), i + 1, _, by omega, rfl, ok_next hok (by unfold okM; omega), hk.1, hk.2, rfl, rfl, rfl, rfl, rfl⟩)
  ·try simp only [NM] at h2
   try simp only [eq_two, ovA2.1, ovA2.2, ovK.1, ovK.2, decide_eq_true_eq, decide_eq_false_iff_not, mayM, dp, Nat.add_zero] at h2
   refine WP_skip ?_
   refine WP_seq ?_
   refine WP_ops ?_
   refine WO_mv (v := .s (.int _ _)) rfl ?_
   refine WO_call0 rfl (rank_run i (by omega)) rfl rfl rfl ?_
   refine WO_bin (r := .bool _) rfl rfl rfl ?_
   refine WO_mv (v := .s (.bool _)) rfl ?_
   refine WO_case (t := 20) rfl (fun h3 => ?_) (fun h3 => ?_)
   ·try simp only [NM] at h3
    try simp only [eq_two, ovA2.1, ovA2.2, ovK.1, ovK.2, decide_eq_true_eq, decide_eq_false_iff_not, mayM, dp, Nat.add_zero] at h3
    refine WO_gf rfl rfl ?_
    refine WO_gf rfl rfl ?_
    refine WO_gf rfl rfl ?_
    refine WO_pick (v := .s (.bool _)) rfl rfl ?_
    refine WO_mv (v := .s (.bool _)) rfl ?_
    refine WO_nil ?_
    refine WP_seq ?_
    refine WP_seq ?_
    refine WP_ops ?_
    first | refine WO_ldA0 rfl rfl (.head _) ?_ | refine WO_ldAI rfl rfl (.head _) ?_
    refine WO_call0 rfl (show RF AM 88 _ (.s (.bool (mayM (P (sqI i)) (P (sqI i + 1))))) from RF_of (may_run (ovA (fun _ => 0) 0 2 (dp P (sqI i))))) rfl rfl rfl ?_
    refine WO_un (r := .bool _) rfl rfl ?_
    refine WO_mv (v := .s (.bool _)) rfl ?_
    refine WO_case (t := 28) rfl (fun h4 => ?_) (fun h4 => ?_)
    ·try simp only [NM] at h4
     try simp only [eq_two, ovA2.1, ovA2.2, ovK.1, ovK.2, decide_eq_true_eq, decide_eq_false_iff_not, mayM, dp, Nat.add_zero] at h4
     refine WO_gf rfl rfl ?_
     refine WO_gf rfl rfl ?_
     refine WO_gu rfl ?_
     refine WO_gu rfl ?_
     refine WO_gu rfl ?_
     refine WO_gf rfl rfl ?_
     refine WO_pick (v := .s (.bool _)) rfl rfl ?_
     refine WO_nil ?_
     refine WP_cond rfl (fun _ => ?_) (fun h => nomatch h)
     refine WP_seq ?_
     refine WP_ops ?_
     refine WO_mv rfl ?_
     refine WO_nil ?_
     refine WP_ret ?_
     refine ⟨_, RS_tmp (v := .s (.bool _)) rfl (RS_nil), ?_⟩
     exact congrArg (fun b => V.s (S.bool b)) (pieces_no (fun q => absurd (q.1 i (by omega)) (by unfold okM; omega))).symm
    ·try simp only [NM] at h4
     try simp only [eq_two, ovA2.1, ovA2.2, ovK.1, ovK.2, decide_eq_true_eq, decide_eq_false_iff_not, mayM, dp, Nat.add_zero] at h4
     refine WO_gt rfl ?_
     refine WO_mv (v := .s (.bool _)) rfl ?_
     refine WO_gt rfl ?_
     refine WO_mv (v := .s (.bool _)) rfl ?_
     refine WO_gt rfl ?_
     refine WO_fa (o' := 0) rfl rfl rfl ?_
     refine WO_gt rfl ?_
     refine WO_ldI (x := P (sqI i)) rfl rfl (.head _) (rfl) ?_
     refine WO_gt rfl ?_
     refine WO_bin (r := .bool _) rfl rfl rfl ?_
     refine WO_gt rfl ?_
     refine WO_pick (v := .s (.bool _)) rfl rfl ?_
     refine WO_pick (v := .s (.bool _)) rfl rfl ?_
     refine WO_nil ?_
     refine WP_cond rfl (fun h5 => ?_) (fun h5 => ?_)
     ·try simp only [NM] at h5
      try simp only [eq_two, ovA2.1, ovA2.2, ovK.1, ovK.2, decide_eq_true_eq, decide_eq_false_iff_not, mayM, dp, Nat.add_zero] at h5
      refine WP_seq ?_
      refine WP_ops ?_
      refine WO_mv rfl ?_
      refine WO_nil ?_
      refine WP_ret ?_
      refine ⟨_, RS_tmp (v := .s (.bool _)) rfl (RS_nil), ?_⟩
      exact congrArg (fun b => V.s (S.bool b)) (pieces_no (fun q => absurd (q.1 i (by omega)) (by unfold okM; omega))).symm
     ·try simp only [NM] at h5
      try simp only [eq_two, ovA2.1, ovA2.2, ovK.1, ovK.2, decide_eq_true_eq, decide_eq_false_iff_not, mayM, dp, Nat.add_zero] at h5
      refine WP_skip ?_
      refine WP_seq ?_
      refine WP_ops ?_
      refine WO_fa (o' := 0) rfl rfl rfl ?_
      refine WO_ldI (x := P (sqI i)) rfl rfl (.head _) (rfl) ?_
      refine WO_bin (r := .bool _) rfl rfl rfl ?_
      refine WO_nil ?_
      refine WP_cond rfl (fun h6 => ?_) (fun h6 => ?_)
      ·try simp only [NM] at h6
       try simp only [eq_two, ovA2.1, ovA2.2, ovK.1, ovK.2, decide_eq_true_eq, decide_eq_false_iff_not, mayM, dp, Nat.add_zero] at h6
       refine WP_ops ?_
       refine WO_fa (o' := 1) rfl rfl rfl ?_
       refine WO_ldI (x := P (sqI i + 1)) rfl rfl (.head _) (rfl) ?_
       refine WO_ixa rfl rfl rfl (by first | omega | (simp only [mayM, decide_eq_true_eq] at *; omega)) ?_
       refine WO_ldI rfl rfl (.tail _ (.head _)) rfl ?_
       refine WO_add rfl rfl (king_bd hc0 hc1 hi (by omega)) ?_
       refine WO_ixa rfl rfl rfl (by first | omega | (simp only [mayM, decide_eq_true_eq] at *; omega)) ?_
       refine WO_stI rfl rfl rfl rfl (.there .here) ?_
       refine WO_nil ?_
       refine WP_ops ?_
       refine WO_add rfl rfl (by omega) ?_
       refine WO_mv (v := .s (.int _ _)) rfl ?_
       refine WO_nil ?_
       first | (have hk := kings_yes hc0 hc1 (by omega) (by omega); refine ⟨64 - (i + 1), _, by omega, (.cons _ (.cons_cons _ (.cons_cons _ .slnil))), i + 1, _, by omega, rfl, ok_next hok (by unfold okM; omega), hk.1, hk.2, rfl, rfl, rfl, rfl, rfl⟩) | (have hk := kings_no hc0 hc1 (by omega); refine ⟨64 - (i + 1), _, by omega, (.cons _ (.cons_cons _ (.cons_cons _ .slnil))), i + 1, _, by omega, rfl, ok_next hok (by unfold okM; omega), hk.1, hk.2, rfl, rfl, rfl, rfl, rfl⟩)
      ·try simp only [NM] at h6
       try simp only [eq_two, ovA2.1, ovA2.2, ovK.1, ovK.2, decide_eq_true_eq, decide_eq_false_iff_not, mayM, dp, Nat.add_zero] at h6
       refine WP_skip ?_
       refine WP_ops ?_
       refine WO_add rfl rfl (by omega) ?_
       refine WO_mv (v := .s (.int _ _)) rfl ?_
       refine WO_nil ?_
       first | (have hk := kings_yes hc0 hc1 (by omega) (by omega); refine ⟨64 - (i + 1), _, by omega, (.cons _ (.cons_cons _ (.cons_cons _ .slnil))), i + 1, _, by omega, rfl, ok_next hok (by unfold okM; omega), hk.1, hk.2, rfl, rfl, rfl, rfl, rfl⟩) | (have hk := kings_no hc0 hc1 (by omega); refine ⟨64 - (i + 1), _, by omega, (.cons _ (.cons_cons _ (.cons_cons _ .slnil))), i + 1, _, by omega, rfl, ok_next hok (by unfold okM; omega), hk.1, hk.2, rfl, rfl, rfl, rfl, rfl⟩)
   ·try simp only [NM] at h3
    try simp only [eq_two, ovA2.1, ovA2.2, ovK.1, ovK.2, decide_eq_true_eq, decide_eq_false_iff_not, mayM, dp, Nat.add_zero] at h3
    refine WO_gt rfl ?_
    refine WO_mv (v := .s (.int _ _)) rfl ?_
    refine WO_gt rfl ?_
    refine WO_call0 rfl (rank_run i (by omega)) rfl rfl rfl ?_
    refine WO_gt rfl ?_
    refine WO_bin (r := .bool _) rfl rfl rfl ?_
    refine WO_pick (v := .s (.bool _)) rfl rfl ?_
    refine WO_mv (v := .s (.bool _)) rfl ?_
    refine WO_nil ?_
    refine WP_seq ?_
    refine WP_seq ?_
    refine WP_ops ?_
    first | refine WO_ldA0 rfl rfl (.head _) ?_ | refine WO_ldAI rfl rfl (.head _) ?_
    refine WO_call0 rfl (show RF AM 88 _ (.s (.bool (mayM (P (sqI i)) (P (sqI i + 1))))) from RF_of (may_run (ovA (fun _ => 0) 0 2 (dp P (sqI i))))) rfl rfl rfl ?_
    refine WO_un (r := .bool _) rfl rfl ?_
    refine WO_mv (v := .s (.bool _)) rfl ?_
    refine WO_case (t := 28) rfl (fun h7 => ?_) (fun h7 => ?_)
    ·try simp only [NM] at h7
     try simp only [eq_two, ovA2.1, ovA2.2, ovK.1, ovK.2, decide_eq_true_eq, decide_eq_false_iff_not, mayM, dp, Nat.add_zero] at h7
     refine WO_gf rfl rfl ?_
     refine WO_gf rfl rfl ?_
     refine WO_gu rfl ?_
     refine WO_gu rfl ?_
     refine WO_gu rfl ?_
     refine WO_gf rfl rfl ?_
     refine WO_pick (v := .s (.bool _)) rfl rfl ?_
     refine WO_nil ?_
     refine WP_cond rfl (fun _ => ?_) (fun h => nomatch h)
     refine WP_seq ?_
     refine WP_ops ?_
     refine WO_mv rfl ?_
     refine WO_nil ?_
     refine WP_ret ?_
     refine ⟨_, RS_tmp (v := .s (.bool _)) rfl (RS_nil), ?_⟩
     exact congrArg (fun b => V.s (S.bool b)) (pieces_no (fun q => absurd (q.1 i (by omega)) (by unfold okM; omega))).symm
    ·try simp only [NM] at h7
     try simp only [eq_two, ovA2.1, ovA2.2, ovK.1, ovK.2, decide_eq_true_eq, decide_eq_false_iff_not, mayM, dp, Nat.add_zero] at h7
     refine WO_gt rfl ?_
     refine WO_mv (v := .s (.bool _)) rfl ?_
     refine WO_gt rfl ?_
     refine WO_mv (v := .s (.bool _)) rfl ?_
     refine WO_case (t := 30) rfl (fun h8 => ?_) (fun h8 => ?_)
     ·try simp only [NM] at h8
      try simp only [eq_two, ovA2.1, ovA2.2, ovK.1, ovK.2, decide_eq_true_eq, decide_eq_false_iff_not, mayM, dp, Nat.add_zero] at h8
      refine WO_gt rfl ?_
      refine WO_fa (o' := 0) rfl rfl rfl ?_
      refine WO_gt rfl ?_
      refine WO_ldI (x := P (sqI i)) rfl rfl (.head _) (rfl) ?_
      refine WO_gt rfl ?_
      refine WO_bin (r := .bool _) rfl rfl rfl ?_
      refine WO_gt rfl ?_
      refine WO_pick (v := .s (.bool _)) rfl rfl ?_
      refine WO_pick (v := .s (.bool _)) rfl rfl ?_
      refine WO_nil ?_
      refine WP_cond rfl (fun h9 => ?_) (fun h9 => ?_)
      ·try simp only [NM] at h9
       try simp only [eq_two, ovA2.1, ovA2.2, ovK.1, ovK.2, decide_eq_true_eq, decide_eq_false_iff_not, mayM, dp, Nat.add_zero] at h9
       refine WP_seq ?_
       refine WP_ops ?_
       refine WO_mv rfl ?_
       refine WO_nil ?_
       refine WP_ret ?_
       refine ⟨_, RS_tmp (v := .s (.bool _)) rfl (RS_nil), ?_⟩
       exact congrArg (fun b => V.s (S.bool b)) (pieces_no (fun q => absurd (q.1 i (by omega)) (by unfold okM; omega))).symm
      ·try simp only [NM] at h9
       try simp only [eq_two, ovA2.1, ovA2.2, ovK.1, ovK.2, decide_eq_true_eq, decide_eq_false_iff_not, mayM, dp, Nat.add_zero] at h9
       refine WP_skip ?_
       refine WP_seq ?_
       refine WP_ops ?_
       refine WO_fa (o' := 0) rfl rfl rfl ?_
       refine WO_ldI (x := P (sqI i)) rfl rfl (.head _) (rfl) ?_
       refine WO_bin (r := .bool _) rfl rfl rfl ?_
       refine WO_nil ?_
       refine WP_cond rfl (fun h10 => ?_) (fun h10 => ?_)
       ·try simp only [NM] at h10
        try simp only [eq_two, ovA2.1, ovA2.2, ovK.1, ovK.2, decide_eq_true_eq, decide_eq_false_iff_not, mayM, dp, Nat.add_zero] at h10
        refine WP_ops ?_
        refine WO_fa (o' := 1) rfl rfl rfl ?_
        refine WO_ldI (x := P (sqI i + 1)) rfl rfl (.head _) (rfl) ?_
        refine WO_ixa rfl rfl rfl (by first | omega | (simp only [mayM, decide_eq_true_eq] at *; omega)) ?_
        refine WO_ldI rfl rfl (.tail _ (.head _)) rfl ?_
        refine WO_add rfl rfl (king_bd hc0 hc1 hi (by omega)) ?_
        refine WO_ixa rfl rfl rfl (by first | omega | (simp only [mayM, decide_eq_true_eq] at *; omega)) ?_
        refine WO_stI rfl rfl rfl rfl (.there .here) ?_
        refine WO_nil ?_
        refine WP_ops ?_
        refine WO_add rfl rfl (by omega) ?_
        refine WO_mv (v := .s (.int _ _)) rfl ?_
        refine WO_nil ?_
        first | (have hk := kings_yes hc0 hc1 (by omega) (by omega); refine ⟨64 - (i + 1), _, by omega, (.cons _ (.cons_cons _ (.cons_cons _ .slnil))), i + 1, _, by omega, rfl, ok_next hok (by unfold okM; omega), hk.1, hk.2, rfl, rfl, rfl, rfl, rfl⟩) | (have hk := kings_no hc0 hc1 (by omega); refine ⟨64 - (i + 1), _, by omega, (.cons _ (.cons_cons _ (.cons_cons _ .slnil))), i + 1, _, by omega, rfl, ok_next hok (by unfold okM; omega), hk.1, hk.2, rfl, rfl, rfl, rfl, rfl⟩)
       ·try simp only [NM] at h10
        try simp only [eq_two, ovA2.1, ovA2.2, ovK.1, ovK.2, decide_eq_true_eq, decide_eq_false_iff_not, mayM, dp, Nat.add_zero] at h10
        refine WP_skip ?_
        refine WP_ops ?_
        refine WO_add rfl rfl (by omega) ?_
        refine WO_mv (v := .s (.int _ _)) rfl ?_
        refine WO_nil ?_
        first | (have hk := kings_yes hc0 hc1 (by omega) (by omega); refine ⟨64 - (i + 1), _, by omega, (.cons _ (.cons_cons _ (.cons_cons _ .slnil))), i + 1, _, by omega, rfl, ok_next hok (by unfold okM; omega), hk.1, hk.2, rfl, rfl, rfl, rfl, rfl⟩) | (have hk := kings_no hc0 hc1 (by omega); refine ⟨64 - (i + 1), _, by omega, (.cons _ (.cons_cons _ (.cons_cons _ .slnil))), i + 1, _, by omega, rfl, ok_next hok (by unfold okM; omega), hk.1, hk.2, rfl, rfl, rfl, rfl, rfl⟩)
     ·try simp only [NM] at h8
      try simp only [eq_two, ovA2.1, ovA2.2, ovK.1, ovK.2, decide_eq_true_eq, decide_eq_false_iff_not, mayM, dp, Nat.add_zero] at h8
      refine WO_gf rfl rfl ?_
      refine WO_gf rfl rfl ?_
      refine WO_gf rfl rfl ?_
      refine WO_gt rfl ?_
      refine WO_pick (v := .s (.bool _)) rfl rfl ?_
      refine WO_pick (v := .s (.bool _)) rfl rfl ?_
      refine WO_nil ?_
      refine WP_cond rfl (fun h => nomatch h) (fun _ => ?_)
      refine WP_skip ?_
      refine WP_seq ?_
      refine WP_ops ?_
      refine WO_fa (o' := 0) rfl rfl rfl ?_
      refine WO_ldI (x := P (sqI i)) rfl rfl (.head _) (rfl) ?_
      refine WO_bin (r := .bool _) rfl rfl rfl ?_
      refine WO_nil ?_
      refine WP_cond rfl (fun h11 => ?_) (fun h11 => ?_)
      ·try simp only [NM] at h11
       try simp only [eq_two, ovA2.1, ovA2.2, ovK.1, ovK.2, decide_eq_true_eq, decide_eq_false_iff_not, mayM, dp, Nat.add_zero] at h11
       refine WP_ops ?_
       refine WO_fa (o' := 1) rfl rfl rfl ?_
       refine WO_ldI (x := P (sqI i + 1)) rfl rfl (.head _) (rfl) ?_
       refine WO_ixa rfl rfl rfl (by first | omega | (simp only [mayM, decide_eq_true_eq] at *; omega)) ?_
       refine WO_ldI rfl rfl (.tail _ (.head _)) rfl ?_
       refine WO_add rfl rfl (king_bd hc0 hc1 hi (by omega)) ?_
       refine WO_ixa rfl rfl rfl (by first | omega | (simp only [mayM, decide_eq_true_eq] at *; omega)) ?_
       refine WO_stI rfl rfl rfl rfl (.there .here) ?_
       refine WO_nil ?_
       refine WP_ops ?_
       refine WO_add rfl rfl (by omega) ?_
       refine WO_mv (v := .s (.int _ _)) rfl ?_
       refine WO_nil ?_
       first | (have hk := kings_yes hc0 hc1 (by omega) (by omega); refine ⟨64 - (i + 1), _, by omega, (.cons _ (.cons_cons _ (.cons_cons _ .slnil))), i + 1, _, by omega, rfl, ok_next hok (by unfold okM; omega), hk.1, hk.2, rfl, rfl, rfl, rfl, rfl⟩) | (have hk := kings_no hc0 hc1 (by omega); refine ⟨64 - (i + 1), _, by omega, (.cons _ (.cons_cons _ (.cons_cons _ .slnil))), i + 1, _, by omega, rfl, ok_next hok (by unfold okM; omega), hk.1, hk.2, rfl, rfl, rfl, rfl, rfl⟩)
      ·try simp only [NM] at h11
       try simp only [eq_two, ovA2.1, ovA2.2, ovK.1, ovK.2, decide_eq_true_eq, decide_eq_false_iff_not, mayM, dp, Nat.add_zero] at h11
       refine WP_skip ?_
       refine WP_ops ?_
       refine WO_add rfl rfl (by omega) ?_
       refine WO_mv (v := .s (.int _ _)) rfl ?_
       refine WO_nil ?_
       first | (have hk := kings_yes hc0 hc1 (by omega) (by omega); refine ⟨64 - (i + 1), _, by omega, (.cons _ (.cons_cons _ (.cons_cons _ .slnil))), i + 1, _, by omega, rfl, ok_next hok (by unfold okM; omega), hk.1, hk.2, rfl, rfl, rfl, rfl, rfl⟩) | (have hk := kings_no hc0 hc1 (by omega); refine ⟨64 - (i + 1), _, by omega, (.cons _ (.cons_cons _ (.cons_cons _ .slnil))), i + 1, _, by omega, rfl, ok_next hok (by unfold okM; omega), hk.1, hk.2, rfl, rfl, rfl, rfl, rfl⟩)
 ·try simp only [NM] at h1
  try simp only [eq_two, ovA2.1, ovA2.2, ovK.1, ovK.2, decide_eq_true_eq, decide_eq_false_iff_not, mayM, dp, Nat.add_zero] at h1
  refine WP_exit ?_
  refine xhere ?_
  refine WP_seq ?_
  refine WP_ops ?_
  first | refine WO_ldA0 rfl rfl (.head _) ?_ | refine WO_ldAI rfl rfl (.head _) ?_
  refine WO_buildI rfl (.one rfl (.one rfl .nil)) ?_
  refine WO_eqa rfl rfl ?_
  refine WO_mv (v := .s (.bool _)) rfl ?_
  refine WO_case (t := 49) rfl (fun h12 => ?_) (fun h12 => ?_)
  ·try simp only [NM] at h12
   try simp only [eq_two, ovA2.1, ovA2.2, ovK.1, ovK.2, decide_eq_true_eq, decide_eq_false_iff_not, mayM, dp, Nat.add_zero] at h12
   refine WO_gt rfl ?_
   refine WO_fa (o' := 0) rfl rfl rfl ?_
   refine WO_gt rfl ?_
   refine WO_fa (o' := 128) rfl rfl rfl ?_
   refine WO_gt rfl ?_
   refine WO_ldI rfl rfl (.tail _ (.head _)) rfl ?_
   refine WO_gt rfl ?_
   refine WO_bin (r := .bool _) rfl rfl rfl ?_
   refine WO_gt rfl ?_
   refine WO_mv (v := .s (.bool _)) rfl ?_
   refine WO_case (t := 54) rfl (fun h13 => ?_) (fun h13 => ?_)
   ·try simp only [NM] at h13
    try simp only [eq_two, ovA2.1, ovA2.2, ovK.1, ovK.2, decide_eq_true_eq, decide_eq_false_iff_not, mayM, dp, Nat.add_zero] at h13
    refine WO_gf rfl rfl ?_
    refine WO_gf rfl rfl ?_
    refine WO_gf rfl rfl ?_
    refine WO_gf rfl rfl ?_
    refine WO_gt rfl ?_
    refine WO_pick (v := .s (.bool _)) rfl rfl ?_
    refine WO_pick (v := .s (.bool _)) rfl rfl ?_
    refine WO_mv (v := .s (.bool _)) rfl ?_
    refine WO_nil ?_
    refine WP_ret ?_
    refine ⟨_, RS_tmp (v := .s (.bool _)) rfl (RS_nil), ?_⟩
    obtain rfl : i = 64 := by omega
    refine congrArg (fun b => V.s (S.bool b)) ?_
    by_cases hq : (∀ s : Nat, s < 64 → okM P s) ∧ kM P 0 64 = 1 ∧ kM P 1 64 = 1 ∧ (P 128 = 0 ∨ P 128 = 1)
    · refine Eq.trans (b := true) ?_ (pieces_yes hq).symm; have hq2 := hq.2; first | rfl | (exfalso; omega) | exact beq_iff_eq.2 (by omega)
    · refine Eq.trans (b := false) ?_ (pieces_no hq).symm; have hn : ¬ (kM P 0 64 = 1 ∧ kM P 1 64 = 1 ∧ (P 128 = 0 ∨ P 128 = 1)) := fun e => hq ⟨hok, e⟩; first | rfl | (exfalso; omega) | exact beq_eq_false_iff_ne.2 (by omega)
   ·try simp only [NM] at h13
    try simp only [eq_two, ovA2.1, ovA2.2, ovK.1, ovK.2, decide_eq_true_eq, decide_eq_false_iff_not, mayM, dp, Nat.add_zero] at h13
    refine WO_gt rfl ?_
    refine WO_fa (o' := 0) rfl rfl rfl ?_
    refine WO_gt rfl ?_
    refine WO_fa (o' := 128) rfl rfl rfl ?_
    refine WO_gt rfl ?_
    refine WO_ldI rfl rfl (.tail _ (.head _)) rfl ?_
    refine WO_gt rfl ?_
    refine WO_bin (r := .bool _) rfl rfl rfl ?_
    refine WO_gt rfl ?_
    refine WO_pick (v := .s (.bool _)) rfl rfl ?_
    refine WO_pick (v := .s (.bool _)) rfl rfl ?_
    refine WO_mv (v := .s (.bool _)) rfl ?_
    refine WO_nil ?_
    refine WP_ret ?_
    refine ⟨_, RS_tmp (v := .s (.bool _)) rfl (RS_nil), ?_⟩
    obtain rfl : i = 64 := by omega
    refine congrArg (fun b => V.s (S.bool b)) ?_
    by_cases hq : (∀ s : Nat, s < 64 → okM P s) ∧ kM P 0 64 = 1 ∧ kM P 1 64 = 1 ∧ (P 128 = 0 ∨ P 128 = 1)
    · refine Eq.trans (b := true) ?_ (pieces_yes hq).symm; have hq2 := hq.2; first | rfl | (exfalso; omega) | exact beq_iff_eq.2 (by omega)
    · refine Eq.trans (b := false) ?_ (pieces_no hq).symm; have hn : ¬ (kM P 0 64 = 1 ∧ kM P 1 64 = 1 ∧ (P 128 = 0 ∨ P 128 = 1)) := fun e => hq ⟨hok, e⟩; first | rfl | (exfalso; omega) | exact beq_eq_false_iff_ne.2 (by omega)
  ·try simp only [NM] at h12
   try simp only [eq_two, ovA2.1, ovA2.2, ovK.1, ovK.2, decide_eq_true_eq, decide_eq_false_iff_not, mayM, dp, Nat.add_zero] at h12
   refine WO_gf rfl rfl ?_
   refine WO_gf rfl rfl ?_
   refine WO_gf rfl rfl ?_
   refine WO_gf rfl rfl ?_
   refine WO_gf rfl rfl ?_
   refine WO_gu rfl ?_
   refine WO_gu rfl ?_
   refine WO_gu rfl ?_
   refine WO_gu rfl ?_
   refine WO_gf rfl rfl ?_
   refine WO_pick (v := .s (.bool _)) rfl rfl ?_
   refine WO_mv (v := .s (.bool _)) rfl ?_
   refine WO_nil ?_
   refine WP_ret ?_
   refine ⟨_, RS_tmp (v := .s (.bool _)) rfl (RS_nil), ?_⟩
   obtain rfl : i = 64 := by omega
   refine congrArg (fun b => V.s (S.bool b)) ?_
   by_cases hq : (∀ s : Nat, s < 64 → okM P s) ∧ kM P 0 64 = 1 ∧ kM P 1 64 = 1 ∧ (P 128 = 0 ∨ P 128 = 1)
   · refine Eq.trans (b := true) ?_ (pieces_yes hq).symm; have hq2 := hq.2; first | rfl | (exfalso; omega) | exact beq_iff_eq.2 (by omega)
   · refine Eq.trans (b := false) ?_ (pieces_no hq).symm; have hn : ¬ (kM P 0 64 = 1 ∧ kM P 1 64 = 1 ∧ (P 128 = 0 ∨ P 128 = 1)) := fun e => hq ⟨hok, e⟩; first | rfl | (exfalso; omega) | exact beq_eq_false_iff_ne.2 (by omega)
theorem rpieces_ok (P : Nat → Int) : WR AM 108 [.agg 133 (ia P)] [] (fun v _ _ => v = .s (.bool (piecesM P))) := by
 refine WR_fn (a := a108) rfl rfl (entryF _) (entry_E (Nat.le_of_ble_eq_true rfl)) (m := 0) rfl ?_
 refine WP_seq ?_
 refine WP_ops ?_
 refine WO_boxA rfl ?_
 refine WO_mv rfl ?_
 refine WO_nil ?_
 refine WP_seq ?_
 refine WP_ops ?_
 refine WO_buildI rfl .nil ?_
 refine WO_allocI ?_
 refine WO_stA rfl rfl rfl rfl .here ?_
 refine WO_nil ?_
 refine WP_seq ?_
 refine WP_seq ?_
 refine WP_ops ?_
 refine WO_mv rfl ?_
 refine WO_nil ?_
 refine WP_block ?_
 refine WP_sub (L' := [_, _]) (.cons_cons _ (.cons_cons _ .slnil)) ?_
 refine WP_loop (fun m f _ L => ∃ (i : Nat) (C : Nat → Int), (i ≤ 64) ∧ (m = 64 - i) ∧ (∀ s : Nat, s < i → okM P s) ∧ (C 0 = kM P 0 i) ∧ (C 1 = kM P 1 i) ∧ (f 1 = .ptr 0 0 133) ∧ (f 3 = .ptr 1 0 2) ∧ (f 4 = .s (.int .i64 i)) ∧ (L = [(1, .sc .var 2 (ia C)), (0, .sc .var 133 (ia P))])) (fun m f nb L hI => ?_) (64) ⟨0, ovA (fun _ => 0) 0 2 (fun _ => 0), by omega, rfl, fun s h => by omega, rfl, rfl, rfl, rfl, rfl, rfl⟩
 obtain ⟨i, C, hi, hm, hok, hc0, hc1, k1, k3, k4, rfl⟩ := hI
 refine WP_know (d := 1) (v := .ptr 0 0 133) k1 ?_
 refine WP_know (d := 3) (v := .ptr 1 0 2) k3 ?_
 refine WP_know (d := 4) (v := .s (.int .i64 i)) k4 ?_
 refine WP_seq ?_
 refine WP_seq ?_
 refine WP_ops ?_
 refine WO_mv (v := .s (.int _ _)) rfl ?_
 refine WO_bin (r := .bool _) rfl rfl rfl ?_
 refine WO_nil ?_
 refine WP_cond rfl (fun h14 => ?_) (fun h14 => ?_)
 ·try simp only [NM] at h14
  try simp only [eq_two, ovA2.1, ovA2.2, ovK.1, ovK.2, decide_eq_true_eq, decide_eq_false_iff_not, mayM, dp, Nat.add_zero] at h14
  refine WP_skip ?_
  refine WP_seq ?_
  refine WP_block ?_
  refine WP_seq ?_
  refine WP_ops ?_
  refine WO_mv (v := .s (.int _ _)) rfl ?_
  refine WO_fa (o' := 0) rfl rfl rfl ?_
  refine WO_ixa rfl rfl rfl (by first | omega | (simp only [mayM, decide_eq_true_eq] at *; omega)) ?_
  first | refine WO_ldA0 rfl rfl (.tail _ (.head _)) ?_ | refine WO_ldAI rfl rfl (.tail _ (.head _)) ?_
  refine WO_allocI ?_
  refine WO_stA rfl rfl rfl rfl .here ?_
  refine WO_nil ?_
  refine WP_seq ?_
  refine WP_seq ?_
  refine WP_ops ?_
  first | refine WO_ldA0 rfl rfl (.head _) ?_ | refine WO_ldAI rfl rfl (.head _) ?_
  refine WO_call0 rfl (show RF AM 107 _ (.s (.bool (decide (P (sqI i) = 0 ∧ P (sqI i + 1) = 0)))) from RF_of (none_run (ovA (fun _ => 0) 0 2 (dp P (sqI i))))) rfl rfl rfl ?_
  refine WO_un (r := .bool _) rfl rfl ?_
  refine WO_mv (v := .s (.bool _)) rfl ?_
  refine WO_case (t := 18) rfl (fun h15 => ?_) (fun h15 => ?_)
  ·try simp only [NM] at h15
   try simp only [eq_two, ovA2.1, ovA2.2, ovK.1, ovK.2, decide_eq_true_eq, decide_eq_false_iff_not, mayM, dp, Nat.add_zero] at h15
   refine WO_gt rfl ?_
   first | refine WO_ldA0 rfl rfl (.head _) ?_ | refine WO_ldAI rfl rfl (.head _) ?_
   refine WO_gt rfl ?_
   refine WO_call0 rfl (show RF AM 55 _ (.s (.bool (mayM (P (sqI i)) (P (sqI i + 1))))) from RF_of (rMay_run (ovA (fun _ => 0) 0 2 (dp P (sqI i))))) rfl rfl rfl ?_
   refine WO_gt rfl ?_
   refine WO_un (r := .bool _) rfl rfl ?_
   refine WO_pick (v := .s (.bool _)) rfl rfl ?_
   refine WO_mv (v := .s (.bool _)) rfl ?_
   refine WO_case (t := 23) rfl (fun h16 => ?_) (fun h16 => ?_)
   ·try simp only [NM] at h16
    try simp only [eq_two, ovA2.1, ovA2.2, ovK.1, ovK.2, decide_eq_true_eq, decide_eq_false_iff_not, mayM, dp, Nat.add_zero] at h16
    refine WO_gf rfl rfl ?_
    refine WO_gf rfl rfl ?_
    refine WO_gf rfl rfl ?_
    refine WO_gf rfl rfl ?_
    refine WO_gu rfl ?_
    refine WO_gu rfl ?_
    refine WO_gu rfl ?_
    refine WO_gu rfl ?_
    refine WO_gu rfl ?_
    refine WO_gu rfl ?_
    refine WO_gf rfl rfl ?_
    refine WO_pick (v := .s (.bool _)) rfl rfl ?_
    refine WO_nil ?_
    refine WP_cond rfl (fun _ => ?_) (fun h => nomatch h)
    refine WP_seq ?_
    refine WP_ops ?_
    refine WO_mv rfl ?_
    refine WO_nil ?_
    refine WP_ret ?_
    refine ⟨_, RS_tmp (v := .s (.bool _)) rfl (RS_nil), ?_⟩
    exact congrArg (fun b => V.s (S.bool b)) (pieces_no (fun q => absurd (q.1 i (by omega)) (by unfold okM; omega))).symm
   ·try simp only [NM] at h16
    try simp only [eq_two, ovA2.1, ovA2.2, ovK.1, ovK.2, decide_eq_true_eq, decide_eq_false_iff_not, mayM, dp, Nat.add_zero] at h16
    refine WO_gt rfl ?_
    refine WO_fa (o' := 0) rfl rfl rfl ?_
    refine WO_gt rfl ?_
    refine WO_ldI (x := P (sqI i)) rfl rfl (.head _) (rfl) ?_
    refine WO_gt rfl ?_
    refine WO_bin (r := .bool _) rfl rfl rfl ?_
    refine WO_gt rfl ?_
    refine WO_mv (v := .s (.bool _)) rfl ?_
    refine WO_case (t := 27) rfl (fun h17 => ?_) (fun h17 => ?_)
    ·try simp only [NM] at h17
     try simp only [eq_two, ovA2.1, ovA2.2, ovK.1, ovK.2, decide_eq_true_eq, decide_eq_false_iff_not, mayM, dp, Nat.add_zero] at h17
     refine WO_gt rfl ?_
     refine WO_mv (v := .s (.int _ _)) rfl ?_
     refine WO_gt rfl ?_
     refine WO_bin (r := .bool _) rfl rfl rfl ?_
     refine WO_gt rfl ?_
     refine WO_mv (v := .s (.bool _)) rfl ?_
     refine WO_case (t := 30) rfl (fun h18 => ?_) (fun h18 => ?_)
     ·try simp only [NM] at h18
      try simp only [eq_two, ovA2.1, ovA2.2, ovK.1, ovK.2, decide_eq_true_eq, decide_eq_false_iff_not, mayM, dp, Nat.add_zero] at h18
      refine WO_gf rfl rfl ?_
      refine WO_gf rfl rfl ?_
      refine WO_gt rfl ?_
      refine WO_pick (v := .s (.bool _)) rfl rfl ?_
      refine WO_gt rfl ?_
      refine WO_pick (v := .s (.bool _)) rfl rfl ?_
      refine WO_pick (v := .s (.bool _)) rfl rfl ?_
      refine WO_nil ?_
      refine WP_cond rfl (fun _ => ?_) (fun h => nomatch h)
      refine WP_seq ?_
      refine WP_ops ?_
      refine WO_mv rfl ?_
      refine WO_nil ?_
      refine WP_ret ?_
      refine ⟨_, RS_tmp (v := .s (.bool _)) rfl (RS_nil), ?_⟩
      exact congrArg (fun b => V.s (S.bool b)) (pieces_no (fun q => absurd (q.1 i (by omega)) (by unfold okM; omega))).symm
     ·try simp only [NM] at h18
      try simp only [eq_two, ovA2.1, ovA2.2, ovK.1, ovK.2, decide_eq_true_eq, decide_eq_false_iff_not, mayM, dp, Nat.add_zero] at h18
      refine WO_gt rfl ?_
      refine WO_mv (v := .s (.int _ _)) rfl ?_
      refine WO_gt rfl ?_
      refine WO_bin (r := .bool _) rfl rfl rfl ?_
      refine WO_gt rfl ?_
      refine WO_pick (v := .s (.bool _)) rfl rfl ?_
      refine WO_gt rfl ?_
      refine WO_pick (v := .s (.bool _)) rfl rfl ?_
      refine WO_pick (v := .s (.bool _)) rfl rfl ?_
      refine WO_nil ?_
      refine WP_cond rfl (fun h19 => ?_) (fun h19 => ?_)
      ·try simp only [NM] at h19
       try simp only [eq_two, ovA2.1, ovA2.2, ovK.1, ovK.2, decide_eq_true_eq, decide_eq_false_iff_not, mayM, dp, Nat.add_zero] at h19
       refine WP_seq ?_
       refine WP_ops ?_
       refine WO_mv rfl ?_
       refine WO_nil ?_
       refine WP_ret ?_
       refine ⟨_, RS_tmp (v := .s (.bool _)) rfl (RS_nil), ?_⟩
       exact congrArg (fun b => V.s (S.bool b)) (pieces_no (fun q => absurd (q.1 i (by omega)) (by unfold okM; omega))).symm
      ·try simp only [NM] at h19
       try simp only [eq_two, ovA2.1, ovA2.2, ovK.1, ovK.2, decide_eq_true_eq, decide_eq_false_iff_not, mayM, dp, Nat.add_zero] at h19
       refine WP_skip ?_
       refine WP_seq ?_
       refine WP_ops ?_
       refine WO_fa (o' := 0) rfl rfl rfl ?_
       refine WO_ldI (x := P (sqI i)) rfl rfl (.head _) (rfl) ?_
       refine WO_bin (r := .bool _) rfl rfl rfl ?_
       refine WO_nil ?_
       refine WP_cond rfl (fun h20 => ?_) (fun h20 => ?_)
       ·try simp only [NM] at h20
        try simp only [eq_two, ovA2.1, ovA2.2, ovK.1, ovK.2, decide_eq_true_eq, decide_eq_false_iff_not, mayM, dp, Nat.add_zero] at h20
        refine WP_ops ?_
        refine WO_fa (o' := 1) rfl rfl rfl ?_
        refine WO_ldI (x := P (sqI i + 1)) rfl rfl (.head _) (rfl) ?_
        refine WO_ixa rfl rfl rfl (by first | omega | (simp only [mayM, decide_eq_true_eq] at *; omega)) ?_
        refine WO_ldI rfl rfl (.tail _ (.head _)) rfl ?_
        refine WO_add rfl rfl (king_bd hc0 hc1 hi (by omega)) ?_
        refine WO_ixa rfl rfl rfl (by first | omega | (simp only [mayM, decide_eq_true_eq] at *; omega)) ?_
        refine WO_stI rfl rfl rfl rfl (.there .here) ?_
        refine WO_nil ?_
        refine WP_ops ?_
        refine WO_mv (v := .s (.int _ _)) rfl ?_
        refine WO_add rfl rfl (by omega) ?_
        refine WO_mv (v := .s (.int _ _)) rfl ?_
        refine WO_nil ?_
        first | (have hk := kings_yes hc0 hc1 (by omega) (by omega); refine ⟨64 - (i + 1), _, by omega, (.cons _ (.cons_cons _ (.cons_cons _ .slnil))), i + 1, _, by omega, rfl, ok_next hok (by unfold okM; omega), hk.1, hk.2, rfl, rfl, rfl, rfl⟩) | (have hk := kings_no hc0 hc1 (by omega); refine ⟨64 - (i + 1), _, by omega, (.cons _ (.cons_cons _ (.cons_cons _ .slnil))), i + 1, _, by omega, rfl, ok_next hok (by unfold okM; omega), hk.1, hk.2, rfl, rfl, rfl, rfl⟩)
       ·try simp only [NM] at h20
        try simp only [eq_two, ovA2.1, ovA2.2, ovK.1, ovK.2, decide_eq_true_eq, decide_eq_false_iff_not, mayM, dp, Nat.add_zero] at h20
        refine WP_skip ?_
        refine WP_ops ?_
        refine WO_mv (v := .s (.int _ _)) rfl ?_
        refine WO_add rfl rfl (by omega) ?_
        refine WO_mv (v := .s (.int _ _)) rfl ?_
        refine WO_nil ?_
        first | (have hk := kings_yes hc0 hc1 (by omega) (by omega); refine ⟨64 - (i + 1), _, by omega, (.cons _ (.cons_cons _ (.cons_cons _ .slnil))), i + 1, _, by omega, rfl, ok_next hok (by unfold okM; omega), hk.1, hk.2, rfl, rfl, rfl, rfl⟩) | (have hk := kings_no hc0 hc1 (by omega); refine ⟨64 - (i + 1), _, by omega, (.cons _ (.cons_cons _ (.cons_cons _ .slnil))), i + 1, _, by omega, rfl, ok_next hok (by unfold okM; omega), hk.1, hk.2, rfl, rfl, rfl, rfl⟩)
    ·try simp only [NM] at h17
     try simp only [eq_two, ovA2.1, ovA2.2, ovK.1, ovK.2, decide_eq_true_eq, decide_eq_false_iff_not, mayM, dp, Nat.add_zero] at h17
     refine WO_gf rfl rfl ?_
     refine WO_gf rfl rfl ?_
     refine WO_gf rfl rfl ?_
     refine WO_gu rfl ?_
     refine WO_gu rfl ?_
     refine WO_gf rfl rfl ?_
     refine WO_gt rfl ?_
     refine WO_pick (v := .s (.bool _)) rfl rfl ?_
     refine WO_pick (v := .s (.bool _)) rfl rfl ?_
     refine WO_nil ?_
     refine WP_cond rfl (fun h => nomatch h) (fun _ => ?_)
     refine WP_skip ?_
     refine WP_seq ?_
     refine WP_ops ?_
     refine WO_fa (o' := 0) rfl rfl rfl ?_
     refine WO_ldI (x := P (sqI i)) rfl rfl (.head _) (rfl) ?_
     refine WO_bin (r := .bool _) rfl rfl rfl ?_
     refine WO_nil ?_
     refine WP_cond rfl (fun h21 => ?_) (fun h21 => ?_)
     ·try simp only [NM] at h21
      try simp only [eq_two, ovA2.1, ovA2.2, ovK.1, ovK.2, decide_eq_true_eq, decide_eq_false_iff_not, mayM, dp, Nat.add_zero] at h21
      refine WP_ops ?_
      refine WO_fa (o' := 1) rfl rfl rfl ?_
      refine WO_ldI (x := P (sqI i + 1)) rfl rfl (.head _) (rfl) ?_
      refine WO_ixa rfl rfl rfl (by first | omega | (simp only [mayM, decide_eq_true_eq] at *; omega)) ?_
      refine WO_ldI rfl rfl (.tail _ (.head _)) rfl ?_
      refine WO_add rfl rfl (king_bd hc0 hc1 hi (by omega)) ?_
      refine WO_ixa rfl rfl rfl (by first | omega | (simp only [mayM, decide_eq_true_eq] at *; omega)) ?_
      refine WO_stI rfl rfl rfl rfl (.there .here) ?_
      refine WO_nil ?_
      refine WP_ops ?_
      refine WO_mv (v := .s (.int _ _)) rfl ?_
      refine WO_add rfl rfl (by omega) ?_
      refine WO_mv (v := .s (.int _ _)) rfl ?_
      refine WO_nil ?_
      first | (have hk := kings_yes hc0 hc1 (by omega) (by omega); refine ⟨64 - (i + 1), _, by omega, (.cons _ (.cons_cons _ (.cons_cons _ .slnil))), i + 1, _, by omega, rfl, ok_next hok (by unfold okM; omega), hk.1, hk.2, rfl, rfl, rfl, rfl⟩) | (have hk := kings_no hc0 hc1 (by omega); refine ⟨64 - (i + 1), _, by omega, (.cons _ (.cons_cons _ (.cons_cons _ .slnil))), i + 1, _, by omega, rfl, ok_next hok (by unfold okM; omega), hk.1, hk.2, rfl, rfl, rfl, rfl⟩)
     ·try simp only [NM] at h21
      try simp only [eq_two, ovA2.1, ovA2.2, ovK.1, ovK.2, decide_eq_true_eq, decide_eq_false_iff_not, mayM, dp, Nat.add_zero] at h21
      refine WP_skip ?_
      refine WP_ops ?_
      refine WO_mv (v := .s (.int _ _)) rfl ?_
      refine WO_add rfl rfl (by omega) ?_
      refine WO_mv (v := .s (.int _ _)) rfl ?_
      refine WO_nil ?_
      first | (have hk := kings_yes hc0 hc1 (by omega) (by omega); refine ⟨64 - (i + 1), _, by omega, (.cons _ (.cons_cons _ (.cons_cons _ .slnil))), i + 1, _, by omega, rfl, ok_next hok (by unfold okM; omega), hk.1, hk.2, rfl, rfl, rfl, rfl⟩) | (have hk := kings_no hc0 hc1 (by omega); refine ⟨64 - (i + 1), _, by omega, (.cons _ (.cons_cons _ (.cons_cons _ .slnil))), i + 1, _, by omega, rfl, ok_next hok (by unfold okM; omega), hk.1, hk.2, rfl, rfl, rfl, rfl⟩)
  ·try simp only [NM] at h15
   try simp only [eq_two, ovA2.1, ovA2.2, ovK.1, ovK.2, decide_eq_true_eq, decide_eq_false_iff_not, mayM, dp, Nat.add_zero] at h15
   refine WO_gf rfl rfl ?_
   refine WO_gf rfl rfl ?_
   refine WO_gf rfl rfl ?_
   refine WO_pick (v := .s (.bool _)) rfl rfl ?_
   refine WO_mv (v := .s (.bool _)) rfl ?_
   refine WO_gt rfl ?_
   refine WO_fa (o' := 0) rfl rfl rfl ?_
   refine WO_gt rfl ?_
   refine WO_ldI (x := P (sqI i)) rfl rfl (.head _) (rfl) ?_
   refine WO_gt rfl ?_
   refine WO_bin (r := .bool _) rfl rfl rfl ?_
   refine WO_gt rfl ?_
   refine WO_mv (v := .s (.bool _)) rfl ?_
   refine WO_case (t := 27) rfl (fun h22 => ?_) (fun h22 => ?_)
   ·try simp only [NM] at h22
    try simp only [eq_two, ovA2.1, ovA2.2, ovK.1, ovK.2, decide_eq_true_eq, decide_eq_false_iff_not, mayM, dp, Nat.add_zero] at h22
    refine WO_gt rfl ?_
    refine WO_mv (v := .s (.int _ _)) rfl ?_
    refine WO_gt rfl ?_
    refine WO_bin (r := .bool _) rfl rfl rfl ?_
    refine WO_gt rfl ?_
    refine WO_mv (v := .s (.bool _)) rfl ?_
    refine WO_case (t := 30) rfl (fun h23 => ?_) (fun h23 => ?_)
    ·try simp only [NM] at h23
     try simp only [eq_two, ovA2.1, ovA2.2, ovK.1, ovK.2, decide_eq_true_eq, decide_eq_false_iff_not, mayM, dp, Nat.add_zero] at h23
     refine WO_gf rfl rfl ?_
     refine WO_gf rfl rfl ?_
     refine WO_gt rfl ?_
     refine WO_pick (v := .s (.bool _)) rfl rfl ?_
     refine WO_gt rfl ?_
     refine WO_pick (v := .s (.bool _)) rfl rfl ?_
     refine WO_pick (v := .s (.bool _)) rfl rfl ?_
     refine WO_nil ?_
     refine WP_cond rfl (fun _ => ?_) (fun h => nomatch h)
     refine WP_seq ?_
     refine WP_ops ?_
     refine WO_mv rfl ?_
     refine WO_nil ?_
     refine WP_ret ?_
     refine ⟨_, RS_tmp (v := .s (.bool _)) rfl (RS_nil), ?_⟩
     exact congrArg (fun b => V.s (S.bool b)) (pieces_no (fun q => absurd (q.1 i (by omega)) (by unfold okM; omega))).symm
    ·try simp only [NM] at h23
     try simp only [eq_two, ovA2.1, ovA2.2, ovK.1, ovK.2, decide_eq_true_eq, decide_eq_false_iff_not, mayM, dp, Nat.add_zero] at h23
     refine WO_gt rfl ?_
     refine WO_mv (v := .s (.int _ _)) rfl ?_
     refine WO_gt rfl ?_
     refine WO_bin (r := .bool _) rfl rfl rfl ?_
     refine WO_gt rfl ?_
     refine WO_pick (v := .s (.bool _)) rfl rfl ?_
     refine WO_gt rfl ?_
     refine WO_pick (v := .s (.bool _)) rfl rfl ?_
     refine WO_pick (v := .s (.bool _)) rfl rfl ?_
     refine WO_nil ?_
     refine WP_cond rfl (fun h24 => ?_) (fun h24 => ?_)
     ·try simp only [NM] at h24
      try simp only [eq_two, ovA2.1, ovA2.2, ovK.1, ovK.2, decide_eq_true_eq, decide_eq_false_iff_not, mayM, dp, Nat.add_zero] at h24
      refine WP_seq ?_
      refine WP_ops ?_
      refine WO_mv rfl ?_
      refine WO_nil ?_
      refine WP_ret ?_
      refine ⟨_, RS_tmp (v := .s (.bool _)) rfl (RS_nil), ?_⟩
      exact congrArg (fun b => V.s (S.bool b)) (pieces_no (fun q => absurd (q.1 i (by omega)) (by unfold okM; omega))).symm
     ·try simp only [NM] at h24
      try simp only [eq_two, ovA2.1, ovA2.2, ovK.1, ovK.2, decide_eq_true_eq, decide_eq_false_iff_not, mayM, dp, Nat.add_zero] at h24
      refine WP_skip ?_
      refine WP_seq ?_
      refine WP_ops ?_
      refine WO_fa (o' := 0) rfl rfl rfl ?_
      refine WO_ldI (x := P (sqI i)) rfl rfl (.head _) (rfl) ?_
      refine WO_bin (r := .bool _) rfl rfl rfl ?_
      refine WO_nil ?_
      refine WP_cond rfl (fun h25 => ?_) (fun h25 => ?_)
      ·try simp only [NM] at h25
       try simp only [eq_two, ovA2.1, ovA2.2, ovK.1, ovK.2, decide_eq_true_eq, decide_eq_false_iff_not, mayM, dp, Nat.add_zero] at h25
       refine WP_ops ?_
       refine WO_fa (o' := 1) rfl rfl rfl ?_
       refine WO_ldI (x := P (sqI i + 1)) rfl rfl (.head _) (rfl) ?_
       refine WO_ixa rfl rfl rfl (by first | omega | (simp only [mayM, decide_eq_true_eq] at *; omega)) ?_
       refine WO_ldI rfl rfl (.tail _ (.head _)) rfl ?_
       refine WO_add rfl rfl (king_bd hc0 hc1 hi (by omega)) ?_
       refine WO_ixa rfl rfl rfl (by first | omega | (simp only [mayM, decide_eq_true_eq] at *; omega)) ?_
       refine WO_stI rfl rfl rfl rfl (.there .here) ?_
       refine WO_nil ?_
       refine WP_ops ?_
       refine WO_mv (v := .s (.int _ _)) rfl ?_
       refine WO_add rfl rfl (by omega) ?_
       refine WO_mv (v := .s (.int _ _)) rfl ?_
       refine WO_nil ?_
       first | (have hk := kings_yes hc0 hc1 (by omega) (by omega); refine ⟨64 - (i + 1), _, by omega, (.cons _ (.cons_cons _ (.cons_cons _ .slnil))), i + 1, _, by omega, rfl, ok_next hok (by unfold okM; omega), hk.1, hk.2, rfl, rfl, rfl, rfl⟩) | (have hk := kings_no hc0 hc1 (by omega); refine ⟨64 - (i + 1), _, by omega, (.cons _ (.cons_cons _ (.cons_cons _ .slnil))), i + 1, _, by omega, rfl, ok_next hok (by unfold okM; omega), hk.1, hk.2, rfl, rfl, rfl, rfl⟩)
      ·try simp only [NM] at h25
       try simp only [eq_two, ovA2.1, ovA2.2, ovK.1, ovK.2, decide_eq_true_eq, decide_eq_false_iff_not, mayM, dp, Nat.add_zero] at h25
       refine WP_skip ?_
       refine WP_ops ?_
       refine WO_mv (v := .s (.int _ _)) rfl ?_
       refine WO_add rfl rfl (by omega) ?_
       refine WO_mv (v := .s (.int _ _)) rfl ?_
       refine WO_nil ?_
       first | (have hk := kings_yes hc0 hc1 (by omega) (by omega); refine ⟨64 - (i + 1), _, by omega, (.cons _ (.cons_cons _ (.cons_cons _ .slnil))), i + 1, _, by omega, rfl, ok_next hok (by unfold okM; omega), hk.1, hk.2, rfl, rfl, rfl, rfl⟩) | (have hk := kings_no hc0 hc1 (by omega); refine ⟨64 - (i + 1), _, by omega, (.cons _ (.cons_cons _ (.cons_cons _ .slnil))), i + 1, _, by omega, rfl, ok_next hok (by unfold okM; omega), hk.1, hk.2, rfl, rfl, rfl, rfl⟩)
   ·try simp only [NM] at h22
    try simp only [eq_two, ovA2.1, ovA2.2, ovK.1, ovK.2, decide_eq_true_eq, decide_eq_false_iff_not, mayM, dp, Nat.add_zero] at h22
    refine WO_gf rfl rfl ?_
    refine WO_gf rfl rfl ?_
    refine WO_gf rfl rfl ?_
    refine WO_gu rfl ?_
    refine WO_gu rfl ?_
    refine WO_gf rfl rfl ?_
    refine WO_gt rfl ?_
    refine WO_pick (v := .s (.bool _)) rfl rfl ?_
    refine WO_pick (v := .s (.bool _)) rfl rfl ?_
    refine WO_nil ?_
    refine WP_cond rfl (fun h => nomatch h) (fun _ => ?_)
    refine WP_skip ?_
    refine WP_seq ?_
    refine WP_ops ?_
    refine WO_fa (o' := 0) rfl rfl rfl ?_
    refine WO_ldI (x := P (sqI i)) rfl rfl (.head _) (rfl) ?_
    refine WO_bin (r := .bool _) rfl rfl rfl ?_
    refine WO_nil ?_
    refine WP_cond rfl (fun h26 => ?_) (fun h26 => ?_)
    ·try simp only [NM] at h26
     try simp only [eq_two, ovA2.1, ovA2.2, ovK.1, ovK.2, decide_eq_true_eq, decide_eq_false_iff_not, mayM, dp, Nat.add_zero] at h26
     refine WP_ops ?_
     refine WO_fa (o' := 1) rfl rfl rfl ?_
     refine WO_ldI (x := P (sqI i + 1)) rfl rfl (.head _) (rfl) ?_
     refine WO_ixa rfl rfl rfl (by first | omega | (simp only [mayM, decide_eq_true_eq] at *; omega)) ?_
     refine WO_ldI rfl rfl (.tail _ (.head _)) rfl ?_
     refine WO_add rfl rfl (king_bd hc0 hc1 hi (by omega)) ?_
     refine WO_ixa rfl rfl rfl (by first | omega | (simp only [mayM, decide_eq_true_eq] at *; omega)) ?_
     refine WO_stI rfl rfl rfl rfl (.there .here) ?_
     refine WO_nil ?_
     refine WP_ops ?_
     refine WO_mv (v := .s (.int _ _)) rfl ?_
     refine WO_add rfl rfl (by omega) ?_
     refine WO_mv (v := .s (.int _ _)) rfl ?_
     refine WO_nil ?_
     first | (have hk := kings_yes hc0 hc1 (by omega) (by omega); refine ⟨64 - (i + 1), _, by omega, (.cons _ (.cons_cons _ (.cons_cons _ .slnil))), i + 1, _, by omega, rfl, ok_next hok (by unfold okM; omega), hk.1, hk.2, rfl, rfl, rfl, rfl⟩) | (have hk := kings_no hc0 hc1 (by omega); refine ⟨64 - (i + 1), _, by omega, (.cons _ (.cons_cons _ (.cons_cons _ .slnil))), i + 1, _, by omega, rfl, ok_next hok (by unfold okM; omega), hk.1, hk.2, rfl, rfl, rfl, rfl⟩)
    ·try simp only [NM] at h26
     try simp only [eq_two, ovA2.1, ovA2.2, ovK.1, ovK.2, decide_eq_true_eq, decide_eq_false_iff_not, mayM, dp, Nat.add_zero] at h26
     refine WP_skip ?_
     refine WP_ops ?_
     refine WO_mv (v := .s (.int _ _)) rfl ?_
     refine WO_add rfl rfl (by omega) ?_
     refine WO_mv (v := .s (.int _ _)) rfl ?_
     refine WO_nil ?_
     first | (have hk := kings_yes hc0 hc1 (by omega) (by omega); refine ⟨64 - (i + 1), _, by omega, (.cons _ (.cons_cons _ (.cons_cons _ .slnil))), i + 1, _, by omega, rfl, ok_next hok (by unfold okM; omega), hk.1, hk.2, rfl, rfl, rfl, rfl⟩) | (have hk := kings_no hc0 hc1 (by omega); refine ⟨64 - (i + 1), _, by omega, (.cons _ (.cons_cons _ (.cons_cons _ .slnil))), i + 1, _, by omega, rfl, ok_next hok (by unfold okM; omega), hk.1, hk.2, rfl, rfl, rfl, rfl⟩)
 ·try simp only [NM] at h14
  try simp only [eq_two, ovA2.1, ovA2.2, ovK.1, ovK.2, decide_eq_true_eq, decide_eq_false_iff_not, mayM, dp, Nat.add_zero] at h14
  refine WP_exit ?_
  refine xhere ?_
  refine WP_seq ?_
  refine WP_ops ?_
  refine WO_ixa rfl rfl rfl (by first | omega | (simp only [mayM, decide_eq_true_eq] at *; omega)) ?_
  refine WO_ldI (x := C 0) rfl rfl (.head _) (rfl) ?_
  refine WO_bin (r := .bool _) rfl rfl rfl ?_
  refine WO_mv (v := .s (.bool _)) rfl ?_
  refine WO_case (t := 48) rfl (fun h27 => ?_) (fun h27 => ?_)
  ·try simp only [NM] at h27
   try simp only [eq_two, ovA2.1, ovA2.2, ovK.1, ovK.2, decide_eq_true_eq, decide_eq_false_iff_not, mayM, dp, Nat.add_zero] at h27
   refine WO_gt rfl ?_
   refine WO_ixa rfl rfl rfl (by first | omega | (simp only [mayM, decide_eq_true_eq] at *; omega)) ?_
   refine WO_gt rfl ?_
   refine WO_ldI (x := C 1) rfl rfl (.head _) (rfl) ?_
   refine WO_gt rfl ?_
   refine WO_bin (r := .bool _) rfl rfl rfl ?_
   refine WO_pick (v := .s (.bool _)) rfl rfl ?_
   refine WO_mv (v := .s (.bool _)) rfl ?_
   refine WO_case (t := 53) rfl (fun h28 => ?_) (fun h28 => ?_)
   ·try simp only [NM] at h28
    try simp only [eq_two, ovA2.1, ovA2.2, ovK.1, ovK.2, decide_eq_true_eq, decide_eq_false_iff_not, mayM, dp, Nat.add_zero] at h28
    refine WO_gt rfl ?_
    refine WO_fa (o' := 128) rfl rfl rfl ?_
    refine WO_gt rfl ?_
    refine WO_ldI (x := P 128) rfl rfl (.tail _ (.head _)) (rfl) ?_
    refine WO_gt rfl ?_
    refine WO_bin (r := .bool _) rfl rfl rfl ?_
    refine WO_gt rfl ?_
    refine WO_mv (v := .s (.bool _)) rfl ?_
    refine WO_case (t := 57) rfl (fun h29 => ?_) (fun h29 => ?_)
    ·try simp only [NM] at h29
     try simp only [eq_two, ovA2.1, ovA2.2, ovK.1, ovK.2, decide_eq_true_eq, decide_eq_false_iff_not, mayM, dp, Nat.add_zero] at h29
     refine WO_gf rfl rfl ?_
     refine WO_gf rfl rfl ?_
     refine WO_gf rfl rfl ?_
     refine WO_gt rfl ?_
     refine WO_pick (v := .s (.bool _)) rfl rfl ?_
     refine WO_pick (v := .s (.bool _)) rfl rfl ?_
     refine WO_mv (v := .s (.bool _)) rfl ?_
     refine WO_nil ?_
     refine WP_ret ?_
     refine ⟨_, RS_tmp (v := .s (.bool _)) rfl (RS_nil), ?_⟩
     obtain rfl : i = 64 := by omega
     refine congrArg (fun b => V.s (S.bool b)) ?_
     by_cases hq : (∀ s : Nat, s < 64 → okM P s) ∧ kM P 0 64 = 1 ∧ kM P 1 64 = 1 ∧ (P 128 = 0 ∨ P 128 = 1)
     · refine Eq.trans (b := true) ?_ (pieces_yes hq).symm; have hq2 := hq.2; first | rfl | (exfalso; omega) | exact beq_iff_eq.2 (by omega)
     · refine Eq.trans (b := false) ?_ (pieces_no hq).symm; have hn : ¬ (kM P 0 64 = 1 ∧ kM P 1 64 = 1 ∧ (P 128 = 0 ∨ P 128 = 1)) := fun e => hq ⟨hok, e⟩; first | rfl | (exfalso; omega) | exact beq_eq_false_iff_ne.2 (by omega)
    ·try simp only [NM] at h29
     try simp only [eq_two, ovA2.1, ovA2.2, ovK.1, ovK.2, decide_eq_true_eq, decide_eq_false_iff_not, mayM, dp, Nat.add_zero] at h29
     refine WO_gt rfl ?_
     refine WO_fa (o' := 128) rfl rfl rfl ?_
     refine WO_gt rfl ?_
     refine WO_ldI (x := P 128) rfl rfl (.tail _ (.head _)) (rfl) ?_
     refine WO_gt rfl ?_
     refine WO_bin (r := .bool _) rfl rfl rfl ?_
     refine WO_gt rfl ?_
     refine WO_pick (v := .s (.bool _)) rfl rfl ?_
     refine WO_pick (v := .s (.bool _)) rfl rfl ?_
     refine WO_mv (v := .s (.bool _)) rfl ?_
     refine WO_nil ?_
     refine WP_ret ?_
     refine ⟨_, RS_tmp (v := .s (.bool _)) rfl (RS_nil), ?_⟩
     obtain rfl : i = 64 := by omega
     refine congrArg (fun b => V.s (S.bool b)) ?_
     by_cases hq : (∀ s : Nat, s < 64 → okM P s) ∧ kM P 0 64 = 1 ∧ kM P 1 64 = 1 ∧ (P 128 = 0 ∨ P 128 = 1)
     · refine Eq.trans (b := true) ?_ (pieces_yes hq).symm; have hq2 := hq.2; first | rfl | (exfalso; omega) | exact beq_iff_eq.2 (by omega)
     · refine Eq.trans (b := false) ?_ (pieces_no hq).symm; have hn : ¬ (kM P 0 64 = 1 ∧ kM P 1 64 = 1 ∧ (P 128 = 0 ∨ P 128 = 1)) := fun e => hq ⟨hok, e⟩; first | rfl | (exfalso; omega) | exact beq_eq_false_iff_ne.2 (by omega)
   ·try simp only [NM] at h28
    try simp only [eq_two, ovA2.1, ovA2.2, ovK.1, ovK.2, decide_eq_true_eq, decide_eq_false_iff_not, mayM, dp, Nat.add_zero] at h28
    refine WO_gf rfl rfl ?_
    refine WO_gf rfl rfl ?_
    refine WO_gf rfl rfl ?_
    refine WO_gf rfl rfl ?_
    refine WO_gu rfl ?_
    refine WO_gu rfl ?_
    refine WO_gu rfl ?_
    refine WO_gf rfl rfl ?_
    refine WO_pick (v := .s (.bool _)) rfl rfl ?_
    refine WO_mv (v := .s (.bool _)) rfl ?_
    refine WO_nil ?_
    refine WP_ret ?_
    refine ⟨_, RS_tmp (v := .s (.bool _)) rfl (RS_nil), ?_⟩
    obtain rfl : i = 64 := by omega
    refine congrArg (fun b => V.s (S.bool b)) ?_
    by_cases hq : (∀ s : Nat, s < 64 → okM P s) ∧ kM P 0 64 = 1 ∧ kM P 1 64 = 1 ∧ (P 128 = 0 ∨ P 128 = 1)
    · refine Eq.trans (b := true) ?_ (pieces_yes hq).symm; have hq2 := hq.2; first | rfl | (exfalso; omega) | exact beq_iff_eq.2 (by omega)
    · refine Eq.trans (b := false) ?_ (pieces_no hq).symm; have hn : ¬ (kM P 0 64 = 1 ∧ kM P 1 64 = 1 ∧ (P 128 = 0 ∨ P 128 = 1)) := fun e => hq ⟨hok, e⟩; first | rfl | (exfalso; omega) | exact beq_eq_false_iff_ne.2 (by omega)
  ·try simp only [NM] at h27
   try simp only [eq_two, ovA2.1, ovA2.2, ovK.1, ovK.2, decide_eq_true_eq, decide_eq_false_iff_not, mayM, dp, Nat.add_zero] at h27
   refine WO_gf rfl rfl ?_
   refine WO_gf rfl rfl ?_
   refine WO_gf rfl rfl ?_
   refine WO_pick (v := .s (.bool _)) rfl rfl ?_
   refine WO_mv (v := .s (.bool _)) rfl ?_
   refine WO_gf rfl rfl ?_
   refine WO_gf rfl rfl ?_
   refine WO_gf rfl rfl ?_
   refine WO_gf rfl rfl ?_
   refine WO_gu rfl ?_
   refine WO_gu rfl ?_
   refine WO_gu rfl ?_
   refine WO_gf rfl rfl ?_
   refine WO_pick (v := .s (.bool _)) rfl rfl ?_
   refine WO_mv (v := .s (.bool _)) rfl ?_
   refine WO_nil ?_
   refine WP_ret ?_
   refine ⟨_, RS_tmp (v := .s (.bool _)) rfl (RS_nil), ?_⟩
   obtain rfl : i = 64 := by omega
   refine congrArg (fun b => V.s (S.bool b)) ?_
   by_cases hq : (∀ s : Nat, s < 64 → okM P s) ∧ kM P 0 64 = 1 ∧ kM P 1 64 = 1 ∧ (P 128 = 0 ∨ P 128 = 1)
   · refine Eq.trans (b := true) ?_ (pieces_yes hq).symm; have hq2 := hq.2; first | rfl | (exfalso; omega) | exact beq_iff_eq.2 (by omega)
   · refine Eq.trans (b := false) ?_ (pieces_no hq).symm; have hn : ¬ (kM P 0 64 = 1 ∧ kM P 1 64 = 1 ∧ (P 128 = 0 ∨ P 128 = 1)) := fun e => hq ⟨hok, e⟩; first | rfl | (exfalso; omega) | exact beq_eq_false_iff_ne.2 (by omega)
theorem step_up {x : Int} (hx : 0 ≤ x ∧ x < 64) (h : x / 8 < 7) : RF AM 33 [.s (.int .i64 x), .s (.int .i64 0), .s (.int .i64 1)] (.s (.int .i64 (x + 8))) := by
  have := Step_run x 0 1
  rw [step_is hx (by omega)] at this
  exact this
theorem step_dn {x : Int} (hx : 0 ≤ x ∧ x < 64) (h : 1 ≤ x / 8) : RF AM 33 [.s (.int .i64 x), .s (.int .i64 0), .s (.int .i64 (-1))] (.s (.int .i64 (x - 8))) := by
  have := Step_run x 0 (-1)
  rw [step_is hx (by omega)] at this
  exact this
theorem other0 {x : Int} (h : x = 0 ∨ x = 1) : otherM x = 1 - x := by
  unfold otherM; split <;> omega
theorem rank_all (x : Int) : (0 ≤ x ∧ x < 64 ∧ rankM x = x / 8) ∨ (¬ (0 ≤ x ∧ x < 64) ∧ rankM x = -1) := by
  unfold rankM; split
  · exact .inl ⟨by omega, by omega, rfl⟩
  · exact .inr ⟨by assumption, rfl⟩

theorem over_ok (P : Nat → Int) (hs : P 128 = 0 ∨ P 128 = 1) : WR AM 91 [.agg 133 (ia P)] [] (fun v _ _ => v = .s (.bool (overOK P))) := by
 refine WR_fn (a := a91) rfl rfl (entryF _) (entry_E (Nat.le_of_ble_eq_true rfl)) (m := 0) rfl ?_
 refine WP_seq ?_
 refine WP_ops ?_
 refine WO_boxA rfl ?_
 refine WO_mv rfl ?_
 refine WO_nil ?_
 refine WP_seq ?_
 refine WP_seq ?_
 refine WP_ops ?_
 refine WO_fa (o' := 0) rfl rfl rfl ?_
 refine WO_fa (o' := 130) rfl rfl rfl ?_
 refine WO_ldI rfl rfl (.head _) rfl ?_
 refine WO_bin (r := .bool _) rfl rfl rfl ?_
 refine WO_nil ?_
 refine WP_cond rfl (fun h30 => ?_) (fun h30 => ?_)
 ·try simp only [NM] at h30
  try simp only [standM, decide_eq_true_eq, decide_eq_false_iff_not] at h30
  refine WP_seq ?_
  refine WP_ops ?_
  refine WO_mv rfl ?_
  refine WO_nil ?_
  refine WP_ret ?_
  refine ⟨_, RS_tmp (v := .s (.bool _)) rfl (RS_nil), ?_⟩
  refine congrArg (fun b => V.s (S.bool b)) ?_
  have ho := other0 hs
  have hra := rank_all (P 130)
  rw [Bool.eq_iff_iff]
  simp only [overOK, standM, decide_eq_true_eq, Bool.false_eq_true, false_iff, true_iff, ho] at *
  omega
 ·try simp only [NM] at h30
  try simp only [standM, decide_eq_true_eq, decide_eq_false_iff_not] at h30
  refine WP_skip ?_
  refine WP_seq ?_
  refine WP_ops ?_
  refine WO_mv rfl ?_
  refine WO_mv rfl ?_
  refine WO_nil ?_
  refine WP_seq ?_
  refine WP_seq ?_
  refine WP_ops ?_
  refine WO_fa (o' := 0) rfl rfl rfl ?_
  refine WO_fa (o' := 128) rfl rfl rfl ?_
  refine WO_ldI rfl rfl (.head _) rfl ?_
  refine WO_bin (r := .bool _) rfl rfl rfl ?_
  refine WO_nil ?_
  refine WP_cond rfl (fun h31 => ?_) (fun h31 => ?_)
  ·try simp only [NM] at h31
   try simp only [standM, decide_eq_true_eq, decide_eq_false_iff_not] at h31
   refine WP_ops ?_
   refine WO_mv rfl ?_
   refine WO_mv rfl ?_
   refine WO_nil ?_
   refine WP_seq ?_
   refine WP_seq ?_
   refine WP_ops ?_
   refine WO_fa (o' := 0) rfl rfl rfl ?_
   refine WO_fa (o' := 130) rfl rfl rfl ?_
   refine WO_ldI rfl rfl (.head _) rfl ?_
   refine WO_call0 rfl (Rank_run _) rfl rfl rfl ?_
   refine WO_mv (v := .s (.int _ _)) rfl ?_
   refine WO_bin (r := .bool _) rfl rfl rfl ?_
   refine WO_mv (v := .s (.bool _)) rfl ?_
   refine WO_case (t := 20) rfl (fun h32 => ?_) (fun h32 => ?_)
   ·try simp only [NM] at h32
    try simp only [standM, decide_eq_true_eq, decide_eq_false_iff_not] at h32
    refine WO_gf rfl rfl ?_
    refine WO_gf rfl rfl ?_
    refine WO_gf rfl rfl ?_
    refine WO_gf rfl rfl ?_
    refine WO_pick (v := .s (.bool _)) rfl rfl ?_
    refine WO_nil ?_
    refine WP_cond rfl (fun _ => ?_) (fun h => nomatch h)
    refine WP_seq ?_
    refine WP_ops ?_
    refine WO_mv rfl ?_
    refine WO_nil ?_
    refine WP_ret ?_
    refine ⟨_, RS_tmp (v := .s (.bool _)) rfl (RS_nil), ?_⟩
    refine congrArg (fun b => V.s (S.bool b)) ?_
    have ho := other0 hs
    have hra := rank_all (P 130)
    rw [Bool.eq_iff_iff]
    simp only [overOK, standM, decide_eq_true_eq, Bool.false_eq_true, false_iff, true_iff, ho] at *
    omega
   ·try simp only [NM] at h32
    try simp only [standM, decide_eq_true_eq, decide_eq_false_iff_not] at h32
    refine WO_gt rfl ?_
    refine WO_fa (o' := 0) rfl rfl rfl ?_
    refine WO_gt rfl ?_
    refine WO_fa (o' := 131) rfl rfl rfl ?_
    refine WO_gt rfl ?_
    refine WO_ldI rfl rfl (.head _) rfl ?_
    refine WO_gt rfl ?_
    refine WO_bin (r := .bool _) rfl rfl rfl ?_
    refine WO_pick (v := .s (.bool _)) rfl rfl ?_
    refine WO_nil ?_
    refine WP_cond rfl (fun h33 => ?_) (fun h33 => ?_)
    ·try simp only [NM] at h33
     try simp only [standM, decide_eq_true_eq, decide_eq_false_iff_not] at h33
     refine WP_seq ?_
     refine WP_ops ?_
     refine WO_mv rfl ?_
     refine WO_nil ?_
     refine WP_ret ?_
     refine ⟨_, RS_tmp (v := .s (.bool _)) rfl (RS_nil), ?_⟩
     refine congrArg (fun b => V.s (S.bool b)) ?_
     have ho := other0 hs
     have hra := rank_all (P 130)
     rw [Bool.eq_iff_iff]
     simp only [overOK, standM, decide_eq_true_eq, Bool.false_eq_true, false_iff, true_iff, ho] at *
     omega
    ·try simp only [NM] at h33
     try simp only [standM, decide_eq_true_eq, decide_eq_false_iff_not] at h33
     refine WP_skip ?_
     refine WP_seq ?_
     refine WP_ops ?_
     refine WO_mkfn rfl ?_
     refine WO_mv (v := .fn _ _) rfl ?_
     refine WO_nil ?_
     refine WP_seq ?_
     refine WP_ops ?_
     refine WO_mv (v := .fn _ _) rfl ?_
     refine WO_fa (o' := 0) rfl rfl rfl ?_
     refine WO_fa (o' := 130) rfl rfl rfl ?_
     refine WO_ldI rfl rfl (.head _) rfl ?_
     have hin31 := rank_in (x := P 130) (by assumption) (by omega)
     refine WO_callC (rs := [0]) (Bs := [_]) rfl (RB_of1 (free_run (md := .var) P _ (by omega))) rfl rfl (Nat.le_of_ble_eq_true rfl) (fun _ h => h) rfl ⟨(.head _), ⟨_, _, _, rfl⟩, trivial⟩ rfl rfl rfl (.cons .here .nil) ?_
     refine WO_mv (v := .s (.bool _)) rfl ?_
     refine WO_case (t := 32) rfl (fun h34 => ?_) (fun h34 => ?_)
     ·try simp only [NM] at h34
      try simp only [standM, decide_eq_true_eq, decide_eq_false_iff_not] at h34
      refine WO_gt rfl ?_
      refine WO_mv (v := .fn _ _) rfl ?_
      refine WO_gt rfl ?_
      refine WO_fa (o' := 0) rfl rfl rfl ?_
      refine WO_gt rfl ?_
      refine WO_fa (o' := 130) rfl rfl rfl ?_
      refine WO_gt rfl ?_
      refine WO_ldI rfl rfl (.head _) rfl ?_
      refine WO_gt rfl ?_
      refine WO_mv (v := .s (.int _ _)) rfl ?_
      refine WO_gt rfl ?_
      have hin38 := rank_in (x := P 130) (by assumption) (by omega)
      refine WO_call0 rfl (step_dn hin38.1 (by omega)) rfl rfl rfl ?_
      refine WO_gt rfl ?_
      have hin39 := rank_in (x := P 130) (by assumption) (by omega)
      refine WO_callC (rs := [0]) (Bs := [_]) rfl (RB_of1 (free_run (md := .var) P _ (by omega))) rfl rfl (Nat.le_of_ble_eq_true rfl) (fun _ h => h) rfl ⟨(.head _), ⟨_, _, _, rfl⟩, trivial⟩ rfl rfl rfl (.cons .here .nil) ?_
      refine WO_pick (v := .s (.bool _)) rfl rfl ?_
      refine WO_mv (v := .s (.bool _)) rfl ?_
      refine WO_case (t := 41) rfl (fun h35 => ?_) (fun h35 => ?_)
      ·try simp only [NM] at h35
       try simp only [standM, decide_eq_true_eq, decide_eq_false_iff_not] at h35
       refine WO_gt rfl ?_
       first | refine WO_ldA0 rfl rfl (.head _) ?_ | refine WO_ldAI rfl rfl (.head _) ?_
       refine WO_gt rfl ?_
       refine WO_fa (o' := 0) rfl rfl rfl ?_
       refine WO_gt rfl ?_
       refine WO_fa (o' := 128) rfl rfl rfl ?_
       refine WO_gt rfl ?_
       refine WO_ldI rfl rfl (.head _) rfl ?_
       refine WO_gt rfl ?_
       refine WO_callq0 rfl (RF_of (Other_run _)) rfl rfl rfl ?_
       refine WO_gt rfl ?_
       refine WO_fa (o' := 0) rfl rfl rfl ?_
       refine WO_gt rfl ?_
       refine WO_fa (o' := 130) rfl rfl rfl ?_
       refine WO_gt rfl ?_
       refine WO_ldI rfl rfl (.head _) rfl ?_
       refine WO_gt rfl ?_
       refine WO_mv (v := .s (.int _ _)) rfl ?_
       refine WO_gt rfl ?_
       refine WO_neg rfl (by omega) ?_
       refine WO_gt rfl ?_
       have hin52 := rank_in (x := P 130) (by assumption) (by omega)
       refine WO_callq0 rfl (step_up hin52.1 (by omega)) rfl rfl rfl ?_
       refine WO_gt rfl ?_
       refine WO_call0 rfl (RF_of (stands_run _ _ _ _ (by omega))) rfl rfl rfl ?_
       refine WO_pick (v := .s (.bool _)) rfl rfl ?_
       refine WO_mv (v := .s (.bool _)) rfl ?_
       refine WO_nil ?_
       refine WP_ret ?_
       refine ⟨_, RS_tmp (v := .s (.bool _)) rfl (RS_nil), ?_⟩
       refine congrArg (fun b => V.s (S.bool b)) ?_
       have ho := other0 hs
       have hra := rank_all (P 130)
       rw [Bool.eq_iff_iff]
       simp only [overOK, standM, decide_eq_true_eq, Bool.false_eq_true, false_iff, true_iff, ho] at *
       omega
      ·try simp only [NM] at h35
       try simp only [standM, decide_eq_true_eq, decide_eq_false_iff_not] at h35
       refine WO_gf rfl rfl ?_
       refine WO_gf rfl rfl ?_
       refine WO_gf rfl rfl ?_
       refine WO_gf rfl rfl ?_
       refine WO_gf rfl rfl ?_
       refine WO_gf rfl rfl ?_
       refine WO_gf rfl rfl ?_
       refine WO_gf rfl rfl ?_
       refine WO_gf rfl rfl ?_
       refine WO_gf rfl rfl ?_
       refine WO_gf rfl rfl ?_
       refine WO_gf rfl rfl ?_
       refine WO_pick (v := .s (.bool _)) rfl rfl ?_
       refine WO_mv (v := .s (.bool _)) rfl ?_
       refine WO_nil ?_
       refine WP_ret ?_
       refine ⟨_, RS_tmp (v := .s (.bool _)) rfl (RS_nil), ?_⟩
       refine congrArg (fun b => V.s (S.bool b)) ?_
       have ho := other0 hs
       have hra := rank_all (P 130)
       rw [Bool.eq_iff_iff]
       simp only [overOK, standM, decide_eq_true_eq, Bool.false_eq_true, false_iff, true_iff, ho] at *
       omega
     ·try simp only [NM] at h34
      try simp only [standM, decide_eq_true_eq, decide_eq_false_iff_not] at h34
      refine WO_gf rfl rfl ?_
      refine WO_gf rfl rfl ?_
      refine WO_gf rfl rfl ?_
      refine WO_gf rfl rfl ?_
      refine WO_gf rfl rfl ?_
      refine WO_gf rfl rfl ?_
      refine WO_gf rfl rfl ?_
      refine WO_pick (v := .s (.bool _)) rfl rfl ?_
      refine WO_mv (v := .s (.bool _)) rfl ?_
      refine WO_gf rfl rfl ?_
      refine WO_gf rfl rfl ?_
      refine WO_gf rfl rfl ?_
      refine WO_gf rfl rfl ?_
      refine WO_gf rfl rfl ?_
      refine WO_gf rfl rfl ?_
      refine WO_gf rfl rfl ?_
      refine WO_gf rfl rfl ?_
      refine WO_gf rfl rfl ?_
      refine WO_gf rfl rfl ?_
      refine WO_gf rfl rfl ?_
      refine WO_gf rfl rfl ?_
      refine WO_pick (v := .s (.bool _)) rfl rfl ?_
      refine WO_mv (v := .s (.bool _)) rfl ?_
      refine WO_nil ?_
      refine WP_ret ?_
      refine ⟨_, RS_tmp (v := .s (.bool _)) rfl (RS_nil), ?_⟩
      refine congrArg (fun b => V.s (S.bool b)) ?_
      have ho := other0 hs
      have hra := rank_all (P 130)
      rw [Bool.eq_iff_iff]
      simp only [overOK, standM, decide_eq_true_eq, Bool.false_eq_true, false_iff, true_iff, ho] at *
      omega
  ·try simp only [NM] at h31
   try simp only [standM, decide_eq_true_eq, decide_eq_false_iff_not] at h31
   refine WP_skip ?_
   refine WP_seq ?_
   refine WP_seq ?_
   refine WP_ops ?_
   refine WO_fa (o' := 0) rfl rfl rfl ?_
   refine WO_fa (o' := 130) rfl rfl rfl ?_
   refine WO_ldI rfl rfl (.head _) rfl ?_
   refine WO_call0 rfl (Rank_run _) rfl rfl rfl ?_
   refine WO_mv (v := .s (.int _ _)) rfl ?_
   refine WO_bin (r := .bool _) rfl rfl rfl ?_
   refine WO_mv (v := .s (.bool _)) rfl ?_
   refine WO_case (t := 20) rfl (fun h36 => ?_) (fun h36 => ?_)
   ·try simp only [NM] at h36
    try simp only [standM, decide_eq_true_eq, decide_eq_false_iff_not] at h36
    refine WO_gf rfl rfl ?_
    refine WO_gf rfl rfl ?_
    refine WO_gf rfl rfl ?_
    refine WO_gf rfl rfl ?_
    refine WO_pick (v := .s (.bool _)) rfl rfl ?_
    refine WO_nil ?_
    refine WP_cond rfl (fun _ => ?_) (fun h => nomatch h)
    refine WP_seq ?_
    refine WP_ops ?_
    refine WO_mv rfl ?_
    refine WO_nil ?_
    refine WP_ret ?_
    refine ⟨_, RS_tmp (v := .s (.bool _)) rfl (RS_nil), ?_⟩
    refine congrArg (fun b => V.s (S.bool b)) ?_
    have ho := other0 hs
    have hra := rank_all (P 130)
    rw [Bool.eq_iff_iff]
    simp only [overOK, standM, decide_eq_true_eq, Bool.false_eq_true, false_iff, true_iff, ho] at *
    omega
   ·try simp only [NM] at h36
    try simp only [standM, decide_eq_true_eq, decide_eq_false_iff_not] at h36
    refine WO_gt rfl ?_
    refine WO_fa (o' := 0) rfl rfl rfl ?_
    refine WO_gt rfl ?_
    refine WO_fa (o' := 131) rfl rfl rfl ?_
    refine WO_gt rfl ?_
    refine WO_ldI rfl rfl (.head _) rfl ?_
    refine WO_gt rfl ?_
    refine WO_bin (r := .bool _) rfl rfl rfl ?_
    refine WO_pick (v := .s (.bool _)) rfl rfl ?_
    refine WO_nil ?_
    refine WP_cond rfl (fun h37 => ?_) (fun h37 => ?_)
    ·try simp only [NM] at h37
     try simp only [standM, decide_eq_true_eq, decide_eq_false_iff_not] at h37
     refine WP_seq ?_
     refine WP_ops ?_
     refine WO_mv rfl ?_
     refine WO_nil ?_
     refine WP_ret ?_
     refine ⟨_, RS_tmp (v := .s (.bool _)) rfl (RS_nil), ?_⟩
     refine congrArg (fun b => V.s (S.bool b)) ?_
     have ho := other0 hs
     have hra := rank_all (P 130)
     rw [Bool.eq_iff_iff]
     simp only [overOK, standM, decide_eq_true_eq, Bool.false_eq_true, false_iff, true_iff, ho] at *
     omega
    ·try simp only [NM] at h37
     try simp only [standM, decide_eq_true_eq, decide_eq_false_iff_not] at h37
     refine WP_skip ?_
     refine WP_seq ?_
     refine WP_ops ?_
     refine WO_mkfn rfl ?_
     refine WO_mv (v := .fn _ _) rfl ?_
     refine WO_nil ?_
     refine WP_seq ?_
     refine WP_ops ?_
     refine WO_mv (v := .fn _ _) rfl ?_
     refine WO_fa (o' := 0) rfl rfl rfl ?_
     refine WO_fa (o' := 130) rfl rfl rfl ?_
     refine WO_ldI rfl rfl (.head _) rfl ?_
     have hin31 := rank_in (x := P 130) (by assumption) (by omega)
     refine WO_callC (rs := [0]) (Bs := [_]) rfl (RB_of1 (free_run (md := .var) P _ (by omega))) rfl rfl (Nat.le_of_ble_eq_true rfl) (fun _ h => h) rfl ⟨(.head _), ⟨_, _, _, rfl⟩, trivial⟩ rfl rfl rfl (.cons .here .nil) ?_
     refine WO_mv (v := .s (.bool _)) rfl ?_
     refine WO_case (t := 32) rfl (fun h38 => ?_) (fun h38 => ?_)
     ·try simp only [NM] at h38
      try simp only [standM, decide_eq_true_eq, decide_eq_false_iff_not] at h38
      refine WO_gt rfl ?_
      refine WO_mv (v := .fn _ _) rfl ?_
      refine WO_gt rfl ?_
      refine WO_fa (o' := 0) rfl rfl rfl ?_
      refine WO_gt rfl ?_
      refine WO_fa (o' := 130) rfl rfl rfl ?_
      refine WO_gt rfl ?_
      refine WO_ldI rfl rfl (.head _) rfl ?_
      refine WO_gt rfl ?_
      refine WO_mv (v := .s (.int _ _)) rfl ?_
      refine WO_gt rfl ?_
      have hin38 := rank_in (x := P 130) (by assumption) (by omega)
      refine WO_call0 rfl (step_up hin38.1 (by omega)) rfl rfl rfl ?_
      refine WO_gt rfl ?_
      have hin39 := rank_in (x := P 130) (by assumption) (by omega)
      refine WO_callC (rs := [0]) (Bs := [_]) rfl (RB_of1 (free_run (md := .var) P _ (by omega))) rfl rfl (Nat.le_of_ble_eq_true rfl) (fun _ h => h) rfl ⟨(.head _), ⟨_, _, _, rfl⟩, trivial⟩ rfl rfl rfl (.cons .here .nil) ?_
      refine WO_pick (v := .s (.bool _)) rfl rfl ?_
      refine WO_mv (v := .s (.bool _)) rfl ?_
      refine WO_case (t := 41) rfl (fun h39 => ?_) (fun h39 => ?_)
      ·try simp only [NM] at h39
       try simp only [standM, decide_eq_true_eq, decide_eq_false_iff_not] at h39
       refine WO_gt rfl ?_
       first | refine WO_ldA0 rfl rfl (.head _) ?_ | refine WO_ldAI rfl rfl (.head _) ?_
       refine WO_gt rfl ?_
       refine WO_fa (o' := 0) rfl rfl rfl ?_
       refine WO_gt rfl ?_
       refine WO_fa (o' := 128) rfl rfl rfl ?_
       refine WO_gt rfl ?_
       refine WO_ldI rfl rfl (.head _) rfl ?_
       refine WO_gt rfl ?_
       refine WO_callq0 rfl (RF_of (Other_run _)) rfl rfl rfl ?_
       refine WO_gt rfl ?_
       refine WO_fa (o' := 0) rfl rfl rfl ?_
       refine WO_gt rfl ?_
       refine WO_fa (o' := 130) rfl rfl rfl ?_
       refine WO_gt rfl ?_
       refine WO_ldI rfl rfl (.head _) rfl ?_
       refine WO_gt rfl ?_
       refine WO_mv (v := .s (.int _ _)) rfl ?_
       refine WO_gt rfl ?_
       refine WO_neg rfl (by omega) ?_
       refine WO_gt rfl ?_
       have hin52 := rank_in (x := P 130) (by assumption) (by omega)
       refine WO_callq0 rfl (step_dn hin52.1 (by omega)) rfl rfl rfl ?_
       refine WO_gt rfl ?_
       refine WO_call0 rfl (RF_of (stands_run _ _ _ _ (by omega))) rfl rfl rfl ?_
       refine WO_pick (v := .s (.bool _)) rfl rfl ?_
       refine WO_mv (v := .s (.bool _)) rfl ?_
       refine WO_nil ?_
       refine WP_ret ?_
       refine ⟨_, RS_tmp (v := .s (.bool _)) rfl (RS_nil), ?_⟩
       refine congrArg (fun b => V.s (S.bool b)) ?_
       have ho := other0 hs
       have hra := rank_all (P 130)
       rw [Bool.eq_iff_iff]
       simp only [overOK, standM, decide_eq_true_eq, Bool.false_eq_true, false_iff, true_iff, ho] at *
       omega
      ·try simp only [NM] at h39
       try simp only [standM, decide_eq_true_eq, decide_eq_false_iff_not] at h39
       refine WO_gf rfl rfl ?_
       refine WO_gf rfl rfl ?_
       refine WO_gf rfl rfl ?_
       refine WO_gf rfl rfl ?_
       refine WO_gf rfl rfl ?_
       refine WO_gf rfl rfl ?_
       refine WO_gf rfl rfl ?_
       refine WO_gf rfl rfl ?_
       refine WO_gf rfl rfl ?_
       refine WO_gf rfl rfl ?_
       refine WO_gf rfl rfl ?_
       refine WO_gf rfl rfl ?_
       refine WO_pick (v := .s (.bool _)) rfl rfl ?_
       refine WO_mv (v := .s (.bool _)) rfl ?_
       refine WO_nil ?_
       refine WP_ret ?_
       refine ⟨_, RS_tmp (v := .s (.bool _)) rfl (RS_nil), ?_⟩
       refine congrArg (fun b => V.s (S.bool b)) ?_
       have ho := other0 hs
       have hra := rank_all (P 130)
       rw [Bool.eq_iff_iff]
       simp only [overOK, standM, decide_eq_true_eq, Bool.false_eq_true, false_iff, true_iff, ho] at *
       omega
     ·try simp only [NM] at h38
      try simp only [standM, decide_eq_true_eq, decide_eq_false_iff_not] at h38
      refine WO_gf rfl rfl ?_
      refine WO_gf rfl rfl ?_
      refine WO_gf rfl rfl ?_
      refine WO_gf rfl rfl ?_
      refine WO_gf rfl rfl ?_
      refine WO_gf rfl rfl ?_
      refine WO_gf rfl rfl ?_
      refine WO_pick (v := .s (.bool _)) rfl rfl ?_
      refine WO_mv (v := .s (.bool _)) rfl ?_
      refine WO_gf rfl rfl ?_
      refine WO_gf rfl rfl ?_
      refine WO_gf rfl rfl ?_
      refine WO_gf rfl rfl ?_
      refine WO_gf rfl rfl ?_
      refine WO_gf rfl rfl ?_
      refine WO_gf rfl rfl ?_
      refine WO_gf rfl rfl ?_
      refine WO_gf rfl rfl ?_
      refine WO_gf rfl rfl ?_
      refine WO_gf rfl rfl ?_
      refine WO_gf rfl rfl ?_
      refine WO_pick (v := .s (.bool _)) rfl rfl ?_
      refine WO_mv (v := .s (.bool _)) rfl ?_
      refine WO_nil ?_
      refine WP_ret ?_
      refine ⟨_, RS_tmp (v := .s (.bool _)) rfl (RS_nil), ?_⟩
      refine congrArg (fun b => V.s (S.bool b)) ?_
      have ho := other0 hs
      have hra := rank_all (P 130)
      rw [Bool.eq_iff_iff]
      simp only [overOK, standM, decide_eq_true_eq, Bool.false_eq_true, false_iff, true_iff, ho] at *
      omega
theorem rover_ok (P : Nat → Int) (hs : P 128 = 0 ∨ P 128 = 1) : WR AM 110 [.agg 133 (ia P)] [] (fun v _ _ => v = .s (.bool (overOK P))) := by
 refine WR_fn (a := a110) rfl rfl (entryF _) (entry_E (Nat.le_of_ble_eq_true rfl)) (m := 0) rfl ?_
 refine WP_seq ?_
 refine WP_ops ?_
 refine WO_boxA rfl ?_
 refine WO_mv rfl ?_
 refine WO_nil ?_
 refine WP_seq ?_
 refine WP_seq ?_
 refine WP_ops ?_
 refine WO_fa (o' := 130) rfl rfl rfl ?_
 refine WO_ldI (x := P 130) rfl rfl (.head _) (rfl) ?_
 refine WO_bin (r := .bool _) rfl rfl rfl ?_
 refine WO_nil ?_
 refine WP_cond rfl (fun h40 => ?_) (fun h40 => ?_)
 ·try simp only [NM] at h40
  try simp only [eq_two, decide_eq_true_eq, decide_eq_false_iff_not] at h40
  refine WP_seq ?_
  refine WP_ops ?_
  refine WO_mv rfl ?_
  refine WO_nil ?_
  refine WP_ret ?_
  refine ⟨_, RS_tmp (v := .s (.bool _)) rfl (RS_nil), ?_⟩
  refine congrArg (fun b => V.s (S.bool b)) ?_
  rw [Bool.eq_iff_iff]
  try simp only [eq_two, ovA2.1, ovA2.2, ovK.1, ovK.2, cond_false, cond_true] at *
  simp only [overOK, standM, decide_eq_true_eq, Bool.false_eq_true, false_iff, true_iff, dp, Nat.add_zero, sqI] at *
  omega
 ·try simp only [NM] at h40
  try simp only [eq_two, decide_eq_true_eq, decide_eq_false_iff_not] at h40
  refine WP_skip ?_
  refine WP_seq ?_
  refine WP_seq ?_
  refine WP_ops ?_
  refine WO_fa (o' := 130) rfl rfl rfl ?_
  refine WO_ldI (x := P 130) rfl rfl (.head _) (rfl) ?_
  refine WO_bin (r := .bool _) rfl rfl rfl ?_
  refine WO_mv (v := .s (.bool _)) rfl ?_
  refine WO_case (t := 12) rfl (fun h41 => ?_) (fun h41 => ?_)
  ·try simp only [NM] at h41
   try simp only [eq_two, decide_eq_true_eq, decide_eq_false_iff_not] at h41
   refine WO_gf rfl rfl ?_
   refine WO_gf rfl rfl ?_
   refine WO_gf rfl rfl ?_
   refine WO_pick (v := .s (.bool _)) rfl rfl ?_
   refine WO_mv (v := .s (.bool _)) rfl ?_
   refine WO_gf rfl rfl ?_
   refine WO_gf rfl rfl ?_
   refine WO_gf rfl rfl ?_
   refine WO_pick (v := .s (.bool _)) rfl rfl ?_
   refine WO_nil ?_
   refine WP_cond rfl (fun _ => ?_) (fun h => nomatch h)
   refine WP_seq ?_
   refine WP_ops ?_
   refine WO_mv rfl ?_
   refine WO_nil ?_
   refine WP_ret ?_
   refine ⟨_, RS_tmp (v := .s (.bool _)) rfl (RS_nil), ?_⟩
   refine congrArg (fun b => V.s (S.bool b)) ?_
   rw [Bool.eq_iff_iff]
   try simp only [eq_two, ovA2.1, ovA2.2, ovK.1, ovK.2, cond_false, cond_true] at *
   simp only [overOK, standM, decide_eq_true_eq, Bool.false_eq_true, false_iff, true_iff, dp, Nat.add_zero, sqI] at *
   omega
  ·try simp only [NM] at h41
   try simp only [eq_two, decide_eq_true_eq, decide_eq_false_iff_not] at h41
   refine WO_gt rfl ?_
   refine WO_fa (o' := 130) rfl rfl rfl ?_
   refine WO_gt rfl ?_
   refine WO_ldI (x := P 130) rfl rfl (.head _) (rfl) ?_
   refine WO_gt rfl ?_
   refine WO_bin (r := .bool _) rfl rfl rfl ?_
   refine WO_pick (v := .s (.bool _)) rfl rfl ?_
   refine WO_mv (v := .s (.bool _)) rfl ?_
   refine WO_case (t := 17) rfl (fun h42 => ?_) (fun h42 => ?_)
   ·try simp only [NM] at h42
    try simp only [eq_two, decide_eq_true_eq, decide_eq_false_iff_not] at h42
    refine WO_gf rfl rfl ?_
    refine WO_gf rfl rfl ?_
    refine WO_gf rfl rfl ?_
    refine WO_pick (v := .s (.bool _)) rfl rfl ?_
    refine WO_nil ?_
    refine WP_cond rfl (fun _ => ?_) (fun h => nomatch h)
    refine WP_seq ?_
    refine WP_ops ?_
    refine WO_mv rfl ?_
    refine WO_nil ?_
    refine WP_ret ?_
    refine ⟨_, RS_tmp (v := .s (.bool _)) rfl (RS_nil), ?_⟩
    refine congrArg (fun b => V.s (S.bool b)) ?_
    rw [Bool.eq_iff_iff]
    try simp only [eq_two, ovA2.1, ovA2.2, ovK.1, ovK.2, cond_false, cond_true] at *
    simp only [overOK, standM, decide_eq_true_eq, Bool.false_eq_true, false_iff, true_iff, dp, Nat.add_zero, sqI] at *
    omega
   ·try simp only [NM] at h42
    try simp only [eq_two, decide_eq_true_eq, decide_eq_false_iff_not] at h42
    refine WO_gt rfl ?_
    refine WO_fa (o' := 131) rfl rfl rfl ?_
    refine WO_gt rfl ?_
    refine WO_ldI (x := P 131) rfl rfl (.head _) (rfl) ?_
    refine WO_gt rfl ?_
    refine WO_bin (r := .bool _) rfl rfl rfl ?_
    refine WO_pick (v := .s (.bool _)) rfl rfl ?_
    refine WO_nil ?_
    refine WP_cond rfl (fun h43 => ?_) (fun h43 => ?_)
    ·try simp only [NM] at h43
     try simp only [eq_two, decide_eq_true_eq, decide_eq_false_iff_not] at h43
     refine WP_seq ?_
     refine WP_ops ?_
     refine WO_mv rfl ?_
     refine WO_nil ?_
     refine WP_ret ?_
     refine ⟨_, RS_tmp (v := .s (.bool _)) rfl (RS_nil), ?_⟩
     refine congrArg (fun b => V.s (S.bool b)) ?_
     rw [Bool.eq_iff_iff]
     try simp only [eq_two, ovA2.1, ovA2.2, ovK.1, ovK.2, cond_false, cond_true] at *
     simp only [overOK, standM, decide_eq_true_eq, Bool.false_eq_true, false_iff, true_iff, dp, Nat.add_zero, sqI] at *
     omega
    ·try simp only [NM] at h43
     try simp only [eq_two, decide_eq_true_eq, decide_eq_false_iff_not] at h43
     refine WP_skip ?_
     refine WP_seq ?_
     refine WP_ops ?_
     refine WO_buildI rfl (.one rfl (.one rfl .nil)) ?_
     refine WO_allocI ?_
     refine WO_mv rfl ?_
     refine WO_mv rfl ?_
     refine WO_stA rfl rfl rfl rfl .here ?_
     refine WO_nil ?_
     refine WP_seq ?_
     refine WP_seq ?_
     refine WP_ops ?_
     refine WO_fa (o' := 128) rfl rfl rfl ?_
     refine WO_ldI (x := P 128) rfl rfl (.tail _ (.head _)) (rfl) ?_
     refine WO_bin (r := .bool _) rfl rfl rfl ?_
     refine WO_nil ?_
     refine WP_cond rfl (fun h44 => ?_) (fun h44 => ?_)
     ·try simp only [NM] at h44
      try simp only [eq_two, decide_eq_true_eq, decide_eq_false_iff_not] at h44
      refine WP_ops ?_
      refine WO_buildI rfl (.one rfl (.one rfl .nil)) ?_
      refine WO_mv rfl ?_
      refine WO_mv rfl ?_
      refine WO_stA rfl rfl rfl rfl .here ?_
      refine WO_nil ?_
      refine WP_seq ?_
      refine WP_ops ?_
      refine WO_fa (o' := 130) rfl rfl rfl ?_
      refine WO_ldI (x := P 130) rfl rfl (.tail _ (.head _)) (rfl) ?_
      refine WO_quo rfl rfl (by omega) ?_
      refine WO_mv (v := .s (.int _ _)) rfl ?_
      refine WO_bin (r := .bool _) rfl rfl rfl ?_
      refine WO_mv (v := .s (.bool _)) rfl ?_
      refine WO_case (t := 32) rfl (fun h45 => ?_) (fun h45 => ?_)
      ·try simp only [NM] at h45
       try simp only [eq_two, decide_eq_true_eq, decide_eq_false_iff_not] at h45
       refine WO_gt rfl ?_
       refine WO_fa (o' := 130) rfl rfl rfl ?_
       refine WO_gt rfl ?_
       refine WO_ldI (x := P 130) rfl rfl (.tail _ (.head _)) (rfl) ?_
       refine WO_gt rfl ?_
       refine WO_fa (o' := 0) rfl rfl rfl ?_
       refine WO_gt rfl ?_
       refine WO_ixa rfl rfl rfl (by omega) ?_
       refine WO_gt rfl ?_
       first | refine WO_ldA0 rfl rfl (.tail _ (.head _)) ?_ | refine WO_ldAI rfl rfl (.tail _ (.head _)) ?_
       refine WO_gt rfl ?_
       refine WO_call0 rfl (RF_of (none_run _)) rfl rfl rfl ?_
       refine WO_pick (v := .s (.bool _)) rfl rfl ?_
       refine WO_mv (v := .s (.bool _)) rfl ?_
       refine WO_case (t := 40) rfl (fun h46 => ?_) (fun h46 => ?_)
       ·try simp only [NM] at h46
        try simp only [eq_two, decide_eq_true_eq, decide_eq_false_iff_not] at h46
        refine WO_gt rfl ?_
        refine WO_fa (o' := 130) rfl rfl rfl ?_
        refine WO_gt rfl ?_
        refine WO_ldI (x := P 130) rfl rfl (.tail _ (.head _)) (rfl) ?_
        refine WO_gt rfl ?_
        refine WO_mv (v := .s (.int _ _)) rfl ?_
        refine WO_gt rfl ?_
        refine WO_add rfl rfl (by omega) ?_
        try rw [show P 130 + -8 = P 130 - 8 from rfl]
        refine WO_gt rfl ?_
        refine WO_fa (o' := 0) rfl rfl rfl ?_
        refine WO_gt rfl ?_
        refine WO_ixa rfl rfl rfl (by omega) ?_
        refine WO_gt rfl ?_
        first | refine WO_ldA0 rfl rfl (.tail _ (.head _)) ?_ | refine WO_ldAI rfl rfl (.tail _ (.head _)) ?_
        refine WO_gt rfl ?_
        refine WO_call0 rfl (RF_of (none_run _)) rfl rfl rfl ?_
        refine WO_pick (v := .s (.bool _)) rfl rfl ?_
        refine WO_mv (v := .s (.bool _)) rfl ?_
        refine WO_case (t := 50) rfl (fun h47 => ?_) (fun h47 => ?_)
        ·try simp only [NM] at h47
         try simp only [eq_two, decide_eq_true_eq, decide_eq_false_iff_not] at h47
         refine WO_gt rfl ?_
         refine WO_fa (o' := 130) rfl rfl rfl ?_
         refine WO_gt rfl ?_
         refine WO_ldI (x := P 130) rfl rfl (.tail _ (.head _)) (rfl) ?_
         refine WO_gt rfl ?_
         refine WO_mv (v := .s (.int _ _)) rfl ?_
         refine WO_gt rfl ?_
         refine WO_sub rfl rfl (by omega) ?_
         try rw [show P 130 - -8 = P 130 + 8 by omega]
         refine WO_gt rfl ?_
         refine WO_fa (o' := 0) rfl rfl rfl ?_
         refine WO_gt rfl ?_
         refine WO_ixa rfl rfl rfl (by omega) ?_
         refine WO_gt rfl ?_
         first | refine WO_ldA0 rfl rfl (.tail _ (.head _)) ?_ | refine WO_ldAI rfl rfl (.tail _ (.head _)) ?_
         refine WO_gt rfl ?_
         first | refine WO_ldA0 rfl rfl (.head _) ?_ | refine WO_ldAI rfl rfl (.head _) ?_
         refine WO_gt rfl ?_
         refine WO_eqa rfl rfl ?_
         refine WO_pick (v := .s (.bool _)) rfl rfl ?_
         refine WO_mv (v := .s (.bool _)) rfl ?_
         refine WO_nil ?_
         refine WP_ret ?_
         refine ⟨_, RS_tmp (v := .s (.bool _)) rfl (RS_nil), ?_⟩
         refine congrArg (fun b => V.s (S.bool b)) ?_
         rw [Bool.eq_iff_iff]
         try simp only [eq_two, ovA2.1, ovA2.2, ovK.1, ovK.2, cond_false, cond_true] at *
         simp only [overOK, standM, decide_eq_true_eq, Bool.false_eq_true, false_iff, true_iff, dp, Nat.add_zero, sqI] at *
         omega
        ·try simp only [NM] at h47
         try simp only [eq_two, decide_eq_true_eq, decide_eq_false_iff_not] at h47
         refine WO_gf rfl rfl ?_
         refine WO_gf rfl rfl ?_
         refine WO_gf rfl rfl ?_
         refine WO_gf rfl rfl ?_
         refine WO_gf rfl rfl ?_
         refine WO_gf rfl rfl ?_
         refine WO_gf rfl rfl ?_
         refine WO_gf rfl rfl ?_
         refine WO_gf rfl rfl ?_
         refine WO_pick (v := .s (.bool _)) rfl rfl ?_
         refine WO_mv (v := .s (.bool _)) rfl ?_
         refine WO_nil ?_
         refine WP_ret ?_
         refine ⟨_, RS_tmp (v := .s (.bool _)) rfl (RS_nil), ?_⟩
         refine congrArg (fun b => V.s (S.bool b)) ?_
         rw [Bool.eq_iff_iff]
         try simp only [eq_two, ovA2.1, ovA2.2, ovK.1, ovK.2, cond_false, cond_true] at *
         simp only [overOK, standM, decide_eq_true_eq, Bool.false_eq_true, false_iff, true_iff, dp, Nat.add_zero, sqI] at *
         omega
       ·try simp only [NM] at h46
        try simp only [eq_two, decide_eq_true_eq, decide_eq_false_iff_not] at h46
        refine WO_gf rfl rfl ?_
        refine WO_gf rfl rfl ?_
        refine WO_gf rfl rfl ?_
        refine WO_gf rfl rfl ?_
        refine WO_gf rfl rfl ?_
        refine WO_gf rfl rfl ?_
        refine WO_gf rfl rfl ?_
        refine WO_gf rfl rfl ?_
        refine WO_pick (v := .s (.bool _)) rfl rfl ?_
        refine WO_mv (v := .s (.bool _)) rfl ?_
        refine WO_gf rfl rfl ?_
        refine WO_gf rfl rfl ?_
        refine WO_gf rfl rfl ?_
        refine WO_gf rfl rfl ?_
        refine WO_gf rfl rfl ?_
        refine WO_gf rfl rfl ?_
        refine WO_gf rfl rfl ?_
        refine WO_gf rfl rfl ?_
        refine WO_gf rfl rfl ?_
        refine WO_pick (v := .s (.bool _)) rfl rfl ?_
        refine WO_mv (v := .s (.bool _)) rfl ?_
        refine WO_nil ?_
        refine WP_ret ?_
        refine ⟨_, RS_tmp (v := .s (.bool _)) rfl (RS_nil), ?_⟩
        refine congrArg (fun b => V.s (S.bool b)) ?_
        rw [Bool.eq_iff_iff]
        try simp only [eq_two, ovA2.1, ovA2.2, ovK.1, ovK.2, cond_false, cond_true] at *
        simp only [overOK, standM, decide_eq_true_eq, Bool.false_eq_true, false_iff, true_iff, dp, Nat.add_zero, sqI] at *
        omega
      ·try simp only [NM] at h45
       try simp only [eq_two, decide_eq_true_eq, decide_eq_false_iff_not] at h45
       refine WO_gf rfl rfl ?_
       refine WO_gf rfl rfl ?_
       refine WO_gf rfl rfl ?_
       refine WO_gf rfl rfl ?_
       refine WO_gf rfl rfl ?_
       refine WO_gf rfl rfl ?_
       refine WO_pick (v := .s (.bool _)) rfl rfl ?_
       refine WO_mv (v := .s (.bool _)) rfl ?_
       refine WO_gf rfl rfl ?_
       refine WO_gf rfl rfl ?_
       refine WO_gf rfl rfl ?_
       refine WO_gf rfl rfl ?_
       refine WO_gf rfl rfl ?_
       refine WO_gf rfl rfl ?_
       refine WO_gf rfl rfl ?_
       refine WO_gf rfl rfl ?_
       refine WO_pick (v := .s (.bool _)) rfl rfl ?_
       refine WO_mv (v := .s (.bool _)) rfl ?_
       refine WO_gf rfl rfl ?_
       refine WO_gf rfl rfl ?_
       refine WO_gf rfl rfl ?_
       refine WO_gf rfl rfl ?_
       refine WO_gf rfl rfl ?_
       refine WO_gf rfl rfl ?_
       refine WO_gf rfl rfl ?_
       refine WO_gf rfl rfl ?_
       refine WO_gf rfl rfl ?_
       refine WO_pick (v := .s (.bool _)) rfl rfl ?_
       refine WO_mv (v := .s (.bool _)) rfl ?_
       refine WO_nil ?_
       refine WP_ret ?_
       refine ⟨_, RS_tmp (v := .s (.bool _)) rfl (RS_nil), ?_⟩
       refine congrArg (fun b => V.s (S.bool b)) ?_
       rw [Bool.eq_iff_iff]
       try simp only [eq_two, ovA2.1, ovA2.2, ovK.1, ovK.2, cond_false, cond_true] at *
       simp only [overOK, standM, decide_eq_true_eq, Bool.false_eq_true, false_iff, true_iff, dp, Nat.add_zero, sqI] at *
       omega
     ·try simp only [NM] at h44
      try simp only [eq_two, decide_eq_true_eq, decide_eq_false_iff_not] at h44
      refine WP_skip ?_
      refine WP_seq ?_
      refine WP_ops ?_
      refine WO_fa (o' := 130) rfl rfl rfl ?_
      refine WO_ldI (x := P 130) rfl rfl (.tail _ (.head _)) (rfl) ?_
      refine WO_quo rfl rfl (by omega) ?_
      refine WO_mv (v := .s (.int _ _)) rfl ?_
      refine WO_bin (r := .bool _) rfl rfl rfl ?_
      refine WO_mv (v := .s (.bool _)) rfl ?_
      refine WO_case (t := 32) rfl (fun h48 => ?_) (fun h48 => ?_)
      ·try simp only [NM] at h48
       try simp only [eq_two, decide_eq_true_eq, decide_eq_false_iff_not] at h48
       refine WO_gt rfl ?_
       refine WO_fa (o' := 130) rfl rfl rfl ?_
       refine WO_gt rfl ?_
       refine WO_ldI (x := P 130) rfl rfl (.tail _ (.head _)) (rfl) ?_
       refine WO_gt rfl ?_
       refine WO_fa (o' := 0) rfl rfl rfl ?_
       refine WO_gt rfl ?_
       refine WO_ixa rfl rfl rfl (by omega) ?_
       refine WO_gt rfl ?_
       first | refine WO_ldA0 rfl rfl (.tail _ (.head _)) ?_ | refine WO_ldAI rfl rfl (.tail _ (.head _)) ?_
       refine WO_gt rfl ?_
       refine WO_call0 rfl (RF_of (none_run _)) rfl rfl rfl ?_
       refine WO_pick (v := .s (.bool _)) rfl rfl ?_
       refine WO_mv (v := .s (.bool _)) rfl ?_
       refine WO_case (t := 40) rfl (fun h49 => ?_) (fun h49 => ?_)
       ·try simp only [NM] at h49
        try simp only [eq_two, decide_eq_true_eq, decide_eq_false_iff_not] at h49
        refine WO_gt rfl ?_
        refine WO_fa (o' := 130) rfl rfl rfl ?_
        refine WO_gt rfl ?_
        refine WO_ldI (x := P 130) rfl rfl (.tail _ (.head _)) (rfl) ?_
        refine WO_gt rfl ?_
        refine WO_mv (v := .s (.int _ _)) rfl ?_
        refine WO_gt rfl ?_
        refine WO_add rfl rfl (by omega) ?_
        try rw [show P 130 + -8 = P 130 - 8 from rfl]
        refine WO_gt rfl ?_
        refine WO_fa (o' := 0) rfl rfl rfl ?_
        refine WO_gt rfl ?_
        refine WO_ixa rfl rfl rfl (by omega) ?_
        refine WO_gt rfl ?_
        first | refine WO_ldA0 rfl rfl (.tail _ (.head _)) ?_ | refine WO_ldAI rfl rfl (.tail _ (.head _)) ?_
        refine WO_gt rfl ?_
        refine WO_call0 rfl (RF_of (none_run _)) rfl rfl rfl ?_
        refine WO_pick (v := .s (.bool _)) rfl rfl ?_
        refine WO_mv (v := .s (.bool _)) rfl ?_
        refine WO_case (t := 50) rfl (fun h50 => ?_) (fun h50 => ?_)
        ·try simp only [NM] at h50
         try simp only [eq_two, decide_eq_true_eq, decide_eq_false_iff_not] at h50
         refine WO_gt rfl ?_
         refine WO_fa (o' := 130) rfl rfl rfl ?_
         refine WO_gt rfl ?_
         refine WO_ldI (x := P 130) rfl rfl (.tail _ (.head _)) (rfl) ?_
         refine WO_gt rfl ?_
         refine WO_mv (v := .s (.int _ _)) rfl ?_
         refine WO_gt rfl ?_
         refine WO_sub rfl rfl (by omega) ?_
         try rw [show P 130 - -8 = P 130 + 8 by omega]
         refine WO_gt rfl ?_
         refine WO_fa (o' := 0) rfl rfl rfl ?_
         refine WO_gt rfl ?_
         refine WO_ixa rfl rfl rfl (by omega) ?_
         refine WO_gt rfl ?_
         first | refine WO_ldA0 rfl rfl (.tail _ (.head _)) ?_ | refine WO_ldAI rfl rfl (.tail _ (.head _)) ?_
         refine WO_gt rfl ?_
         first | refine WO_ldA0 rfl rfl (.head _) ?_ | refine WO_ldAI rfl rfl (.head _) ?_
         refine WO_gt rfl ?_
         refine WO_eqa rfl rfl ?_
         refine WO_pick (v := .s (.bool _)) rfl rfl ?_
         refine WO_mv (v := .s (.bool _)) rfl ?_
         refine WO_nil ?_
         refine WP_ret ?_
         refine ⟨_, RS_tmp (v := .s (.bool _)) rfl (RS_nil), ?_⟩
         refine congrArg (fun b => V.s (S.bool b)) ?_
         rw [Bool.eq_iff_iff]
         try simp only [eq_two, ovA2.1, ovA2.2, ovK.1, ovK.2, cond_false, cond_true] at *
         simp only [overOK, standM, decide_eq_true_eq, Bool.false_eq_true, false_iff, true_iff, dp, Nat.add_zero, sqI] at *
         omega
        ·try simp only [NM] at h50
         try simp only [eq_two, decide_eq_true_eq, decide_eq_false_iff_not] at h50
         refine WO_gf rfl rfl ?_
         refine WO_gf rfl rfl ?_
         refine WO_gf rfl rfl ?_
         refine WO_gf rfl rfl ?_
         refine WO_gf rfl rfl ?_
         refine WO_gf rfl rfl ?_
         refine WO_gf rfl rfl ?_
         refine WO_gf rfl rfl ?_
         refine WO_gf rfl rfl ?_
         refine WO_pick (v := .s (.bool _)) rfl rfl ?_
         refine WO_mv (v := .s (.bool _)) rfl ?_
         refine WO_nil ?_
         refine WP_ret ?_
         refine ⟨_, RS_tmp (v := .s (.bool _)) rfl (RS_nil), ?_⟩
         refine congrArg (fun b => V.s (S.bool b)) ?_
         rw [Bool.eq_iff_iff]
         try simp only [eq_two, ovA2.1, ovA2.2, ovK.1, ovK.2, cond_false, cond_true] at *
         simp only [overOK, standM, decide_eq_true_eq, Bool.false_eq_true, false_iff, true_iff, dp, Nat.add_zero, sqI] at *
         omega
       ·try simp only [NM] at h49
        try simp only [eq_two, decide_eq_true_eq, decide_eq_false_iff_not] at h49
        refine WO_gf rfl rfl ?_
        refine WO_gf rfl rfl ?_
        refine WO_gf rfl rfl ?_
        refine WO_gf rfl rfl ?_
        refine WO_gf rfl rfl ?_
        refine WO_gf rfl rfl ?_
        refine WO_gf rfl rfl ?_
        refine WO_gf rfl rfl ?_
        refine WO_pick (v := .s (.bool _)) rfl rfl ?_
        refine WO_mv (v := .s (.bool _)) rfl ?_
        refine WO_gf rfl rfl ?_
        refine WO_gf rfl rfl ?_
        refine WO_gf rfl rfl ?_
        refine WO_gf rfl rfl ?_
        refine WO_gf rfl rfl ?_
        refine WO_gf rfl rfl ?_
        refine WO_gf rfl rfl ?_
        refine WO_gf rfl rfl ?_
        refine WO_gf rfl rfl ?_
        refine WO_pick (v := .s (.bool _)) rfl rfl ?_
        refine WO_mv (v := .s (.bool _)) rfl ?_
        refine WO_nil ?_
        refine WP_ret ?_
        refine ⟨_, RS_tmp (v := .s (.bool _)) rfl (RS_nil), ?_⟩
        refine congrArg (fun b => V.s (S.bool b)) ?_
        rw [Bool.eq_iff_iff]
        try simp only [eq_two, ovA2.1, ovA2.2, ovK.1, ovK.2, cond_false, cond_true] at *
        simp only [overOK, standM, decide_eq_true_eq, Bool.false_eq_true, false_iff, true_iff, dp, Nat.add_zero, sqI] at *
        omega
      ·try simp only [NM] at h48
       try simp only [eq_two, decide_eq_true_eq, decide_eq_false_iff_not] at h48
       refine WO_gf rfl rfl ?_
       refine WO_gf rfl rfl ?_
       refine WO_gf rfl rfl ?_
       refine WO_gf rfl rfl ?_
       refine WO_gf rfl rfl ?_
       refine WO_gf rfl rfl ?_
       refine WO_pick (v := .s (.bool _)) rfl rfl ?_
       refine WO_mv (v := .s (.bool _)) rfl ?_
       refine WO_gf rfl rfl ?_
       refine WO_gf rfl rfl ?_
       refine WO_gf rfl rfl ?_
       refine WO_gf rfl rfl ?_
       refine WO_gf rfl rfl ?_
       refine WO_gf rfl rfl ?_
       refine WO_gf rfl rfl ?_
       refine WO_gf rfl rfl ?_
       refine WO_pick (v := .s (.bool _)) rfl rfl ?_
       refine WO_mv (v := .s (.bool _)) rfl ?_
       refine WO_gf rfl rfl ?_
       refine WO_gf rfl rfl ?_
       refine WO_gf rfl rfl ?_
       refine WO_gf rfl rfl ?_
       refine WO_gf rfl rfl ?_
       refine WO_gf rfl rfl ?_
       refine WO_gf rfl rfl ?_
       refine WO_gf rfl rfl ?_
       refine WO_gf rfl rfl ?_
       refine WO_pick (v := .s (.bool _)) rfl rfl ?_
       refine WO_mv (v := .s (.bool _)) rfl ?_
       refine WO_nil ?_
       refine WP_ret ?_
       refine ⟨_, RS_tmp (v := .s (.bool _)) rfl (RS_nil), ?_⟩
       refine congrArg (fun b => V.s (S.bool b)) ?_
       rw [Bool.eq_iff_iff]
       try simp only [eq_two, ovA2.1, ovA2.2, ovK.1, ovK.2, cond_false, cond_true] at *
       simp only [overOK, standM, decide_eq_true_eq, Bool.false_eq_true, false_iff, true_iff, dp, Nat.add_zero, sqI] at *
       omega
theorem kM_same {P Q : Nat → Int} (h : ∀ i, i < 128 → P i = Q i) (c : Int) : ∀ n : Nat, n ≤ 64 → kM P c n = kM Q c n
  | 0, _ => rfl
  | n + 1, hn => by
    have hq : sqI n = 0 + (n : Int).toNat * 2 := rfl
    unfold kM
    rw [kM_same h c n (by omega), h (sqI n) (by omega), h (sqI n + 1) (by omega)]
theorem okM_same {P Q : Nat → Int} (h : ∀ i, i < 128 → P i = Q i) {s : Nat} (hs : s < 64) : okM P s = okM Q s := by
  have hq : sqI s = 0 + (s : Int).toNat * 2 := rfl
  unfold okM
  rw [h (sqI s) (by omega), h (sqI s + 1) (by omega)]
theorem piecesM_same {P Q : Nat → Int} (h : ∀ i, i < 133 → P i = Q i) : piecesM P = piecesM Q := by
  have hl : ∀ i, i < 128 → P i = Q i := fun i hi => h i (by omega)
  have ho : (∀ s : Nat, s < 64 → okM P s) ↔ (∀ s : Nat, s < 64 → okM Q s) := ⟨fun a s hs => (okM_same hl hs) ▸ a s hs, fun a s hs => (okM_same hl hs).symm ▸ a s hs⟩
  unfold piecesM
  rw [Bool.eq_iff_iff, decide_eq_true_eq, decide_eq_true_eq, ho, kM_same hl 0 64 (by omega), kM_same hl 1 64 (by omega), h 128 (by omega)]
theorem standM_same {P Q : Nat → Int} (h : ∀ i, i < 133 → P i = Q i) {x k c : Int} (hx : 0 ≤ x ∧ x < 64) : standM P x k c = standM Q x k c := by
  have hq : sqI x = 0 + x.toNat * 2 := rfl
  unfold standM
  rw [h (sqI x) (by omega), h (sqI x + 1) (by omega)]
theorem homeM_same {P Q : Nat → Int} (h : ∀ i, i < 133 → P i = Q i) {s a b : Int} (ha : 0 ≤ a ∧ a < 64) (hb : 0 ≤ b ∧ b < 64) : homeM P s a b = homeM Q s a b := by
  have hq : sqI a = 0 + a.toNat * 2 := rfl
  have hq2 : sqI b = 0 + b.toNat * 2 := rfl
  unfold homeM
  rw [h (sqI a) (by omega), h (sqI a + 1) (by omega), h (sqI b) (by omega), h (sqI b + 1) (by omega)]
theorem castlesM_same {P Q : Nat → Int} (h : ∀ i, i < 133 → P i = Q i) : castlesM P = castlesM Q := by
  unfold castlesM
  rw [h 129 (by omega), homeM_same h (by omega) (by omega), homeM_same h (by omega) (by omega), homeM_same h (by omega) (by omega), homeM_same h (by omega) (by omega)]
theorem overOK_same {P Q : Nat → Int} (h : ∀ i, i < 133 → P i = Q i) : overOK P = overOK Q := by
  unfold overOK
  rw [h 130 (by omega), h 131 (by omega), h 128 (by omega)]
  by_cases hx : (0 ≤ Q 130 ∧ Q 130 < 64) ∧ (Q 130 / 8 = 2 ∨ Q 130 / 8 = 5)
  · rw [standM_same h (x := Q 130) (by omega), standM_same h (x := Q 130 - 8) (by omega), standM_same h (x := Q 130 + 8) (by omega), standM_same h (x := Q 130 + 8) (by omega), standM_same h (x := Q 130 - 8) (by omega)]
  · rw [Bool.eq_iff_iff, decide_eq_true_eq, decide_eq_true_eq]
    constructor
    · rintro (e | ⟨e, _, ⟨_, f, _⟩ | ⟨_, f, _⟩⟩)
      · exact .inl e
      · exact absurd ⟨e, .inl f⟩ hx
      · exact absurd ⟨e, .inr f⟩ hx
    · rintro (e | ⟨e, _, ⟨_, f, _⟩ | ⟨_, f, _⟩⟩)
      · exact .inl e
      · exact absurd ⟨e, .inl f⟩ hx
      · exact absurd ⟨e, .inr f⟩ hx
theorem cut_same (P : Nat → Int) : ∀ i, i < 133 → ovA (fun _ => 0) 0 133 (ovA (fun _ => 0) 0 133 P) i = P i := fun i hi => by
  rw [ovA_at (by omega), Nat.sub_zero, ovA_at (by omega), Nat.sub_zero]
theorem right_is {P : Nat → Int} {a b c r : Bool} (ha : a = piecesM P) (hb : a = true → b = castlesM P) (hc : a = true → b = true → c = overOK P) (hr : r = (a && b && c && decide (0 ≤ P 131 ∧ P 131 ≤ 1024 ∧ 1 ≤ P 132 ∧ P 132 ≤ 16384))) : r = rightM P := by
  subst hr ha
  unfold rightM
  cases hp : piecesM P with
  | false => simp
  | true =>
    have hb := hb hp
    subst hb
    cases hq : castlesM P with
    | false => simp
    | true =>
      have hc := hc hp hq
      subst hc
      simp

theorem Right_run (P : Nat → Int) : WR AM 56 [.agg 133 (ia P)] [] (fun v _ _ => v = .s (.bool (rightM P))) := by
 refine WR_fn (a := a56) rfl rfl (entryF _) (entry_E (Nat.le_of_ble_eq_true rfl)) (m := 0) rfl ?_
 refine WP_seq ?_
 refine WP_ops ?_
 refine WO_boxA rfl ?_
 refine WO_mv rfl ?_
 refine WO_nil ?_
 refine WP_seq ?_
 refine WP_ops ?_
 first | refine WO_ldA0 rfl rfl (.head _) ?_ | refine WO_ldAI rfl rfl (.head _) ?_
 refine WO_buildI rfl (.agg rfl .nil) ?_
 refine WO_allocI ?_
 refine WO_stA rfl rfl rfl rfl .here ?_
 refine WO_nil ?_
 refine WP_seq ?_
 refine WP_ops ?_
 first | refine WO_ldA0 rfl rfl (.head _) ?_ | refine WO_ldAI rfl rfl (.head _) ?_
 obtain ⟨bp, hbp⟩ : ∃ b, b = piecesM P := ⟨_, rfl⟩
 have hP := RF_of (pieces_ok (ovA (fun _ => 0) 0 133 (ovA (fun _ => 0) 0 133 P)))
 rw [piecesM_same (cut_same P), ← hbp] at hP
 refine WO_call0 rfl (hP) rfl rfl rfl ?_
 refine WO_mv (v := .s (.bool _)) rfl ?_
 refine WO_case (t := 8) rfl (fun h51 => ?_) (fun h51 => ?_)
 ·try simp only [NM] at h51
  refine WO_gt rfl ?_
  first | refine WO_ldA0 rfl rfl (.head _) ?_ | refine WO_ldAI rfl rfl (.head _) ?_
  refine WO_gt rfl ?_
  obtain ⟨bc, hbc⟩ : ∃ b, b = castlesM P := ⟨_, rfl⟩
  have hC := RF_of (castles_ok (ovA (fun _ => 0) 0 133 (ovA (fun _ => 0) 0 133 P)))
  rw [castlesM_same (cut_same P), ← hbc] at hC
  refine WO_call0 rfl (hC) rfl rfl rfl ?_
  refine WO_pick (v := .s (.bool _)) rfl rfl ?_
  refine WO_mv (v := .s (.bool _)) rfl ?_
  refine WO_case (t := 12) rfl (fun h52 => ?_) (fun h52 => ?_)
  ·try simp only [NM] at h52
   refine WO_gt rfl ?_
   first | refine WO_ldA0 rfl rfl (.head _) ?_ | refine WO_ldAI rfl rfl (.head _) ?_
   refine WO_gt rfl ?_
   have hbt : bp = true := by assumption
   have hs := (pieces_is (P := P) (by rw [← hbp]; exact hbt)).2.2.2
   obtain ⟨bo, hbo⟩ : ∃ b, b = overOK P := ⟨_, rfl⟩
   have hO := RF_of (over_ok (ovA (fun _ => 0) 0 133 (ovA (fun _ => 0) 0 133 P)) hs)
   rw [overOK_same (cut_same P), ← hbo] at hO
   refine WO_call0 rfl (hO) rfl rfl rfl ?_
   refine WO_pick (v := .s (.bool _)) rfl rfl ?_
   refine WO_mv (v := .s (.bool _)) rfl ?_
   refine WO_case (t := 16) rfl (fun h53 => ?_) (fun h53 => ?_)
   ·try simp only [NM] at h53
    refine WO_gt rfl ?_
    refine WO_fa (o' := 131) rfl rfl rfl ?_
    refine WO_gt rfl ?_
    refine WO_ldI (x := P 131) rfl rfl (.tail _ (.head _)) (rfl) ?_
    refine WO_gt rfl ?_
    refine WO_bin (r := .bool _) rfl rfl rfl ?_
    refine WO_pick (v := .s (.bool _)) rfl rfl ?_
    refine WO_mv (v := .s (.bool _)) rfl ?_
    refine WO_case (t := 21) rfl (fun h54 => ?_) (fun h54 => ?_)
    ·try simp only [NM] at h54
     refine WO_gt rfl ?_
     refine WO_fa (o' := 131) rfl rfl rfl ?_
     refine WO_gt rfl ?_
     refine WO_ldI (x := P 131) rfl rfl (.tail _ (.head _)) (rfl) ?_
     refine WO_gt rfl ?_
     refine WO_bin (r := .bool _) rfl rfl rfl ?_
     refine WO_pick (v := .s (.bool _)) rfl rfl ?_
     refine WO_mv (v := .s (.bool _)) rfl ?_
     refine WO_case (t := 26) rfl (fun h55 => ?_) (fun h55 => ?_)
     ·try simp only [NM] at h55
      refine WO_gt rfl ?_
      refine WO_fa (o' := 132) rfl rfl rfl ?_
      refine WO_gt rfl ?_
      refine WO_ldI (x := P 132) rfl rfl (.tail _ (.head _)) (rfl) ?_
      refine WO_gt rfl ?_
      refine WO_bin (r := .bool _) rfl rfl rfl ?_
      refine WO_pick (v := .s (.bool _)) rfl rfl ?_
      refine WO_mv (v := .s (.bool _)) rfl ?_
      refine WO_case (t := 31) rfl (fun h56 => ?_) (fun h56 => ?_)
      ·try simp only [NM] at h56
       refine WO_gt rfl ?_
       refine WO_fa (o' := 132) rfl rfl rfl ?_
       refine WO_gt rfl ?_
       refine WO_ldI (x := P 132) rfl rfl (.tail _ (.head _)) (rfl) ?_
       refine WO_gt rfl ?_
       refine WO_bin (r := .bool _) rfl rfl rfl ?_
       refine WO_pick (v := .s (.bool _)) rfl rfl ?_
       refine WO_mv (v := .s (.bool _)) rfl ?_
       refine WO_nil ?_
       refine WP_ret ?_
       refine ⟨_, RS_tmp (v := .s (.bool _)) rfl (RS_nil), ?_⟩
       refine congrArg (fun b => V.s (S.bool b)) (right_is (b := bc) (c := bo) hbp (fun _ => hbc) (fun _ _ => hbo) ?_)
       clear hbp hbc hbo hP hC hO
       first | (simp [*]; done) | (subst_vars; simp only [Bool.true_and]; rw [Bool.eq_iff_iff]; simp only [decide_eq_true_eq, Bool.false_eq_true, false_iff, true_iff]; omega)
      ·try simp only [NM] at h56
       refine WO_gf rfl rfl ?_
       refine WO_gf rfl rfl ?_
       refine WO_gf rfl rfl ?_
       refine WO_pick (v := .s (.bool _)) rfl rfl ?_
       refine WO_mv (v := .s (.bool _)) rfl ?_
       refine WO_nil ?_
       refine WP_ret ?_
       refine ⟨_, RS_tmp (v := .s (.bool _)) rfl (RS_nil), ?_⟩
       refine congrArg (fun b => V.s (S.bool b)) (right_is (b := bc) (c := bo) hbp (fun _ => hbc) (fun _ _ => hbo) ?_)
       clear hbp hbc hbo hP hC hO
       first | (simp [*]; done) | (subst_vars; simp only [Bool.true_and]; rw [Bool.eq_iff_iff]; simp only [decide_eq_true_eq, Bool.false_eq_true, false_iff, true_iff]; omega)
     ·try simp only [NM] at h55
      refine WO_gf rfl rfl ?_
      refine WO_gf rfl rfl ?_
      refine WO_gf rfl rfl ?_
      refine WO_pick (v := .s (.bool _)) rfl rfl ?_
      refine WO_mv (v := .s (.bool _)) rfl ?_
      refine WO_gf rfl rfl ?_
      refine WO_gf rfl rfl ?_
      refine WO_gf rfl rfl ?_
      refine WO_pick (v := .s (.bool _)) rfl rfl ?_
      refine WO_mv (v := .s (.bool _)) rfl ?_
      refine WO_nil ?_
      refine WP_ret ?_
      refine ⟨_, RS_tmp (v := .s (.bool _)) rfl (RS_nil), ?_⟩
      refine congrArg (fun b => V.s (S.bool b)) (right_is (b := bc) (c := bo) hbp (fun _ => hbc) (fun _ _ => hbo) ?_)
      clear hbp hbc hbo hP hC hO
      first | (simp [*]; done) | (subst_vars; simp only [Bool.true_and]; rw [Bool.eq_iff_iff]; simp only [decide_eq_true_eq, Bool.false_eq_true, false_iff, true_iff]; omega)
    ·try simp only [NM] at h54
     refine WO_gf rfl rfl ?_
     refine WO_gf rfl rfl ?_
     refine WO_gf rfl rfl ?_
     refine WO_pick (v := .s (.bool _)) rfl rfl ?_
     refine WO_mv (v := .s (.bool _)) rfl ?_
     refine WO_gf rfl rfl ?_
     refine WO_gf rfl rfl ?_
     refine WO_gf rfl rfl ?_
     refine WO_pick (v := .s (.bool _)) rfl rfl ?_
     refine WO_mv (v := .s (.bool _)) rfl ?_
     refine WO_gf rfl rfl ?_
     refine WO_gf rfl rfl ?_
     refine WO_gf rfl rfl ?_
     refine WO_pick (v := .s (.bool _)) rfl rfl ?_
     refine WO_mv (v := .s (.bool _)) rfl ?_
     refine WO_nil ?_
     refine WP_ret ?_
     refine ⟨_, RS_tmp (v := .s (.bool _)) rfl (RS_nil), ?_⟩
     refine congrArg (fun b => V.s (S.bool b)) (right_is (b := bc) (c := bo) hbp (fun _ => hbc) (fun _ _ => hbo) ?_)
     clear hbp hbc hbo hP hC hO
     first | (simp [*]; done) | (subst_vars; simp only [Bool.true_and]; rw [Bool.eq_iff_iff]; simp only [decide_eq_true_eq, Bool.false_eq_true, false_iff, true_iff]; omega)
   ·try simp only [NM] at h53
    refine WO_gf rfl rfl ?_
    refine WO_gf rfl rfl ?_
    refine WO_gf rfl rfl ?_
    refine WO_pick (v := .s (.bool _)) rfl rfl ?_
    refine WO_mv (v := .s (.bool _)) rfl ?_
    refine WO_gf rfl rfl ?_
    refine WO_gf rfl rfl ?_
    refine WO_gf rfl rfl ?_
    refine WO_pick (v := .s (.bool _)) rfl rfl ?_
    refine WO_mv (v := .s (.bool _)) rfl ?_
    refine WO_gf rfl rfl ?_
    refine WO_gf rfl rfl ?_
    refine WO_gf rfl rfl ?_
    refine WO_pick (v := .s (.bool _)) rfl rfl ?_
    refine WO_mv (v := .s (.bool _)) rfl ?_
    refine WO_gf rfl rfl ?_
    refine WO_gf rfl rfl ?_
    refine WO_gf rfl rfl ?_
    refine WO_pick (v := .s (.bool _)) rfl rfl ?_
    refine WO_mv (v := .s (.bool _)) rfl ?_
    refine WO_nil ?_
    refine WP_ret ?_
    refine ⟨_, RS_tmp (v := .s (.bool _)) rfl (RS_nil), ?_⟩
    refine congrArg (fun b => V.s (S.bool b)) (right_is (b := bc) (c := bo) hbp (fun _ => hbc) (fun _ _ => hbo) ?_)
    clear hbp hbc hbo hP hC hO
    first | (simp [*]; done) | (subst_vars; simp only [Bool.true_and]; rw [Bool.eq_iff_iff]; simp only [decide_eq_true_eq, Bool.false_eq_true, false_iff, true_iff]; omega)
  ·try simp only [NM] at h52
   refine WO_gf rfl rfl ?_
   refine WO_gf rfl rfl ?_
   refine WO_pick (v := .s (.bool _)) rfl rfl ?_
   refine WO_mv (v := .s (.bool _)) rfl ?_
   refine WO_gf rfl rfl ?_
   refine WO_gf rfl rfl ?_
   refine WO_gf rfl rfl ?_
   refine WO_pick (v := .s (.bool _)) rfl rfl ?_
   refine WO_mv (v := .s (.bool _)) rfl ?_
   refine WO_gf rfl rfl ?_
   refine WO_gf rfl rfl ?_
   refine WO_gf rfl rfl ?_
   refine WO_pick (v := .s (.bool _)) rfl rfl ?_
   refine WO_mv (v := .s (.bool _)) rfl ?_
   refine WO_gf rfl rfl ?_
   refine WO_gf rfl rfl ?_
   refine WO_gf rfl rfl ?_
   refine WO_pick (v := .s (.bool _)) rfl rfl ?_
   refine WO_mv (v := .s (.bool _)) rfl ?_
   refine WO_gf rfl rfl ?_
   refine WO_gf rfl rfl ?_
   refine WO_gf rfl rfl ?_
   refine WO_pick (v := .s (.bool _)) rfl rfl ?_
   refine WO_mv (v := .s (.bool _)) rfl ?_
   refine WO_nil ?_
   refine WP_ret ?_
   refine ⟨_, RS_tmp (v := .s (.bool _)) rfl (RS_nil), ?_⟩
   exact congrArg (fun b => V.s (S.bool b)) (right_is (b := bc) (c := overOK P) hbp (fun _ => hbc) (fun _ _ => rfl) (by clear hbp hbc hP hC; simp [*]))
 ·try simp only [NM] at h51
  refine WO_gf rfl rfl ?_
  refine WO_gf rfl rfl ?_
  refine WO_pick (v := .s (.bool _)) rfl rfl ?_
  refine WO_mv (v := .s (.bool _)) rfl ?_
  refine WO_gf rfl rfl ?_
  refine WO_gf rfl rfl ?_
  refine WO_pick (v := .s (.bool _)) rfl rfl ?_
  refine WO_mv (v := .s (.bool _)) rfl ?_
  refine WO_gf rfl rfl ?_
  refine WO_gf rfl rfl ?_
  refine WO_gf rfl rfl ?_
  refine WO_pick (v := .s (.bool _)) rfl rfl ?_
  refine WO_mv (v := .s (.bool _)) rfl ?_
  refine WO_gf rfl rfl ?_
  refine WO_gf rfl rfl ?_
  refine WO_gf rfl rfl ?_
  refine WO_pick (v := .s (.bool _)) rfl rfl ?_
  refine WO_mv (v := .s (.bool _)) rfl ?_
  refine WO_gf rfl rfl ?_
  refine WO_gf rfl rfl ?_
  refine WO_gf rfl rfl ?_
  refine WO_pick (v := .s (.bool _)) rfl rfl ?_
  refine WO_mv (v := .s (.bool _)) rfl ?_
  refine WO_gf rfl rfl ?_
  refine WO_gf rfl rfl ?_
  refine WO_gf rfl rfl ?_
  refine WO_pick (v := .s (.bool _)) rfl rfl ?_
  refine WO_mv (v := .s (.bool _)) rfl ?_
  refine WO_nil ?_
  refine WP_ret ?_
  refine ⟨_, RS_tmp (v := .s (.bool _)) rfl (RS_nil), ?_⟩
  exact congrArg (fun b => V.s (S.bool b)) (right_is (b := castlesM P) (c := overOK P) hbp (fun _ => rfl) (fun _ _ => rfl) (by clear hbp hP; simp [*]))
theorem rRight_run (P : Nat → Int) : WR AM 72 [.agg 133 (ia P)] [] (fun v _ _ => v = .s (.bool (rightM P))) := by
 refine WR_fn (a := a72) rfl rfl (entryF _) (entry_E (Nat.le_of_ble_eq_true rfl)) (m := 0) rfl ?_
 refine WP_seq ?_
 refine WP_ops ?_
 refine WO_boxA rfl ?_
 refine WO_mv rfl ?_
 refine WO_nil ?_
 refine WP_seq ?_
 refine WP_ops ?_
 first | refine WO_ldA0 rfl rfl (.head _) ?_ | refine WO_ldAI rfl rfl (.head _) ?_
 obtain ⟨bp, hbp⟩ : ∃ b, b = piecesM P := ⟨_, rfl⟩
 have hP := RF_of (rpieces_ok P)
 rw [← hbp] at hP
 refine WO_call0 rfl (hP) rfl rfl rfl ?_
 refine WO_mv (v := .s (.bool _)) rfl ?_
 refine WO_case (t := 5) rfl (fun h57 => ?_) (fun h57 => ?_)
 ·try simp only [NM] at h57
  refine WO_gt rfl ?_
  first | refine WO_ldA0 rfl rfl (.head _) ?_ | refine WO_ldAI rfl rfl (.head _) ?_
  refine WO_gt rfl ?_
  obtain ⟨bc, hbc⟩ : ∃ b, b = castlesM P := ⟨_, rfl⟩
  have hC := RF_of (rcastles_ok P)
  rw [← hbc] at hC
  refine WO_call0 rfl (hC) rfl rfl rfl ?_
  refine WO_pick (v := .s (.bool _)) rfl rfl ?_
  refine WO_mv (v := .s (.bool _)) rfl ?_
  refine WO_case (t := 9) rfl (fun h58 => ?_) (fun h58 => ?_)
  ·try simp only [NM] at h58
   refine WO_gt rfl ?_
   first | refine WO_ldA0 rfl rfl (.head _) ?_ | refine WO_ldAI rfl rfl (.head _) ?_
   refine WO_gt rfl ?_
   have hbt : bp = true := by assumption
   have hs := (pieces_is (P := P) (by rw [← hbp]; exact hbt)).2.2.2
   obtain ⟨bo, hbo⟩ : ∃ b, b = overOK P := ⟨_, rfl⟩
   have hO := RF_of (rover_ok P hs)
   rw [← hbo] at hO
   refine WO_call0 rfl (hO) rfl rfl rfl ?_
   refine WO_pick (v := .s (.bool _)) rfl rfl ?_
   refine WO_mv (v := .s (.bool _)) rfl ?_
   refine WO_case (t := 13) rfl (fun h59 => ?_) (fun h59 => ?_)
   ·try simp only [NM] at h59
    refine WO_gt rfl ?_
    refine WO_fa (o' := 131) rfl rfl rfl ?_
    refine WO_gt rfl ?_
    refine WO_ldI rfl rfl (.head _) rfl ?_
    refine WO_gt rfl ?_
    refine WO_bin (r := .bool _) rfl rfl rfl ?_
    refine WO_pick (v := .s (.bool _)) rfl rfl ?_
    refine WO_mv (v := .s (.bool _)) rfl ?_
    refine WO_case (t := 18) rfl (fun h60 => ?_) (fun h60 => ?_)
    ·try simp only [NM] at h60
     refine WO_gt rfl ?_
     refine WO_fa (o' := 131) rfl rfl rfl ?_
     refine WO_gt rfl ?_
     refine WO_ldI rfl rfl (.head _) rfl ?_
     refine WO_gt rfl ?_
     refine WO_bin (r := .bool _) rfl rfl rfl ?_
     refine WO_pick (v := .s (.bool _)) rfl rfl ?_
     refine WO_mv (v := .s (.bool _)) rfl ?_
     refine WO_case (t := 23) rfl (fun h61 => ?_) (fun h61 => ?_)
     ·try simp only [NM] at h61
      refine WO_gt rfl ?_
      refine WO_fa (o' := 132) rfl rfl rfl ?_
      refine WO_gt rfl ?_
      refine WO_ldI rfl rfl (.head _) rfl ?_
      refine WO_gt rfl ?_
      refine WO_bin (r := .bool _) rfl rfl rfl ?_
      refine WO_pick (v := .s (.bool _)) rfl rfl ?_
      refine WO_mv (v := .s (.bool _)) rfl ?_
      refine WO_case (t := 28) rfl (fun h62 => ?_) (fun h62 => ?_)
      ·try simp only [NM] at h62
       refine WO_gt rfl ?_
       refine WO_fa (o' := 132) rfl rfl rfl ?_
       refine WO_gt rfl ?_
       refine WO_ldI rfl rfl (.head _) rfl ?_
       refine WO_gt rfl ?_
       refine WO_bin (r := .bool _) rfl rfl rfl ?_
       refine WO_pick (v := .s (.bool _)) rfl rfl ?_
       refine WO_mv (v := .s (.bool _)) rfl ?_
       refine WO_nil ?_
       refine WP_ret ?_
       refine ⟨_, RS_tmp (v := .s (.bool _)) rfl (RS_nil), ?_⟩
       refine congrArg (fun b => V.s (S.bool b)) (right_is (b := bc) (c := bo) hbp (fun _ => hbc) (fun _ _ => hbo) ?_)
       clear hbp hbc hbo hP hC hO
       first | (simp [*]; done) | (subst_vars; simp only [Bool.true_and]; rw [Bool.eq_iff_iff]; simp only [decide_eq_true_eq, Bool.false_eq_true, false_iff, true_iff]; omega)
      ·try simp only [NM] at h62
       refine WO_gf rfl rfl ?_
       refine WO_gf rfl rfl ?_
       refine WO_gf rfl rfl ?_
       refine WO_pick (v := .s (.bool _)) rfl rfl ?_
       refine WO_mv (v := .s (.bool _)) rfl ?_
       refine WO_nil ?_
       refine WP_ret ?_
       refine ⟨_, RS_tmp (v := .s (.bool _)) rfl (RS_nil), ?_⟩
       refine congrArg (fun b => V.s (S.bool b)) (right_is (b := bc) (c := bo) hbp (fun _ => hbc) (fun _ _ => hbo) ?_)
       clear hbp hbc hbo hP hC hO
       first | (simp [*]; done) | (subst_vars; simp only [Bool.true_and]; rw [Bool.eq_iff_iff]; simp only [decide_eq_true_eq, Bool.false_eq_true, false_iff, true_iff]; omega)
     ·try simp only [NM] at h61
      refine WO_gf rfl rfl ?_
      refine WO_gf rfl rfl ?_
      refine WO_gf rfl rfl ?_
      refine WO_pick (v := .s (.bool _)) rfl rfl ?_
      refine WO_mv (v := .s (.bool _)) rfl ?_
      refine WO_gf rfl rfl ?_
      refine WO_gf rfl rfl ?_
      refine WO_gf rfl rfl ?_
      refine WO_pick (v := .s (.bool _)) rfl rfl ?_
      refine WO_mv (v := .s (.bool _)) rfl ?_
      refine WO_nil ?_
      refine WP_ret ?_
      refine ⟨_, RS_tmp (v := .s (.bool _)) rfl (RS_nil), ?_⟩
      refine congrArg (fun b => V.s (S.bool b)) (right_is (b := bc) (c := bo) hbp (fun _ => hbc) (fun _ _ => hbo) ?_)
      clear hbp hbc hbo hP hC hO
      first | (simp [*]; done) | (subst_vars; simp only [Bool.true_and]; rw [Bool.eq_iff_iff]; simp only [decide_eq_true_eq, Bool.false_eq_true, false_iff, true_iff]; omega)
    ·try simp only [NM] at h60
     refine WO_gf rfl rfl ?_
     refine WO_gf rfl rfl ?_
     refine WO_gf rfl rfl ?_
     refine WO_pick (v := .s (.bool _)) rfl rfl ?_
     refine WO_mv (v := .s (.bool _)) rfl ?_
     refine WO_gf rfl rfl ?_
     refine WO_gf rfl rfl ?_
     refine WO_gf rfl rfl ?_
     refine WO_pick (v := .s (.bool _)) rfl rfl ?_
     refine WO_mv (v := .s (.bool _)) rfl ?_
     refine WO_gf rfl rfl ?_
     refine WO_gf rfl rfl ?_
     refine WO_gf rfl rfl ?_
     refine WO_pick (v := .s (.bool _)) rfl rfl ?_
     refine WO_mv (v := .s (.bool _)) rfl ?_
     refine WO_nil ?_
     refine WP_ret ?_
     refine ⟨_, RS_tmp (v := .s (.bool _)) rfl (RS_nil), ?_⟩
     refine congrArg (fun b => V.s (S.bool b)) (right_is (b := bc) (c := bo) hbp (fun _ => hbc) (fun _ _ => hbo) ?_)
     clear hbp hbc hbo hP hC hO
     first | (simp [*]; done) | (subst_vars; simp only [Bool.true_and]; rw [Bool.eq_iff_iff]; simp only [decide_eq_true_eq, Bool.false_eq_true, false_iff, true_iff]; omega)
   ·try simp only [NM] at h59
    refine WO_gf rfl rfl ?_
    refine WO_gf rfl rfl ?_
    refine WO_gf rfl rfl ?_
    refine WO_pick (v := .s (.bool _)) rfl rfl ?_
    refine WO_mv (v := .s (.bool _)) rfl ?_
    refine WO_gf rfl rfl ?_
    refine WO_gf rfl rfl ?_
    refine WO_gf rfl rfl ?_
    refine WO_pick (v := .s (.bool _)) rfl rfl ?_
    refine WO_mv (v := .s (.bool _)) rfl ?_
    refine WO_gf rfl rfl ?_
    refine WO_gf rfl rfl ?_
    refine WO_gf rfl rfl ?_
    refine WO_pick (v := .s (.bool _)) rfl rfl ?_
    refine WO_mv (v := .s (.bool _)) rfl ?_
    refine WO_gf rfl rfl ?_
    refine WO_gf rfl rfl ?_
    refine WO_gf rfl rfl ?_
    refine WO_pick (v := .s (.bool _)) rfl rfl ?_
    refine WO_mv (v := .s (.bool _)) rfl ?_
    refine WO_nil ?_
    refine WP_ret ?_
    refine ⟨_, RS_tmp (v := .s (.bool _)) rfl (RS_nil), ?_⟩
    refine congrArg (fun b => V.s (S.bool b)) (right_is (b := bc) (c := bo) hbp (fun _ => hbc) (fun _ _ => hbo) ?_)
    clear hbp hbc hbo hP hC hO
    first | (simp [*]; done) | (subst_vars; simp only [Bool.true_and]; rw [Bool.eq_iff_iff]; simp only [decide_eq_true_eq, Bool.false_eq_true, false_iff, true_iff]; omega)
  ·try simp only [NM] at h58
   refine WO_gf rfl rfl ?_
   refine WO_gf rfl rfl ?_
   refine WO_pick (v := .s (.bool _)) rfl rfl ?_
   refine WO_mv (v := .s (.bool _)) rfl ?_
   refine WO_gf rfl rfl ?_
   refine WO_gf rfl rfl ?_
   refine WO_gf rfl rfl ?_
   refine WO_pick (v := .s (.bool _)) rfl rfl ?_
   refine WO_mv (v := .s (.bool _)) rfl ?_
   refine WO_gf rfl rfl ?_
   refine WO_gf rfl rfl ?_
   refine WO_gf rfl rfl ?_
   refine WO_pick (v := .s (.bool _)) rfl rfl ?_
   refine WO_mv (v := .s (.bool _)) rfl ?_
   refine WO_gf rfl rfl ?_
   refine WO_gf rfl rfl ?_
   refine WO_gf rfl rfl ?_
   refine WO_pick (v := .s (.bool _)) rfl rfl ?_
   refine WO_mv (v := .s (.bool _)) rfl ?_
   refine WO_gf rfl rfl ?_
   refine WO_gf rfl rfl ?_
   refine WO_gf rfl rfl ?_
   refine WO_pick (v := .s (.bool _)) rfl rfl ?_
   refine WO_mv (v := .s (.bool _)) rfl ?_
   refine WO_nil ?_
   refine WP_ret ?_
   refine ⟨_, RS_tmp (v := .s (.bool _)) rfl (RS_nil), ?_⟩
   exact congrArg (fun b => V.s (S.bool b)) (right_is (b := bc) (c := overOK P) hbp (fun _ => hbc) (fun _ _ => rfl) (by clear hbp hbc hP hC; simp [*]))
 ·try simp only [NM] at h57
  refine WO_gf rfl rfl ?_
  refine WO_gf rfl rfl ?_
  refine WO_pick (v := .s (.bool _)) rfl rfl ?_
  refine WO_mv (v := .s (.bool _)) rfl ?_
  refine WO_gf rfl rfl ?_
  refine WO_gf rfl rfl ?_
  refine WO_pick (v := .s (.bool _)) rfl rfl ?_
  refine WO_mv (v := .s (.bool _)) rfl ?_
  refine WO_gf rfl rfl ?_
  refine WO_gf rfl rfl ?_
  refine WO_gf rfl rfl ?_
  refine WO_pick (v := .s (.bool _)) rfl rfl ?_
  refine WO_mv (v := .s (.bool _)) rfl ?_
  refine WO_gf rfl rfl ?_
  refine WO_gf rfl rfl ?_
  refine WO_gf rfl rfl ?_
  refine WO_pick (v := .s (.bool _)) rfl rfl ?_
  refine WO_mv (v := .s (.bool _)) rfl ?_
  refine WO_gf rfl rfl ?_
  refine WO_gf rfl rfl ?_
  refine WO_gf rfl rfl ?_
  refine WO_pick (v := .s (.bool _)) rfl rfl ?_
  refine WO_mv (v := .s (.bool _)) rfl ?_
  refine WO_gf rfl rfl ?_
  refine WO_gf rfl rfl ?_
  refine WO_gf rfl rfl ?_
  refine WO_pick (v := .s (.bool _)) rfl rfl ?_
  refine WO_mv (v := .s (.bool _)) rfl ?_
  refine WO_nil ?_
  refine WP_ret ?_
  refine ⟨_, RS_tmp (v := .s (.bool _)) rfl (RS_nil), ?_⟩
  exact congrArg (fun b => V.s (S.bool b)) (right_is (b := castlesM P) (c := overOK P) hbp (fun _ => rfl) (fun _ _ => rfl) (by clear hbp hP; simp [*]))
end Go.Proofs.Ytjldefmcnppdoaa
