/- Texts of this seat, joined. -/
import Derived.Test.YtjldefmcnppdoaaM0
/- The walks of the chapter board: what is right, whole. -/
namespace Go.Proofs.Ytjldefmcnppdoaa
open Go Go.Am
set_option linter.unusedSimpArgs false
set_option linter.unusedVariables false
theorem ovK {F : Nat → Int} {x y : Int} : ov (ov F 0 x) 1 y 0 = x ∧ ov (ov F 0 x) 1 y 1 = y := ⟨rfl, rfl⟩
theorem rank_run (s : Nat) (h : s < 64) : RF AM 38 [.s (.int .i64 (s : Int))] (.s (.int .i64 ((s : Int) / 8))) := by
  have := Rank_run (s : Int)
  rw [rankM, if_pos (by omega)] at this
  exact this

theorem pieces_ok (P : Nat → Int) : WR AM 89 [.agg 133 (ia P)] [] (fun v _ _ => v = .s (.bool (piecesM P))) := by
 refine WR_fn (a := a89) rfl rfl (entryF _) (entry_E (Nat.le_of_ble_eq_true rfl)) (m := 0) rfl ?_
 refine WP_seq ?_
 refine WP_ops ?_
 refine WO_boxA rfl ?_
 refine WO_mv rfl ?_
 refine WO_nil ?_
 refine WP_seq ?_
 refine WP_ops ?_
 refine WO_allocI ?_
 refine WO_nil ?_
 refine WP_seq ?_
 refine WP_seq ?_
 refine WP_ops ?_
 refine WO_fa (o' := 0) rfl rfl rfl ?_
 refine WO_fa (o' := 0) rfl rfl rfl ?_
 first | refine WO_ldA0 rfl rfl (.tail _ (.head _)) ?_ | refine WO_ldAI rfl rfl (.tail _ (.head _)) ?_
 refine WO_mv rfl ?_
 refine WO_nil ?_
 refine WP_block ?_
 refine WP_sub (L' := [_, _]) (.cons_cons _ (.cons_cons _ .slnil)) ?_
 refine WP_loop (fun m f _ L => ∃ (i : Nat) (C : Nat → Int), (i ≤ 64) ∧ (m = 64 - i) ∧ (∀ s : Nat, s < i → okM P s) ∧ (C 0 = kM P 0 i) ∧ (C 1 = kM P 1 i) ∧ (f 1 = .ptr 0 0 133) ∧ (f 3 = .ptr 1 0 2) ∧ (f 9 = .agg 128 (ia P)) ∧ (f 10 = .s (.int .i64 i)) ∧ (L = [(1, .sc .var 2 (ia C)), (0, .sc .var 133 (ia P))])) (fun m f nb L hI => ?_) (64) ⟨0, fun _ => 0, by omega, rfl, fun s h => by omega, rfl, rfl, rfl, rfl, rfl, rfl, rfl⟩
 obtain ⟨i, C, hi, hm, hok, hc0, hc1, k1, k3, k9, k10, rfl⟩ := hI
 refine WP_know (d := 1) (v := .ptr 0 0 133) k1 ?_
 refine WP_know (d := 3) (v := .ptr 1 0 2) k3 ?_
 refine WP_know (d := 9) (v := .agg 128 (ia P)) k9 ?_
 refine WP_know (d := 10) (v := .s (.int .i64 i)) k10 ?_
 refine WP_seq ?_
 refine WP_ops ?_
 refine WO_bin (r := .bool _) rfl rfl rfl ?_
 refine WO_nil ?_
 refine WP_seq ?_
 refine WP_cond rfl (fun h1 => ?_) (fun h1 => ?_)
 ·try simp only [NM] at h1
  try simp only [eq_two, ovA2.1, ovA2.2, ovK.1, ovK.2, decide_eq_true_eq, decide_eq_false_iff_not, mayM, dp, Nat.add_zero] at h1
  refine WP_skip ?_
  refine WP_seq ?_
  refine WP_block ?_
  refine WP_seq ?_
  refine WP_ops ?_
  refine WO_mv (v := .s (.int _ _)) rfl ?_
  refine WO_ixA rfl rfl rfl (by first | omega | (simp only [mayM, decide_eq_true_eq] at *; omega)) ?_
  rw [dp_ix]
  refine WO_allocI ?_
  refine WO_mv (v := .s (.int _ _)) rfl ?_
  refine WO_stA rfl rfl rfl rfl .here ?_
  refine WO_nil ?_
  refine WP_seq ?_
  refine WP_seq ?_
  refine WP_ops ?_
  first | refine WO_ldA0 rfl rfl (.head _) ?_ | refine WO_ldAI rfl rfl (.head _) ?_
  refine WO_buildI rfl .nil ?_
  refine WO_eqa rfl rfl ?_
  refine WO_nil ?_
  refine WP_cond rfl (fun h2 => ?_) (fun h2 => ?_)
  ·try simp only [NM] at h2
   try simp only [eq_two, ovA2.1, ovA2.2, ovK.1, ovK.2, decide_eq_true_eq, decide_eq_false_iff_not, mayM, dp, Nat.add_zero] at h2
   refine WP_exit ?_
   refine xhere ?_
   refine WP_ops ?_
   refine WO_add rfl rfl (by omega) ?_
   refine WO_mv (v := .s (.int _ _)) rfl ?_
   refine WO_nil ?_
   first | (have hk := kings_yes hc0 hc1 (by omega) (by omega); refine ⟨64 - (i + 1), _, by omega, (.cons _ (.cons_cons _ (.cons_cons _ .slnil))), i + 1, _, by omega, rfl, ok_next hok (by unfold okM; omega), hk.1, hk.2, rfl, rfl, rfl, rfl, rfl⟩) | (have hk := kings_no hc0 hc1 (by omega); refine ⟨64 - (i + 1), _, by omega, (.cons _ (.cons_cons _ (.cons_cons _ .slnil))), i + 1, _, by omega, rfl, ok_next hok (by unfold okM; omega), hk.1, hk.2, rfl, rfl, rfl, rfl, rfl⟩)
  ·try simp only [NM] at h2
   try simp only [eq_two, ovA2.1, ovA2.2, ovK.1, ovK.2, decide_eq_true_eq, decide_eq_false_iff_not, mayM, dp, Nat.add_zero] at h2
   refine WP_skip ?_
   refine WP_seq ?_
   refine WP_ops ?_
   refine WO_mv (v := .s (.int _ _)) rfl ?_
   refine WO_call0 rfl (rank_run i (by omega)) rfl rfl rfl ?_
   refine WO_bin (r := .bool _) rfl rfl rfl ?_
   refine WO_mv (v := .s (.bool _)) rfl ?_
   refine WO_case (t := 20) rfl (fun h3 => ?_) (fun h3 => ?_)
   ·try simp only [NM] at h3
    try simp only [eq_two, ovA2.1, ovA2.2, ovK.1, ovK.2, decide_eq_true_eq, decide_eq_false_iff_not, mayM, dp, Nat.add_zero] at h3
    refine WO_gf rfl rfl ?_
    refine WO_gf rfl rfl ?_
    refine WO_gf rfl rfl ?_
    refine WO_pick (v := .s (.bool _)) rfl rfl ?_
    refine WO_mv (v := .s (.bool _)) rfl ?_
    refine WO_nil ?_
    refine WP_seq ?_
    refine WP_seq ?_
    refine WP_ops ?_
    first | refine WO_ldA0 rfl rfl (.head _) ?_ | refine WO_ldAI rfl rfl (.head _) ?_
    refine WO_call0 rfl (show RF AM 88 _ (.s (.bool (mayM (P (sqI i)) (P (sqI i + 1))))) from RF_of (may_run (ovA (fun _ => 0) 0 2 (dp P (sqI i))))) rfl rfl rfl ?_
    refine WO_un (r := .bool _) rfl rfl ?_
    refine WO_mv (v := .s (.bool _)) rfl ?_
    refine WO_case (t := 28) rfl (fun h4 => ?_) (fun h4 => ?_)
    ·try simp only [NM] at h4
     try simp only [eq_two, ovA2.1, ovA2.2, ovK.1, ovK.2, decide_eq_true_eq, decide_eq_false_iff_not, mayM, dp, Nat.add_zero] at h4
     refine WO_gf rfl rfl ?_
     refine WO_gf rfl rfl ?_
     refine WO_gu rfl ?_
     refine WO_gu rfl ?_
     refine WO_gu rfl ?_
     refine WO_gf rfl rfl ?_
     refine WO_pick (v := .s (.bool _)) rfl rfl ?_
     refine WO_nil ?_
     refine WP_cond rfl (fun _ => ?_) (fun h => nomatch h)
     refine WP_seq ?_
     refine WP_ops ?_
     refine WO_mv rfl ?_
     refine WO_nil ?_
     refine WP_ret ?_
     refine ⟨_, RS_tmp (v := .s (.bool _)) rfl (RS_nil), ?_⟩
     exact congrArg (fun b => V.s (S.bool b)) (pieces_no (fun q => absurd (q.1 i (by omega)) (by unfold okM; omega))).symm
    ·try simp only [NM] at h4
     try simp only [eq_two, ovA2.1, ovA2.2, ovK.1, ovK.2, decide_eq_true_eq, decide_eq_false_iff_not, mayM, dp, Nat.add_zero] at h4
     refine WO_gt rfl ?_
     refine WO_mv (v := .s (.bool _)) rfl ?_
     refine WO_gt rfl ?_
     refine WO_mv (v := .s (.bool _)) rfl ?_
     refine WO_gt rfl ?_
     refine WO_fa (o' := 0) rfl rfl rfl ?_
     refine WO_gt rfl ?_
     refine WO_ldI (x := P (sqI i)) rfl rfl (.head _) (rfl) ?_
     refine WO_gt rfl ?_
     refine WO_bin (r := .bool _) rfl rfl rfl ?_
     refine WO_gt rfl ?_
     refine WO_pick (v := .s (.bool _)) rfl rfl ?_
     refine WO_pick (v := .s (.bool _)) rfl rfl ?_
     refine WO_nil ?_
     refine WP_cond rfl (fun h5 => ?_) (fun h5 => ?_)
     ·try simp only [NM] at h5
      try simp only [eq_two, ovA2.1, ovA2.2, ovK.1, ovK.2, decide_eq_true_eq, decide_eq_false_iff_not, mayM, dp, Nat.add_zero] at h5
      refine WP_seq ?_
      refine WP_ops ?_
      refine WO_mv rfl ?_
      refine WO_nil ?_
      refine WP_ret ?_
      refine ⟨_, RS_tmp (v := .s (.bool _)) rfl (RS_nil), ?_⟩
      exact congrArg (fun b => V.s (S.bool b)) (pieces_no (fun q => absurd (q.1 i (by omega)) (by unfold okM; omega))).symm
     ·try simp only [NM] at h5
      try simp only [eq_two, ovA2.1, ovA2.2, ovK.1, ovK.2, decide_eq_true_eq, decide_eq_false_iff_not, mayM, dp, Nat.add_zero] at h5
      refine WP_skip ?_
      refine WP_seq ?_
      refine WP_ops ?_
      refine WO_fa (o' := 0) rfl rfl rfl ?_
      refine WO_ldI (x := P (sqI i)) rfl rfl (.head _) (rfl) ?_
      refine WO_bin (r := .bool _) rfl rfl rfl ?_
      refine WO_nil ?_
      refine WP_cond rfl (fun h6 => ?_) (fun h6 => ?_)
      ·try simp only [NM] at h6
       try simp only [eq_two, ovA2.1, ovA2.2, ovK.1, ovK.2, decide_eq_true_eq, decide_eq_false_iff_not, mayM, dp, Nat.add_zero] at h6
       refine WP_ops ?_
       refine WO_fa (o' := 1) rfl rfl rfl ?_
       refine WO_ldI (x := P (sqI i + 1)) rfl rfl (.head _) (rfl) ?_
       refine WO_ixa rfl rfl rfl (by first | omega | (simp only [mayM, decide_eq_true_eq] at *; omega)) ?_
       refine WO_ldI rfl rfl (.tail _ (.head _)) rfl ?_
       refine WO_add rfl rfl (king_bd hc0 hc1 hi (by omega)) ?_
       refine WO_ixa rfl rfl rfl (by first | omega | (simp only [mayM, decide_eq_true_eq] at *; omega)) ?_
       refine WO_stI rfl rfl rfl rfl (.there .here) ?_
       refine WO_nil ?_
       refine WP_ops ?_
       refine WO_add rfl rfl (by omega) ?_
       refine WO_mv (v := .s (.int _ _)) rfl ?_
       refine WO_nil ?_
       first | (have hk := kings_yes hc0 hc1 (by omega) (by omega); refine ⟨64 - (i + 1), _, by omega, (.cons _ (.cons_cons _ (.cons_cons _ .slnil))), i + 1, _, by omega, rfl, ok_next hok (by unfold okM; omega), hk.1, hk.2, rfl, rfl, rfl, rfl, rfl⟩) | (have hk := kings_no hc0 hc1 (by omega); refine ⟨64 - (i + 1), _, by omega, (.cons _ (.cons_cons _ (.cons_cons _ .slnil))), i + 1, _, by omega, rfl, ok_next hok (by unfold okM; omega), hk.1, hk.2, rfl, rfl, rfl, rfl, rfl⟩)
      ·try simp only [NM] at h6
       try simp only [eq_two, ovA2.1, ovA2.2, ovK.1, ovK.2, decide_eq_true_eq, decide_eq_false_iff_not, mayM, dp, Nat.add_zero] at h6
       refine WP_skip ?_
       refine WP_ops ?_
       refine WO_add rfl rfl (by omega) ?_
       refine WO_mv (v := .s (.int _ _)) rfl ?_
       refine WO_nil ?_
       first | (have hk := kings_yes hc0 hc1 (by omega) (by omega); refine ⟨64 - (i + 1), _, by omega, (.cons _ (.cons_cons _ (.cons_cons _ .slnil))), i + 1, _, by omega, rfl, ok_next hok (by unfold okM; omega), hk.1, hk.2, rfl, rfl, rfl, rfl, rfl⟩) | (have hk := kings_no hc0 hc1 (by omega); refine ⟨64 - (i + 1), _, by omega, (.cons _ (.cons_cons _ (.cons_cons _ .slnil))), i + 1, _, by omega, rfl, ok_next hok (by unfold okM; omega), hk.1, hk.2, rfl, rfl, rfl, rfl, rfl⟩)
   ·try simp only [NM] at h3
    try simp only [eq_two, ovA2.1, ovA2.2, ovK.1, ovK.2, decide_eq_true_eq, decide_eq_false_iff_not, mayM, dp, Nat.add_zero] at h3
    refine WO_gt rfl ?_
    refine WO_mv (v := .s (.int _ _)) rfl ?_
    refine WO_gt rfl ?_
    refine WO_call0 rfl (rank_run i (by omega)) rfl rfl rfl ?_
    refine WO_gt rfl ?_
    refine WO_bin (r := .bool _) rfl rfl rfl ?_
    refine WO_pick (v := .s (.bool _)) rfl rfl ?_
    refine WO_mv (v := .s (.bool _)) rfl ?_
    refine WO_nil ?_
    refine WP_seq ?_
    refine WP_seq ?_
    refine WP_ops ?_
    first | refine WO_ldA0 rfl rfl (.head _) ?_ | refine WO_ldAI rfl rfl (.head _) ?_
    refine WO_call0 rfl (show RF AM 88 _ (.s (.bool (mayM (P (sqI i)) (P (sqI i + 1))))) from RF_of (may_run (ovA (fun _ => 0) 0 2 (dp P (sqI i))))) rfl rfl rfl ?_
    refine WO_un (r := .bool _) rfl rfl ?_
    refine WO_mv (v := .s (.bool _)) rfl ?_
    refine WO_case (t := 28) rfl (fun h7 => ?_) (fun h7 => ?_)
    ·try simp only [NM] at h7
     try simp only [eq_two, ovA2.1, ovA2.2, ovK.1, ovK.2, decide_eq_true_eq, decide_eq_false_iff_not, mayM, dp, Nat.add_zero] at h7
     refine WO_gf rfl rfl ?_
     refine WO_gf rfl rfl ?_
     refine WO_gu rfl ?_
     refine WO_gu rfl ?_
     refine WO_gu rfl ?_
     refine WO_gf rfl rfl ?_
     refine WO_pick (v := .s (.bool _)) rfl rfl ?_
     refine WO_nil ?_
     refine WP_cond rfl (fun _ => ?_) (fun h => nomatch h)
     refine WP_seq ?_
     refine WP_ops ?_
     refine WO_mv rfl ?_
     refine WO_nil ?_
     refine WP_ret ?_
     refine ⟨_, RS_tmp (v := .s (.bool _)) rfl (RS_nil), ?_⟩
     exact congrArg (fun b => V.s (S.bool b)) (pieces_no (fun q => absurd (q.1 i (by omega)) (by unfold okM; omega))).symm
    ·try simp only [NM] at h7
     try simp only [eq_two, ovA2.1, ovA2.2, ovK.1, ovK.2, decide_eq_true_eq, decide_eq_false_iff_not, mayM, dp, Nat.add_zero] at h7
     refine WO_gt rfl ?_
     refine WO_mv (v := .s (.bool _)) rfl ?_
     refine WO_gt rfl ?_
     refine WO_mv (v := .s (.bool _)) rfl ?_
     refine WO_case (t := 30) rfl (fun h8 => ?_) (fun h8 => ?_)
     ·try simp only [NM] at h8
      try simp only [eq_two, ovA2.1, ovA2.2, ovK.1, ovK.2, decide_eq_true_eq, decide_eq_false_iff_not, mayM, dp, Nat.add_zero] at h8
      refine WO_gt rfl ?_
      refine WO_fa (o' := 0) rfl rfl rfl ?_
      refine WO_gt rfl ?_
      refine WO_ldI (x := P (sqI i)) rfl rfl (.head _) (rfl) ?_
      refine WO_gt rfl ?_
      refine WO_bin (r := .bool _) rfl rfl rfl ?_
      refine WO_gt rfl ?_
      refine WO_pick (v := .s (.bool _)) rfl rfl ?_
      refine WO_pick (v := .s (.bool _)) rfl rfl ?_
      refine WO_nil ?_
      refine WP_cond rfl (fun h9 => ?_) (fun h9 => ?_)
      ·try simp only [NM] at h9
       try simp only [eq_two, ovA2.1, ovA2.2, ovK.1, ovK.2, decide_eq_true_eq, decide_eq_false_iff_not, mayM, dp, Nat.add_zero] at h9
       refine WP_seq ?_
       refine WP_ops ?_
       refine WO_mv rfl ?_
       refine WO_nil ?_
       refine WP_ret ?_
       refine ⟨_, RS_tmp (v := .s (.bool _)) rfl (RS_nil), ?_⟩
       exact congrArg (fun b => V.s (S.bool b)) (pieces_no (fun q => absurd (q.1 i (by omega)) (by unfold okM; omega))).symm
      ·try simp only [NM] at h9
       try simp only [eq_two, ovA2.1, ovA2.2, ovK.1, ovK.2, decide_eq_true_eq, decide_eq_false_iff_not, mayM, dp, Nat.add_zero] at h9
       refine WP_skip ?_
       refine WP_seq ?_
       refine WP_ops ?_
       refine WO_fa (o' := 0) rfl rfl rfl ?_
       refine WO_ldI (x := P (sqI i)) rfl rfl (.head _) (rfl) ?_
       refine WO_bin (r := .bool _) rfl rfl rfl ?_
       refine WO_nil ?_
       refine WP_cond rfl (fun h10 => ?_) (fun h10 => ?_)
       ·try simp only [NM] at h10
        try simp only [eq_two, ovA2.1, ovA2.2, ovK.1, ovK.2, decide_eq_true_eq, decide_eq_false_iff_not, mayM, dp, Nat.add_zero] at h10
        refine WP_ops ?_
        refine WO_fa (o' := 1) rfl rfl rfl ?_
        refine WO_ldI (x := P (sqI i + 1)) rfl rfl (.head _) (rfl) ?_
        refine WO_ixa rfl rfl rfl (by first | omega | (simp only [mayM, decide_eq_true_eq] at *; omega)) ?_
        refine WO_ldI rfl rfl (.tail _ (.head _)) rfl ?_
        refine WO_add rfl rfl (king_bd hc0 hc1 hi (by omega)) ?_
        refine WO_ixa rfl rfl rfl (by first | omega | (simp only [mayM, decide_eq_true_eq] at *; omega)) ?_
        refine WO_stI rfl rfl rfl rfl (.there .here) ?_
        refine WO_nil ?_
        refine WP_ops ?_
        refine WO_add rfl rfl (by omega) ?_
        refine WO_mv (v := .s (.int _ _)) rfl ?_
        refine WO_nil ?_
        first | (have hk := kings_yes hc0 hc1 (by omega) (by omega); refine ⟨64 - (i + 1), _, by omega, (.cons _ (.cons_cons _ (.cons_cons _ .slnil))), i + 1, _, by omega, rfl, ok_next hok (by unfold okM; omega), hk.1, hk.2, rfl, rfl, rfl, rfl, rfl⟩) | (have hk := kings_no hc0 hc1 (by omega); refine ⟨64 - (i + 1), _, by omega, (.cons _ (.cons_cons _ (.cons_cons _ .slnil))), i + 1, _, by omega, rfl, ok_next hok (by unfold okM; omega), hk.1, hk.2, rfl, rfl, rfl, rfl, rfl⟩)
       ·try simp only [NM] at h10
        try simp only [eq_two, ovA2.1, ovA2.2, ovK.1, ovK.2, decide_eq_true_eq, decide_eq_false_iff_not, mayM, dp, Nat.add_zero] at h10
        refine WP_skip ?_
        refine WP_ops ?_
        refine WO_add rfl rfl (by omega) ?_
        refine WO_mv (v := .s (.int _ _)) rfl ?_
        refine WO_nil ?_
        first | (have hk := kings_yes hc0 hc1 (by omega) (by omega); refine ⟨64 - (i + 1), _, by omega, (.cons _ (.cons_cons _ (.cons_cons _ .slnil))), i + 1, _, by omega, rfl, ok_next hok (by unfold okM; omega), hk.1, hk.2, rfl, rfl, rfl, rfl, rfl⟩) | (have hk := kings_no hc0 hc1 (by omega); refine ⟨64 - (i + 1), _, by omega, (.cons _ (.cons_cons _ (.cons_cons _ .slnil))), i + 1, _, by omega, rfl, ok_next hok (by unfold okM; omega), hk.1, hk.2, rfl, rfl, rfl, rfl, rfl⟩)
     ·try simp only [NM] at h8
      try simp only [eq_two, ovA2.1, ovA2.2, ovK.1, ovK.2, decide_eq_true_eq, decide_eq_false_iff_not, mayM, dp, Nat.add_zero] at h8
      refine WO_gf rfl rfl ?_
      refine WO_gf rfl rfl ?_
      refine WO_gf rfl rfl ?_
      refine WO_gt rfl ?_
      refine WO_pick (v := .s (.bool _)) rfl rfl ?_
      refine WO_pick (v := .s (.bool _)) rfl rfl ?_
      refine WO_nil ?_
      refine WP_cond rfl (fun h => nomatch h) (fun _ => ?_)
      refine WP_skip ?_
      refine WP_seq ?_
      refine WP_ops ?_
      refine WO_fa (o' := 0) rfl rfl rfl ?_
      refine WO_ldI (x := P (sqI i)) rfl rfl (.head _) (rfl) ?_
      refine WO_bin (r := .bool _) rfl rfl rfl ?_
      refine WO_nil ?_
      refine WP_cond rfl (fun h11 => ?_) (fun h11 => ?_)
      ·try simp only [NM] at h11
       try simp only [eq_two, ovA2.1, ovA2.2, ovK.1, ovK.2, decide_eq_true_eq, decide_eq_false_iff_not, mayM, dp, Nat.add_zero] at h11
       refine WP_ops ?_
       refine WO_fa (o' := 1) rfl rfl rfl ?_
       refine WO_ldI (x := P (sqI i + 1)) rfl rfl (.head _) (rfl) ?_
       refine WO_ixa rfl rfl rfl (by first | omega | (simp only [mayM, decide_eq_true_eq] at *; omega)) ?_
       refine WO_ldI rfl rfl (.tail _ (.head _)) rfl ?_
       refine WO_add rfl rfl (king_bd hc0 hc1 hi (by omega)) ?_
       refine WO_ixa rfl rfl rfl (by first | omega | (simp only [mayM, decide_eq_true_eq] at *; omega)) ?_
       refine WO_stI rfl rfl rfl rfl (.there .here) ?_
       refine WO_nil ?_
       refine WP_ops ?_
       refine WO_add rfl rfl (by omega) ?_
       refine WO_mv (v := .s (.int _ _)) rfl ?_
       refine WO_nil ?_
       first | (have hk := kings_yes hc0 hc1 (by omega) (by omega); refine ⟨64 - (i + 1), _, by omega, (.cons _ (.cons_cons _ (.cons_cons _ .slnil))), i + 1, _, by omega, rfl, ok_next hok (by unfold okM; omega), hk.1, hk.2, rfl, rfl, rfl, rfl, rfl⟩) | (have hk := kings_no hc0 hc1 (by omega); refine ⟨64 - (i + 1), _, by omega, (.cons _ (.cons_cons _ (.cons_cons _ .slnil))), i + 1, _, by omega, rfl, ok_next hok (by unfold okM; omega), hk.1, hk.2, rfl, rfl, rfl, rfl, rfl⟩)
      ·try simp only [NM] at h11
       try simp only [eq_two, ovA2.1, ovA2.2, ovK.1, ovK.2, decide_eq_true_eq, decide_eq_false_iff_not, mayM, dp, Nat.add_zero] at h11
       refine WP_skip ?_
       refine WP_ops ?_
       refine WO_add rfl rfl (by omega) ?_
       refine WO_mv (v := .s (.int _ _)) rfl ?_
       refine WO_nil ?_
       first | (have hk := kings_yes hc0 hc1 (by omega) (by omega); refine ⟨64 - (i + 1), _, by omega, (.cons _ (.cons_cons _ (.cons_cons _ .slnil))), i + 1, _, by omega, rfl, ok_next hok (by unfold okM; omega), hk.1, hk.2, rfl, rfl, rfl, rfl, rfl⟩) | (have hk := kings_no hc0 hc1 (by omega); refine ⟨64 - (i + 1), _, by omega, (.cons _ (.cons_cons _ (.cons_cons _ .slnil))), i + 1, _, by omega, rfl, ok_next hok (by unfold okM; omega), hk.1, hk.2, rfl, rfl, rfl, rfl, rfl⟩)
 ·try simp only [NM] at h1
  try simp only [eq_two, ovA2.1, ovA2.2, ovK.1, ovK.2, decide_eq_true_eq, decide_eq_false_iff_not, mayM, dp, Nat.add_zero] at h1
  refine WP_exit ?_
  refine xhere ?_
  refine WP_seq ?_
  refine WP_ops ?_
  first | refine WO_ldA0 rfl rfl (.head _) ?_ | refine WO_ldAI rfl rfl (.head _) ?_
  refine WO_buildI rfl (.one rfl (.one rfl .nil)) ?_
  refine WO_eqa rfl rfl ?_
  refine WO_mv (v := .s (.bool _)) rfl ?_
  refine WO_case (t := 49) rfl (fun h12 => ?_) (fun h12 => ?_)
  ·try simp only [NM] at h12
   try simp only [eq_two, ovA2.1, ovA2.2, ovK.1, ovK.2, decide_eq_true_eq, decide_eq_false_iff_not, mayM, dp, Nat.add_zero] at h12
   refine WO_gt rfl ?_
   refine WO_fa (o' := 0) rfl rfl rfl ?_
   refine WO_gt rfl ?_
   refine WO_fa (o' := 128) rfl rfl rfl ?_
   refine WO_gt rfl ?_
   refine WO_ldI rfl rfl (.tail _ (.head _)) rfl ?_
   refine WO_gt rfl ?_
   refine WO_bin (r := .bool _) rfl rfl rfl ?_
   refine WO_gt rfl ?_
   refine WO_mv (v := .s (.bool _)) rfl ?_
   refine WO_case (t := 54) rfl (fun h13 => ?_) (fun h13 => ?_)
   ·try simp only [NM] at h13
    try simp only [eq_two, ovA2.1, ovA2.2, ovK.1, ovK.2, decide_eq_true_eq, decide_eq_false_iff_not, mayM, dp, Nat.add_zero] at h13
    refine WO_gf rfl rfl ?_
    refine WO_gf rfl rfl ?_
    refine WO_gf rfl rfl ?_
    refine WO_gf rfl rfl ?_
    refine WO_gt rfl ?_
    refine WO_pick (v := .s (.bool _)) rfl rfl ?_
    refine WO_pick (v := .s (.bool _)) rfl rfl ?_
    refine WO_mv (v := .s (.bool _)) rfl ?_
    refine WO_nil ?_
    refine WP_ret ?_
    refine ⟨_, RS_tmp (v := .s (.bool _)) rfl (RS_nil), ?_⟩
    obtain rfl : i = 64 := by omega
    refine congrArg (fun b => V.s (S.bool b)) ?_
    by_cases hq : (∀ s : Nat, s < 64 → okM P s) ∧ kM P 0 64 = 1 ∧ kM P 1 64 = 1 ∧ (P 128 = 0 ∨ P 128 = 1)
    · refine Eq.trans (b := true) ?_ (pieces_yes hq).symm; have hq2 := hq.2; first | rfl | (exfalso; omega) | exact beq_iff_eq.2 (by omega)
    · refine Eq.trans (b := false) ?_ (pieces_no hq).symm; have hn : ¬ (kM P 0 64 = 1 ∧ kM P 1 64 = 1 ∧ (P 128 = 0 ∨ P 128 = 1)) := fun e => hq ⟨hok, e⟩; first | rfl | (exfalso; omega) | exact beq_eq_false_iff_ne.2 (by omega)
   ·try simp only [NM] at h13
    try simp only [eq_two, ovA2.1, ovA2.2, ovK.1, ovK.2, decide_eq_true_eq, decide_eq_false_iff_not, mayM, dp, Nat.add_zero] at h13
    refine WO_gt rfl ?_
    refine WO_fa (o' := 0) rfl rfl rfl ?_
    refine WO_gt rfl ?_
    refine WO_fa (o' := 128) rfl rfl rfl ?_
    refine WO_gt rfl ?_
    refine WO_ldI rfl rfl (.tail _ (.head _)) rfl ?_
    refine WO_gt rfl ?_
    refine WO_bin (r := .bool _) rfl rfl rfl ?_
    refine WO_gt rfl ?_
    refine WO_pick (v := .s (.bool _)) rfl rfl ?_
    refine WO_pick (v := .s (.bool _)) rfl rfl ?_
    refine WO_mv (v := .s (.bool _)) rfl ?_
    refine WO_nil ?_
    refine WP_ret ?_
    refine ⟨_, RS_tmp (v := .s (.bool _)) rfl (RS_nil), ?_⟩
    obtain rfl : i = 64 := by omega
    refine congrArg (fun b => V.s (S.bool b)) ?_
    by_cases hq : (∀ s : Nat, s < 64 → okM P s) ∧ kM P 0 64 = 1 ∧ kM P 1 64 = 1 ∧ (P 128 = 0 ∨ P 128 = 1)
    · refine Eq.trans (b := true) ?_ (pieces_yes hq).symm; have hq2 := hq.2; first | rfl | (exfalso; omega) | exact beq_iff_eq.2 (by omega)
    · refine Eq.trans (b := false) ?_ (pieces_no hq).symm; have hn : ¬ (kM P 0 64 = 1 ∧ kM P 1 64 = 1 ∧ (P 128 = 0 ∨ P 128 = 1)) := fun e => hq ⟨hok, e⟩; first | rfl | (exfalso; omega) | exact beq_eq_false_iff_ne.2 (by omega)
  ·try simp only [NM] at h12
   try simp only [eq_two, ovA2.1, ovA2.2, ovK.1, ovK.2, decide_eq_true_eq, decide_eq_false_iff_not, mayM, dp, Nat.add_zero] at h12
   refine WO_gf rfl rfl ?_
   refine WO_gf rfl rfl ?_
   refine WO_gf rfl rfl ?_
   refine WO_gf rfl rfl ?_
   refine WO_gf rfl rfl ?_
   refine WO_gu rfl ?_
   refine WO_gu rfl ?_
   refine WO_gu rfl ?_
   refine WO_gu rfl ?_
   refine WO_gf rfl rfl ?_
   refine WO_pick (v := .s (.bool _)) rfl rfl ?_
   refine WO_mv (v := .s (.bool _)) rfl ?_
   refine WO_nil ?_
   refine WP_ret ?_
   refine ⟨_, RS_tmp (v := .s (.bool _)) rfl (RS_nil), ?_⟩
   obtain rfl : i = 64 := by omega
   refine congrArg (fun b => V.s (S.bool b)) ?_
   by_cases hq : (∀ s : Nat, s < 64 → okM P s) ∧ kM P 0 64 = 1 ∧ kM P 1 64 = 1 ∧ (P 128 = 0 ∨ P 128 = 1)
   · refine Eq.trans (b := true) ?_ (pieces_yes hq).symm; have hq2 := hq.2; first | rfl | (exfalso; omega) | exact beq_iff_eq.2 (by omega)
   · refine Eq.trans (b := false) ?_ (pieces_no hq).symm; have hn : ¬ (kM P 0 64 = 1 ∧ kM P 1 64 = 1 ∧ (P 128 = 0 ∨ P 128 = 1)) := fun e => hq ⟨hok, e⟩; first | rfl | (exfalso; omega) | exact beq_eq_false_iff_ne.2 (by omega)
theorem rpieces_ok (P : Nat → Int) : WR AM 108 [.agg 133 (ia P)] [] (fun v _ _ => v = .s (.bool (piecesM P))) := by
 refine WR_fn (a := a108) rfl rfl (entryF _) (entry_E (Nat.le_of_ble_eq_true rfl)) (m := 0) rfl ?_
 refine WP_seq ?_
 refine WP_ops ?_
 refine WO_boxA rfl ?_
 refine WO_mv rfl ?_
 refine WO_nil ?_
 refine WP_seq ?_
 refine WP_ops ?_
 refine WO_buildI rfl .nil ?_
 refine WO_allocI ?_
 refine WO_stA rfl rfl rfl rfl .here ?_
 refine WO_nil ?_
 refine WP_seq ?_
 refine WP_seq ?_
 refine WP_ops ?_
 refine WO_mv rfl ?_
 refine WO_nil ?_
 refine WP_block ?_
 refine WP_sub (L' := [_, _]) (.cons_cons _ (.cons_cons _ .slnil)) ?_
 refine WP_loop (fun m f _ L => ∃ (i : Nat) (C : Nat → Int), (i ≤ 64) ∧ (m = 64 - i) ∧ (∀ s : Nat, s < i → okM P s) ∧ (C 0 = kM P 0 i) ∧ (C 1 = kM P 1 i) ∧ (f 1 = .ptr 0 0 133) ∧ (f 3 = .ptr 1 0 2) ∧ (f 4 = .s (.int .i64 i)) ∧ (L = [(1, .sc .var 2 (ia C)), (0, .sc .var 133 (ia P))])) (fun m f nb L hI => ?_) (64) ⟨0, ovA (fun _ => 0) 0 2 (fun _ => 0), by omega, rfl, fun s h => by omega, rfl, rfl, rfl, rfl, rfl, rfl⟩
 obtain ⟨i, C, hi, hm, hok, hc0, hc1, k1, k3, k4, rfl⟩ := hI
 refine WP_know (d := 1) (v := .ptr 0 0 133) k1 ?_
 refine WP_know (d := 3) (v := .ptr 1 0 2) k3 ?_
 refine WP_know (d := 4) (v := .s (.int .i64 i)) k4 ?_
 refine WP_seq ?_
 refine WP_seq ?_
 refine WP_ops ?_
 refine WO_mv (v := .s (.int _ _)) rfl ?_
 refine WO_bin (r := .bool _) rfl rfl rfl ?_
 refine WO_nil ?_
 refine WP_cond rfl (fun h14 => ?_) (fun h14 => ?_)
 ·try simp only [NM] at h14
  try simp only [eq_two, ovA2.1, ovA2.2, ovK.1, ovK.2, decide_eq_true_eq, decide_eq_false_iff_not, mayM, dp, Nat.add_zero] at h14
  refine WP_skip ?_
  refine WP_seq ?_
  refine WP_block ?_
  refine WP_seq ?_
  refine WP_ops ?_
  refine WO_mv (v := .s (.int _ _)) rfl ?_
  refine WO_fa (o' := 0) rfl rfl rfl ?_
  refine WO_ixa rfl rfl rfl (by first | omega | (simp only [mayM, decide_eq_true_eq] at *; omega)) ?_
  first | refine WO_ldA0 rfl rfl (.tail _ (.head _)) ?_ | refine WO_ldAI rfl rfl (.tail _ (.head _)) ?_
  refine WO_allocI ?_
  refine WO_stA rfl rfl rfl rfl .here ?_
  refine WO_nil ?_
  refine WP_seq ?_
  refine WP_seq ?_
  refine WP_ops ?_
  first | refine WO_ldA0 rfl rfl (.head _) ?_ | refine WO_ldAI rfl rfl (.head _) ?_
  refine WO_call0 rfl (show RF AM 107 _ (.s (.bool (decide (P (sqI i) = 0 ∧ P (sqI i + 1) = 0)))) from RF_of (none_run (ovA (fun _ => 0) 0 2 (dp P (sqI i))))) rfl rfl rfl ?_
  refine WO_un (r := .bool _) rfl rfl ?_
  refine WO_mv (v := .s (.bool _)) rfl ?_
  refine WO_case (t := 18) rfl (fun h15 => ?_) (fun h15 => ?_)
  ·try simp only [NM] at h15
   try simp only [eq_two, ovA2.1, ovA2.2, ovK.1, ovK.2, decide_eq_true_eq, decide_eq_false_iff_not, mayM, dp, Nat.add_zero] at h15
   refine WO_gt rfl ?_
   first | refine WO_ldA0 rfl rfl (.head _) ?_ | refine WO_ldAI rfl rfl (.head _) ?_
   refine WO_gt rfl ?_
   refine WO_call0 rfl (show RF AM 55 _ (.s (.bool (mayM (P (sqI i)) (P (sqI i + 1))))) from RF_of (rMay_run (ovA (fun _ => 0) 0 2 (dp P (sqI i))))) rfl rfl rfl ?_
   refine WO_gt rfl ?_
   refine WO_un (r := .bool _) rfl rfl ?_
   refine WO_pick (v := .s (.bool _)) rfl rfl ?_
   refine WO_mv (v := .s (.bool _)) rfl ?_
   refine WO_case (t := 23) rfl (fun h16 => ?_) (fun h16 => ?_)
   ·try simp only [NM] at h16
    try simp only [eq_two, ovA2.1, ovA2.2, ovK.1, ovK.2, decide_eq_true_eq, decide_eq_false_iff_not, mayM, dp, Nat.add_zero] at h16
    refine WO_gf rfl rfl ?_
    refine WO_gf rfl rfl ?_
    refine WO_gf rfl rfl ?_
    refine WO_gf rfl rfl ?_
    refine WO_gu rfl ?_
    refine WO_gu rfl ?_
    refine WO_gu rfl ?_
    refine WO_gu rfl ?_
    refine WO_gu rfl ?_
    refine WO_gu rfl ?_
    refine WO_gf rfl rfl ?_
    refine WO_pick (v := .s (.bool _)) rfl rfl ?_
    refine WO_nil ?_
    refine WP_cond rfl (fun _ => ?_) (fun h => nomatch h)
    refine WP_seq ?_
    refine WP_ops ?_
    refine WO_mv rfl ?_
    refine WO_nil ?_
    refine WP_ret ?_
    refine ⟨_, RS_tmp (v := .s (.bool _)) rfl (RS_nil), ?_⟩
    exact congrArg (fun b => V.s (S.bool b)) (pieces_no (fun q => absurd (q.1 i (by omega)) (by unfold okM; omega))).symm
   ·try simp only [NM] at h16
    try simp only [eq_two, ovA2.1, ovA2.2, ovK.1, ovK.2, decide_eq_true_eq, decide_eq_false_iff_not, mayM, dp, Nat.add_zero] at h16
    refine WO_gt rfl ?_
    refine WO_fa (o' := 0) rfl rfl rfl ?_
    refine WO_gt rfl ?_
    refine WO_ldI (x := P (sqI i)) rfl rfl (.head _) (rfl) ?_
    refine WO_gt rfl ?_
    refine WO_bin (r := .bool _) rfl rfl rfl ?_
    refine WO_gt rfl ?_
    refine WO_mv (v := .s (.bool _)) rfl ?_
    refine WO_case (t := 27) rfl (fun h17 => ?_) (fun h17 => ?_)
    ·try simp only [NM] at h17
     try simp only [eq_two, ovA2.1, ovA2.2, ovK.1, ovK.2, decide_eq_true_eq, decide_eq_false_iff_not, mayM, dp, Nat.add_zero] at h17
     refine WO_gt rfl ?_
     refine WO_mv (v := .s (.int _ _)) rfl ?_
     refine WO_gt rfl ?_
     refine WO_bin (r := .bool _) rfl rfl rfl ?_
     refine WO_gt rfl ?_
     refine WO_mv (v := .s (.bool _)) rfl ?_
     refine WO_case (t := 30) rfl (fun h18 => ?_) (fun h18 => ?_)
     ·try simp only [NM] at h18
      try simp only [eq_two, ovA2.1, ovA2.2, ovK.1, ovK.2, decide_eq_true_eq, decide_eq_false_iff_not, mayM, dp, Nat.add_zero] at h18
      refine WO_gf rfl rfl ?_
      refine WO_gf rfl rfl ?_
      refine WO_gt rfl ?_
      refine WO_pick (v := .s (.bool _)) rfl rfl ?_
      refine WO_gt rfl ?_
      refine WO_pick (v := .s (.bool _)) rfl rfl ?_
      refine WO_pick (v := .s (.bool _)) rfl rfl ?_
      refine WO_nil ?_
      refine WP_cond rfl (fun _ => ?_) (fun h => nomatch h)
      refine WP_seq ?_
      refine WP_ops ?_
      refine WO_mv rfl ?_
      refine WO_nil ?_
      refine WP_ret ?_
      refine ⟨_, RS_tmp (v := .s (.bool _)) rfl (RS_nil), ?_⟩
      exact congrArg (fun b => V.s (S.bool b)) (pieces_no (fun q => absurd (q.1 i (by omega)) (by unfold okM; omega))).symm
     ·try simp only [NM] at h18
      try simp only [eq_two, ovA2.1, ovA2.2, ovK.1, ovK.2, decide_eq_true_eq, decide_eq_false_iff_not, mayM, dp, Nat.add_zero] at h18
      refine WO_gt rfl ?_
      refine WO_mv (v := .s (.int _ _)) rfl ?_
      refine WO_gt rfl ?_
      refine WO_bin (r := .bool _) rfl rfl rfl ?_
      refine WO_gt rfl ?_
      refine WO_pick (v := .s (.bool _)) rfl rfl ?_
      refine WO_gt rfl ?_
      refine WO_pick (v := .s (.bool _)) rfl rfl ?_
      refine WO_pick (v := .s (.bool _)) rfl rfl ?_
      refine WO_nil ?_
      refine WP_cond rfl (fun h19 => ?_) (fun h19 => ?_)
      ·try simp only [NM] at h19
       try simp only [eq_two, ovA2.1, ovA2.2, ovK.1, ovK.2, decide_eq_true_eq, decide_eq_false_iff_not, mayM, dp, Nat.add_zero] at h19
       refine WP_seq ?_
       refine WP_ops ?_
       refine WO_mv rfl ?_
       refine WO_nil ?_
       refine WP_ret ?_
       refine ⟨_, RS_tmp (v := .s (.bool _)) rfl (RS_nil), ?_⟩
       exact congrArg (fun b => V.s (S.bool b)) (pieces_no (fun q => absurd (q.1 i (by omega)) (by unfold okM; omega))).symm
      ·try simp only [NM] at h19
       try simp only [eq_two, ovA2.1, ovA2.2, ovK.1, ovK.2, decide_eq_true_eq, decide_eq_false_iff_not, mayM, dp, Nat.add_zero] at h19
       refine WP_skip ?_
       refine WP_seq ?_
       refine WP_ops ?_
       refine WO_fa (o' := 0) rfl rfl rfl ?_
       refine WO_ldI (x := P (sqI i)) rfl rfl (.head _) (rfl) ?_
       refine WO_bin (r := .bool _) rfl rfl rfl ?_
       refine WO_nil ?_
       refine WP_cond rfl (fun h20 => ?_) (fun h20 => ?_)
       ·try simp only [NM] at h20
        try simp only [eq_two, ovA2.1, ovA2.2, ovK.1, ovK.2, decide_eq_true_eq, decide_eq_false_iff_not, mayM, dp, Nat.add_zero] at h20
        refine WP_ops ?_
        refine WO_fa (o' := 1) rfl rfl rfl ?_
        refine WO_ldI (x := P (sqI i + 1)) rfl rfl (.head _) (rfl) ?_
        refine WO_ixa rfl rfl rfl (by first | omega | (simp only [mayM, decide_eq_true_eq] at *; omega)) ?_
        refine WO_ldI rfl rfl (.tail _ (.head _)) rfl ?_
        refine WO_add rfl rfl (king_bd hc0 hc1 hi (by omega)) ?_
        refine WO_ixa rfl rfl rfl (by first | omega | (simp only [mayM, decide_eq_true_eq] at *; omega)) ?_
        refine WO_stI rfl rfl rfl rfl (.there .here) ?_
        refine WO_nil ?_
        refine WP_ops ?_
        refine WO_mv (v := .s (.int _ _)) rfl ?_
        refine WO_add rfl rfl (by omega) ?_
        refine WO_mv (v := .s (.int _ _)) rfl ?_
        refine WO_nil ?_
        first | (have hk := kings_yes hc0 hc1 (by omega) (by omega); refine ⟨64 - (i + 1), _, by omega, (.cons _ (.cons_cons _ (.cons_cons _ .slnil))), i + 1, _, by omega, rfl, ok_next hok (by unfold okM; omega), hk.1, hk.2, rfl, rfl, rfl, rfl⟩) | (have hk := kings_no hc0 hc1 (by omega); refine ⟨64 - (i + 1), _, by omega, (.cons _ (.cons_cons _ (.cons_cons _ .slnil))), i + 1, _, by omega, rfl, ok_next hok (by unfold okM; omega), hk.1, hk.2, rfl, rfl, rfl, rfl⟩)
       ·try simp only [NM] at h20
        try simp only [eq_two, ovA2.1, ovA2.2, ovK.1, ovK.2, decide_eq_true_eq, decide_eq_false_iff_not, mayM, dp, Nat.add_zero] at h20
        refine WP_skip ?_
        refine WP_ops ?_
        refine WO_mv (v := .s (.int _ _)) rfl ?_
        refine WO_add rfl rfl (by omega) ?_
        refine WO_mv (v := .s (.int _ _)) rfl ?_
        refine WO_nil ?_
        first | (have hk := kings_yes hc0 hc1 (by omega) (by omega); refine ⟨64 - (i + 1), _, by omega, (.cons _ (.cons_cons _ (.cons_cons _ .slnil))), i + 1, _, by omega, rfl, ok_next hok (by unfold okM; omega), hk.1, hk.2, rfl, rfl, rfl, rfl⟩) | (have hk := kings_no hc0 hc1 (by omega); refine ⟨64 - (i + 1), _, by omega, (.cons _ (.cons_cons _ (.cons_cons _ .slnil))), i + 1, _, by omega, rfl, ok_next hok (by unfold okM; omega), hk.1, hk.2, rfl, rfl, rfl, rfl⟩)
    ·try simp only [NM] at h17
     try simp only [eq_two, ovA2.1, ovA2.2, ovK.1, ovK.2, decide_eq_true_eq, decide_eq_false_iff_not, mayM, dp, Nat.add_zero] at h17
     refine WO_gf rfl rfl ?_
     refine WO_gf rfl rfl ?_
     refine WO_gf rfl rfl ?_
     refine WO_gu rfl ?_
     refine WO_gu rfl ?_
     refine WO_gf rfl rfl ?_
     refine WO_gt rfl ?_
     refine WO_pick (v := .s (.bool _)) rfl rfl ?_
     refine WO_pick (v := .s (.bool _)) rfl rfl ?_
     refine WO_nil ?_
     refine WP_cond rfl (fun h => nomatch h) (fun _ => ?_)
     refine WP_skip ?_
     refine WP_seq ?_
     refine WP_ops ?_
     refine WO_fa (o' := 0) rfl rfl rfl ?_
     refine WO_ldI (x := P (sqI i)) rfl rfl (.head _) (rfl) ?_
     refine WO_bin (r := .bool _) rfl rfl rfl ?_
     refine WO_nil ?_
     refine WP_cond rfl (fun h21 => ?_) (fun h21 => ?_)
     ·try simp only [NM] at h21
      try simp only [eq_two, ovA2.1, ovA2.2, ovK.1, ovK.2, decide_eq_true_eq, decide_eq_false_iff_not, mayM, dp, Nat.add_zero] at h21
      refine WP_ops ?_
      refine WO_fa (o' := 1) rfl rfl rfl ?_
      refine WO_ldI (x := P (sqI i + 1)) rfl rfl (.head _) (rfl) ?_
      refine WO_ixa rfl rfl rfl (by first | omega | (simp only [mayM, decide_eq_true_eq] at *; omega)) ?_
      refine WO_ldI rfl rfl (.tail _ (.head _)) rfl ?_
      refine WO_add rfl rfl (king_bd hc0 hc1 hi (by omega)) ?_
      refine WO_ixa rfl rfl rfl (by first | omega | (simp only [mayM, decide_eq_true_eq] at *; omega)) ?_
      refine WO_stI rfl rfl rfl rfl (.there .here) ?_
      refine WO_nil ?_
      refine WP_ops ?_
      refine WO_mv (v := .s (.int _ _)) rfl ?_
      refine WO_add rfl rfl (by omega) ?_
      refine WO_mv (v := .s (.int _ _)) rfl ?_
      refine WO_nil ?_
      first | (have hk := kings_yes hc0 hc1 (by omega) (by omega); refine ⟨64 - (i + 1), _, by omega, (.cons _ (.cons_cons _ (.cons_cons _ .slnil))), i + 1, _, by omega, rfl, ok_next hok (by unfold okM; omega), hk.1, hk.2, rfl, rfl, rfl, rfl⟩) | (have hk := kings_no hc0 hc1 (by omega); refine ⟨64 - (i + 1), _, by omega, (.cons _ (.cons_cons _ (.cons_cons _ .slnil))), i + 1, _, by omega, rfl, ok_next hok (by unfold okM; omega), hk.1, hk.2, rfl, rfl, rfl, rfl⟩)
     ·try simp only [NM] at h21
      try simp only [eq_two, ovA2.1, ovA2.2, ovK.1, ovK.2, decide_eq_true_eq, decide_eq_false_iff_not, mayM, dp, Nat.add_zero] at h21
      refine WP_skip ?_
      refine WP_ops ?_
      refine WO_mv (v := .s (.int _ _)) rfl ?_
      refine WO_add rfl rfl (by omega) ?_
      refine WO_mv (v := .s (.int _ _)) rfl ?_
      refine WO_nil ?_
      first | (have hk := kings_yes hc0 hc1 (by omega) (by omega); refine ⟨64 - (i + 1), _, by omega, (.cons _ (.cons_cons _ (.cons_cons _ .slnil))), i + 1, _, by omega, rfl, ok_next hok (by unfold okM; omega), hk.1, hk.2, rfl, rfl, rfl, rfl⟩) | (have hk := kings_no hc0 hc1 (by omega); refine ⟨64 - (i + 1), _, by omega, (.cons _ (.cons_cons _ (.cons_cons _ .slnil))), i + 1, _, by omega, rfl, ok_next hok (by unfold okM; omega), hk.1, hk.2, rfl, rfl, rfl, rfl⟩)
  ·try simp only [NM] at h15
   try simp only [eq_two, ovA2.1, ovA2.2, ovK.1, ovK.2, decide_eq_true_eq, decide_eq_false_iff_not, mayM, dp, Nat.add_zero] at h15
   refine WO_gf rfl rfl ?_
   refine WO_gf rfl rfl ?_
   refine WO_gf rfl rfl ?_
   refine WO_pick (v := .s (.bool _)) rfl rfl ?_
   refine WO_mv (v := .s (.bool _)) rfl ?_
   refine WO_gt rfl ?_
   refine WO_fa (o' := 0) rfl rfl rfl ?_
   refine WO_gt rfl ?_
   refine WO_ldI (x := P (sqI i)) rfl rfl (.head _) (rfl) ?_
   refine WO_gt rfl ?_
   refine WO_bin (r := .bool _) rfl rfl rfl ?_
   refine WO_gt rfl ?_
   refine WO_mv (v := .s (.bool _)) rfl ?_
   refine WO_case (t := 27) rfl (fun h22 => ?_) (fun h22 => ?_)
   ·try simp only [NM] at h22
    try simp only [eq_two, ovA2.1, ovA2.2, ovK.1, ovK.2, decide_eq_true_eq, decide_eq_false_iff_not, mayM, dp, Nat.add_zero] at h22
    refine WO_gt rfl ?_
    refine WO_mv (v := .s (.int _ _)) rfl ?_
    refine WO_gt rfl ?_
    refine WO_bin (r := .bool _) rfl rfl rfl ?_
    refine WO_gt rfl ?_
    refine WO_mv (v := .s (.bool _)) rfl ?_
    refine WO_case (t := 30) rfl (fun h23 => ?_) (fun h23 => ?_)
    ·try simp only [NM] at h23
     try simp only [eq_two, ovA2.1, ovA2.2, ovK.1, ovK.2, decide_eq_true_eq, decide_eq_false_iff_not, mayM, dp, Nat.add_zero] at h23
     refine WO_gf rfl rfl ?_
     refine WO_gf rfl rfl ?_
     refine WO_gt rfl ?_
     refine WO_pick (v := .s (.bool _)) rfl rfl ?_
     refine WO_gt rfl ?_
     refine WO_pick (v := .s (.bool _)) rfl rfl ?_
     refine WO_pick (v := .s (.bool _)) rfl rfl ?_
     refine WO_nil ?_
     refine WP_cond rfl (fun _ => ?_) (fun h => nomatch h)
     refine WP_seq ?_
     refine WP_ops ?_
     refine WO_mv rfl ?_
     refine WO_nil ?_
     refine WP_ret ?_
     refine ⟨_, RS_tmp (v := .s (.bool _)) rfl (RS_nil), ?_⟩
     exact congrArg (fun b => V.s (S.bool b)) (pieces_no (fun q => absurd (q.1 i (by omega)) (by unfold okM; omega))).symm
    ·try simp only [NM] at h23
     try simp only [eq_two, ovA2.1, ovA2.2, ovK.1, ovK.2, decide_eq_true_eq, decide_eq_false_iff_not, mayM, dp, Nat.add_zero] at h23
     refine WO_gt rfl ?_
     refine WO_mv (v := .s (.int _ _)) rfl ?_
     refine WO_gt rfl ?_
     refine WO_bin (r := .bool _) rfl rfl rfl ?_
     refine WO_gt rfl ?_
     refine WO_pick (v := .s (.bool _)) rfl rfl ?_
     refine WO_gt rfl ?_
     refine WO_pick (v := .s (.bool _)) rfl rfl ?_
     refine WO_pick (v := .s (.bool _)) rfl rfl ?_
     refine WO_nil ?_
     refine WP_cond rfl (fun h24 => ?_) (fun h24 => ?_)
     ·try simp only [NM] at h24
      try simp only [eq_two, ovA2.1, ovA2.2, ovK.1, ovK.2, decide_eq_true_eq, decide_eq_false_iff_not, mayM, dp, Nat.add_zero] at h24
      refine WP_seq ?_
      refine WP_ops ?_
      refine WO_mv rfl ?_
      refine WO_nil ?_
      refine WP_ret ?_
      refine ⟨_, RS_tmp (v := .s (.bool _)) rfl (RS_nil), ?_⟩
      exact congrArg (fun b => V.s (S.bool b)) (pieces_no (fun q => absurd (q.1 i (by omega)) (by unfold okM; omega))).symm
     ·try simp only [NM] at h24
      try simp only [eq_two, ovA2.1, ovA2.2, ovK.1, ovK.2, decide_eq_true_eq, decide_eq_false_iff_not, mayM, dp, Nat.add_zero] at h24
      refine WP_skip ?_
      refine WP_seq ?_
      refine WP_ops ?_
      refine WO_fa (o' := 0) rfl rfl rfl ?_
      refine WO_ldI (x := P (sqI i)) rfl rfl (.head _) (rfl) ?_
      refine WO_bin (r := .bool _) rfl rfl rfl ?_
      refine WO_nil ?_
      refine WP_cond rfl (fun h25 => ?_) (fun h25 => ?_)
      ·try simp only [NM] at h25
       try simp only [eq_two, ovA2.1, ovA2.2, ovK.1, ovK.2, decide_eq_true_eq, decide_eq_false_iff_not, mayM, dp, Nat.add_zero] at h25
       refine WP_ops ?_
       refine WO_fa (o' := 1) rfl rfl rfl ?_
       refine WO_ldI (x := P (sqI i + 1)) rfl rfl (.head _) (rfl) ?_
       refine WO_ixa rfl rfl rfl (by first | omega | (simp only [mayM, decide_eq_true_eq] at *; omega)) ?_
       refine WO_ldI rfl rfl (.tail _ (.head _)) rfl ?_
       refine WO_add rfl rfl (king_bd hc0 hc1 hi (by omega)) ?_
       refine WO_ixa rfl rfl rfl (by first | omega | (simp only [mayM, decide_eq_true_eq] at *; omega)) ?_
       refine WO_stI rfl rfl rfl rfl (.there .here) ?_
       refine WO_nil ?_
       refine WP_ops ?_
       refine WO_mv (v := .s (.int _ _)) rfl ?_
       refine WO_add rfl rfl (by omega) ?_
       refine WO_mv (v := .s (.int _ _)) rfl ?_
       refine WO_nil ?_
       first | (have hk := kings_yes hc0 hc1 (by omega) (by omega); refine ⟨64 - (i + 1), _, by omega, (.cons _ (.cons_cons _ (.cons_cons _ .slnil))), i + 1, _, by omega, rfl, ok_next hok (by unfold okM; omega), hk.1, hk.2, rfl, rfl, rfl, rfl⟩) | (have hk := kings_no hc0 hc1 (by omega); refine ⟨64 - (i + 1), _, by omega, (.cons _ (.cons_cons _ (.cons_cons _ .slnil))), i + 1, _, by omega, rfl, ok_next hok (by unfold okM; omega), hk.1, hk.2, rfl, rfl, rfl, rfl⟩)
      ·try simp only [NM] at h25
       try simp only [eq_two, ovA2.1, ovA2.2, ovK.1, ovK.2, decide_eq_true_eq, decide_eq_false_iff_not, mayM, dp, Nat.add_zero] at h25
       refine WP_skip ?_
       refine WP_ops ?_
       refine WO_mv (v := .s (.int _ _)) rfl ?_
       refine WO_add rfl rfl (by omega) ?_
       refine WO_mv (v := .s (.int _ _)) rfl ?_
       refine WO_nil ?_
       first | (have hk := kings_yes hc0 hc1 (by omega) (by omega); refine ⟨64 - (i + 1), _, by omega, (.cons _ (.cons_cons _ (.cons_cons _ .slnil))), i + 1, _, by omega, rfl, ok_next hok (by unfold okM; omega), hk.1, hk.2, rfl, rfl, rfl, rfl⟩) | (have hk := kings_no hc0 hc1 (by omega); refine ⟨64 - (i + 1), _, by omega, (.cons _ (.cons_cons _ (.cons_cons _ .slnil))), i + 1, _, by omega, rfl, ok_next hok (by unfold okM; omega), hk.1, hk.2, rfl, rfl, rfl, rfl⟩)
   ·try simp only [NM] at h22
    try simp only [eq_two, ovA2.1, ovA2.2, ovK.1, ovK.2, decide_eq_true_eq, decide_eq_false_iff_not, mayM, dp, Nat.add_zero] at h22
    refine WO_gf rfl rfl ?_
    refine WO_gf rfl rfl ?_
    refine WO_gf rfl rfl ?_
    refine WO_gu rfl ?_
    refine WO_gu rfl ?_
    refine WO_gf rfl rfl ?_
    refine WO_gt rfl ?_
    refine WO_pick (v := .s (.bool _)) rfl rfl ?_
    refine WO_pick (v := .s (.bool _)) rfl rfl ?_
    refine WO_nil ?_
    refine WP_cond rfl (fun h => nomatch h) (fun _ => ?_)
    refine WP_skip ?_
    refine WP_seq ?_
    refine WP_ops ?_
    refine WO_fa (o' := 0) rfl rfl rfl ?_
    refine WO_ldI (x := P (sqI i)) rfl rfl (.head _) (rfl) ?_
    refine WO_bin (r := .bool _) rfl rfl rfl ?_
    refine WO_nil ?_
    refine WP_cond rfl (fun h26 => ?_) (fun h26 => ?_)
    ·try simp only [NM] at h26
     try simp only [eq_two, ovA2.1, ovA2.2, ovK.1, ovK.2, decide_eq_true_eq, decide_eq_false_iff_not, mayM, dp, Nat.add_zero] at h26
     refine WP_ops ?_
     refine WO_fa (o' := 1) rfl rfl rfl ?_
     refine WO_ldI (x := P (sqI i + 1)) rfl rfl (.head _) (rfl) ?_
     refine WO_ixa rfl rfl rfl (by first | omega | (simp only [mayM, decide_eq_true_eq] at *; omega)) ?_
     refine WO_ldI rfl rfl (.tail _ (.head _)) rfl ?_
     refine WO_add rfl rfl (king_bd hc0 hc1 hi (by omega)) ?_
     refine WO_ixa rfl rfl rfl (by first | omega | (simp only [mayM, decide_eq_true_eq] at *; omega)) ?_
     refine WO_stI rfl rfl rfl rfl (.there .here) ?_
     refine WO_nil ?_
     refine WP_ops ?_
     refine WO_mv (v := .s (.int _ _)) rfl ?_
     refine WO_add rfl rfl (by omega) ?_
     refine WO_mv (v := .s (.int _ _)) rfl ?_
     refine WO_nil ?_
     first | (have hk := kings_yes hc0 hc1 (by omega) (by omega); refine ⟨64 - (i + 1), _, by omega, (.cons _ (.cons_cons _ (.cons_cons _ .slnil))), i + 1, _, by omega, rfl, ok_next hok (by unfold okM; omega), hk.1, hk.2, rfl, rfl, rfl, rfl⟩) | (have hk := kings_no hc0 hc1 (by omega); refine ⟨64 - (i + 1), _, by omega, (.cons _ (.cons_cons _ (.cons_cons _ .slnil))), i + 1, _, by omega, rfl, ok_next hok (by unfold okM; omega), hk.1, hk.2, rfl, rfl, rfl, rfl⟩)
    ·try simp only [NM] at h26
     try simp only [eq_two, ovA2.1, ovA2.2, ovK.1, ovK.2, decide_eq_true_eq, decide_eq_false_iff_not, mayM, dp, Nat.add_zero] at h26
     refine WP_skip ?_
     refine WP_ops ?_
     refine WO_mv (v := .s (.int _ _)) rfl ?_
     refine WO_add rfl rfl (by omega) ?_
     refine WO_mv (v := .s (.int _ _)) rfl ?_
     refine WO_nil ?_
     first | (have hk := kings_yes hc0 hc1 (by omega) (by omega); refine ⟨64 - (i + 1), _, by omega, (.cons _ (.cons_cons _ (.cons_cons _ .slnil))), i + 1, _, by omega, rfl, ok_next hok (by unfold okM; omega), hk.1, hk.2, rfl, rfl, rfl, rfl⟩) | (have hk := kings_no hc0 hc1 (by omega); refine ⟨64 - (i + 1), _, by omega, (.cons _ (.cons_cons _ (.cons_cons _ .slnil))), i + 1, _, by omega, rfl, ok_next hok (by unfold okM; omega), hk.1, hk.2, rfl, rfl, rfl, rfl⟩)
 ·try simp only [NM] at h14
  try simp only [eq_two, ovA2.1, ovA2.2, ovK.1, ovK.2, decide_eq_true_eq, decide_eq_false_iff_not, mayM, dp, Nat.add_zero] at h14
  refine WP_exit ?_
  refine xhere ?_
  refine WP_seq ?_
  refine WP_ops ?_
  refine WO_ixa rfl rfl rfl (by first | omega | (simp only [mayM, decide_eq_true_eq] at *; omega)) ?_
  refine WO_ldI (x := C 0) rfl rfl (.head _) (rfl) ?_
  refine WO_bin (r := .bool _) rfl rfl rfl ?_
  refine WO_mv (v := .s (.bool _)) rfl ?_
  refine WO_case (t := 48) rfl (fun h27 => ?_) (fun h27 => ?_)
  ·try simp only [NM] at h27
   try simp only [eq_two, ovA2.1, ovA2.2, ovK.1, ovK.2, decide_eq_true_eq, decide_eq_false_iff_not, mayM, dp, Nat.add_zero] at h27
   refine WO_gt rfl ?_
   refine WO_ixa rfl rfl rfl (by first | omega | (simp only [mayM, decide_eq_true_eq] at *; omega)) ?_
   refine WO_gt rfl ?_
   refine WO_ldI (x := C 1) rfl rfl (.head _) (rfl) ?_
   refine WO_gt rfl ?_
   refine WO_bin (r := .bool _) rfl rfl rfl ?_
   refine WO_pick (v := .s (.bool _)) rfl rfl ?_
   refine WO_mv (v := .s (.bool _)) rfl ?_
   refine WO_case (t := 53) rfl (fun h28 => ?_) (fun h28 => ?_)
   ·try simp only [NM] at h28
    try simp only [eq_two, ovA2.1, ovA2.2, ovK.1, ovK.2, decide_eq_true_eq, decide_eq_false_iff_not, mayM, dp, Nat.add_zero] at h28
    refine WO_gt rfl ?_
    refine WO_fa (o' := 128) rfl rfl rfl ?_
    refine WO_gt rfl ?_
    refine WO_ldI (x := P 128) rfl rfl (.tail _ (.head _)) (rfl) ?_
    refine WO_gt rfl ?_
    refine WO_bin (r := .bool _) rfl rfl rfl ?_
    refine WO_gt rfl ?_
    refine WO_mv (v := .s (.bool _)) rfl ?_
    refine WO_case (t := 57) rfl (fun h29 => ?_) (fun h29 => ?_)
    ·try simp only [NM] at h29
     try simp only [eq_two, ovA2.1, ovA2.2, ovK.1, ovK.2, decide_eq_true_eq, decide_eq_false_iff_not, mayM, dp, Nat.add_zero] at h29
     refine WO_gf rfl rfl ?_
     refine WO_gf rfl rfl ?_
     refine WO_gf rfl rfl ?_
     refine WO_gt rfl ?_
     refine WO_pick (v := .s (.bool _)) rfl rfl ?_
     refine WO_pick (v := .s (.bool _)) rfl rfl ?_
     refine WO_mv (v := .s (.bool _)) rfl ?_
     refine WO_nil ?_
     refine WP_ret ?_
     refine ⟨_, RS_tmp (v := .s (.bool _)) rfl (RS_nil), ?_⟩
     obtain rfl : i = 64 := by omega
     refine congrArg (fun b => V.s (S.bool b)) ?_
     by_cases hq : (∀ s : Nat, s < 64 → okM P s) ∧ kM P 0 64 = 1 ∧ kM P 1 64 = 1 ∧ (P 128 = 0 ∨ P 128 = 1)
     · refine Eq.trans (b := true) ?_ (pieces_yes hq).symm; have hq2 := hq.2; first | rfl | (exfalso; omega) | exact beq_iff_eq.2 (by omega)
     · refine Eq.trans (b := false) ?_ (pieces_no hq).symm; have hn : ¬ (kM P 0 64 = 1 ∧ kM P 1 64 = 1 ∧ (P 128 = 0 ∨ P 128 = 1)) := fun e => hq ⟨hok, e⟩; first | rfl | (exfalso; omega) | exact beq_eq_false_iff_ne.2 (by omega)
    ·try simp only [NM] at h29
     try simp only [eq_two, ovA2.1, ovA2.2, ovK.1, ovK.2, decide_eq_true_eq, decide_eq_false_iff_not, mayM, dp, Nat.add_zero] at h29
     refine WO_gt rfl ?_
     refine WO_fa (o' := 128) rfl rfl rfl ?_
     refine WO_gt rfl ?_
     refine WO_ldI (x := P 128) rfl rfl (.tail _ (.head _)) (rfl) ?_
     refine WO_gt rfl ?_
     refine WO_bin (r := .bool _) rfl rfl rfl ?_
     refine WO_gt rfl ?_
     refine WO_pick (v := .s (.bool _)) rfl rfl ?_
     refine WO_pick (v := .s (.bool _)) rfl rfl ?_
     refine WO_mv (v := .s (.bool _)) rfl ?_
     refine WO_nil ?_
     refine WP_ret ?_
     refine ⟨_, RS_tmp (v := .s (.bool _)) rfl (RS_nil), ?_⟩
     obtain rfl : i = 64 := by omega
     refine congrArg (fun b => V.s (S.bool b)) ?_
     by_cases hq : (∀ s : Nat, s < 64 → okM P s) ∧ kM P 0 64 = 1 ∧ kM P 1 64 = 1 ∧ (P 128 = 0 ∨ P 128 = 1)
     · refine Eq.trans (b := true) ?_ (pieces_yes hq).symm; have hq2 := hq.2; first | rfl | (exfalso; omega) | exact beq_iff_eq.2 (by omega)
     · refine Eq.trans (b := false) ?_ (pieces_no hq).symm; have hn : ¬ (kM P 0 64 = 1 ∧ kM P 1 64 = 1 ∧ (P 128 = 0 ∨ P 128 = 1)) := fun e => hq ⟨hok, e⟩; first | rfl | (exfalso; omega) | exact beq_eq_false_iff_ne.2 (by omega)
   ·try simp only [NM] at h28
    try simp only [eq_two, ovA2.1, ovA2.2, ovK.1, ovK.2, decide_eq_true_eq, decide_eq_false_iff_not, mayM, dp, Nat.add_zero] at h28
    refine WO_gf rfl rfl ?_
    refine WO_gf rfl rfl ?_
    refine WO_gf rfl rfl ?_
    refine WO_gf rfl rfl ?_
    refine WO_gu rfl ?_
    refine WO_gu rfl ?_
    refine WO_gu rfl ?_
    refine WO_gf rfl rfl ?_
    refine WO_pick (v := .s (.bool _)) rfl rfl ?_
    refine WO_mv (v := .s (.bool _)) rfl ?_
    refine WO_nil ?_
    refine WP_ret ?_
    refine ⟨_, RS_tmp (v := .s (.bool _)) rfl (RS_nil), ?_⟩
    obtain rfl : i = 64 := by omega
    refine congrArg (fun b => V.s (S.bool b)) ?_
    by_cases hq : (∀ s : Nat, s < 64 → okM P s) ∧ kM P 0 64 = 1 ∧ kM P 1 64 = 1 ∧ (P 128 = 0 ∨ P 128 = 1)
    · refine Eq.trans (b := true) ?_ (pieces_yes hq).symm; have hq2 := hq.2; first | rfl | (exfalso; omega) | exact beq_iff_eq.2 (by omega)
    · refine Eq.trans (b := false) ?_ (pieces_no hq).symm; have hn : ¬ (kM P 0 64 = 1 ∧ kM P 1 64 = 1 ∧ (P 128 = 0 ∨ P 128 = 1)) := fun e => hq ⟨hok, e⟩; first | rfl | (exfalso; omega) | exact beq_eq_false_iff_ne.2 (by omega)
  ·try simp only [NM] at h27
   try simp only [eq_two, ovA2.1, ovA2.2, ovK.1, ovK.2, decide_eq_true_eq, decide_eq_false_iff_not, mayM, dp, Nat.add_zero] at h27
   refine WO_gf rfl rfl ?_
   refine WO_gf rfl rfl ?_
   refine WO_gf rfl rfl ?_
   refine WO_pick (v := .s (.bool _)) rfl rfl ?_
   refine WO_mv (v := .s (.bool _)) rfl ?_
   refine WO_gf rfl rfl ?_
   refine WO_gf rfl rfl ?_
   refine WO_gf rfl rfl ?_
   refine WO_gf rfl rfl ?_
   refine WO_gu rfl ?_
   refine WO_gu rfl ?_
   refine WO_gu rfl ?_
   refine WO_gf rfl rfl ?_
   refine WO_pick (v := .s (.bool _)) rfl rfl ?_
   refine WO_mv (v := .s (.bool _)) rfl ?_
   refine WO_nil ?_
   refine WP_ret ?_
   refine ⟨_, RS_tmp (v := .s (.bool _)) rfl (RS_nil), ?_⟩
   obtain rfl : i = 64 := by omega
   refine congrArg (fun b => V.s (S.bool b)) ?_
   by_cases hq : (∀ s : Nat, s < 64 → okM P s) ∧ kM P 0 64 = 1 ∧ kM P 1 64 = 1 ∧ (P 128 = 0 ∨ P 128 = 1)
   · refine Eq.trans (b := true) ?_ (pieces_yes hq).symm; have hq2 := hq.2; first | rfl | (exfalso; omega) | exact beq_iff_eq.2 (by omega)
   · refine Eq.trans (b := false) ?_ (pieces_no hq).symm; have hn : ¬ (kM P 0 64 = 1 ∧ kM P 1 64 = 1 ∧ (P 128 = 0 ∨ P 128 = 1)) := fun e => hq ⟨hok, e⟩; first | rfl | (exfalso; omega) | exact beq_eq_false_iff_ne.2 (by omega)
theorem step_up {x : Int} (hx : 0 ≤ x ∧ x < 64) (h : x / 8 < 7) : RF AM 33 [.s (.int .i64 x), .s (.int .i64 0), .s (.int .i64 1)] (.s (.int .i64 (x + 8))) := by
  have := Step_run x 0 1
  rw [step_is hx (by omega)] at this
  exact this
theorem step_dn {x : Int} (hx : 0 ≤ x ∧ x < 64) (h : 1 ≤ x / 8) : RF AM 33 [.s (.int .i64 x), .s (.int .i64 0), .s (.int .i64 (-1))] (.s (.int .i64 (x - 8))) := by
  have := Step_run x 0 (-1)
  rw [step_is hx (by omega)] at this
  exact this
theorem other0 {x : Int} (h : x = 0 ∨ x = 1) : otherM x = 1 - x := by
  unfold otherM; split <;> omega
theorem rank_all (x : Int) : (0 ≤ x ∧ x < 64 ∧ rankM x = x / 8) ∨ (¬ (0 ≤ x ∧ x < 64) ∧ rankM x = -1) := by
  unfold rankM; split
  · exact .inl ⟨by omega, by omega, rfl⟩
  · exact .inr ⟨by assumption, rfl⟩

theorem over_ok (P : Nat → Int) (hs : P 128 = 0 ∨ P 128 = 1) : WR AM 91 [.agg 133 (ia P)] [] (fun v _ _ => v = .s (.bool (overOK P))) := by
 refine WR_fn (a := a91) rfl rfl (entryF _) (entry_E (Nat.le_of_ble_eq_true rfl)) (m := 0) rfl ?_
 refine WP_seq ?_
 refine WP_ops ?_
 refine WO_boxA rfl ?_
 refine WO_mv rfl ?_
 refine WO_nil ?_
 refine WP_seq ?_
 refine WP_seq ?_
 refine WP_ops ?_
 refine WO_fa (o' := 0) rfl rfl rfl ?_
 refine WO_fa (o' := 130) rfl rfl rfl ?_
 refine WO_ldI rfl rfl (.head _) rfl ?_
 refine WO_bin (r := .bool _) rfl rfl rfl ?_
 refine WO_nil ?_
 refine WP_cond rfl (fun h30 => ?_) (fun h30 => ?_)
 ·try simp only [NM] at h30
  try simp only [standM, decide_eq_true_eq, decide_eq_false_iff_not] at h30
  refine WP_seq ?_
  refine WP_ops ?_
  refine WO_mv rfl ?_
  refine WO_nil ?_
  refine WP_ret ?_
  refine ⟨_, RS_tmp (v := .s (.bool _)) rfl (RS_nil), ?_⟩
  refine congrArg (fun b => V.s (S.bool b)) ?_
  have ho := other0 hs
  have hra := rank_all (P 130)
  rw [Bool.eq_iff_iff]
  simp only [overOK, standM, decide_eq_true_eq, Bool.false_eq_true, false_iff, true_iff, ho] at *
  omega
 ·try simp only [NM] at h30
  try simp only [standM, decide_eq_true_eq, decide_eq_false_iff_not] at h30
  refine WP_skip ?_
  refine WP_seq ?_
  refine WP_ops ?_
  refine WO_mv rfl ?_
  refine WO_mv rfl ?_
  refine WO_nil ?_
  refine WP_seq ?_
  refine WP_seq ?_
  refine WP_ops ?_
  refine WO_fa (o' := 0) rfl rfl rfl ?_
  refine WO_fa (o' := 128) rfl rfl rfl ?_
  refine WO_ldI rfl rfl (.head _) rfl ?_
  refine WO_bin (r := .bool _) rfl rfl rfl ?_
  refine WO_nil ?_
  refine WP_cond rfl (fun h31 => ?_) (fun h31 => ?_)
  ·try simp only [NM] at h31
   try simp only [standM, decide_eq_true_eq, decide_eq_false_iff_not] at h31
   refine WP_ops ?_
   refine WO_mv rfl ?_
   refine WO_mv rfl ?_
   refine WO_nil ?_
   refine WP_seq ?_
   refine WP_seq ?_
   refine WP_ops ?_
   refine WO_fa (o' := 0) rfl rfl rfl ?_
   refine WO_fa (o' := 130) rfl rfl rfl ?_
   refine WO_ldI rfl rfl (.head _) rfl ?_
   refine WO_call0 rfl (Rank_run _) rfl rfl rfl ?_
   refine WO_mv (v := .s (.int _ _)) rfl ?_
   refine WO_bin (r := .bool _) rfl rfl rfl ?_
   refine WO_mv (v := .s (.bool _)) rfl ?_
   refine WO_case (t := 20) rfl (fun h32 => ?_) (fun h32 => ?_)
   ·try simp only [NM] at h32
    try simp only [standM, decide_eq_true_eq, decide_eq_false_iff_not] at h32
    refine WO_gf rfl rfl ?_
    refine WO_gf rfl rfl ?_
    refine WO_gf rfl rfl ?_
    refine WO_gf rfl rfl ?_
    refine WO_pick (v := .s (.bool _)) rfl rfl ?_
    refine WO_nil ?_
    refine WP_cond rfl (fun _ => ?_) (fun h => nomatch h)
    refine WP_seq ?_
    refine WP_ops ?_
    refine WO_mv rfl ?_
    refine WO_nil ?_
    refine WP_ret ?_
    refine ⟨_, RS_tmp (v := .s (.bool _)) rfl (RS_nil), ?_⟩
    refine congrArg (fun b => V.s (S.bool b)) ?_
    have ho := other0 hs
    have hra := rank_all (P 130)
    rw [Bool.eq_iff_iff]
    simp only [overOK, standM, decide_eq_true_eq, Bool.false_eq_true, false_iff, true_iff, ho] at *
    omega
   ·try simp only [NM] at h32
    try simp only [standM, decide_eq_true_eq, decide_eq_false_iff_not] at h32
    refine WO_gt rfl ?_
    refine WO_fa (o' := 0) rfl rfl rfl ?_
    refine WO_gt rfl ?_
    refine WO_fa (o' := 131) rfl rfl rfl ?_
    refine WO_gt rfl ?_
    refine WO_ldI rfl rfl (.head _) rfl ?_
    refine WO_gt rfl ?_
    refine WO_bin (r := .bool _) rfl rfl rfl ?_
    refine WO_pick (v := .s (.bool _)) rfl rfl ?_
    refine WO_nil ?_
    refine WP_cond rfl (fun h33 => ?_) (fun h33 => ?_)
    ·try simp only [NM] at h33
     try simp only [standM, decide_eq_true_eq, decide_eq_false_iff_not] at h33
     refine WP_seq ?_
     refine WP_ops ?_
     refine WO_mv rfl ?_
     refine WO_nil ?_
     refine WP_ret ?_
     refine ⟨_, RS_tmp (v := .s (.bool _)) rfl (RS_nil), ?_⟩
     refine congrArg (fun b => V.s (S.bool b)) ?_
     have ho := other0 hs
     have hra := rank_all (P 130)
     rw [Bool.eq_iff_iff]
     simp only [overOK, standM, decide_eq_true_eq, Bool.false_eq_true, false_iff, true_iff, ho] at *
     omega
    ·try simp only [NM] at h33
     try simp only [standM, decide_eq_true_eq, decide_eq_false_iff_not] at h33
     refine WP_skip ?_
     refine WP_seq ?_
     refine WP_ops ?_
     refine WO_mkfn rfl ?_
     refine WO_mv (v := .fn _ _) rfl ?_
     refine WO_nil ?_
     refine WP_seq ?_
     refine WP_ops ?_
     refine WO_mv (v := .fn _ _) rfl ?_
     refine WO_fa (o' := 0) rfl rfl rfl ?_
     refine WO_fa (o' := 130) rfl rfl rfl ?_
     refine WO_ldI rfl rfl (.head _) rfl ?_
     have hin31 := rank_in (x := P 130) (by assumption) (by omega)
     refine WO_callC (rs := [0]) (Bs := [_]) rfl (RB_of1 (free_run (md := .var) P _ (by omega))) rfl rfl (Nat.le_of_ble_eq_true rfl) (fun _ h => h) rfl ⟨(.head _), ⟨_, _, _, rfl⟩, trivial⟩ rfl rfl rfl (.cons .here .nil) ?_
     refine WO_mv (v := .s (.bool _)) rfl ?_
     refine WO_case (t := 32) rfl (fun h34 => ?_) (fun h34 => ?_)
     ·try simp only [NM] at h34
      try simp only [standM, decide_eq_true_eq, decide_eq_false_iff_not] at h34
      refine WO_gt rfl ?_
      refine WO_mv (v := .fn _ _) rfl ?_
      refine WO_gt rfl ?_
      refine WO_fa (o' := 0) rfl rfl rfl ?_
      refine WO_gt rfl ?_
      refine WO_fa (o' := 130) rfl rfl rfl ?_
      refine WO_gt rfl ?_
      refine WO_ldI rfl rfl (.head _) rfl ?_
      refine WO_gt rfl ?_
      refine WO_mv (v := .s (.int _ _)) rfl ?_
      refine WO_gt rfl ?_
      have hin38 := rank_in (x := P 130) (by assumption) (by omega)
      refine WO_call0 rfl (step_dn hin38.1 (by omega)) rfl rfl rfl ?_
      refine WO_gt rfl ?_
      have hin39 := rank_in (x := P 130) (by assumption) (by omega)
      refine WO_callC (rs := [0]) (Bs := [_]) rfl (RB_of1 (free_run (md := .var) P _ (by omega))) rfl rfl (Nat.le_of_ble_eq_true rfl) (fun _ h => h) rfl ⟨(.head _), ⟨_, _, _, rfl⟩, trivial⟩ rfl rfl rfl (.cons .here .nil) ?_
      refine WO_pick (v := .s (.bool _)) rfl rfl ?_
      refine WO_mv (v := .s (.bool _)) rfl ?_
      refine WO_case (t := 41) rfl (fun h35 => ?_) (fun h35 => ?_)
      ·try simp only [NM] at h35
       try simp only [standM, decide_eq_true_eq, decide_eq_false_iff_not] at h35
       refine WO_gt rfl ?_
       first | refine WO_ldA0 rfl rfl (.head _) ?_ | refine WO_ldAI rfl rfl (.head _) ?_
       refine WO_gt rfl ?_
       refine WO_fa (o' := 0) rfl rfl rfl ?_
       refine WO_gt rfl ?_
       refine WO_fa (o' := 128) rfl rfl rfl ?_
       refine WO_gt rfl ?_
       refine WO_ldI rfl rfl (.head _) rfl ?_
       refine WO_gt rfl ?_
       refine WO_callq0 rfl (RF_of (Other_run _)) rfl rfl rfl ?_
       refine WO_gt rfl ?_
       refine WO_fa (o' := 0) rfl rfl rfl ?_
       refine WO_gt rfl ?_
       refine WO_fa (o' := 130) rfl rfl rfl ?_
       refine WO_gt rfl ?_
       refine WO_ldI rfl rfl (.head _) rfl ?_
       refine WO_gt rfl ?_
       refine WO_mv (v := .s (.int _ _)) rfl ?_
       refine WO_gt rfl ?_
       refine WO_neg rfl (by omega) ?_
       refine WO_gt rfl ?_
       have hin52 := rank_in (x := P 130) (by assumption) (by omega)
       refine WO_callq0 rfl (step_up hin52.1 (by omega)) rfl rfl rfl ?_
       refine WO_gt rfl ?_
       refine WO_call0 rfl (RF_of (stands_run _ _ _ _ (by omega))) rfl rfl rfl ?_
       refine WO_pick (v := .s (.bool _)) rfl rfl ?_
       refine WO_mv (v := .s (.bool _)) rfl ?_
       refine WO_nil ?_
       refine WP_ret ?_
       refine ⟨_, RS_tmp (v := .s (.bool _)) rfl (RS_nil), ?_⟩
       refine congrArg (fun b => V.s (S.bool b)) ?_
       have ho := other0 hs
       have hra := rank_all (P 130)
       rw [Bool.eq_iff_iff]
       simp only [overOK, standM, decide_eq_true_eq, Bool.false_eq_true, false_iff, true_iff, ho] at *
       omega
      ·try simp only [NM] at h35
       try simp only [standM, decide_eq_true_eq, decide_eq_false_iff_not] at h35
       refine WO_gf rfl rfl ?_
       refine WO_gf rfl rfl ?_
       refine WO_gf rfl rfl ?_
       refine WO_gf rfl rfl ?_
       refine WO_gf rfl rfl ?_
       refine WO_gf rfl rfl ?_
       refine WO_gf rfl rfl ?_
       refine WO_gf rfl rfl ?_
       refine WO_gf rfl rfl ?_
       refine WO_gf rfl rfl ?_
       refine WO_gf rfl rfl ?_
       refine WO_gf rfl rfl ?_
       refine WO_pick (v := .s (.bool _)) rfl rfl ?_
       refine WO_mv (v := .s (.bool _)) rfl ?_
       refine WO_nil ?_
       refine WP_ret ?_
       refine ⟨_, RS_tmp (v := .s (.bool _)) rfl (RS_nil), ?_⟩
       refine congrArg (fun b => V.s (S.bool b)) ?_
       have ho := other0 hs
       have hra := rank_all (P 130)
       rw [Bool.eq_iff_iff]
       simp only [overOK, standM, decide_eq_true_eq, Bool.false_eq_true, false_iff, true_iff, ho] at *
       omega
     ·try simp only [NM] at h34
      try simp only [standM, decide_eq_true_eq, decide_eq_false_iff_not] at h34
      refine WO_gf rfl rfl ?_
      refine WO_gf rfl rfl ?_
      refine WO_gf rfl rfl ?_
      refine WO_gf rfl rfl ?_
      refine WO_gf rfl rfl ?_
      refine WO_gf rfl rfl ?_
      refine WO_gf rfl rfl ?_
      refine WO_pick (v := .s (.bool _)) rfl rfl ?_
      refine WO_mv (v := .s (.bool _)) rfl ?_
      refine WO_gf rfl rfl ?_
      refine WO_gf rfl rfl ?_
      refine WO_gf rfl rfl ?_
      refine WO_gf rfl rfl ?_
      refine WO_gf rfl rfl ?_
      refine WO_gf rfl rfl ?_
      refine WO_gf rfl rfl ?_
      refine WO_gf rfl rfl ?_
      refine WO_gf rfl rfl ?_
      refine WO_gf rfl rfl ?_
      refine WO_gf rfl rfl ?_
      refine WO_gf rfl rfl ?_
      refine WO_pick (v := .s (.bool _)) rfl rfl ?_
      refine WO_mv (v := .s (.bool _)) rfl ?_
      refine WO_nil ?_
      refine WP_ret ?_
      refine ⟨_, RS_tmp (v := .s (.bool _)) rfl (RS_nil), ?_⟩
      refine congrArg (fun b => V.s (S.bool b)) ?_
      have ho := other0 hs
      have hra := rank_all (P 130)
      rw [Bool.eq_iff_iff]
      simp only [overOK, standM, decide_eq_true_eq, Bool.false_eq_true, false_iff, true_iff, ho] at *
      omega
  ·try simp only [NM] at h31
   try simp only [standM, decide_eq_true_eq, decide_eq_false_iff_not] at h31
   refine WP_skip ?_
   refine WP_seq ?_
   refine WP_seq ?_
   refine WP_ops ?_
   refine WO_fa (o' := 0) rfl rfl rfl ?_
   refine WO_fa (o' := 130) rfl rfl rfl ?_
   refine WO_ldI rfl rfl (.head _) rfl ?_
   refine WO_call0 rfl (Rank_run _) rfl rfl rfl ?_
   refine WO_mv (v := .s (.int _ _)) rfl ?_
   refine WO_bin (r := .bool _) rfl rfl rfl ?_
   refine WO_mv (v := .s (.bool _)) rfl ?_
   refine WO_case (t := 20) rfl (fun h36 => ?_) (fun h36 => ?_)
   ·try simp only [NM] at h36
    try simp only [standM, decide_eq_true_eq, decide_eq_false_iff_not] at h36
    refine WO_gf rfl rfl ?_
    refine WO_gf rfl rfl ?_
    refine WO_gf rfl rfl ?_
    refine WO_gf rfl rfl ?_
    refine WO_pick (v := .s (.bool _)) rfl rfl ?_
    refine WO_nil ?_
    refine WP_cond rfl (fun _ => ?_) (fun h => nomatch h)
    refine WP_seq ?_
    refine WP_ops ?_
    refine WO_mv rfl ?_
    refine WO_nil ?_
    refine WP_ret ?_
    refine ⟨_, RS_tmp (v := .s (.bool _)) rfl (RS_nil), ?_⟩
    refine congrArg (fun b => V.s (S.bool b)) ?_
    have ho := other0 hs
    have hra := rank_all (P 130)
    rw [Bool.eq_iff_iff]
    simp only [overOK, standM, decide_eq_true_eq, Bool.false_eq_true, false_iff, true_iff, ho] at *
    omega
   ·try simp only [NM] at h36
    try simp only [standM, decide_eq_true_eq, decide_eq_false_iff_not] at h36
    refine WO_gt rfl ?_
    refine WO_fa (o' := 0) rfl rfl rfl ?_
    refine WO_gt rfl ?_
    refine WO_fa (o' := 131) rfl rfl rfl ?_
    refine WO_gt rfl ?_
    refine WO_ldI rfl rfl (.head _) rfl ?_
    refine WO_gt rfl ?_
    refine WO_bin (r := .bool _) rfl rfl rfl ?_
    refine WO_pick (v := .s (.bool _)) rfl rfl ?_
    refine WO_nil ?_
    refine WP_cond rfl (fun h37 => ?_) (fun h37 => ?_)
    ·try simp only [NM] at h37
     try simp only [standM, decide_eq_true_eq, decide_eq_false_iff_not] at h37
     refine WP_seq ?_
     refine WP_ops ?_
     refine WO_mv rfl ?_
     refine WO_nil ?_
     refine WP_ret ?_
     refine ⟨_, RS_tmp (v := .s (.bool _)) rfl (RS_nil), ?_⟩
     refine congrArg (fun b => V.s (S.bool b)) ?_
     have ho := other0 hs
     have hra := rank_all (P 130)
     rw [Bool.eq_iff_iff]
     simp only [overOK, standM, decide_eq_true_eq, Bool.false_eq_true, false_iff, true_iff, ho] at *
     omega
    ·try simp only [NM] at h37
     try simp only [standM, decide_eq_true_eq, decide_eq_false_iff_not] at h37
     refine WP_skip ?_
     refine WP_seq ?_
     refine WP_ops ?_
     refine WO_mkfn rfl ?_
     refine WO_mv (v := .fn _ _) rfl ?_
     refine WO_nil ?_
     refine WP_seq ?_
     refine WP_ops ?_
     refine WO_mv (v := .fn _ _) rfl ?_
     refine WO_fa (o' := 0) rfl rfl rfl ?_
     refine WO_fa (o' := 130) rfl rfl rfl ?_
     refine WO_ldI rfl rfl (.head _) rfl ?_
     have hin31 := rank_in (x := P 130) (by assumption) (by omega)
     refine WO_callC (rs := [0]) (Bs := [_]) rfl (RB_of1 (free_run (md := .var) P _ (by omega))) rfl rfl (Nat.le_of_ble_eq_true rfl) (fun _ h => h) rfl ⟨(.head _), ⟨_, _, _, rfl⟩, trivial⟩ rfl rfl rfl (.cons .here .nil) ?_
     refine WO_mv (v := .s (.bool _)) rfl ?_
     refine WO_case (t := 32) rfl (fun h38 => ?_) (fun h38 => ?_)
     ·try simp only [NM] at h38
      try simp only [standM, decide_eq_true_eq, decide_eq_false_iff_not] at h38
      refine WO_gt rfl ?_
      refine WO_mv (v := .fn _ _) rfl ?_
      refine WO_gt rfl ?_
      refine WO_fa (o' := 0) rfl rfl rfl ?_
      refine WO_gt rfl ?_
      refine WO_fa (o' := 130) rfl rfl rfl ?_
      refine WO_gt rfl ?_
      refine WO_ldI rfl rfl (.head _) rfl ?_
      refine WO_gt rfl ?_
      refine WO_mv (v := .s (.int _ _)) rfl ?_
      refine WO_gt rfl ?_
      have hin38 := rank_in (x := P 130) (by assumption) (by omega)
      refine WO_call0 rfl (step_up hin38.1 (by omega)) rfl rfl rfl ?_
      refine WO_gt rfl ?_
      have hin39 := rank_in (x := P 130) (by assumption) (by omega)
      refine WO_callC (rs := [0]) (Bs := [_]) rfl (RB_of1 (free_run (md := .var) P _ (by omega))) rfl rfl (Nat.le_of_ble_eq_true rfl) (fun _ h => h) rfl ⟨(.head _), ⟨_, _, _, rfl⟩, trivial⟩ rfl rfl rfl (.cons .here .nil) ?_
      refine WO_pick (v := .s (.bool _)) rfl rfl ?_
      refine WO_mv (v := .s (.bool _)) rfl ?_
      refine WO_case (t := 41) rfl (fun h39 => ?_) (fun h39 => ?_)
      ·try simp only [NM] at h39
       try simp only [standM, decide_eq_true_eq, decide_eq_false_iff_not] at h39
       refine WO_gt rfl ?_
       first | refine WO_ldA0 rfl rfl (.head _) ?_ | refine WO_ldAI rfl rfl (.head _) ?_
       refine WO_gt rfl ?_
       refine WO_fa (o' := 0) rfl rfl rfl ?_
       refine WO_gt rfl ?_
       refine WO_fa (o' := 128) rfl rfl rfl ?_
       refine WO_gt rfl ?_
       refine WO_ldI rfl rfl (.head _) rfl ?_
       refine WO_gt rfl ?_
       refine WO_callq0 rfl (RF_of (Other_run _)) rfl rfl rfl ?_
       refine WO_gt rfl ?_
       refine WO_fa (o' := 0) rfl rfl rfl ?_
       refine WO_gt rfl ?_
       refine WO_fa (o' := 130) rfl rfl rfl ?_
       refine WO_gt rfl ?_
       refine WO_ldI rfl rfl (.head _) rfl ?_
       refine WO_gt rfl ?_
       refine WO_mv (v := .s (.int _ _)) rfl ?_
       refine WO_gt rfl ?_
       refine WO_neg rfl (by omega) ?_
       refine WO_gt rfl ?_
       have hin52 := rank_in (x := P 130) (by assumption) (by omega)
       refine WO_callq0 rfl (step_dn hin52.1 (by omega)) rfl rfl rfl ?_
       refine WO_gt rfl ?_
       refine WO_call0 rfl (RF_of (stands_run _ _ _ _ (by omega))) rfl rfl rfl ?_
       refine WO_pick (v := .s (.bool _)) rfl rfl ?_
       refine WO_mv (v := .s (.bool _)) rfl ?_
       refine WO_nil ?_
       refine WP_ret ?_
       refine ⟨_, RS_tmp (v := .s (.bool _)) rfl (RS_nil), ?_⟩
       refine congrArg (fun b => V.s (S.bool b)) ?_
       have ho := other0 hs
       have hra := rank_all (P 130)
       rw [Bool.eq_iff_iff]
       simp only [overOK, standM, decide_eq_true_eq, Bool.false_eq_true, false_iff, true_iff, ho] at *
       omega
      ·try simp only [NM] at h39
       try simp only [standM, decide_eq_true_eq, decide_eq_false_iff_not] at h39
       refine WO_gf rfl rfl ?_
       refine WO_gf rfl rfl ?_
       refine WO_gf rfl rfl ?_
       refine WO_gf rfl rfl ?_
       refine WO_gf rfl rfl ?_
       refine WO_gf rfl rfl ?_
       refine WO_gf rfl rfl ?_
       refine WO_gf rfl rfl ?_
       refine WO_gf rfl rfl ?_
       refine WO_gf rfl rfl ?_
       refine WO_gf rfl rfl ?_
       refine WO_gf rfl rfl ?_
       refine WO_pick (v := .s (.bool _)) rfl rfl ?_
       refine WO_mv (v := .s (.bool _)) rfl ?_
       refine WO_nil ?_
       refine WP_ret ?_
       refine ⟨_, RS_tmp (v := .s (.bool _)) rfl (RS_nil), ?_⟩
       refine congrArg (fun b => V.s (S.bool b)) ?_
       have ho := other0 hs
       have hra := rank_all (P 130)
       rw [Bool.eq_iff_iff]
       simp only [overOK, standM, decide_eq_true_eq, Bool.false_eq_true, false_iff, true_iff, ho] at *
       omega
     ·try simp only [NM] at h38
      try simp only [standM, decide_eq_true_eq, decide_eq_false_iff_not] at h38
      refine WO_gf rfl rfl ?_
      refine WO_gf rfl rfl ?_
      refine WO_gf rfl rfl ?_
      refine WO_gf rfl rfl ?_
      refine WO_gf rfl rfl ?_
      refine WO_gf rfl rfl ?_
      refine WO_gf rfl rfl ?_
      refine WO_pick (v := .s (.bool _)) rfl rfl ?_
      refine WO_mv (v := .s (.bool _)) rfl ?_
      refine WO_gf rfl rfl ?_
      refine WO_gf rfl rfl ?_
      refine WO_gf rfl rfl ?_
      refine WO_gf rfl rfl ?_
      refine WO_gf rfl rfl ?_
      refine WO_gf rfl rfl ?_
      refine WO_gf rfl rfl ?_
      refine WO_gf rfl rfl ?_
      refine WO_gf rfl rfl ?_
      refine WO_gf rfl rfl ?_
      refine WO_gf rfl rfl ?_
      refine WO_gf rfl rfl ?_
      refine WO_pick (v := .s (.bool _)) rfl rfl ?_
      refine WO_mv (v := .s (.bool _)) rfl ?_
      refine WO_nil ?_
      refine WP_ret ?_
      refine ⟨_, RS_tmp (v := .s (.bool _)) rfl (RS_nil), ?_⟩
      refine congrArg (fun b => V.s (S.bool b)) ?_
      have ho := other0 hs
      have hra := rank_all (P 130)
      rw [Bool.eq_iff_iff]
      simp only [overOK, standM, decide_eq_true_eq, Bool.false_eq_true, false_iff, true_iff, ho] at *
      omega
theorem rover_ok (P : Nat → Int) (hs : P 128 = 0 ∨ P 128 = 1) : WR AM 110 [.agg 133 (ia P)] [] (fun v _ _ => v = .s (.bool (overOK P))) := by
 refine WR_fn (a := a110) rfl rfl (entryF _) (entry_E (Nat.le_of_ble_eq_true rfl)) (m := 0) rfl ?_
 refine WP_seq ?_
 refine WP_ops ?_
 refine WO_boxA rfl ?_
 refine WO_mv rfl ?_
 refine WO_nil ?_
 refine WP_seq ?_
 refine WP_seq ?_
 refine WP_ops ?_
 refine WO_fa (o' := 130) rfl rfl rfl ?_
 refine WO_ldI (x := P 130) rfl rfl (.head _) (rfl) ?_
 refine WO_bin (r := .bool _) rfl rfl rfl ?_
 refine WO_nil ?_
 refine WP_cond rfl (fun h40 => ?_) (fun h40 => ?_)
 ·try simp only [NM] at h40
  try simp only [eq_two, decide_eq_true_eq, decide_eq_false_iff_not] at h40
  refine WP_seq ?_
  refine WP_ops ?_
  refine WO_mv rfl ?_
  refine WO_nil ?_
  refine WP_ret ?_
  refine ⟨_, RS_tmp (v := .s (.bool _)) rfl (RS_nil), ?_⟩
  refine congrArg (fun b => V.s (S.bool b)) ?_
  rw [Bool.eq_iff_iff]
  try simp only [eq_two, ovA2.1, ovA2.2, ovK.1, ovK.2, cond_false, cond_true] at *
  simp only [overOK, standM, decide_eq_true_eq, Bool.false_eq_true, false_iff, true_iff, dp, Nat.add_zero, sqI] at *
  omega
 ·try simp only [NM] at h40
  try simp only [eq_two, decide_eq_true_eq, decide_eq_false_iff_not] at h40
  refine WP_skip ?_
  refine WP_seq ?_
  refine WP_seq ?_
  refine WP_ops ?_
  refine WO_fa (o' := 130) rfl rfl rfl ?_
  refine WO_ldI (x := P 130) rfl rfl (.head _) (rfl) ?_
  refine WO_bin (r := .bool _) rfl rfl rfl ?_
  refine WO_mv (v := .s (.bool _)) rfl ?_
  refine WO_case (t := 12) rfl (fun h41 => ?_) (fun h41 => ?_)
  ·try simp only [NM] at h41
   try simp only [eq_two, decide_eq_true_eq, decide_eq_false_iff_not] at h41
   refine WO_gf rfl rfl ?_
   refine WO_gf rfl rfl ?_
   refine WO_gf rfl rfl ?_
   refine WO_pick (v := .s (.bool _)) rfl rfl ?_
   refine WO_mv (v := .s (.bool _)) rfl ?_
   refine WO_gf rfl rfl ?_
   refine WO_gf rfl rfl ?_
   refine WO_gf rfl rfl ?_
   refine WO_pick (v := .s (.bool _)) rfl rfl ?_
   refine WO_nil ?_
   refine WP_cond rfl (fun _ => ?_) (fun h => nomatch h)
   refine WP_seq ?_
   refine WP_ops ?_
   refine WO_mv rfl ?_
   refine WO_nil ?_
   refine WP_ret ?_
   refine ⟨_, RS_tmp (v := .s (.bool _)) rfl (RS_nil), ?_⟩
   refine congrArg (fun b => V.s (S.bool b)) ?_
   rw [Bool.eq_iff_iff]
   try simp only [eq_two, ovA2.1, ovA2.2, ovK.1, ovK.2, cond_false, cond_true] at *
   simp only [overOK, standM, decide_eq_true_eq, Bool.false_eq_true, false_iff, true_iff, dp, Nat.add_zero, sqI] at *
   omega
  ·try simp only [NM] at h41
   try simp only [eq_two, decide_eq_true_eq, decide_eq_false_iff_not] at h41
   refine WO_gt rfl ?_
   refine WO_fa (o' := 130) rfl rfl rfl ?_
   refine WO_gt rfl ?_
   refine WO_ldI (x := P 130) rfl rfl (.head _) (rfl) ?_
   refine WO_gt rfl ?_
   refine WO_bin (r := .bool _) rfl rfl rfl ?_
   refine WO_pick (v := .s (.bool _)) rfl rfl ?_
   refine WO_mv (v := .s (.bool _)) rfl ?_
   refine WO_case (t := 17) rfl (fun h42 => ?_) (fun h42 => ?_)
   ·try simp only [NM] at h42
    try simp only [eq_two, decide_eq_true_eq, decide_eq_false_iff_not] at h42
    refine WO_gf rfl rfl ?_
    refine WO_gf rfl rfl ?_
    refine WO_gf rfl rfl ?_
    refine WO_pick (v := .s (.bool _)) rfl rfl ?_
    refine WO_nil ?_
    refine WP_cond rfl (fun _ => ?_) (fun h => nomatch h)
    refine WP_seq ?_
    refine WP_ops ?_
    refine WO_mv rfl ?_
    refine WO_nil ?_
    refine WP_ret ?_
    refine ⟨_, RS_tmp (v := .s (.bool _)) rfl (RS_nil), ?_⟩
    refine congrArg (fun b => V.s (S.bool b)) ?_
    rw [Bool.eq_iff_iff]
    try simp only [eq_two, ovA2.1, ovA2.2, ovK.1, ovK.2, cond_false, cond_true] at *
    simp only [overOK, standM, decide_eq_true_eq, Bool.false_eq_true, false_iff, true_iff, dp, Nat.add_zero, sqI] at *
    omega
   ·try simp only [NM] at h42
    try simp only [eq_two, decide_eq_true_eq, decide_eq_false_iff_not] at h42
    refine WO_gt rfl ?_
    refine WO_fa (o' := 131) rfl rfl rfl ?_
    refine WO_gt rfl ?_
    refine WO_ldI (x := P 131) rfl rfl (.head _) (rfl) ?_
    refine WO_gt rfl ?_
    refine WO_bin (r := .bool _) rfl rfl rfl ?_
    refine WO_pick (v := .s (.bool _)) rfl rfl ?_
    refine WO_nil ?_
    refine WP_cond rfl (fun h43 => ?_) (fun h43 => ?_)
    ·try simp only [NM] at h43
     try simp only [eq_two, decide_eq_true_eq, decide_eq_false_iff_not] at h43
     refine WP_seq ?_
     refine WP_ops ?_
     refine WO_mv rfl ?_
     refine WO_nil ?_
     refine WP_ret ?_
     refine ⟨_, RS_tmp (v := .s (.bool _)) rfl (RS_nil), ?_⟩
     refine congrArg (fun b => V.s (S.bool b)) ?_
     rw [Bool.eq_iff_iff]
     try simp only [eq_two, ovA2.1, ovA2.2, ovK.1, ovK.2, cond_false, cond_true] at *
     simp only [overOK, standM, decide_eq_true_eq, Bool.false_eq_true, false_iff, true_iff, dp, Nat.add_zero, sqI] at *
     omega
    ·try simp only [NM] at h43
     try simp only [eq_two, decide_eq_true_eq, decide_eq_false_iff_not] at h43
     refine WP_skip ?_
     refine WP_seq ?_
     refine WP_ops ?_
     refine WO_buildI rfl (.one rfl (.one rfl .nil)) ?_
     refine WO_allocI ?_
     refine WO_mv rfl ?_
     refine WO_mv rfl ?_
     refine WO_stA rfl rfl rfl rfl .here ?_
     refine WO_nil ?_
     refine WP_seq ?_
     refine WP_seq ?_
     refine WP_ops ?_
     refine WO_fa (o' := 128) rfl rfl rfl ?_
     refine WO_ldI (x := P 128) rfl rfl (.tail _ (.head _)) (rfl) ?_
     refine WO_bin (r := .bool _) rfl rfl rfl ?_
     refine WO_nil ?_
     refine WP_cond rfl (fun h44 => ?_) (fun h44 => ?_)
     ·try simp only [NM] at h44
      try simp only [eq_two, decide_eq_true_eq, decide_eq_false_iff_not] at h44
      refine WP_ops ?_
      refine WO_buildI rfl (.one rfl (.one rfl .nil)) ?_
      refine WO_mv rfl ?_
      refine WO_mv rfl ?_
      refine WO_stA rfl rfl rfl rfl .here ?_
      refine WO_nil ?_
      refine WP_seq ?_
      refine WP_ops ?_
      refine WO_fa (o' := 130) rfl rfl rfl ?_
      refine WO_ldI (x := P 130) rfl rfl (.tail _ (.head _)) (rfl) ?_
      refine WO_quo rfl rfl (by omega) ?_
      refine WO_mv (v := .s (.int _ _)) rfl ?_
      refine WO_bin (r := .bool _) rfl rfl rfl ?_
      refine WO_mv (v := .s (.bool _)) rfl ?_
      refine WO_case (t := 32) rfl (fun h45 => ?_) (fun h45 => ?_)
      ·try simp only [NM] at h45
       try simp only [eq_two, decide_eq_true_eq, decide_eq_false_iff_not] at h45
       refine WO_gt rfl ?_
       refine WO_fa (o' := 130) rfl rfl rfl ?_
       refine WO_gt rfl ?_
       refine WO_ldI (x := P 130) rfl rfl (.tail _ (.head _)) (rfl) ?_
       refine WO_gt rfl ?_
       refine WO_fa (o' := 0) rfl rfl rfl ?_
       refine WO_gt rfl ?_
       refine WO_ixa rfl rfl rfl (by omega) ?_
       refine WO_gt rfl ?_
       first | refine WO_ldA0 rfl rfl (.tail _ (.head _)) ?_ | refine WO_ldAI rfl rfl (.tail _ (.head _)) ?_
       refine WO_gt rfl ?_
       refine WO_call0 rfl (RF_of (none_run _)) rfl rfl rfl ?_
       refine WO_pick (v := .s (.bool _)) rfl rfl ?_
       refine WO_mv (v := .s (.bool _)) rfl ?_
       refine WO_case (t := 40) rfl (fun h46 => ?_) (fun h46 => ?_)
       ·try simp only [NM] at h46
        try simp only [eq_two, decide_eq_true_eq, decide_eq_false_iff_not] at h46
        refine WO_gt rfl ?_
        refine WO_fa (o' := 130) rfl rfl rfl ?_
        refine WO_gt rfl ?_
        refine WO_ldI (x := P 130) rfl rfl (.tail _ (.head _)) (rfl) ?_
        refine WO_gt rfl ?_
        refine WO_mv (v := .s (.int _ _)) rfl ?_
        refine WO_gt rfl ?_
        refine WO_add rfl rfl (by omega) ?_
        try rw [show P 130 + -8 = P 130 - 8 from rfl]
        refine WO_gt rfl ?_
        refine WO_fa (o' := 0) rfl rfl rfl ?_
        refine WO_gt rfl ?_
        refine WO_ixa rfl rfl rfl (by omega) ?_
        refine WO_gt rfl ?_
        first | refine WO_ldA0 rfl rfl (.tail _ (.head _)) ?_ | refine WO_ldAI rfl rfl (.tail _ (.head _)) ?_
        refine WO_gt rfl ?_
        refine WO_call0 rfl (RF_of (none_run _)) rfl rfl rfl ?_
        refine WO_pick (v := .s (.bool _)) rfl rfl ?_
        refine WO_mv (v := .s (.bool _)) rfl ?_
        refine WO_case (t := 50) rfl (fun h47 => ?_) (fun h47 => ?_)
        ·try simp only [NM] at h47
         try simp only [eq_two, decide_eq_true_eq, decide_eq_false_iff_not] at h47
         refine WO_gt rfl ?_
         refine WO_fa (o' := 130) rfl rfl rfl ?_
         refine WO_gt rfl ?_
         refine WO_ldI (x := P 130) rfl rfl (.tail _ (.head _)) (rfl) ?_
         refine WO_gt rfl ?_
         refine WO_mv (v := .s (.int _ _)) rfl ?_
         refine WO_gt rfl ?_
         refine WO_sub rfl rfl (by omega) ?_
         try rw [show P 130 - -8 = P 130 + 8 by omega]
         refine WO_gt rfl ?_
         refine WO_fa (o' := 0) rfl rfl rfl ?_
         refine WO_gt rfl ?_
         refine WO_ixa rfl rfl rfl (by omega) ?_
         refine WO_gt rfl ?_
         first | refine WO_ldA0 rfl rfl (.tail _ (.head _)) ?_ | refine WO_ldAI rfl rfl (.tail _ (.head _)) ?_
         refine WO_gt rfl ?_
         first | refine WO_ldA0 rfl rfl (.head _) ?_ | refine WO_ldAI rfl rfl (.head _) ?_
         refine WO_gt rfl ?_
         refine WO_eqa rfl rfl ?_
         refine WO_pick (v := .s (.bool _)) rfl rfl ?_
         refine WO_mv (v := .s (.bool _)) rfl ?_
         refine WO_nil ?_
         refine WP_ret ?_
         refine ⟨_, RS_tmp (v := .s (.bool _)) rfl (RS_nil), ?_⟩
         refine congrArg (fun b => V.s (S.bool b)) ?_
         rw [Bool.eq_iff_iff]
         try simp only [eq_two, ovA2.1, ovA2.2, ovK.1, ovK.2, cond_false, cond_true] at *
         simp only [overOK, standM, decide_eq_true_eq, Bool.false_eq_true, false_iff, true_iff, dp, Nat.add_zero, sqI] at *
         omega
        ·try simp only [NM] at h47
         try simp only [eq_two, decide_eq_true_eq, decide_eq_false_iff_not] at h47
         refine WO_gf rfl rfl ?_
         refine WO_gf rfl rfl ?_
         refine WO_gf rfl rfl ?_
         refine WO_gf rfl rfl ?_
         refine WO_gf rfl rfl ?_
         refine WO_gf rfl rfl ?_
         refine WO_gf rfl rfl ?_
         refine WO_gf rfl rfl ?_
         refine WO_gf rfl rfl ?_
         refine WO_pick (v := .s (.bool _)) rfl rfl ?_
         refine WO_mv (v := .s (.bool _)) rfl ?_
         refine WO_nil ?_
         refine WP_ret ?_
         refine ⟨_, RS_tmp (v := .s (.bool _)) rfl (RS_nil), ?_⟩
         refine congrArg (fun b => V.s (S.bool b)) ?_
         rw [Bool.eq_iff_iff]
         try simp only [eq_two, ovA2.1, ovA2.2, ovK.1, ovK.2, cond_false, cond_true] at *
         simp only [overOK, standM, decide_eq_true_eq, Bool.false_eq_true, false_iff, true_iff, dp, Nat.add_zero, sqI] at *
         omega
       ·try simp only [NM] at h46
        try simp only [eq_two, decide_eq_true_eq, decide_eq_false_iff_not] at h46
        refine WO_gf rfl rfl ?_
        refine WO_gf rfl rfl ?_
        refine WO_gf rfl rfl ?_
        refine WO_gf rfl rfl ?_
        refine WO_gf rfl rfl ?_
        refine WO_gf rfl rfl ?_
        refine WO_gf rfl rfl ?_
        refine WO_gf rfl rfl ?_
        refine WO_pick (v := .s (.bool _)) rfl rfl ?_
        refine WO_mv (v := .s (.bool _)) rfl ?_
        refine WO_gf rfl rfl ?_
        refine WO_gf rfl rfl ?_
        refine WO_gf rfl rfl ?_
        refine WO_gf rfl rfl ?_
        refine WO_gf rfl rfl ?_
        refine WO_gf rfl rfl ?_
        refine WO_gf rfl rfl ?_
        refine WO_gf rfl rfl ?_
        refine WO_gf rfl rfl ?_
        refine WO_pick (v := .s (.bool _)) rfl rfl ?_
        refine WO_mv (v := .s (.bool _)) rfl ?_
        refine WO_nil ?_
        refine WP_ret ?_
        refine ⟨_, RS_tmp (v := .s (.bool _)) rfl (RS_nil), ?_⟩
        refine congrArg (fun b => V.s (S.bool b)) ?_
        rw [Bool.eq_iff_iff]
        try simp only [eq_two, ovA2.1, ovA2.2, ovK.1, ovK.2, cond_false, cond_true] at *
        simp only [overOK, standM, decide_eq_true_eq, Bool.false_eq_true, false_iff, true_iff, dp, Nat.add_zero, sqI] at *
        omega
      ·try simp only [NM] at h45
       try simp only [eq_two, decide_eq_true_eq, decide_eq_false_iff_not] at h45
       refine WO_gf rfl rfl ?_
       refine WO_gf rfl rfl ?_
       refine WO_gf rfl rfl ?_
       refine WO_gf rfl rfl ?_
       refine WO_gf rfl rfl ?_
       refine WO_gf rfl rfl ?_
       refine WO_pick (v := .s (.bool _)) rfl rfl ?_
       refine WO_mv (v := .s (.bool _)) rfl ?_
       refine WO_gf rfl rfl ?_
       refine WO_gf rfl rfl ?_
       refine WO_gf rfl rfl ?_
       refine WO_gf rfl rfl ?_
       refine WO_gf rfl rfl ?_
       refine WO_gf rfl rfl ?_
       refine WO_gf rfl rfl ?_
       refine WO_gf rfl rfl ?_
       refine WO_pick (v := .s (.bool _)) rfl rfl ?_
       refine WO_mv (v := .s (.bool _)) rfl ?_
       refine WO_gf rfl rfl ?_
       refine WO_gf rfl rfl ?_
       refine WO_gf rfl rfl ?_
       refine WO_gf rfl rfl ?_
       refine WO_gf rfl rfl ?_
       refine WO_gf rfl rfl ?_
       refine WO_gf rfl rfl ?_
       refine WO_gf rfl rfl ?_
       refine WO_gf rfl rfl ?_
       refine WO_pick (v := .s (.bool _)) rfl rfl ?_
       refine WO_mv (v := .s (.bool _)) rfl ?_
       refine WO_nil ?_
       refine WP_ret ?_
       refine ⟨_, RS_tmp (v := .s (.bool _)) rfl (RS_nil), ?_⟩
       refine congrArg (fun b => V.s (S.bool b)) ?_
       rw [Bool.eq_iff_iff]
       try simp only [eq_two, ovA2.1, ovA2.2, ovK.1, ovK.2, cond_false, cond_true] at *
       simp only [overOK, standM, decide_eq_true_eq, Bool.false_eq_true, false_iff, true_iff, dp, Nat.add_zero, sqI] at *
       omega
     ·try simp only [NM] at h44
      try simp only [eq_two, decide_eq_true_eq, decide_eq_false_iff_not] at h44
      refine WP_skip ?_
      refine WP_seq ?_
      refine WP_ops ?_
      refine WO_fa (o' := 130) rfl rfl rfl ?_
      refine WO_ldI (x := P 130) rfl rfl (.tail _ (.head _)) (rfl) ?_
      refine WO_quo rfl rfl (by omega) ?_
      refine WO_mv (v := .s (.int _ _)) rfl ?_
      refine WO_bin (r := .bool _) rfl rfl rfl ?_
      refine WO_mv (v := .s (.bool _)) rfl ?_
      refine WO_case (t := 32) rfl (fun h48 => ?_) (fun h48 => ?_)
      ·try simp only [NM] at h48
       try simp only [eq_two, decide_eq_true_eq, decide_eq_false_iff_not] at h48
       refine WO_gt rfl ?_
       refine WO_fa (o' := 130) rfl rfl rfl ?_
       refine WO_gt rfl ?_
       refine WO_ldI (x := P 130) rfl rfl (.tail _ (.head _)) (rfl) ?_
       refine WO_gt rfl ?_
       refine WO_fa (o' := 0) rfl rfl rfl ?_
       refine WO_gt rfl ?_
       refine WO_ixa rfl rfl rfl (by omega) ?_
       refine WO_gt rfl ?_
       first | refine WO_ldA0 rfl rfl (.tail _ (.head _)) ?_ | refine WO_ldAI rfl rfl (.tail _ (.head _)) ?_
       refine WO_gt rfl ?_
       refine WO_call0 rfl (RF_of (none_run _)) rfl rfl rfl ?_
       refine WO_pick (v := .s (.bool _)) rfl rfl ?_
       refine WO_mv (v := .s (.bool _)) rfl ?_
       refine WO_case (t := 40) rfl (fun h49 => ?_) (fun h49 => ?_)
       ·try simp only [NM] at h49
        try simp only [eq_two, decide_eq_true_eq, decide_eq_false_iff_not] at h49
        refine WO_gt rfl ?_
        refine WO_fa (o' := 130) rfl rfl rfl ?_
        refine WO_gt rfl ?_
        refine WO_ldI (x := P 130) rfl rfl (.tail _ (.head _)) (rfl) ?_
        refine WO_gt rfl ?_
        refine WO_mv (v := .s (.int _ _)) rfl ?_
        refine WO_gt rfl ?_
        refine WO_add rfl rfl (by omega) ?_
        try rw [show P 130 + -8 = P 130 - 8 from rfl]
        refine WO_gt rfl ?_
        refine WO_fa (o' := 0) rfl rfl rfl ?_
        refine WO_gt rfl ?_
        refine WO_ixa rfl rfl rfl (by omega) ?_
        refine WO_gt rfl ?_
        first | refine WO_ldA0 rfl rfl (.tail _ (.head _)) ?_ | refine WO_ldAI rfl rfl (.tail _ (.head _)) ?_
        refine WO_gt rfl ?_
        refine WO_call0 rfl (RF_of (none_run _)) rfl rfl rfl ?_
        refine WO_pick (v := .s (.bool _)) rfl rfl ?_
        refine WO_mv (v := .s (.bool _)) rfl ?_
        refine WO_case (t := 50) rfl (fun h50 => ?_) (fun h50 => ?_)
        ·try simp only [NM] at h50
         try simp only [eq_two, decide_eq_true_eq, decide_eq_false_iff_not] at h50
         refine WO_gt rfl ?_
         refine WO_fa (o' := 130) rfl rfl rfl ?_
         refine WO_gt rfl ?_
         refine WO_ldI (x := P 130) rfl rfl (.tail _ (.head _)) (rfl) ?_
         refine WO_gt rfl ?_
         refine WO_mv (v := .s (.int _ _)) rfl ?_
         refine WO_gt rfl ?_
         refine WO_sub rfl rfl (by omega) ?_
         try rw [show P 130 - -8 = P 130 + 8 by omega]
         refine WO_gt rfl ?_
         refine WO_fa (o' := 0) rfl rfl rfl ?_
         refine WO_gt rfl ?_
         refine WO_ixa rfl rfl rfl (by omega) ?_
         refine WO_gt rfl ?_
         first | refine WO_ldA0 rfl rfl (.tail _ (.head _)) ?_ | refine WO_ldAI rfl rfl (.tail _ (.head _)) ?_
         refine WO_gt rfl ?_
         first | refine WO_ldA0 rfl rfl (.head _) ?_ | refine WO_ldAI rfl rfl (.head _) ?_
         refine WO_gt rfl ?_
         refine WO_eqa rfl rfl ?_
         refine WO_pick (v := .s (.bool _)) rfl rfl ?_
         refine WO_mv (v := .s (.bool _)) rfl ?_
         refine WO_nil ?_
         refine WP_ret ?_
         refine ⟨_, RS_tmp (v := .s (.bool _)) rfl (RS_nil), ?_⟩
         refine congrArg (fun b => V.s (S.bool b)) ?_
         rw [Bool.eq_iff_iff]
         try simp only [eq_two, ovA2.1, ovA2.2, ovK.1, ovK.2, cond_false, cond_true] at *
         simp only [overOK, standM, decide_eq_true_eq, Bool.false_eq_true, false_iff, true_iff, dp, Nat.add_zero, sqI] at *
         omega
        ·try simp only [NM] at h50
         try simp only [eq_two, decide_eq_true_eq, decide_eq_false_iff_not] at h50
         refine WO_gf rfl rfl ?_
         refine WO_gf rfl rfl ?_
         refine WO_gf rfl rfl ?_
         refine WO_gf rfl rfl ?_
         refine WO_gf rfl rfl ?_
         refine WO_gf rfl rfl ?_
         refine WO_gf rfl rfl ?_
         refine WO_gf rfl rfl ?_
         refine WO_gf rfl rfl ?_
         refine WO_pick (v := .s (.bool _)) rfl rfl ?_
         refine WO_mv (v := .s (.bool _)) rfl ?_
         refine WO_nil ?_
         refine WP_ret ?_
         refine ⟨_, RS_tmp (v := .s (.bool _)) rfl (RS_nil), ?_⟩
         refine congrArg (fun b => V.s (S.bool b)) ?_
         rw [Bool.eq_iff_iff]
         try simp only [eq_two, ovA2.1, ovA2.2, ovK.1, ovK.2, cond_false, cond_true] at *
         simp only [overOK, standM, decide_eq_true_eq, Bool.false_eq_true, false_iff, true_iff, dp, Nat.add_zero, sqI] at *
         omega
       ·try simp only [NM] at h49
        try simp only [eq_two, decide_eq_true_eq, decide_eq_false_iff_not] at h49
        refine WO_gf rfl rfl ?_
        refine WO_gf rfl rfl ?_
        refine WO_gf rfl rfl ?_
        refine WO_gf rfl rfl ?_
        refine WO_gf rfl rfl ?_
        refine WO_gf rfl rfl ?_
        refine WO_gf rfl rfl ?_
        refine WO_gf rfl rfl ?_
        refine WO_pick (v := .s (.bool _)) rfl rfl ?_
        refine WO_mv (v := .s (.bool _)) rfl ?_
        refine WO_gf rfl rfl ?_
        refine WO_gf rfl rfl ?_
        refine WO_gf rfl rfl ?_
        refine WO_gf rfl rfl ?_
        refine WO_gf rfl rfl ?_
        refine WO_gf rfl rfl ?_
        refine WO_gf rfl rfl ?_
        refine WO_gf rfl rfl ?_
        refine WO_gf rfl rfl ?_
        refine WO_pick (v := .s (.bool _)) rfl rfl ?_
        refine WO_mv (v := .s (.bool _)) rfl ?_
        refine WO_nil ?_
        refine WP_ret ?_
        refine ⟨_, RS_tmp (v := .s (.bool _)) rfl (RS_nil), ?_⟩
        refine congrArg (fun b => V.s (S.bool b)) ?_
        rw [Bool.eq_iff_iff]
        try simp only [eq_two, ovA2.1, ovA2.2, ovK.1, ovK.2, cond_false, cond_true] at *
        simp only [overOK, standM, decide_eq_true_eq, Bool.false_eq_true, false_iff, true_iff, dp, Nat.add_zero, sqI] at *
        omega
      ·try simp only [NM] at h48
       try simp only [eq_two, decide_eq_true_eq, decide_eq_false_iff_not] at h48
       refine WO_gf rfl rfl ?_
       refine WO_gf rfl rfl ?_
       refine WO_gf rfl rfl ?_
       refine WO_gf rfl rfl ?_
       refine WO_gf rfl rfl ?_
       refine WO_gf rfl rfl ?_
       refine WO_pick (v := .s (.bool _)) rfl rfl ?_
       refine WO_mv (v := .s (.bool _)) rfl ?_
       refine WO_gf rfl rfl ?_
       refine WO_gf rfl rfl ?_
       refine WO_gf rfl rfl ?_
       refine WO_gf rfl rfl ?_
       refine WO_gf rfl rfl ?_
       refine WO_gf rfl rfl ?_
       refine WO_gf rfl rfl ?_
       refine WO_gf rfl rfl ?_
       refine WO_pick (v := .s (.bool _)) rfl rfl ?_
       refine WO_mv (v := .s (.bool _)) rfl ?_
       refine WO_gf rfl rfl ?_
       refine WO_gf rfl rfl ?_
       refine WO_gf rfl rfl ?_
       refine WO_gf rfl rfl ?_
       refine WO_gf rfl rfl ?_
       refine WO_gf rfl rfl ?_
       refine WO_gf rfl rfl ?_
       refine WO_gf rfl rfl ?_
       refine WO_gf rfl rfl ?_
       refine WO_pick (v := .s (.bool _)) rfl rfl ?_
       refine WO_mv (v := .s (.bool _)) rfl ?_
       refine WO_nil ?_
       refine WP_ret ?_
       refine ⟨_, RS_tmp (v := .s (.bool _)) rfl (RS_nil), ?_⟩
       refine congrArg (fun b => V.s (S.bool b)) ?_
       rw [Bool.eq_iff_iff]
       try simp only [eq_two, ovA2.1, ovA2.2, ovK.1, ovK.2, cond_false, cond_true] at *
       simp only [overOK, standM, decide_eq_true_eq, Bool.false_eq_true, false_iff, true_iff, dp, Nat.add_zero, sqI] at *
       omega
theorem kM_same {P Q : Nat → Int} (h : ∀ i, i < 128 → P i = Q i) (c : Int) : ∀ n : Nat, n ≤ 64 → kM P c n = kM Q c n
  | 0, _ => rfl
  | n + 1, hn => by
    have hq : sqI n = 0 + (n : Int).toNat * 2 := rfl
    unfold kM
    rw [kM_same h c n (by omega), h (sqI n) (by omega), h (sqI n + 1) (by omega)]
theorem okM_same {P Q : Nat → Int} (h : ∀ i, i < 128 → P i = Q i) {s : Nat} (hs : s < 64) : okM P s = okM Q s := by
  have hq : sqI s = 0 + (s : Int).toNat * 2 := rfl
  unfold okM
  rw [h (sqI s) (by omega), h (sqI s + 1) (by omega)]
theorem piecesM_same {P Q : Nat → Int} (h : ∀ i, i < 133 → P i = Q i) : piecesM P = piecesM Q := by
  have hl : ∀ i, i < 128 → P i = Q i := fun i hi => h i (by omega)
  have ho : (∀ s : Nat, s < 64 → okM P s) ↔ (∀ s : Nat, s < 64 → okM Q s) := ⟨fun a s hs => (okM_same hl hs) ▸ a s hs, fun a s hs => (okM_same hl hs).symm ▸ a s hs⟩
  unfold piecesM
  rw [Bool.eq_iff_iff, decide_eq_true_eq, decide_eq_true_eq, ho, kM_same hl 0 64 (by omega), kM_same hl 1 64 (by omega), h 128 (by omega)]
theorem standM_same {P Q : Nat → Int} (h : ∀ i, i < 133 → P i = Q i) {x k c : Int} (hx : 0 ≤ x ∧ x < 64) : standM P x k c = standM Q x k c := by
  have hq : sqI x = 0 + x.toNat * 2 := rfl
  unfold standM
  rw [h (sqI x) (by omega), h (sqI x + 1) (by omega)]
theorem homeM_same {P Q : Nat → Int} (h : ∀ i, i < 133 → P i = Q i) {s a b : Int} (ha : 0 ≤ a ∧ a < 64) (hb : 0 ≤ b ∧ b < 64) : homeM P s a b = homeM Q s a b := by
  have hq : sqI a = 0 + a.toNat * 2 := rfl
  have hq2 : sqI b = 0 + b.toNat * 2 := rfl
  unfold homeM
  rw [h (sqI a) (by omega), h (sqI a + 1) (by omega), h (sqI b) (by omega), h (sqI b + 1) (by omega)]
theorem castlesM_same {P Q : Nat → Int} (h : ∀ i, i < 133 → P i = Q i) : castlesM P = castlesM Q := by
  unfold castlesM
  rw [h 129 (by omega), homeM_same h (by omega) (by omega), homeM_same h (by omega) (by omega), homeM_same h (by omega) (by omega), homeM_same h (by omega) (by omega)]
theorem overOK_same {P Q : Nat → Int} (h : ∀ i, i < 133 → P i = Q i) : overOK P = overOK Q := by
  unfold overOK
  rw [h 130 (by omega), h 131 (by omega), h 128 (by omega)]
  by_cases hx : (0 ≤ Q 130 ∧ Q 130 < 64) ∧ (Q 130 / 8 = 2 ∨ Q 130 / 8 = 5)
  · rw [standM_same h (x := Q 130) (by omega), standM_same h (x := Q 130 - 8) (by omega), standM_same h (x := Q 130 + 8) (by omega), standM_same h (x := Q 130 + 8) (by omega), standM_same h (x := Q 130 - 8) (by omega)]
  · rw [Bool.eq_iff_iff, decide_eq_true_eq, decide_eq_true_eq]
    constructor
    · rintro (e | ⟨e, _, ⟨_, f, _⟩ | ⟨_, f, _⟩⟩)
      · exact .inl e
      · exact absurd ⟨e, .inl f⟩ hx
      · exact absurd ⟨e, .inr f⟩ hx
    · rintro (e | ⟨e, _, ⟨_, f, _⟩ | ⟨_, f, _⟩⟩)
      · exact .inl e
      · exact absurd ⟨e, .inl f⟩ hx
      · exact absurd ⟨e, .inr f⟩ hx
theorem cut_same (P : Nat → Int) : ∀ i, i < 133 → ovA (fun _ => 0) 0 133 (ovA (fun _ => 0) 0 133 P) i = P i := fun i hi => by
  rw [ovA_at (by omega), Nat.sub_zero, ovA_at (by omega), Nat.sub_zero]
theorem right_is {P : Nat → Int} {a b c r : Bool} (ha : a = piecesM P) (hb : a = true → b = castlesM P) (hc : a = true → b = true → c = overOK P) (hr : r = (a && b && c && decide (0 ≤ P 131 ∧ P 131 ≤ 1024 ∧ 1 ≤ P 132 ∧ P 132 ≤ 16384))) : r = rightM P := by
  subst hr ha
  unfold rightM
  cases hp : piecesM P with
  | false => simp
  | true =>
    have hb := hb hp
    subst hb
    cases hq : castlesM P with
    | false => simp
    | true =>
      have hc := hc hp hq
      subst hc
      simp

theorem Right_run (P : Nat → Int) : WR AM 56 [.agg 133 (ia P)] [] (fun v _ _ => v = .s (.bool (rightM P))) := by
 refine WR_fn (a := a56) rfl rfl (entryF _) (entry_E (Nat.le_of_ble_eq_true rfl)) (m := 0) rfl ?_
 refine WP_seq ?_
 refine WP_ops ?_
 refine WO_boxA rfl ?_
 refine WO_mv rfl ?_
 refine WO_nil ?_
 refine WP_seq ?_
 refine WP_ops ?_
 first | refine WO_ldA0 rfl rfl (.head _) ?_ | refine WO_ldAI rfl rfl (.head _) ?_
 refine WO_buildI rfl (.agg rfl .nil) ?_
 refine WO_allocI ?_
 refine WO_stA rfl rfl rfl rfl .here ?_
 refine WO_nil ?_
 refine WP_seq ?_
 refine WP_ops ?_
 first | refine WO_ldA0 rfl rfl (.head _) ?_ | refine WO_ldAI rfl rfl (.head _) ?_
 obtain ⟨bp, hbp⟩ : ∃ b, b = piecesM P := ⟨_, rfl⟩
 have hP := RF_of (pieces_ok (ovA (fun _ => 0) 0 133 (ovA (fun _ => 0) 0 133 P)))
 rw [piecesM_same (cut_same P), ← hbp] at hP
 refine WO_call0 rfl (hP) rfl rfl rfl ?_
 refine WO_mv (v := .s (.bool _)) rfl ?_
 refine WO_case (t := 8) rfl (fun h51 => ?_) (fun h51 => ?_)
 ·try simp only [NM] at h51
  refine WO_gt rfl ?_
  first | refine WO_ldA0 rfl rfl (.head _) ?_ | refine WO_ldAI rfl rfl (.head _) ?_
  refine WO_gt rfl ?_
  obtain ⟨bc, hbc⟩ : ∃ b, b = castlesM P := ⟨_, rfl⟩
  have hC := RF_of (castles_ok (ovA (fun _ => 0) 0 133 (ovA (fun _ => 0) 0 133 P)))
  rw [castlesM_same (cut_same P), ← hbc] at hC
  refine WO_call0 rfl (hC) rfl rfl rfl ?_
  refine WO_pick (v := .s (.bool _)) rfl rfl ?_
  refine WO_mv (v := .s (.bool _)) rfl ?_
  refine WO_case (t := 12) rfl (fun h52 => ?_) (fun h52 => ?_)
  ·try simp only [NM] at h52
   refine WO_gt rfl ?_
   first | refine WO_ldA0 rfl rfl (.head _) ?_ | refine WO_ldAI rfl rfl (.head _) ?_
   refine WO_gt rfl ?_
   have hbt : bp = true := by assumption
   have hs := (pieces_is (P := P) (by rw [← hbp]; exact hbt)).2.2.2
   obtain ⟨bo, hbo⟩ : ∃ b, b = overOK P := ⟨_, rfl⟩
   have hO := RF_of (over_ok (ovA (fun _ => 0) 0 133 (ovA (fun _ => 0) 0 133 P)) hs)
   rw [overOK_same (cut_same P), ← hbo] at hO
   refine WO_call0 rfl (hO) rfl rfl rfl ?_
   refine WO_pick (v := .s (.bool _)) rfl rfl ?_
   refine WO_mv (v := .s (.bool _)) rfl ?_
   refine WO_case (t := 16) rfl (fun h53 => ?_) (fun h53 => ?_)
   ·try simp only [NM] at h53
    refine WO_gt rfl ?_
    refine WO_fa (o' := 131) rfl rfl rfl ?_
    refine WO_gt rfl ?_
    refine WO_ldI (x := P 131) rfl rfl (.tail _ (.head _)) (rfl) ?_
    refine WO_gt rfl ?_
    refine WO_bin (r := .bool _) rfl rfl rfl ?_
    refine WO_pick (v := .s (.bool _)) rfl rfl ?_
    refine WO_mv (v := .s (.bool _)) rfl ?_
    refine WO_case (t := 21) rfl (fun h54 => ?_) (fun h54 => ?_)
    ·try simp only [NM] at h54
     refine WO_gt rfl ?_
     refine WO_fa (o' := 131) rfl rfl rfl ?_
     refine WO_gt rfl ?_
     refine WO_ldI (x := P 131) rfl rfl (.tail _ (.head _)) (rfl) ?_
     refine WO_gt rfl ?_
     refine WO_bin (r := .bool _) rfl rfl rfl ?_
     refine WO_pick (v := .s (.bool _)) rfl rfl ?_
     refine WO_mv (v := .s (.bool _)) rfl ?_
     refine WO_case (t := 26) rfl (fun h55 => ?_) (fun h55 => ?_)
     ·try simp only [NM] at h55
      refine WO_gt rfl ?_
      refine WO_fa (o' := 132) rfl rfl rfl ?_
      refine WO_gt rfl ?_
      refine WO_ldI (x := P 132) rfl rfl (.tail _ (.head _)) (rfl) ?_
      refine WO_gt rfl ?_
      refine WO_bin (r := .bool _) rfl rfl rfl ?_
      refine WO_pick (v := .s (.bool _)) rfl rfl ?_
      refine WO_mv (v := .s (.bool _)) rfl ?_
      refine WO_case (t := 31) rfl (fun h56 => ?_) (fun h56 => ?_)
      ·try simp only [NM] at h56
       refine WO_gt rfl ?_
       refine WO_fa (o' := 132) rfl rfl rfl ?_
       refine WO_gt rfl ?_
       refine WO_ldI (x := P 132) rfl rfl (.tail _ (.head _)) (rfl) ?_
       refine WO_gt rfl ?_
       refine WO_bin (r := .bool _) rfl rfl rfl ?_
       refine WO_pick (v := .s (.bool _)) rfl rfl ?_
       refine WO_mv (v := .s (.bool _)) rfl ?_
       refine WO_nil ?_
       refine WP_ret ?_
       refine ⟨_, RS_tmp (v := .s (.bool _)) rfl (RS_nil), ?_⟩
       refine congrArg (fun b => V.s (S.bool b)) (right_is (b := bc) (c := bo) hbp (fun _ => hbc) (fun _ _ => hbo) ?_)
       clear hbp hbc hbo hP hC hO
       first | (simp [*]; done) | (subst_vars; simp only [Bool.true_and]; rw [Bool.eq_iff_iff]; simp only [decide_eq_true_eq, Bool.false_eq_true, false_iff, true_iff]; omega)
      ·try simp only [NM] at h56
       refine WO_gf rfl rfl ?_
       refine WO_gf rfl rfl ?_
       refine WO_gf rfl rfl ?_
       refine WO_pick (v := .s (.bool _)) rfl rfl ?_
       refine WO_mv (v := .s (.bool _)) rfl ?_
       refine WO_nil ?_
       refine WP_ret ?_
       refine ⟨_, RS_tmp (v := .s (.bool _)) rfl (RS_nil), ?_⟩
       refine congrArg (fun b => V.s (S.bool b)) (right_is (b := bc) (c := bo) hbp (fun _ => hbc) (fun _ _ => hbo) ?_)
       clear hbp hbc hbo hP hC hO
       first | (simp [*]; done) | (subst_vars; simp only [Bool.true_and]; rw [Bool.eq_iff_iff]; simp only [decide_eq_true_eq, Bool.false_eq_true, false_iff, true_iff]; omega)
     ·try simp only [NM] at h55
      refine WO_gf rfl rfl ?_
      refine WO_gf rfl rfl ?_
      refine WO_gf rfl rfl ?_
      refine WO_pick (v := .s (.bool _)) rfl rfl ?_
      refine WO_mv (v := .s (.bool _)) rfl ?_
      refine WO_gf rfl rfl ?_
      refine WO_gf rfl rfl ?_
      refine WO_gf rfl rfl ?_
      refine WO_pick (v := .s (.bool _)) rfl rfl ?_
      refine WO_mv (v := .s (.bool _)) rfl ?_
      refine WO_nil ?_
      refine WP_ret ?_
      refine ⟨_, RS_tmp (v := .s (.bool _)) rfl (RS_nil), ?_⟩
      refine congrArg (fun b => V.s (S.bool b)) (right_is (b := bc) (c := bo) hbp (fun _ => hbc) (fun _ _ => hbo) ?_)
      clear hbp hbc hbo hP hC hO
      first | (simp [*]; done) | (subst_vars; simp only [Bool.true_and]; rw [Bool.eq_iff_iff]; simp only [decide_eq_true_eq, Bool.false_eq_true, false_iff, true_iff]; omega)
    ·try simp only [NM] at h54
     refine WO_gf rfl rfl ?_
     refine WO_gf rfl rfl ?_
     refine WO_gf rfl rfl ?_
     refine WO_pick (v := .s (.bool _)) rfl rfl ?_
     refine WO_mv (v := .s (.bool _)) rfl ?_
     refine WO_gf rfl rfl ?_
     refine WO_gf rfl rfl ?_
     refine WO_gf rfl rfl ?_
     refine WO_pick (v := .s (.bool _)) rfl rfl ?_
     refine WO_mv (v := .s (.bool _)) rfl ?_
     refine WO_gf rfl rfl ?_
     refine WO_gf rfl rfl ?_
     refine WO_gf rfl rfl ?_
     refine WO_pick (v := .s (.bool _)) rfl rfl ?_
     refine WO_mv (v := .s (.bool _)) rfl ?_
     refine WO_nil ?_
     refine WP_ret ?_
     refine ⟨_, RS_tmp (v := .s (.bool _)) rfl (RS_nil), ?_⟩
     refine congrArg (fun b => V.s (S.bool b)) (right_is (b := bc) (c := bo) hbp (fun _ => hbc) (fun _ _ => hbo) ?_)
     clear hbp hbc hbo hP hC hO
     first | (simp [*]; done) | (subst_vars; simp only [Bool.true_and]; rw [Bool.eq_iff_iff]; simp only [decide_eq_true_eq, Bool.false_eq_true, false_iff, true_iff]; omega)
   ·try simp only [NM] at h53
    refine WO_gf rfl rfl ?_
    refine WO_gf rfl rfl ?_
    refine WO_gf rfl rfl ?_
    refine WO_pick (v := .s (.bool _)) rfl rfl ?_
    refine WO_mv (v := .s (.bool _)) rfl ?_
    refine WO_gf rfl rfl ?_
    refine WO_gf rfl rfl ?_
    refine WO_gf rfl rfl ?_
    refine WO_pick (v := .s (.bool _)) rfl rfl ?_
    refine WO_mv (v := .s (.bool _)) rfl ?_
    refine WO_gf rfl rfl ?_
    refine WO_gf rfl rfl ?_
    refine WO_gf rfl rfl ?_
    refine WO_pick (v := .s (.bool _)) rfl rfl ?_
    refine WO_mv (v := .s (.bool _)) rfl ?_
    refine WO_gf rfl rfl ?_
    refine WO_gf rfl rfl ?_
    refine WO_gf rfl rfl ?_
    refine WO_pick (v := .s (.bool _)) rfl rfl ?_
    refine WO_mv (v := .s (.bool _)) rfl ?_
    refine WO_nil ?_
    refine WP_ret ?_
    refine ⟨_, RS_tmp (v := .s (.bool _)) rfl (RS_nil), ?_⟩
    refine congrArg (fun b => V.s (S.bool b)) (right_is (b := bc) (c := bo) hbp (fun _ => hbc) (fun _ _ => hbo) ?_)
    clear hbp hbc hbo hP hC hO
    first | (simp [*]; done) | (subst_vars; simp only [Bool.true_and]; rw [Bool.eq_iff_iff]; simp only [decide_eq_true_eq, Bool.false_eq_true, false_iff, true_iff]; omega)
  ·try simp only [NM] at h52
   refine WO_gf rfl rfl ?_
   refine WO_gf rfl rfl ?_
   refine WO_pick (v := .s (.bool _)) rfl rfl ?_
   refine WO_mv (v := .s (.bool _)) rfl ?_
   refine WO_gf rfl rfl ?_
   refine WO_gf rfl rfl ?_
   refine WO_gf rfl rfl ?_
   refine WO_pick (v := .s (.bool _)) rfl rfl ?_
   refine WO_mv (v := .s (.bool _)) rfl ?_
   refine WO_gf rfl rfl ?_
   refine WO_gf rfl rfl ?_
   refine WO_gf rfl rfl ?_
   refine WO_pick (v := .s (.bool _)) rfl rfl ?_
   refine WO_mv (v := .s (.bool _)) rfl ?_
   refine WO_gf rfl rfl ?_
   refine WO_gf rfl rfl ?_
   refine WO_gf rfl rfl ?_
   refine WO_pick (v := .s (.bool _)) rfl rfl ?_
   refine WO_mv (v := .s (.bool _)) rfl ?_
   refine WO_gf rfl rfl ?_
   refine WO_gf rfl rfl ?_
   refine WO_gf rfl rfl ?_
   refine WO_pick (v := .s (.bool _)) rfl rfl ?_
   refine WO_mv (v := .s (.bool _)) rfl ?_
   refine WO_nil ?_
   refine WP_ret ?_
   refine ⟨_, RS_tmp (v := .s (.bool _)) rfl (RS_nil), ?_⟩
   exact congrArg (fun b => V.s (S.bool b)) (right_is (b := bc) (c := overOK P) hbp (fun _ => hbc) (fun _ _ => rfl) (by clear hbp hbc hP hC; simp [*]))
 ·try simp only [NM] at h51
  refine WO_gf rfl rfl ?_
  refine WO_gf rfl rfl ?_
  refine WO_pick (v := .s (.bool _)) rfl rfl ?_
  refine WO_mv (v := .s (.bool _)) rfl ?_
  refine WO_gf rfl rfl ?_
  refine WO_gf rfl rfl ?_
  refine WO_pick (v := .s (.bool _)) rfl rfl ?_
  refine WO_mv (v := .s (.bool _)) rfl ?_
  refine WO_gf rfl rfl ?_
  refine WO_gf rfl rfl ?_
  refine WO_gf rfl rfl ?_
  refine WO_pick (v := .s (.bool _)) rfl rfl ?_
  refine WO_mv (v := .s (.bool _)) rfl ?_
  refine WO_gf rfl rfl ?_
  refine WO_gf rfl rfl ?_
  refine WO_gf rfl rfl ?_
  refine WO_pick (v := .s (.bool _)) rfl rfl ?_
  refine WO_mv (v := .s (.bool _)) rfl ?_
  refine WO_gf rfl rfl ?_
  refine WO_gf rfl rfl ?_
  refine WO_gf rfl rfl ?_
  refine WO_pick (v := .s (.bool _)) rfl rfl ?_
  refine WO_mv (v := .s (.bool _)) rfl ?_
  refine WO_gf rfl rfl ?_
  refine WO_gf rfl rfl ?_
  refine WO_gf rfl rfl ?_
  refine WO_pick (v := .s (.bool _)) rfl rfl ?_
  refine WO_mv (v := .s (.bool _)) rfl ?_
  refine WO_nil ?_
  refine WP_ret ?_
  refine ⟨_, RS_tmp (v := .s (.bool _)) rfl (RS_nil), ?_⟩
  exact congrArg (fun b => V.s (S.bool b)) (right_is (b := castlesM P) (c := overOK P) hbp (fun _ => rfl) (fun _ _ => rfl) (by clear hbp hP; simp [*]))
theorem rRight_run (P : Nat → Int) : WR AM 72 [.agg 133 (ia P)] [] (fun v _ _ => v = .s (.bool (rightM P))) := by
 refine WR_fn (a := a72) rfl rfl (entryF _) (entry_E (Nat.le_of_ble_eq_true rfl)) (m := 0) rfl ?_
 refine WP_seq ?_
 refine WP_ops ?_
 refine WO_boxA rfl ?_
 refine WO_mv rfl ?_
 refine WO_nil ?_
 refine WP_seq ?_
 refine WP_ops ?_
 first | refine WO_ldA0 rfl rfl (.head _) ?_ | refine WO_ldAI rfl rfl (.head _) ?_
 obtain ⟨bp, hbp⟩ : ∃ b, b = piecesM P := ⟨_, rfl⟩
 have hP := RF_of (rpieces_ok P)
 rw [← hbp] at hP
 refine WO_call0 rfl (hP) rfl rfl rfl ?_
 refine WO_mv (v := .s (.bool _)) rfl ?_
 refine WO_case (t := 5) rfl (fun h57 => ?_) (fun h57 => ?_)
 ·try simp only [NM] at h57
  refine WO_gt rfl ?_
  first | refine WO_ldA0 rfl rfl (.head _) ?_ | refine WO_ldAI rfl rfl (.head _) ?_
  refine WO_gt rfl ?_
  obtain ⟨bc, hbc⟩ : ∃ b, b = castlesM P := ⟨_, rfl⟩
  have hC := RF_of (rcastles_ok P)
  rw [← hbc] at hC
  refine WO_call0 rfl (hC) rfl rfl rfl ?_
  refine WO_pick (v := .s (.bool _)) rfl rfl ?_
  refine WO_mv (v := .s (.bool _)) rfl ?_
  refine WO_case (t := 9) rfl (fun h58 => ?_) (fun h58 => ?_)
  ·try simp only [NM] at h58
   refine WO_gt rfl ?_
   first | refine WO_ldA0 rfl rfl (.head _) ?_ | refine WO_ldAI rfl rfl (.head _) ?_
   refine WO_gt rfl ?_
   have hbt : bp = true := by assumption
   have hs := (pieces_is (P := P) (by rw [← hbp]; exact hbt)).2.2.2
   obtain ⟨bo, hbo⟩ : ∃ b, b = overOK P := ⟨_, rfl⟩
   have hO := RF_of (rover_ok P hs)
   rw [← hbo] at hO
   refine WO_call0 rfl (hO) rfl rfl rfl ?_
   refine WO_pick (v := .s (.bool _)) rfl rfl ?_
   refine WO_mv (v := .s (.bool _)) rfl ?_
   refine WO_case (t := 13) rfl (fun h59 => ?_) (fun h59 => ?_)
   ·try simp only [NM] at h59
    refine WO_gt rfl ?_
    refine WO_fa (o' := 131) rfl rfl rfl ?_
    refine WO_gt rfl ?_
    refine WO_ldI rfl rfl (.head _) rfl ?_
    refine WO_gt rfl ?_
    refine WO_bin (r := .bool _) rfl rfl rfl ?_
    refine WO_pick (v := .s (.bool _)) rfl rfl ?_
    refine WO_mv (v := .s (.bool _)) rfl ?_
    refine WO_case (t := 18) rfl (fun h60 => ?_) (fun h60 => ?_)
    ·try simp only [NM] at h60
     refine WO_gt rfl ?_
     refine WO_fa (o' := 131) rfl rfl rfl ?_
     refine WO_gt rfl ?_
     refine WO_ldI rfl rfl (.head _) rfl ?_
     refine WO_gt rfl ?_
     refine WO_bin (r := .bool _) rfl rfl rfl ?_
     refine WO_pick (v := .s (.bool _)) rfl rfl ?_
     refine WO_mv (v := .s (.bool _)) rfl ?_
     refine WO_case (t := 23) rfl (fun h61 => ?_) (fun h61 => ?_)
     ·try simp only [NM] at h61
      refine WO_gt rfl ?_
      refine WO_fa (o' := 132) rfl rfl rfl ?_
      refine WO_gt rfl ?_
      refine WO_ldI rfl rfl (.head _) rfl ?_
      refine WO_gt rfl ?_
      refine WO_bin (r := .bool _) rfl rfl rfl ?_
      refine WO_pick (v := .s (.bool _)) rfl rfl ?_
      refine WO_mv (v := .s (.bool _)) rfl ?_
      refine WO_case (t := 28) rfl (fun h62 => ?_) (fun h62 => ?_)
      ·try simp only [NM] at h62
       refine WO_gt rfl ?_
       refine WO_fa (o' := 132) rfl rfl rfl ?_
       refine WO_gt rfl ?_
       refine WO_ldI rfl rfl (.head _) rfl ?_
       refine WO_gt rfl ?_
       refine WO_bin (r := .bool _) rfl rfl rfl ?_
       refine WO_pick (v := .s (.bool _)) rfl rfl ?_
       refine WO_mv (v := .s (.bool _)) rfl ?_
       refine WO_nil ?_
       refine WP_ret ?_
       refine ⟨_, RS_tmp (v := .s (.bool _)) rfl (RS_nil), ?_⟩
       refine congrArg (fun b => V.s (S.bool b)) (right_is (b := bc) (c := bo) hbp (fun _ => hbc) (fun _ _ => hbo) ?_)
       clear hbp hbc hbo hP hC hO
       first | (simp [*]; done) | (subst_vars; simp only [Bool.true_and]; rw [Bool.eq_iff_iff]; simp only [decide_eq_true_eq, Bool.false_eq_true, false_iff, true_iff]; omega)
      ·try simp only [NM] at h62
       refine WO_gf rfl rfl ?_
       refine WO_gf rfl rfl ?_
       refine WO_gf rfl rfl ?_
       refine WO_pick (v := .s (.bool _)) rfl rfl ?_
       refine WO_mv (v := .s (.bool _)) rfl ?_
       refine WO_nil ?_
       refine WP_ret ?_
       refine ⟨_, RS_tmp (v := .s (.bool _)) rfl (RS_nil), ?_⟩
       refine congrArg (fun b => V.s (S.bool b)) (right_is (b := bc) (c := bo) hbp (fun _ => hbc) (fun _ _ => hbo) ?_)
       clear hbp hbc hbo hP hC hO
       first | (simp [*]; done) | (subst_vars; simp only [Bool.true_and]; rw [Bool.eq_iff_iff]; simp only [decide_eq_true_eq, Bool.false_eq_true, false_iff, true_iff]; omega)
     ·try simp only [NM] at h61
      refine WO_gf rfl rfl ?_
      refine WO_gf rfl rfl ?_
      refine WO_gf rfl rfl ?_
      refine WO_pick (v := .s (.bool _)) rfl rfl ?_
      refine WO_mv (v := .s (.bool _)) rfl ?_
      refine WO_gf rfl rfl ?_
      refine WO_gf rfl rfl ?_
      refine WO_gf rfl rfl ?_
      refine WO_pick (v := .s (.bool _)) rfl rfl ?_
      refine WO_mv (v := .s (.bool _)) rfl ?_
      refine WO_nil ?_
      refine WP_ret ?_
      refine ⟨_, RS_tmp (v := .s (.bool _)) rfl (RS_nil), ?_⟩
      refine congrArg (fun b => V.s (S.bool b)) (right_is (b := bc) (c := bo) hbp (fun _ => hbc) (fun _ _ => hbo) ?_)
      clear hbp hbc hbo hP hC hO
      first | (simp [*]; done) | (subst_vars; simp only [Bool.true_and]; rw [Bool.eq_iff_iff]; simp only [decide_eq_true_eq, Bool.false_eq_true, false_iff, true_iff]; omega)
    ·try simp only [NM] at h60
     refine WO_gf rfl rfl ?_
     refine WO_gf rfl rfl ?_
     refine WO_gf rfl rfl ?_
     refine WO_pick (v := .s (.bool _)) rfl rfl ?_
     refine WO_mv (v := .s (.bool _)) rfl ?_
     refine WO_gf rfl rfl ?_
     refine WO_gf rfl rfl ?_
     refine WO_gf rfl rfl ?_
     refine WO_pick (v := .s (.bool _)) rfl rfl ?_
     refine WO_mv (v := .s (.bool _)) rfl ?_
     refine WO_gf rfl rfl ?_
     refine WO_gf rfl rfl ?_
     refine WO_gf rfl rfl ?_
     refine WO_pick (v := .s (.bool _)) rfl rfl ?_
     refine WO_mv (v := .s (.bool _)) rfl ?_
     refine WO_nil ?_
     refine WP_ret ?_
     refine ⟨_, RS_tmp (v := .s (.bool _)) rfl (RS_nil), ?_⟩
     refine congrArg (fun b => V.s (S.bool b)) (right_is (b := bc) (c := bo) hbp (fun _ => hbc) (fun _ _ => hbo) ?_)
     clear hbp hbc hbo hP hC hO
     first | (simp [*]; done) | (subst_vars; simp only [Bool.true_and]; rw [Bool.eq_iff_iff]; simp only [decide_eq_true_eq, Bool.false_eq_true, false_iff, true_iff]; omega)
   ·try simp only [NM] at h59
    refine WO_gf rfl rfl ?_
    refine WO_gf rfl rfl ?_
    refine WO_gf rfl rfl ?_
    refine WO_pick (v := .s (.bool _)) rfl rfl ?_
    refine WO_mv (v := .s (.bool _)) rfl ?_
    refine WO_gf rfl rfl ?_
    refine WO_gf rfl rfl ?_
    refine WO_gf rfl rfl ?_
    refine WO_pick (v := .s (.bool _)) rfl rfl ?_
    refine WO_mv (v := .s (.bool _)) rfl ?_
    refine WO_gf rfl rfl ?_
    refine WO_gf rfl rfl ?_
    refine WO_gf rfl rfl ?_
    refine WO_pick (v := .s (.bool _)) rfl rfl ?_
    refine WO_mv (v := .s (.bool _)) rfl ?_
    refine WO_gf rfl rfl ?_
    refine WO_gf rfl rfl ?_
    refine WO_gf rfl rfl ?_
    refine WO_pick (v := .s (.bool _)) rfl rfl ?_
    refine WO_mv (v := .s (.bool _)) rfl ?_
    refine WO_nil ?_
    refine WP_ret ?_
    refine ⟨_, RS_tmp (v := .s (.bool _)) rfl (RS_nil), ?_⟩
    refine congrArg (fun b => V.s (S.bool b)) (right_is (b := bc) (c := bo) hbp (fun _ => hbc) (fun _ _ => hbo) ?_)
    clear hbp hbc hbo hP hC hO
    first | (simp [*]; done) | (subst_vars; simp only [Bool.true_and]; rw [Bool.eq_iff_iff]; simp only [decide_eq_true_eq, Bool.false_eq_true, false_iff, true_iff]; omega)
  ·try simp only [NM] at h58
   refine WO_gf rfl rfl ?_
   refine WO_gf rfl rfl ?_
   refine WO_pick (v := .s (.bool _)) rfl rfl ?_
   refine WO_mv (v := .s (.bool _)) rfl ?_
   refine WO_gf rfl rfl ?_
   refine WO_gf rfl rfl ?_
   refine WO_gf rfl rfl ?_
   refine WO_pick (v := .s (.bool _)) rfl rfl ?_
   refine WO_mv (v := .s (.bool _)) rfl ?_
   refine WO_gf rfl rfl ?_
   refine WO_gf rfl rfl ?_
   refine WO_gf rfl rfl ?_
   refine WO_pick (v := .s (.bool _)) rfl rfl ?_
   refine WO_mv (v := .s (.bool _)) rfl ?_
   refine WO_gf rfl rfl ?_
   refine WO_gf rfl rfl ?_
   refine WO_gf rfl rfl ?_
   refine WO_pick (v := .s (.bool _)) rfl rfl ?_
   refine WO_mv (v := .s (.bool _)) rfl ?_
   refine WO_gf rfl rfl ?_
   refine WO_gf rfl rfl ?_
   refine WO_gf rfl rfl ?_
   refine WO_pick (v := .s (.bool _)) rfl rfl ?_
   refine WO_mv (v := .s (.bool _)) rfl ?_
   refine WO_nil ?_
   refine WP_ret ?_
   refine ⟨_, RS_tmp (v := .s (.bool _)) rfl (RS_nil), ?_⟩
   exact congrArg (fun b => V.s (S.bool b)) (right_is (b := bc) (c := overOK P) hbp (fun _ => hbc) (fun _ _ => rfl) (by clear hbp hbc hP hC; simp [*]))
 ·try simp only [NM] at h57
  refine WO_gf rfl rfl ?_
  refine WO_gf rfl rfl ?_
  refine WO_pick (v := .s (.bool _)) rfl rfl ?_
  refine WO_mv (v := .s (.bool _)) rfl ?_
  refine WO_gf rfl rfl ?_
  refine WO_gf rfl rfl ?_
  refine WO_pick (v := .s (.bool _)) rfl rfl ?_
  refine WO_mv (v := .s (.bool _)) rfl ?_
  refine WO_gf rfl rfl ?_
  refine WO_gf rfl rfl ?_
  refine WO_gf rfl rfl ?_
  refine WO_pick (v := .s (.bool _)) rfl rfl ?_
  refine WO_mv (v := .s (.bool _)) rfl ?_
  refine WO_gf rfl rfl ?_
  refine WO_gf rfl rfl ?_
  refine WO_gf rfl rfl ?_
  refine WO_pick (v := .s (.bool _)) rfl rfl ?_
  refine WO_mv (v := .s (.bool _)) rfl ?_
  refine WO_gf rfl rfl ?_
  refine WO_gf rfl rfl ?_
  refine WO_gf rfl rfl ?_
  refine WO_pick (v := .s (.bool _)) rfl rfl ?_
  refine WO_mv (v := .s (.bool _)) rfl ?_
  refine WO_gf rfl rfl ?_
  refine WO_gf rfl rfl ?_
  refine WO_gf rfl rfl ?_
  refine WO_pick (v := .s (.bool _)) rfl rfl ?_
  refine WO_mv (v := .s (.bool _)) rfl ?_
  refine WO_nil ?_
  refine WP_ret ?_
  refine ⟨_, RS_tmp (v := .s (.bool _)) rfl (RS_nil), ?_⟩
  exact congrArg (fun b => V.s (S.bool b)) (right_is (b := castlesM P) (c := overOK P) hbp (fun _ => rfl) (fun _ _ => rfl) (by clear hbp hP; simp [*]))
end Go.Proofs.Ytjldefmcnppdoaa
/- The walks of the chapter board: found, kings, put, turned by the document. -/
namespace Go.Am
open Go
section
variable {A : AP} {N : Nat} {f : FE} {n : Nat} {L : HA} {K : KN} {l : List I} {d : Nat}
theorem WO_slA0 {len z : Nat} {x : O} {b o z' : Nat} (hx : x.fv N f = .ptr b o z') (hz : Nat.ble (len * z) z' = true) (h0 : 0 < len) (k : WO A N l (upd f d (.sl b o len z (.ex len))) n L K) : WO A N (⟨some d, none, .p (.slA len z x none none)⟩ :: l) f n L K :=
  WO_p (v := .sl b o len z (.ex len)) (by
    simp only [pureV, ev_E, hx, bound_E, fvb, if_pos (Nat.le_of_ble_eq_true hz)]
    rw [if_pos (by omega), if_pos (by omega)]
    simp) k
theorem WO_slVx {z : Nat} {x y : O} {b o p c : Nat} {q : Int} (hx : x.fv N f = .sl b o p z (.ex c)) (hy : y.fv N f = .s (.int .i64 q)) (hq : 0 ≤ q ∧ q ≤ c) (k : WO A N l (upd f d (.sl b o q.toNat z (.ex c))) n L K) : WO A N (⟨some d, none, .p (.slV z x none (some y))⟩ :: l) f n L K :=
  WO_p (v := .sl b o q.toNat z (.ex c)) (by
    simp only [pureV, ev_E, hx, bound_E, fvb, hy, num?, if_true]
    rw [if_pos ⟨by omega, hq.1, hq.2⟩]
    simp) k
theorem WO_mkslI0 {bytes : Nat} {x y : O} {c : Int} (hx : x.fv N f = .s (.int .i64 0)) (hy : y.fv N f = .s (.int .i64 c)) (hc : 0 ≤ c ∧ c ≤ 9223372036854775807) (hr : roomy c.toNat bytes = true) (k : WO A N l (upd f d (.sl n 0 0 1 (.ex c.toNat))) (n + 1) ((n, .sc .var c.toNat (ia fun _ => 0)) :: L) K) : WO A N (⟨some d, none, .h (.mkslice 1 bytes (.one (.s (.int .i64 0))) x y)⟩ :: l) f n L K :=
  WO_h (v := .sl n 0 0 1 (.ex c.toNat)) (fun σ hσ => ⟨σ ++ [.sc .var c.toNat (ia fun _ => 0)], by
    simp only [heapV, ev_E, hx, hy, Z.size]
    rw [if_pos ⟨by omega, by omega, trivial, by omega⟩, hr]
    simp only [cond_true, Z.row, hσ.1]
    rfl, hσ.new _⟩) k
theorem WO_appendX {z bytes m p c : Nat} {s x : O} {b o b' o' : Nat} {c' : Cp} {md md' : Md} {q q' : Nat} {R R' : Nat → Int} {L' : HA} (hs : s.fv N f = .sl b o p z (.ex c)) (hx : x.fv N f = .sl b' o' m z c') (hb : (b', Blk.sc md' q' (ia R')) ∈ L) (hmd : md.mut = true) (hle : p + m ≤ c) (hm : At b (.sc md q (ia R)) (.sc md q (ia (ovA R (o + p * z) (m * z) fun i => R' (o' + i)))) L L')
    (k : WO A N l (upd f d (.sl b o (p + m) z (.ex c))) n L' K) : WO A N (⟨some d, none, .h (.append z bytes s x)⟩ :: l) f n L K :=
  WO_h (v := .sl b o (p + m) z (.ex c)) (fun σ hσ => ⟨σ.set b (.sc md q (ia (ovA R (o + p * z) (m * z) fun i => R' (o' + i)))), by
    simp only [heapV, ev_E, hs, hx, appendV, srcOf, (hσ.2.mem hb).2, if_true]
    rw [if_pos hle]
    simp only [wrV, (hσ.2.mem hm.mem).2, hmd, if_true, V.scells, Option.map_some]
    rw [← over_ia], hσ.set hm⟩) k
theorem WO_appendX0 {z bytes p c : Nat} {s x : O} {b o : Nat} {md : Md} {q : Nat} {R : Nat → Int} {L' : HA} {v : V} (hs : s.fv N f = .sl b o p z (.ex c)) (hx : x.fv N f = v) (hv : v = .snil ∨ v = .slz) (hmd : md.mut = true) (hle : p ≤ c) (hm : At b (.sc md q (ia R)) (.sc md q (ia (ovA R (o + p * z) (0 * z) fun _ => 0))) L L')
    (k : WO A N l (upd f d (.sl b o p z (.ex c))) n L' K) : WO A N (⟨some d, none, .h (.append z bytes s x)⟩ :: l) f n L K :=
  WO_h (v := .sl b o p z (.ex c)) (fun σ hσ => ⟨σ.set b (.sc md q (ia (ovA R (o + p * z) (0 * z) fun _ => 0))), by
    rcases hv with rfl | rfl <;>
    · simp only [heapV, ev_E, hs, hx, appendV, srcOf, if_true, Nat.add_zero]
      rw [if_pos hle]
      simp only [wrV, (hσ.2.mem hm.mem).2, hmd, if_true, V.scells, Option.map_some]
      rw [← over_ia]
      rfl, hσ.set hm⟩) k
end
end Go.Am

namespace Go.Proofs.Ytjldefmcnppdoaa
open Go Go.Am
set_option linter.unusedSimpArgs false
set_option linter.unusedVariables false
/-- The first of n that are so; all of them, listed. -/
def IsFst (S1 : Nat → Bool) (n : Nat) (x : Int) : Prop := (x = -1 ∧ ∀ j : Nat, j < n → S1 j = false) ∨ (∃ i : Nat, i < n ∧ x = i ∧ S1 i = true ∧ ∀ j : Nat, j < i → S1 j = false)
theorem IsFst.uniq {S1 : Nat → Bool} {n : Nat} {x y : Int} (h : IsFst S1 n x) (k : IsFst S1 n y) : x = y := by
  rcases h with ⟨rfl, h⟩ | ⟨i, hi, rfl, h1, h2⟩
  · rcases k with ⟨rfl, _⟩ | ⟨j, hj, rfl, k1, _⟩
    · rfl
    · rw [h j hj] at k1; cases k1
  · rcases k with ⟨rfl, k⟩ | ⟨j, hj, rfl, k1, k2⟩
    · rw [k i hi] at h1; cases h1
    · by_cases a : i < j
      · rw [k2 i a] at h1; cases h1
      · by_cases b : j < i
        · rw [h2 j b] at k1; cases k1
        · have : i = j := by omega
          rw [this]
def lstM (S1 : Nat → Bool) : Nat → Nat × (Nat → Int)
  | 0 => (0, fun _ => 0)
  | i + 1 => if S1 i = true then ((lstM S1 i).1 + 1, fun j => if j < (lstM S1 i).1 then (lstM S1 i).2 j else i) else lstM S1 i
theorem lstM_le (S1 : Nat → Bool) : ∀ n, (lstM S1 n).1 ≤ n
  | 0 => Nat.le_refl _
  | i + 1 => by
    have := lstM_le S1 i
    unfold lstM
    split
    · show _ + 1 ≤ _; omega
    · omega
theorem lst_no {S1 : Nat → Bool} {i : Nat} (h : S1 i = false) : lstM S1 (i + 1) = lstM S1 i := by rw [lstM, if_neg (by rw [h]; decide)]
theorem lst_yes {S1 : Nat → Bool} {i : Nat} (h : S1 i = true) : lstM S1 (i + 1) = ((lstM S1 i).1 + 1, fun j => if j < (lstM S1 i).1 then (lstM S1 i).2 j else i) := by rw [lstM, if_pos h]
theorem lst_first (S1 : Nat → Bool) : ∀ n : Nat, ((lstM S1 n).1 = 0 ∧ ∀ j : Nat, j < n → S1 j = false) ∨ (0 < (lstM S1 n).1 ∧ ∃ i : Nat, i < n ∧ (lstM S1 n).2 0 = i ∧ S1 i = true ∧ ∀ j : Nat, j < i → S1 j = false)
  | 0 => .inl ⟨rfl, fun j h => by omega⟩
  | n + 1 => by
    cases hs : S1 n with
    | false =>
      rw [lst_no hs]
      rcases lst_first S1 n with ⟨h0, h⟩ | ⟨h0, i, hi, e, h1, h2⟩
      · exact .inl ⟨h0, fun j hj => by
          by_cases q : j = n
          · subst q; exact hs
          · exact h j (by omega)⟩
      · exact .inr ⟨h0, i, by omega, e, h1, h2⟩
    | true =>
      rw [lst_yes hs]
      rcases lst_first S1 n with ⟨h0, h⟩ | ⟨h0, i, hi, e, h1, h2⟩
      · refine .inr ⟨by show 0 < _ + 1; omega, n, by omega, ?_, hs, h⟩
        show (if 0 < (lstM S1 n).1 then _ else _) = _
        rw [if_neg (by omega)]
      · refine .inr ⟨by show 0 < _ + 1; omega, i, by omega, ?_, h1, h2⟩
        show (if 0 < (lstM S1 n).1 then _ else _) = _
        rw [if_pos h0]; exact e
theorem gw_at {G R : Nat → Int} {c : Nat} {j : Nat} (h : j < c + 1) : (bif Nat.blt j (c * 1) then G (0 + j) else R (0 + (j - c * 1))) = if j < c then G j else R 0 := by
  by_cases k : j < c
  · rw [show Nat.blt j (c * 1) = true from Nat.ble_eq_true_of_le (by omega), if_pos k, Nat.zero_add]; rfl
  · have : Nat.blt j (c * 1) = false := by
      cases hb : Nat.blt j (c * 1) with
      | false => rfl
      | true => have := Nat.le_of_ble_eq_true hb; omega
    rw [this, if_neg k, show 0 + (j - c * 1) = 0 by omega]; rfl
theorem gw_lst {F R G : Nat → Int} {c : Nat} {t : Int} (h : ∀ j : Nat, j < c → F j = G j) (hr : R 0 = t) : ∀ j : Nat, j < c + 1 → (bif Nat.blt j (c * 1) then F (0 + j) else R (0 + (j - c * 1))) = if j < c then G j else t := by
  intro j hj
  rw [gw_at hj]
  by_cases k : j < c
  · rw [if_pos k, if_pos k]; exact h j k
  · rw [if_neg k, if_neg k]; exact hr
/-- A piece stands on a square of a position. -/
def stB (P X : Nat → Int) (s : Nat) : Bool := standM P s (X 0) (X 1)
theorem eq_stB {P X : Nat → Int} {i : Nat} : eqI 2 (dp P (sqI i)) X = stB P X i := by
  rw [eq_two]; rfl
theorem eq_stB2 {P X : Nat → Int} {i : Nat} : eqI 2 X (dp P (sqI i)) = stB P X i := by
  rw [eq_two, Bool.eq_iff_iff]
  show _ ↔ decide (P (sqI i) = X 0 ∧ P (sqI i + 1) = X 1) = true
  rw [decide_eq_true_eq, decide_eq_true_eq]
  constructor
  · rintro ⟨a, b⟩; exact ⟨a.symm, b.symm⟩
  · rintro ⟨a, b⟩; exact ⟨a.symm, b.symm⟩
theorem eqI_two {X Y X' Y' : Nat → Int} (h0 : X 0 = X' 0) (h1 : X 1 = X' 1) (k0 : Y 0 = Y' 0) (k1 : Y 1 = Y' 1) : eqI 2 X Y = eqI 2 X' Y' := by
  rw [eq_two, eq_two, h0, h1, k0, k1]

theorem Find_walk (P X : Nat → Int) : WR AM 58 [.agg 133 (ia P), .agg 2 (ia X)] [] (fun v _ L => ((lstM (stB P X) 64).1 = 0 ∧ v = .snil) ∨ (0 < (lstM (stB P X) 64).1 ∧ ∃ b q F, v = .sl b 0 (lstM (stB P X) 64).1 1 .whole ∧ (∀ j : Nat, j < (lstM (stB P X) 64).1 → F j = (lstM (stB P X) 64).2 j) ∧ (b, Blk.sc .grow q (ia F)) ∈ L)) := by
 refine WR_fn (a := a58) rfl rfl (entryF _) (entry_E (Nat.le_of_ble_eq_true rfl)) (m := 0) rfl ?_
 refine WP_seq ?_
 refine WP_ops ?_
 refine WO_boxA rfl ?_
 refine WO_boxA rfl ?_
 refine WO_mv rfl ?_
 refine WO_nil ?_
 refine WP_seq ?_
 refine WP_seq ?_
 refine WP_ops ?_
 refine WO_fa (o' := 0) rfl rfl rfl ?_
 first | refine WO_ldA0 rfl rfl (.tail _ (.head _)) ?_ | refine WO_ldAI rfl rfl (.tail _ (.head _)) ?_
 refine WO_mv rfl ?_
 refine WO_nil ?_
 refine WP_block ?_
 refine WP_sub (L' := [_, _]) (.cons_cons _ (.cons_cons _ .slnil)) ?_
 refine WP_loop (fun m f nn L => ∃ (i : Nat), (i ≤ 64) ∧ (m = 64 - i) ∧ (f 8 = .agg 128 (ia P)) ∧ (f 2 = .ptr 0 0 133) ∧ (f 3 = .ptr 1 0 2) ∧ (f 9 = .s (.int .i64 i)) ∧ ((((lstM (stB P X) i).1 = 0) ∧ (f 4 = .snil) ∧ (L = [(1, .sc .var 2 (ia X)), (0, .sc .var 133 (ia P))])) ∨ (∃ (b cnt q : Nat) (F : Nat → Int), (cnt = (lstM (stB P X) i).1 ∧ 0 < cnt) ∧ (∀ j : Nat, j < cnt → F j = (lstM (stB P X) i).2 j) ∧ (f 4 = .sl b 0 cnt 1 .whole) ∧ (L = (b, Blk.sc .grow q (ia F)) :: [(1, .sc .var 2 (ia X)), (0, .sc .var 133 (ia P))])))) (fun m f nb L hI => ?_) (64) ⟨0, by omega, rfl, rfl, rfl, rfl, rfl, .inl ⟨rfl, rfl, rfl⟩⟩
 obtain ⟨i, hi, hm, k8, k2, k3, k9, hI2⟩ := hI
 rcases hI2 with ⟨hc, kS, rfl⟩ | ⟨b, cnt, q, F, hc, hF, kS, rfl⟩
 ·skip
  refine WP_know (d := 8) (v := .agg 128 (ia P)) k8 ?_
  refine WP_know (d := 2) (v := .ptr 0 0 133) k2 ?_
  refine WP_know (d := 3) (v := .ptr 1 0 2) k3 ?_
  refine WP_know (d := 9) (v := .s (.int .i64 i)) k9 ?_
  refine WP_know (d := 4) (v := .snil) kS ?_
  have hle := lstM_le (stB P X) i
  refine WP_seq ?_
  refine WP_ops ?_
  refine WO_bin (r := .bool _) rfl rfl rfl ?_
  refine WO_nil ?_
  refine WP_seq ?_
  refine WP_cond rfl (fun h1 => ?_) (fun h1 => ?_)
  ·try simp only [NM] at h1
   try replace h1 := ((eqI_two (X := X) (X' := X) (Y := ovA (fun _ => 0) 0 2 (dp P (sqI i))) (Y' := dp P (sqI i)) rfl rfl rfl rfl).trans eq_stB2).symm.trans h1
   refine WP_skip ?_
   refine WP_seq ?_
   refine WP_block ?_
   refine WP_seq ?_
   refine WP_ops ?_
   refine WO_mv (v := .s (.int _ _)) rfl ?_
   refine WO_ixA rfl rfl rfl (by omega) ?_
   rw [dp_ix]
   refine WO_allocI ?_
   refine WO_mv (v := .s (.int _ _)) rfl ?_
   refine WO_stA rfl rfl rfl rfl .here ?_
   refine WO_nil ?_
   refine WP_seq ?_
   refine WP_ops ?_
   first | refine WO_ldA0 rfl rfl (.tail _ (.head _)) ?_ | refine WO_ldAI rfl rfl (.tail _ (.head _)) ?_
   first | refine WO_ldA0 rfl rfl (.head _) ?_ | refine WO_ldAI rfl rfl (.head _) ?_
   refine WO_eqa rfl rfl ?_
   refine WO_nil ?_
   refine WP_cond rfl (fun h2 => ?_) (fun h2 => ?_)
   ·try simp only [NM] at h2
    try replace h2 := ((eqI_two (X := X) (X' := X) (Y := ovA (fun _ => 0) 0 2 (dp P (sqI i))) (Y' := dp P (sqI i)) rfl rfl rfl rfl).trans eq_stB2).symm.trans h2
    refine WP_ops ?_
    refine WO_mv (v := .snil) rfl ?_
    refine WO_mv (v := .s (.int _ _)) rfl ?_
    refine WO_mkslS rfl (.one rfl .nil) ?_
    refine WO_appendNil rfl rfl (.head _) (by decide) rfl ?_
    refine WO_mv (v := .sl _ _ _ _ _) rfl ?_
    refine WO_nil ?_
    refine WP_ops ?_
    refine WO_add rfl rfl (by omega) ?_
    refine WO_mv (v := .s (.int _ _)) rfl ?_
    refine WO_nil ?_
    have hr := lst_yes (S1 := stB P X) (i := i) (by assumption)
    refine ⟨64 - (i + 1), _, by omega, (.cons_cons _ (.cons _ (.cons _ (.cons_cons _ (.cons_cons _ .slnil))))), i + 1, by omega, rfl, rfl, rfl, rfl, rfl, .inr ⟨_, 1, _, _, ⟨by rw [hr]; show 1 = _ + 1; omega, by omega⟩, ?_, rfl, rfl⟩⟩
    intro j hj
    obtain rfl : j = 0 := by omega
    rw [hr]
    show _ = if 0 < (lstM (stB P X) i).1 then _ else _
    rw [if_neg (by omega)]; rfl
   ·try simp only [NM] at h2
    try replace h2 := ((eqI_two (X := X) (X' := X) (Y := ovA (fun _ => 0) 0 2 (dp P (sqI i))) (Y' := dp P (sqI i)) rfl rfl rfl rfl).trans eq_stB2).symm.trans h2
    refine WP_skip ?_
    refine WP_ops ?_
    refine WO_add rfl rfl (by omega) ?_
    refine WO_mv (v := .s (.int _ _)) rfl ?_
    refine WO_nil ?_
    have hr := lst_no (S1 := stB P X) (i := i) (by assumption)
    refine ⟨64 - (i + 1), _, by omega, (.cons _ (.cons_cons _ (.cons_cons _ .slnil))), i + 1, by omega, rfl, rfl, rfl, rfl, rfl, .inl ⟨by rw [hr]; exact hc, rfl, rfl⟩⟩
  ·try simp only [NM] at h1
   try replace h1 := ((eqI_two (X := X) (X' := X) (Y := ovA (fun _ => 0) 0 2 (dp P (sqI i))) (Y' := dp P (sqI i)) rfl rfl rfl rfl).trans eq_stB2).symm.trans h1
   refine WP_exit ?_
   refine xhere ?_
   refine WP_seq ?_
   refine WP_ops ?_
   refine WO_mv (v := .snil) rfl ?_
   refine WO_mv (v := .snil) rfl ?_
   refine WO_nil ?_
   refine WP_ret ?_
   refine ⟨_, RS_tmp (v := .snil) rfl (RS_nil), ?_⟩
   obtain rfl : i = 64 := by omega
   exact .inl ⟨hc, rfl⟩
 ·skip
  refine WP_know (d := 8) (v := .agg 128 (ia P)) k8 ?_
  refine WP_know (d := 2) (v := .ptr 0 0 133) k2 ?_
  refine WP_know (d := 3) (v := .ptr 1 0 2) k3 ?_
  refine WP_know (d := 9) (v := .s (.int .i64 i)) k9 ?_
  refine WP_know (d := 4) (v := .sl b 0 cnt 1 .whole) kS ?_
  have hle := lstM_le (stB P X) i
  refine WP_seq ?_
  refine WP_ops ?_
  refine WO_bin (r := .bool _) rfl rfl rfl ?_
  refine WO_nil ?_
  refine WP_seq ?_
  refine WP_cond rfl (fun h3 => ?_) (fun h3 => ?_)
  ·try simp only [NM] at h3
   try replace h3 := ((eqI_two (X := X) (X' := X) (Y := ovA (fun _ => 0) 0 2 (dp P (sqI i))) (Y' := dp P (sqI i)) rfl rfl rfl rfl).trans eq_stB2).symm.trans h3
   refine WP_skip ?_
   refine WP_seq ?_
   refine WP_block ?_
   refine WP_seq ?_
   refine WP_ops ?_
   refine WO_mv (v := .s (.int _ _)) rfl ?_
   refine WO_ixA rfl rfl rfl (by omega) ?_
   rw [dp_ix]
   refine WO_allocI ?_
   refine WO_mv (v := .s (.int _ _)) rfl ?_
   refine WO_stA rfl rfl rfl rfl .here ?_
   refine WO_nil ?_
   refine WP_seq ?_
   refine WP_ops ?_
   first | refine WO_ldA0 rfl rfl (.tail _ (.tail _ (.head _))) ?_ | refine WO_ldAI rfl rfl (.tail _ (.tail _ (.head _))) ?_
   first | refine WO_ldA0 rfl rfl (.head _) ?_ | refine WO_ldAI rfl rfl (.head _) ?_
   refine WO_eqa rfl rfl ?_
   refine WO_nil ?_
   refine WP_cond rfl (fun h4 => ?_) (fun h4 => ?_)
   ·try simp only [NM] at h4
    try replace h4 := ((eqI_two (X := X) (X' := X) (Y := ovA (fun _ => 0) 0 2 (dp P (sqI i))) (Y' := dp P (sqI i)) rfl rfl rfl rfl).trans eq_stB2).symm.trans h4
    refine WP_ops ?_
    refine WO_mv (v := .sl _ _ _ _ _) rfl ?_
    refine WO_mv (v := .s (.int _ _)) rfl ?_
    refine WO_mkslS rfl (.one rfl .nil) ?_
    refine WO_appendW rfl rfl (.head _) (.there (.there .here)) (by simp [roomy]; omega) ?_
    refine WO_mv (v := .sl _ _ _ _ _) rfl ?_
    refine WO_nil ?_
    refine WP_ops ?_
    refine WO_add rfl rfl (by omega) ?_
    refine WO_mv (v := .s (.int _ _)) rfl ?_
    refine WO_nil ?_
    have hr := lst_yes (S1 := stB P X) (i := i) (by assumption)
    obtain ⟨hc1, hc0⟩ := hc
    have hle := lstM_le (stB P X) i
    refine ⟨64 - (i + 1), _, by omega, (.cons_cons _ (.cons _ (.cons _ (.cons _ (.cons_cons _ (.cons_cons _ .slnil)))))), i + 1, by omega, rfl, rfl, rfl, rfl, rfl, .inr ⟨_, cnt + 1, _, _, ⟨by rw [hr, hc1], by omega⟩, ?_, rfl, rfl⟩⟩
    rw [hr]
    rw [← hc1]
    exact gw_lst hF rfl
   ·try simp only [NM] at h4
    try replace h4 := ((eqI_two (X := X) (X' := X) (Y := ovA (fun _ => 0) 0 2 (dp P (sqI i))) (Y' := dp P (sqI i)) rfl rfl rfl rfl).trans eq_stB2).symm.trans h4
    refine WP_skip ?_
    refine WP_ops ?_
    refine WO_add rfl rfl (by omega) ?_
    refine WO_mv (v := .s (.int _ _)) rfl ?_
    refine WO_nil ?_
    have hr := lst_no (S1 := stB P X) (i := i) (by assumption)
    refine ⟨64 - (i + 1), _, by omega, (.cons _ (.cons_cons _ (.cons_cons _ (.cons_cons _ .slnil)))), i + 1, by omega, rfl, rfl, rfl, rfl, rfl, .inr ⟨_, cnt, _, _, by rw [hr]; exact hc, by rw [hr]; exact hF, rfl, rfl⟩⟩
  ·try simp only [NM] at h3
   try replace h3 := ((eqI_two (X := X) (X' := X) (Y := ovA (fun _ => 0) 0 2 (dp P (sqI i))) (Y' := dp P (sqI i)) rfl rfl rfl rfl).trans eq_stB2).symm.trans h3
   refine WP_exit ?_
   refine xhere ?_
   refine WP_seq ?_
   refine WP_ops ?_
   refine WO_mv (v := .sl _ _ _ _ _) rfl ?_
   refine WO_mv (v := .sl _ _ _ _ _) rfl ?_
   refine WO_nil ?_
   refine WP_ret ?_
   refine ⟨_, RS_tmp (v := .sl _ _ _ _ _) rfl (RS_nil), ?_⟩
   obtain rfl : i = 64 := by omega
   obtain ⟨rfl, hc0⟩ := hc
   exact .inr ⟨hc0, _, _, F, rfl, hF, (.head _)⟩
theorem Find_ex (P X : Nat → Int) : ((lstM (stB P X) 64).1 = 0 ∧ RF AM 58 [.agg 133 (ia P), .agg 2 (ia X)] .snil) ∨ (0 < (lstM (stB P X) 64).1 ∧ ∃ q F, (∀ j : Nat, j < (lstM (stB P X) 64).1 → F j = (lstM (stB P X) 64).2 j) ∧ RN AM 58 [.agg 133 (ia P), .agg 2 (ia X)] [] (fun b => .sl b 0 (lstM (stB P X) 64).1 1 .whole) (.sc .grow q (ia F)) []) := by
  obtain ⟨v, σ', n', L', h1, h2, h3⟩ := Find_walk P X
  rcases h3 with ⟨h0, rfl⟩ | ⟨h0, b, q, F, rfl, hF, hm⟩
  · exact .inl ⟨h0, σ', h1⟩
  · exact .inr ⟨h0, q, F, hF, b, σ', h1, Nat.zero_le _, (h2.2.mem hm).2, trivial⟩

theorem dFind_walk (P X : Nat → Int) : WR AM 74 [.agg 133 (ia P), .agg 2 (ia X)] [] (fun v _ L => ((lstM (stB P X) 64).1 = 0 ∧ v = .snil) ∨ (0 < (lstM (stB P X) 64).1 ∧ ∃ b q F, v = .sl b 0 (lstM (stB P X) 64).1 1 .whole ∧ (∀ j : Nat, j < (lstM (stB P X) 64).1 → F j = (lstM (stB P X) 64).2 j) ∧ (b, Blk.sc .grow q (ia F)) ∈ L)) := by
 refine WR_fn (a := a74) rfl rfl (entryF _) (entry_E (Nat.le_of_ble_eq_true rfl)) (m := 0) rfl ?_
 refine WP_seq ?_
 refine WP_ops ?_
 refine WO_boxA rfl ?_
 refine WO_boxA rfl ?_
 refine WO_mv rfl ?_
 refine WO_nil ?_
 refine WP_seq ?_
 refine WP_ops ?_
 refine WO_mv rfl ?_
 refine WO_nil ?_
 refine WP_seq ?_
 refine WP_seq ?_
 refine WP_ops ?_
 refine WO_mv rfl ?_
 refine WO_nil ?_
 refine WP_block ?_
 refine WP_sub (L' := [_, _]) (.cons_cons _ (.cons_cons _ .slnil)) ?_
 refine WP_loop (fun m f nn L => ∃ (i : Nat), (i ≤ 64) ∧ (m = 64 - i) ∧ (f 2 = .ptr 0 0 133) ∧ (f 3 = .ptr 1 0 2) ∧ (f 6 = .s (.int .i64 i)) ∧ ((((lstM (stB P X) i).1 = 0) ∧ (f 5 = .snil) ∧ (L = [(1, .sc .var 2 (ia X)), (0, .sc .var 133 (ia P))])) ∨ (∃ (b cnt q : Nat) (F : Nat → Int), (cnt = (lstM (stB P X) i).1 ∧ 0 < cnt) ∧ (∀ j : Nat, j < cnt → F j = (lstM (stB P X) i).2 j) ∧ (f 5 = .sl b 0 cnt 1 .whole) ∧ (L = (b, Blk.sc .grow q (ia F)) :: [(1, .sc .var 2 (ia X)), (0, .sc .var 133 (ia P))])))) (fun m f nb L hI => ?_) (64) ⟨0, by omega, rfl, rfl, rfl, rfl, .inl ⟨rfl, rfl, rfl⟩⟩
 obtain ⟨i, hi, hm, k2, k3, k6, hI2⟩ := hI
 rcases hI2 with ⟨hc, kS, rfl⟩ | ⟨b, cnt, q, F, hc, hF, kS, rfl⟩
 ·skip
  refine WP_know (d := 2) (v := .ptr 0 0 133) k2 ?_
  refine WP_know (d := 3) (v := .ptr 1 0 2) k3 ?_
  refine WP_know (d := 6) (v := .s (.int .i64 i)) k6 ?_
  refine WP_know (d := 5) (v := .snil) kS ?_
  have hle := lstM_le (stB P X) i
  refine WP_seq ?_
  refine WP_seq ?_
  refine WP_ops ?_
  refine WO_mv (v := .s (.int _ _)) rfl ?_
  refine WO_bin (r := .bool _) rfl rfl rfl ?_
  refine WO_nil ?_
  refine WP_cond rfl (fun h5 => ?_) (fun h5 => ?_)
  ·try simp only [NM] at h5
   try replace h5 := eq_stB.symm.trans h5
   refine WP_skip ?_
   refine WP_seq ?_
   refine WP_block ?_
   refine WP_seq ?_
   refine WP_ops ?_
   refine WO_mv (v := .s (.int _ _)) rfl ?_
   refine WO_fa (o' := 0) rfl rfl rfl ?_
   refine WO_ixa rfl rfl rfl (by omega) ?_
   first | refine WO_ldA0 rfl rfl (.tail _ (.head _)) ?_ | refine WO_ldAI rfl rfl (.tail _ (.head _)) ?_
   first | refine WO_ldA0 rfl rfl (.head _) ?_ | refine WO_ldAI rfl rfl (.head _) ?_
   refine WO_eqa rfl rfl ?_
   refine WO_nil ?_
   refine WP_cond rfl (fun h6 => ?_) (fun h6 => ?_)
   ·try simp only [NM] at h6
    try replace h6 := eq_stB.symm.trans h6
    refine WP_ops ?_
    refine WO_mv (v := .snil) rfl ?_
    refine WO_mv (v := .s (.int _ _)) rfl ?_
    refine WO_mkslS rfl (.one rfl .nil) ?_
    refine WO_appendNil rfl rfl (.head _) (by decide) rfl ?_
    refine WO_mv (v := .sl _ _ _ _ _) rfl ?_
    refine WO_nil ?_
    refine WP_ops ?_
    refine WO_mv (v := .s (.int _ _)) rfl ?_
    refine WO_add rfl rfl (by omega) ?_
    refine WO_mv (v := .s (.int _ _)) rfl ?_
    refine WO_nil ?_
    have hr := lst_yes (S1 := stB P X) (i := i) (by assumption)
    refine ⟨64 - (i + 1), _, by omega, (.cons_cons _ (.cons _ (.cons_cons _ (.cons_cons _ .slnil)))), i + 1, by omega, rfl, rfl, rfl, rfl, .inr ⟨_, 1, _, _, ⟨by rw [hr]; show 1 = _ + 1; omega, by omega⟩, ?_, rfl, rfl⟩⟩
    intro j hj
    obtain rfl : j = 0 := by omega
    rw [hr]
    show _ = if 0 < (lstM (stB P X) i).1 then _ else _
    rw [if_neg (by omega)]; rfl
   ·try simp only [NM] at h6
    try replace h6 := eq_stB.symm.trans h6
    refine WP_skip ?_
    refine WP_ops ?_
    refine WO_mv (v := .s (.int _ _)) rfl ?_
    refine WO_add rfl rfl (by omega) ?_
    refine WO_mv (v := .s (.int _ _)) rfl ?_
    refine WO_nil ?_
    have hr := lst_no (S1 := stB P X) (i := i) (by assumption)
    refine ⟨64 - (i + 1), _, by omega, (.cons_cons _ (.cons_cons _ .slnil)), i + 1, by omega, rfl, rfl, rfl, rfl, .inl ⟨by rw [hr]; exact hc, rfl, rfl⟩⟩
  ·try simp only [NM] at h5
   try replace h5 := eq_stB.symm.trans h5
   refine WP_exit ?_
   refine xhere ?_
   refine WP_seq ?_
   refine WP_ops ?_
   refine WO_mv (v := .snil) rfl ?_
   refine WO_mv (v := .snil) rfl ?_
   refine WO_nil ?_
   refine WP_ret ?_
   refine ⟨_, RS_tmp (v := .snil) rfl (RS_nil), ?_⟩
   obtain rfl : i = 64 := by omega
   exact .inl ⟨hc, rfl⟩
 ·skip
  refine WP_know (d := 2) (v := .ptr 0 0 133) k2 ?_
  refine WP_know (d := 3) (v := .ptr 1 0 2) k3 ?_
  refine WP_know (d := 6) (v := .s (.int .i64 i)) k6 ?_
  refine WP_know (d := 5) (v := .sl b 0 cnt 1 .whole) kS ?_
  have hle := lstM_le (stB P X) i
  refine WP_seq ?_
  refine WP_seq ?_
  refine WP_ops ?_
  refine WO_mv (v := .s (.int _ _)) rfl ?_
  refine WO_bin (r := .bool _) rfl rfl rfl ?_
  refine WO_nil ?_
  refine WP_cond rfl (fun h7 => ?_) (fun h7 => ?_)
  ·try simp only [NM] at h7
   try replace h7 := eq_stB.symm.trans h7
   refine WP_skip ?_
   refine WP_seq ?_
   refine WP_block ?_
   refine WP_seq ?_
   refine WP_ops ?_
   refine WO_mv (v := .s (.int _ _)) rfl ?_
   refine WO_fa (o' := 0) rfl rfl rfl ?_
   refine WO_ixa rfl rfl rfl (by omega) ?_
   first | refine WO_ldA0 rfl rfl (.tail _ (.tail _ (.head _))) ?_ | refine WO_ldAI rfl rfl (.tail _ (.tail _ (.head _))) ?_
   first | refine WO_ldA0 rfl rfl (.tail _ (.head _)) ?_ | refine WO_ldAI rfl rfl (.tail _ (.head _)) ?_
   refine WO_eqa rfl rfl ?_
   refine WO_nil ?_
   refine WP_cond rfl (fun h8 => ?_) (fun h8 => ?_)
   ·try simp only [NM] at h8
    try replace h8 := eq_stB.symm.trans h8
    refine WP_ops ?_
    refine WO_mv (v := .sl _ _ _ _ _) rfl ?_
    refine WO_mv (v := .s (.int _ _)) rfl ?_
    refine WO_mkslS rfl (.one rfl .nil) ?_
    refine WO_appendW rfl rfl (.head _) (.there .here) (by simp [roomy]; omega) ?_
    refine WO_mv (v := .sl _ _ _ _ _) rfl ?_
    refine WO_nil ?_
    refine WP_ops ?_
    refine WO_mv (v := .s (.int _ _)) rfl ?_
    refine WO_add rfl rfl (by omega) ?_
    refine WO_mv (v := .s (.int _ _)) rfl ?_
    refine WO_nil ?_
    have hr := lst_yes (S1 := stB P X) (i := i) (by assumption)
    obtain ⟨hc1, hc0⟩ := hc
    have hle := lstM_le (stB P X) i
    refine ⟨64 - (i + 1), _, by omega, (.cons_cons _ (.cons _ (.cons _ (.cons_cons _ (.cons_cons _ .slnil))))), i + 1, by omega, rfl, rfl, rfl, rfl, .inr ⟨_, cnt + 1, _, _, ⟨by rw [hr, hc1], by omega⟩, ?_, rfl, rfl⟩⟩
    rw [hr]
    rw [← hc1]
    exact gw_lst hF rfl
   ·try simp only [NM] at h8
    try replace h8 := eq_stB.symm.trans h8
    refine WP_skip ?_
    refine WP_ops ?_
    refine WO_mv (v := .s (.int _ _)) rfl ?_
    refine WO_add rfl rfl (by omega) ?_
    refine WO_mv (v := .s (.int _ _)) rfl ?_
    refine WO_nil ?_
    have hr := lst_no (S1 := stB P X) (i := i) (by assumption)
    refine ⟨64 - (i + 1), _, by omega, (.cons_cons _ (.cons_cons _ (.cons_cons _ .slnil))), i + 1, by omega, rfl, rfl, rfl, rfl, .inr ⟨_, cnt, _, _, by rw [hr]; exact hc, by rw [hr]; exact hF, rfl, rfl⟩⟩
  ·try simp only [NM] at h7
   try replace h7 := eq_stB.symm.trans h7
   refine WP_exit ?_
   refine xhere ?_
   refine WP_seq ?_
   refine WP_ops ?_
   refine WO_mv (v := .sl _ _ _ _ _) rfl ?_
   refine WO_mv (v := .sl _ _ _ _ _) rfl ?_
   refine WO_nil ?_
   refine WP_ret ?_
   refine ⟨_, RS_tmp (v := .sl _ _ _ _ _) rfl (RS_nil), ?_⟩
   obtain rfl : i = 64 := by omega
   obtain ⟨rfl, hc0⟩ := hc
   exact .inr ⟨hc0, _, _, F, rfl, hF, (.head _)⟩
theorem dFind_ex (P X : Nat → Int) : ((lstM (stB P X) 64).1 = 0 ∧ RF AM 74 [.agg 133 (ia P), .agg 2 (ia X)] .snil) ∨ (0 < (lstM (stB P X) 64).1 ∧ ∃ q F, (∀ j : Nat, j < (lstM (stB P X) 64).1 → F j = (lstM (stB P X) 64).2 j) ∧ RN AM 74 [.agg 133 (ia P), .agg 2 (ia X)] [] (fun b => .sl b 0 (lstM (stB P X) 64).1 1 .whole) (.sc .grow q (ia F)) []) := by
  obtain ⟨v, σ', n', L', h1, h2, h3⟩ := dFind_walk P X
  rcases h3 with ⟨h0, rfl⟩ | ⟨h0, b, q, F, rfl, hF, hm⟩
  · exact .inl ⟨h0, σ', h1⟩
  · exact .inr ⟨h0, q, F, hF, b, σ', h1, Nat.zero_le _, (h2.2.mem hm).2, trivial⟩

theorem Index_run {md : Md} {q : Nat} {c : Cp} (P X : Nat → Int) : WR AM 94 [.sl 0 0 64 2 c, .agg 2 (ia X)] [.sc md q (ia P)] (fun v _ L => (∃ x, v = .s (.int .i64 x) ∧ IsFst (stB P X) 64 x) ∧ (0, Blk.sc md q (ia P)) ∈ L) := by
 refine WR_fn (a := a94) rfl rfl (entryF _) (entry_E (Nat.le_of_ble_eq_true rfl)) (m := 1) rfl ?_
 refine WP_seq ?_
 refine WP_ops ?_
 refine WO_boxA rfl ?_
 refine WO_mv rfl ?_
 refine WO_nil ?_
 refine WP_seq ?_
 refine WP_seq ?_
 refine WP_ops ?_
 refine WO_mv (v := .sl _ _ _ _ _) rfl ?_
 refine WO_len rfl ?_
 refine WO_mv rfl ?_
 refine WO_nil ?_
 refine WP_block ?_
 refine WP_sub (L' := [_, _]) (.cons_cons _ (.cons_cons _ .slnil)) ?_
 refine WP_loop (fun m f _ L => ∃ (i : Nat), (i ≤ 64) ∧ (m = 64 - i) ∧ (∀ j : Nat, j < i → stB P X j = false) ∧ (f 0 = .sl 0 0 64 2 c) ∧ (f 3 = .ptr 1 0 2) ∧ (f 7 = .s (.int .i64 64)) ∧ (f 8 = .s (.int .i64 i)) ∧ (L = [(1, .sc .var 2 (ia X)), (0, .sc md q (ia P))])) (fun m f nb L hI => ?_) (64) ⟨0, by omega, rfl, fun j h => by omega, rfl, rfl, rfl, rfl, rfl⟩
 obtain ⟨i, hi, hm, hn, k0, k3, k7, k8, rfl⟩ := hI
 refine WP_know (d := 0) (v := .sl 0 0 64 2 c) k0 ?_
 refine WP_know (d := 3) (v := .ptr 1 0 2) k3 ?_
 refine WP_know (d := 7) (v := .s (.int .i64 64)) k7 ?_
 refine WP_know (d := 8) (v := .s (.int .i64 i)) k8 ?_
 refine WP_seq ?_
 refine WP_ops ?_
 refine WO_bin (r := .bool _) rfl rfl rfl ?_
 refine WO_nil ?_
 refine WP_seq ?_
 refine WP_cond rfl (fun h9 => ?_) (fun h9 => ?_)
 ·try simp only [NM] at h9
  try replace h9 := eq_stB2.symm.trans h9
  refine WP_skip ?_
  refine WP_seq ?_
  refine WP_block ?_
  refine WP_seq ?_
  refine WP_ops ?_
  refine WO_mv (v := .s (.int _ _)) rfl ?_
  refine WO_mv (v := .s (.int _ _)) rfl ?_
  refine WO_nil ?_
  refine WP_seq ?_
  refine WP_ops ?_
  first | refine WO_ldA0 rfl rfl (.head _) ?_ | refine WO_ldAI rfl rfl (.head _) ?_
  refine WO_mv (v := .sl _ _ _ _ _) rfl ?_
  refine WO_mv (v := .s (.int _ _)) rfl ?_
  refine WO_ixs rfl rfl (by omega) ?_
  first | refine WO_ldA0 rfl rfl (.tail _ (.head _)) ?_ | refine WO_ldAI rfl rfl (.tail _ (.head _)) ?_
  refine WO_eqa rfl rfl ?_
  refine WO_nil ?_
  refine WP_cond rfl (fun h10 => ?_) (fun h10 => ?_)
  ·try simp only [NM] at h10
   try replace h10 := eq_stB2.symm.trans h10
   refine WP_seq ?_
   refine WP_ops ?_
   refine WO_mv (v := .s (.int _ _)) rfl ?_
   refine WO_mv (v := .s (.int _ _)) rfl ?_
   refine WO_nil ?_
   refine WP_ret ?_
   refine ⟨_, RS_tmp (v := .s (.int _ _)) rfl (RS_nil), ?_⟩
   first | exact ⟨⟨_, rfl, .inr ⟨i, by omega, rfl, by assumption, hn⟩⟩, (.tail _ (.head _))⟩ | exact ⟨⟨_, rfl, .inl ⟨rfl, fun j hj => hn j (by omega)⟩⟩, (.tail _ (.head _))⟩
  ·try simp only [NM] at h10
   try replace h10 := eq_stB2.symm.trans h10
   refine WP_skip ?_
   refine WP_ops ?_
   refine WO_add rfl rfl (by omega) ?_
   refine WO_mv (v := .s (.int _ _)) rfl ?_
   refine WO_nil ?_
   refine ⟨64 - (i + 1), _, by omega, (.cons_cons _ (.cons_cons _ .slnil)), i + 1, by omega, rfl, ?_, rfl, rfl, rfl, rfl, rfl⟩
   intro j hj
   by_cases e : j = i
   · subst e; assumption
   · exact hn j (by omega)
 ·try simp only [NM] at h9
  try replace h9 := eq_stB2.symm.trans h9
  refine WP_exit ?_
  refine xhere ?_
  refine WP_seq ?_
  refine WP_ops ?_
  refine WO_mv rfl ?_
  refine WO_nil ?_
  refine WP_ret ?_
  refine ⟨_, RS_tmp (v := .s (.int _ _)) rfl (RS_nil), ?_⟩
  first | exact ⟨⟨_, rfl, .inr ⟨i, by omega, rfl, by assumption, hn⟩⟩, (.tail _ (.head _))⟩ | exact ⟨⟨_, rfl, .inl ⟨rfl, fun j hj => hn j (by omega)⟩⟩, (.tail _ (.head _))⟩
theorem Index_ex {md : Md} {q : Nat} {c : Cp} (P X : Nat → Int) : ∃ x, IsFst (stB P X) 64 x ∧ RB AM 94 [.sl 0 0 64 2 c, .agg 2 (ia X)] [.sc md q (ia P)] (.s (.int .i64 x)) [.sc md q (ia P)] := by
  obtain ⟨v, σ', n', L', h1, h2, ⟨x, rfl, hx⟩, hm⟩ := Index_run (md := md) (q := q) (c := c) P X
  exact ⟨x, hx, σ', h1, (h2.2.mem hm).2, ⟨_, _, _, rfl⟩, trivial⟩
/-- A king. -/
abbrev kgX (s : Int) : Nat → Int := ov (ov (fun _ => 0) 0 6) 1 s

theorem King_walk (P : Nat → Int) (s : Int) : WR AM 60 [.agg 133 (ia P), .s (.int .i64 s)] [] (fun v _ _ => ∃ x, v = .s (.int .i64 x) ∧ IsFst (stB P (kgX s)) 64 x) := by
 refine WR_fn (a := a60) rfl rfl (entryF _) (entry_E (Nat.le_of_ble_eq_true rfl)) (m := 0) rfl ?_
 refine WP_seq ?_
 refine WP_ops ?_
 refine WO_boxA rfl ?_
 refine WO_mv rfl ?_
 refine WO_nil ?_
 refine WP_seq ?_
 refine WP_ops ?_
 refine WO_fa (o' := 0) rfl rfl rfl ?_
 refine WO_slA0 rfl rfl (by decide) ?_
 refine WO_mv (v := .s (.int _ _)) rfl ?_
 refine WO_buildI rfl (.one rfl (.one rfl .nil)) ?_
 obtain ⟨x, hx, hI⟩ := Index_ex (md := .var) (q := 133) (c := .ex 64) P (kgX s)
 refine WO_call (rs := [0]) (Bs := [_]) rfl (hI) rfl rfl (Nat.le_of_ble_eq_true rfl) (fun _ h => h) rfl ⟨(.head _), ⟨_, _, _, rfl⟩, trivial⟩ rfl rfl rfl (.cons .here .nil) ?_
 refine WO_mv (v := .s (.int _ _)) rfl ?_
 refine WO_nil ?_
 refine WP_ret ?_
 refine ⟨_, RS_tmp (v := .s (.int _ _)) rfl (RS_nil), ?_⟩
 exact ⟨_, rfl, hx⟩
theorem dKing_walk (P : Nat → Int) (s : Int) : WR AM 75 [.agg 133 (ia P), .s (.int .i64 s)] [] (fun v _ _ => ∃ x, v = .s (.int .i64 x) ∧ IsFst (stB P (kgX s)) 64 x) := by
 refine WR_fn (a := a75) rfl rfl (entryF _) (entry_E (Nat.le_of_ble_eq_true rfl)) (m := 0) rfl ?_
 refine WP_seq ?_
 refine WP_ops ?_
 refine WO_boxA rfl ?_
 refine WO_mv rfl ?_
 refine WO_nil ?_
 refine WP_seq ?_
 refine WP_ops ?_
 first | refine WO_ldA0 rfl rfl (.head _) ?_ | refine WO_ldAI rfl rfl (.head _) ?_
 refine WO_mv (v := .s (.int _ _)) rfl ?_
 refine WO_buildI rfl (.one rfl (.one rfl .nil)) ?_
 rcases dFind_ex P (kgX s) with ⟨hc0, hT⟩ | ⟨hc0, q, F, hF, hT⟩
 ·skip
  refine WO_call0 rfl (hT) rfl rfl rfl ?_
  refine WO_mv (v := .snil) rfl ?_
  refine WO_nil ?_
  refine WP_seq ?_
  refine WP_seq ?_
  refine WP_ops ?_
  refine WO_mv (v := .snil) rfl ?_
  refine WO_lenN rfl ?_
  refine WO_bin (r := .bool _) rfl rfl rfl ?_
  refine WO_nil ?_
  refine WP_cond rfl (fun h11 => ?_) (fun h11 => ?_)
  ·try simp only [NM] at h11
   refine WP_seq ?_
   refine WP_ops ?_
   refine WO_mv rfl ?_
   refine WO_nil ?_
   refine WP_ret ?_
   refine ⟨_, RS_tmp (v := .s (.int _ _)) rfl (RS_nil), ?_⟩
   rcases lst_first (stB P (kgX s)) 64 with ⟨h0, h⟩ | ⟨h0, i, hi, e, h1, h2⟩
   · exact ⟨_, rfl, .inl ⟨rfl, h⟩⟩
   · exfalso; omega
  ·try simp only [NM] at h11
   exfalso; first | omega | (simp at h11)
 ·skip
  refine WO_callN (mk := fun b => .sl b 0 (lstM (stB P (kgX s)) 64).1 1 .whole) (rs := []) (Bs := []) One_sl rfl hT rfl rfl (Nat.le_of_ble_eq_true rfl) (fun _ h => h) rfl trivial rfl rfl .nil ?_
  refine WO_mv (v := .sl _ _ _ _ _) rfl ?_
  refine WO_nil ?_
  refine WP_seq ?_
  refine WP_seq ?_
  refine WP_ops ?_
  refine WO_mv (v := .sl _ _ _ _ _) rfl ?_
  refine WO_len rfl ?_
  refine WO_bin (r := .bool _) rfl rfl rfl ?_
  refine WO_nil ?_
  refine WP_cond rfl (fun h12 => ?_) (fun h12 => ?_)
  ·try simp only [NM] at h12
   exfalso; first | omega | (simp at h12)
  ·try simp only [NM] at h12
   refine WP_skip ?_
   refine WP_seq ?_
   refine WP_ops ?_
   refine WO_mv (v := .sl _ _ _ _ _) rfl ?_
   refine WO_ixs rfl rfl (by omega) ?_
   refine WO_ldI (x := (lstM (stB P (kgX s)) 64).2 0) rfl rfl (.head _) (hF 0 hc0) ?_
   refine WO_mv (v := .s (.int _ _)) rfl ?_
   refine WO_nil ?_
   refine WP_ret ?_
   refine ⟨_, RS_tmp (v := .s (.int _ _)) rfl (RS_nil), ?_⟩
   rcases lst_first (stB P (kgX s)) 64 with ⟨h0, h⟩ | ⟨h0, i, hi, e, h1, h2⟩
   · exfalso; omega
   · exact ⟨_, rfl, .inr ⟨i, hi, e, h1, h2⟩⟩
theorem King_both (P : Nat → Int) (s : Int) : ∃ x, IsFst (stB P (kgX s)) 64 x ∧ RF AM 60 [.agg 133 (ia P), .s (.int .i64 s)] (.s (.int .i64 x)) ∧ RF AM 75 [.agg 133 (ia P), .s (.int .i64 s)] (.s (.int .i64 x)) := by
  obtain ⟨v, σ, _, _, h, _, x, rfl, hx⟩ := King_walk P s
  obtain ⟨v2, σ2, _, _, h2, _, y, rfl, hy⟩ := dKing_walk P s
  rw [hy.uniq hx] at h2
  exact ⟨x, hx, ⟨σ, h⟩, ⟨σ2, h2⟩⟩

theorem side_eq {k c : Int} : (if mayM k c = true then otherM c else c) = sideT k c := rfl
theorem dturn_step {P Q X : Nat → Int} {i : Nat} (hi : i < 64) (h : ∀ s : Nat, s < i → Q (s * 2) = P (acr s * 2) ∧ Q (s * 2 + 1) = sideT (P (acr s * 2)) (P (acr s * 2 + 1))) (h0 : X 0 = P (acr i * 2)) (h1 : X 1 = sideT (P (acr i * 2)) (P (acr i * 2 + 1))) :
    ∀ s : Nat, s < i + 1 → ovA Q (0 + (i : Int).toNat * 2) 2 X (s * 2) = P (acr s * 2) ∧ ovA Q (0 + (i : Int).toNat * 2) 2 X (s * 2 + 1) = sideT (P (acr s * 2)) (P (acr s * 2 + 1)) := by
  intro s hs
  by_cases e : s = i
  · subst e
    rw [ovA_at (by omega), ovA_at (by omega), show s * 2 - (0 + (s : Int).toNat * 2) = 0 by omega, show s * 2 + 1 - (0 + (s : Int).toNat * 2) = 1 by omega]
    exact ⟨h0, h1⟩
  · rw [ovA_out (by omega), ovA_out (by omega)]
    exact h s (by omega)
theorem dcell {P : Nat → Int} {i : Nat} (hi : i < 64) : dp P (0 + (8 * (7 - (i : Int) / 8) + (i : Int) % 8).toNat * 2) = dp P (acr i * 2) := by
  rw [show 0 + (8 * (7 - (i : Int) / 8) + (i : Int) % 8).toNat * 2 = acr i * 2 from by unfold acr; omega]

theorem dTurn_run (P : Nat → Int) : WR AM 73 [.agg 133 (ia P)] [] (fun v _ _ => ∃ Q, TurnOf P Q ∧ v = .agg 133 (ia Q)) := by
 refine WR_fn (a := a73) rfl rfl (entryF _) (entry_E (Nat.le_of_ble_eq_true rfl)) (m := 0) rfl ?_
 refine WP_seq ?_
 refine WP_ops ?_
 refine WO_boxA rfl ?_
 refine WO_allocI ?_
 refine WO_nil ?_
 refine WP_seq ?_
 refine WP_ops ?_
 first | refine WO_ldA0 rfl rfl (.tail _ (.head _)) ?_ | refine WO_ldAI rfl rfl (.tail _ (.head _)) ?_
 refine WO_allocI ?_
 refine WO_stA rfl rfl rfl rfl .here ?_
 refine WO_nil ?_
 refine WP_cut (fun f n L => ∃ (Q : Nat → Int), (Turned P Q 64) ∧ (∀ c, 128 ≤ c → Q c = cut 133 P c) ∧ (f 1 = .ptr 0 0 133) ∧ (f 2 = .ptr 1 0 133) ∧ (f 3 = .ptr 2 0 133) ∧ (L = [(2, .sc .var 133 (ia Q)), (1, .sc .var 133 (ia fun _ => 0)), (0, .sc .var 133 (ia P))])) ?_ (fun f nb L hI => ?_)
 ·skip
  refine WP_seq ?_
  refine WP_ops ?_
  refine WO_mv rfl ?_
  refine WO_nil ?_
  refine WP_block ?_
  refine WP_sub (L' := [_, _, _]) (.cons_cons _ (.cons_cons _ (.cons_cons _ .slnil))) ?_
  refine WP_loop (fun m f _ L => ∃ (i : Nat) (Q : Nat → Int), (i ≤ 64) ∧ (m = 64 - i) ∧ (∀ s : Nat, s < i → Q (s * 2) = P (acr s * 2) ∧ Q (s * 2 + 1) = sideT (P (acr s * 2)) (P (acr s * 2 + 1))) ∧ (∀ c, 128 ≤ c → Q c = cut 133 P c) ∧ (f 1 = .ptr 0 0 133) ∧ (f 2 = .ptr 1 0 133) ∧ (f 3 = .ptr 2 0 133) ∧ (f 4 = .s (.int .i64 i)) ∧ (L = [(2, .sc .var 133 (ia Q)), (1, .sc .var 133 (ia fun _ => 0)), (0, .sc .var 133 (ia P))])) (fun m f nb L hI => ?_) (64) ⟨0, ovA (fun _ => 0) 0 133 P, by omega, rfl, fun s h => by omega, fun c _ => rfl, rfl, rfl, rfl, rfl, rfl⟩
  obtain ⟨i, Q, hi, hm, hq, hr, k1, k2, k3, k4, rfl⟩ := hI
  refine WP_know (d := 1) (v := .ptr 0 0 133) k1 ?_
  refine WP_know (d := 2) (v := .ptr 1 0 133) k2 ?_
  refine WP_know (d := 3) (v := .ptr 2 0 133) k3 ?_
  refine WP_know (d := 4) (v := .s (.int .i64 i)) k4 ?_
  refine WP_seq ?_
  refine WP_seq ?_
  refine WP_ops ?_
  refine WO_mv (v := .s (.int _ _)) rfl ?_
  refine WO_bin (r := .bool _) rfl rfl rfl ?_
  refine WO_nil ?_
  refine WP_cond rfl (fun h13 => ?_) (fun h13 => ?_)
  ·try simp only [NM] at h13
   refine WP_skip ?_
   refine WP_seq ?_
   refine WP_block ?_
   refine WP_seq ?_
   refine WP_ops ?_
   refine WO_mv (v := .s (.int _ _)) rfl ?_
   refine WO_quo rfl rfl (by omega) ?_
   refine WO_sub rfl rfl (by omega) ?_
   refine WO_mul rfl rfl (by omega) ?_
   refine WO_mv (v := .s (.int _ _)) rfl ?_
   refine WO_rem rfl rfl (by omega) ?_
   refine WO_add rfl rfl (by omega) ?_
   refine WO_fa (o' := 0) rfl rfl rfl ?_
   refine WO_ixa rfl rfl rfl (by omega) ?_
   first | refine WO_ldA0 rfl rfl (.tail _ (.tail _ (.head _))) ?_ | refine WO_ldAI rfl rfl (.tail _ (.tail _ (.head _))) ?_
   rw [dcell (by omega)]
   refine WO_allocI ?_
   refine WO_stA rfl rfl rfl rfl .here ?_
   refine WO_nil ?_
   refine WP_seq ?_
   refine WP_seq ?_
   refine WP_ops ?_
   first | refine WO_ldA0 rfl rfl (.head _) ?_ | refine WO_ldAI rfl rfl (.head _) ?_
   refine WO_call0 rfl (show RF AM 55 _ (.s (.bool (mayM (P (acr i * 2)) (P (acr i * 2 + 1))))) from RF_of (rMay_run (ovA (fun _ => 0) 0 2 (dp P (acr i * 2))))) rfl rfl rfl ?_
   refine WO_nil ?_
   refine WP_cond rfl (fun h14 => ?_) (fun h14 => ?_)
   ·try simp only [NM] at h14
    refine WP_ops ?_
    refine WO_fa (o' := 1) rfl rfl rfl ?_
    refine WO_ldI (x := P (acr i * 2 + 1)) rfl rfl (.head _) (rfl) ?_
    refine WO_call0 rfl (RF_of (rOther_run _)) rfl rfl rfl ?_
    refine WO_fa (o' := 1) rfl rfl rfl ?_
    refine WO_stI rfl rfl rfl rfl .here ?_
    refine WO_nil ?_
    refine WP_ops ?_
    refine WO_mv (v := .s (.int _ _)) rfl ?_
    first | refine WO_ldA0 rfl rfl (.head _) ?_ | refine WO_ldAI rfl rfl (.head _) ?_
    refine WO_fa (o' := 0) rfl rfl rfl ?_
    refine WO_ixa rfl rfl rfl (by omega) ?_
    refine WO_stA rfl rfl rfl rfl (.there .here) ?_
    refine WO_nil ?_
    refine WP_ops ?_
    refine WO_mv (v := .s (.int _ _)) rfl ?_
    refine WO_add rfl rfl (by omega) ?_
    refine WO_mv (v := .s (.int _ _)) rfl ?_
    refine WO_nil ?_
    refine ⟨64 - (i + 1), _, by omega, (.cons _ (.cons_cons _ (.cons_cons _ (.cons_cons _ .slnil)))), i + 1, _, by omega, rfl, ?_, ?_, rfl, rfl, rfl, rfl, rfl⟩
    · refine dturn_step (by omega) hq rfl ?_
      rw [← side_eq]
      first | (rw [if_pos (by assumption)]; rfl) | (rw [if_neg (Bool.eq_false_iff.1 (by assumption))]; rfl)
    · intro c hc; rw [ovA_out (by omega)]; exact hr c hc
   ·try simp only [NM] at h14
    refine WP_skip ?_
    refine WP_ops ?_
    refine WO_mv (v := .s (.int _ _)) rfl ?_
    first | refine WO_ldA0 rfl rfl (.head _) ?_ | refine WO_ldAI rfl rfl (.head _) ?_
    refine WO_fa (o' := 0) rfl rfl rfl ?_
    refine WO_ixa rfl rfl rfl (by omega) ?_
    refine WO_stA rfl rfl rfl rfl (.there .here) ?_
    refine WO_nil ?_
    refine WP_ops ?_
    refine WO_mv (v := .s (.int _ _)) rfl ?_
    refine WO_add rfl rfl (by omega) ?_
    refine WO_mv (v := .s (.int _ _)) rfl ?_
    refine WO_nil ?_
    refine ⟨64 - (i + 1), _, by omega, (.cons _ (.cons_cons _ (.cons_cons _ (.cons_cons _ .slnil)))), i + 1, _, by omega, rfl, ?_, ?_, rfl, rfl, rfl, rfl, rfl⟩
    · refine dturn_step (by omega) hq rfl ?_
      rw [← side_eq]
      first | (rw [if_pos (by assumption)]; rfl) | (rw [if_neg (Bool.eq_false_iff.1 (by assumption))]; rfl)
    · intro c hc; rw [ovA_out (by omega)]; exact hr c hc
  ·try simp only [NM] at h13
   refine WP_exit ?_
   refine xhere ?_
   obtain rfl : i = 64 := by omega
   refine ⟨_, (.cons_cons _ (.cons_cons _ (.cons_cons _ .slnil))), Q, ?_, hr, rfl, rfl, rfl, rfl⟩
   intro s hs
   have h1 := hq (acr s) (acr_lt hs)
   rw [show acr (acr s) = s from by unfold acr; omega] at h1
   exact h1
 ·skip
  obtain ⟨Q, hT, hr, k1, k2, k3, rfl⟩ := hI
  refine WP_know (d := 1) (v := .ptr 0 0 133) k1 ?_
  refine WP_know (d := 2) (v := .ptr 1 0 133) k2 ?_
  refine WP_know (d := 3) (v := .ptr 2 0 133) k3 ?_
  refine WP_seq ?_
  refine WP_ops ?_
  refine WO_fa (o' := 128) rfl rfl rfl ?_
  refine WO_ldI (x := P 128) rfl rfl (.tail _ (.tail _ (.head _))) (rfl) ?_
  refine WO_call0 rfl (RF_of (rOther_run _)) rfl rfl rfl ?_
  refine WO_fa (o' := 128) rfl rfl rfl ?_
  refine WO_stI rfl rfl rfl rfl .here ?_
  refine WO_nil ?_
  refine WP_cut (fun f n L => ∃ (Q : Nat → Int), (Turned P Q 64) ∧ (Q 128 = otherM (P 128)) ∧ (Q 129 = castT (P 129)) ∧ (∀ c, 130 ≤ c → Q c = cut 133 P c) ∧ (f 1 = .ptr 0 0 133) ∧ (f 2 = .ptr 1 0 133) ∧ (f 3 = .ptr 2 0 133) ∧ (L = [(2, .sc .var 133 (ia Q)), (1, .sc .var 133 (ia fun _ => 0)), (0, .sc .var 133 (ia P))])) ?_ (fun f nb L hI => ?_)
  ·skip
   refine WP_seq ?_
   refine WP_ops ?_
   refine WO_fa (o' := 129) rfl rfl rfl ?_
   refine WO_ldI (x := P 129) rfl rfl (.tail _ (.tail _ (.head _))) (rfl) ?_
   refine WO_bin (r := .bool _) rfl rfl rfl ?_
   refine WO_mv (v := .s (.bool _)) rfl ?_
   refine WO_case (t := 38) rfl (fun h15 => ?_) (fun h15 => ?_)
   ·try simp only [NM] at h15
    refine WO_gt rfl ?_
    refine WO_fa (o' := 129) rfl rfl rfl ?_
    refine WO_gt rfl ?_
    refine WO_ldI (x := P 129) rfl rfl (.tail _ (.tail _ (.head _))) (rfl) ?_
    refine WO_gt rfl ?_
    refine WO_bin (r := .bool _) rfl rfl rfl ?_
    refine WO_pick (v := .s (.bool _)) rfl rfl ?_
    refine WO_nil ?_
    refine WP_cond rfl (fun h16 => ?_) (fun h16 => ?_)
    ·try simp only [NM] at h16
     refine WP_ops ?_
     refine WO_fa (o' := 129) rfl rfl rfl ?_
     refine WO_ldI (x := P 129) rfl rfl (.tail _ (.tail _ (.head _))) (rfl) ?_
     refine WO_rem rfl rfl (by omega) ?_
     refine WO_mul rfl rfl (by omega) ?_
     refine WO_fa (o' := 129) rfl rfl rfl ?_
     refine WO_ldI (x := P 129) rfl rfl (.tail _ (.tail _ (.head _))) (rfl) ?_
     refine WO_quo rfl rfl (by omega) ?_
     refine WO_add rfl rfl (by omega) ?_
     refine WO_fa (o' := 129) rfl rfl rfl ?_
     refine WO_stI rfl rfl rfl rfl .here ?_
     refine WO_nil ?_
     refine ⟨_, (.cons_cons _ (.cons_cons _ (.cons_cons _ .slnil))), _, ?_, ?_, ?_, ?_, rfl, rfl, rfl, rfl⟩
     · exact turned_of (fun c hc => by (repeat rw [ov_out (by omega)]) <;> try rfl) hT
     · rfl
     · first | exact (show _ = castT (P 129) from by rw [castT, if_pos (by omega)]; show P 129 % 4 * 4 + P 129 / 4 = _; omega) | exact (hr 129 (by omega)).trans (if_neg (by omega)).symm
     · intro c hc; (repeat rw [ov_out (by omega)]); exact hr c (by omega)
    ·try simp only [NM] at h16
     refine WP_skip ?_
     refine ⟨_, (.cons_cons _ (.cons_cons _ (.cons_cons _ .slnil))), _, ?_, ?_, ?_, ?_, rfl, rfl, rfl, rfl⟩
     · exact turned_of (fun c hc => by (repeat rw [ov_out (by omega)]) <;> try rfl) hT
     · rfl
     · first | exact (show _ = castT (P 129) from by rw [castT, if_pos (by omega)]; show P 129 % 4 * 4 + P 129 / 4 = _; omega) | exact (hr 129 (by omega)).trans (if_neg (by omega)).symm
     · intro c hc; (repeat rw [ov_out (by omega)]); exact hr c (by omega)
   ·try simp only [NM] at h15
    refine WO_gf rfl rfl ?_
    refine WO_gf rfl rfl ?_
    refine WO_gf rfl rfl ?_
    refine WO_pick (v := .s (.bool _)) rfl rfl ?_
    refine WO_nil ?_
    refine WP_cond rfl (fun h => nomatch h) (fun _ => ?_)
    refine WP_skip ?_
    refine ⟨_, (.cons_cons _ (.cons_cons _ (.cons_cons _ .slnil))), _, ?_, ?_, ?_, ?_, rfl, rfl, rfl, rfl⟩
    · exact turned_of (fun c hc => by (repeat rw [ov_out (by omega)]) <;> try rfl) hT
    · rfl
    · first | exact (show _ = castT (P 129) from by rw [castT, if_pos (by omega)]; show P 129 % 4 * 4 + P 129 / 4 = _; omega) | exact (hr 129 (by omega)).trans (if_neg (by omega)).symm
    · intro c hc; (repeat rw [ov_out (by omega)]); exact hr c (by omega)
  ·skip
   obtain ⟨Q, hT, h128, h129, hr, k1, k2, k3, rfl⟩ := hI
   refine WP_know (d := 1) (v := .ptr 0 0 133) k1 ?_
   refine WP_know (d := 2) (v := .ptr 1 0 133) k2 ?_
   refine WP_know (d := 3) (v := .ptr 2 0 133) k3 ?_
   refine WP_cut (fun f n L => ∃ (Q : Nat → Int), (Turned P Q 64) ∧ (Q 128 = otherM (P 128)) ∧ (Q 129 = castT (P 129)) ∧ (Q 130 = overT (P 130)) ∧ (∀ c, 131 ≤ c → Q c = cut 133 P c) ∧ (f 1 = .ptr 0 0 133) ∧ (f 2 = .ptr 1 0 133) ∧ (f 3 = .ptr 2 0 133) ∧ (L = [(2, .sc .var 133 (ia Q)), (1, .sc .var 133 (ia fun _ => 0)), (0, .sc .var 133 (ia P))])) ?_ (fun f nb L hI => ?_)
   ·skip
    refine WP_seq ?_
    refine WP_ops ?_
    refine WO_fa (o' := 130) rfl rfl rfl ?_
    refine WO_ldI (x := P 130) rfl rfl (.tail _ (.tail _ (.head _))) (rfl) ?_
    refine WO_bin (r := .bool _) rfl rfl rfl ?_
    refine WO_mv (v := .s (.bool _)) rfl ?_
    refine WO_case (t := 55) rfl (fun h17 => ?_) (fun h17 => ?_)
    ·try simp only [NM] at h17
     refine WO_gt rfl ?_
     refine WO_fa (o' := 130) rfl rfl rfl ?_
     refine WO_gt rfl ?_
     refine WO_ldI (x := P 130) rfl rfl (.tail _ (.tail _ (.head _))) (rfl) ?_
     refine WO_gt rfl ?_
     refine WO_bin (r := .bool _) rfl rfl rfl ?_
     refine WO_pick (v := .s (.bool _)) rfl rfl ?_
     refine WO_nil ?_
     refine WP_cond rfl (fun h18 => ?_) (fun h18 => ?_)
     ·try simp only [NM] at h18
      refine WP_ops ?_
      refine WO_fa (o' := 130) rfl rfl rfl ?_
      refine WO_ldI (x := P 130) rfl rfl (.tail _ (.tail _ (.head _))) (rfl) ?_
      refine WO_quo rfl rfl (by omega) ?_
      refine WO_sub rfl rfl (by omega) ?_
      refine WO_mul rfl rfl (by omega) ?_
      refine WO_fa (o' := 130) rfl rfl rfl ?_
      refine WO_ldI (x := P 130) rfl rfl (.tail _ (.tail _ (.head _))) (rfl) ?_
      refine WO_rem rfl rfl (by omega) ?_
      refine WO_add rfl rfl (by omega) ?_
      refine WO_fa (o' := 130) rfl rfl rfl ?_
      refine WO_stI rfl rfl rfl rfl .here ?_
      refine WO_nil ?_
      refine ⟨_, (.cons_cons _ (.cons_cons _ (.cons_cons _ .slnil))), _, ?_, ?_, ?_, ?_, ?_, rfl, rfl, rfl, rfl⟩
      · exact turned_of (fun c hc => by (repeat rw [ov_out (by omega)]) <;> try rfl) hT
      · exact h128
      · exact h129
      · first | exact (show _ = overT (P 130) from by rw [overT, if_pos (show isM (P 130) = true from decide_eq_true (by omega))]; show 8 * (7 - P 130 / 8) + P 130 % 8 = _; unfold acrossM; omega) | exact (hr 130 (by omega)).trans (show _ = overT (P 130) from by rw [overT, if_neg (by rw [isM, decide_eq_false (by omega)]; decide)]; rfl)
      · intro c hc; (repeat rw [ov_out (by omega)]); exact hr c (by omega)
     ·try simp only [NM] at h18
      refine WP_skip ?_
      refine ⟨_, (.cons_cons _ (.cons_cons _ (.cons_cons _ .slnil))), _, ?_, ?_, ?_, ?_, ?_, rfl, rfl, rfl, rfl⟩
      · exact turned_of (fun c hc => by (repeat rw [ov_out (by omega)]) <;> try rfl) hT
      · exact h128
      · exact h129
      · first | exact (show _ = overT (P 130) from by rw [overT, if_pos (show isM (P 130) = true from decide_eq_true (by omega))]; show 8 * (7 - P 130 / 8) + P 130 % 8 = _; unfold acrossM; omega) | exact (hr 130 (by omega)).trans (show _ = overT (P 130) from by rw [overT, if_neg (by rw [isM, decide_eq_false (by omega)]; decide)]; rfl)
      · intro c hc; (repeat rw [ov_out (by omega)]); exact hr c (by omega)
    ·try simp only [NM] at h17
     refine WO_gf rfl rfl ?_
     refine WO_gf rfl rfl ?_
     refine WO_gf rfl rfl ?_
     refine WO_pick (v := .s (.bool _)) rfl rfl ?_
     refine WO_nil ?_
     refine WP_cond rfl (fun h => nomatch h) (fun _ => ?_)
     refine WP_skip ?_
     refine ⟨_, (.cons_cons _ (.cons_cons _ (.cons_cons _ .slnil))), _, ?_, ?_, ?_, ?_, ?_, rfl, rfl, rfl, rfl⟩
     · exact turned_of (fun c hc => by (repeat rw [ov_out (by omega)]) <;> try rfl) hT
     · exact h128
     · exact h129
     · first | exact (show _ = overT (P 130) from by rw [overT, if_pos (show isM (P 130) = true from decide_eq_true (by omega))]; show 8 * (7 - P 130 / 8) + P 130 % 8 = _; unfold acrossM; omega) | exact (hr 130 (by omega)).trans (show _ = overT (P 130) from by rw [overT, if_neg (by rw [isM, decide_eq_false (by omega)]; decide)]; rfl)
     · intro c hc; (repeat rw [ov_out (by omega)]); exact hr c (by omega)
   ·skip
    obtain ⟨Q, hT, h128, h129, h130, hr, k1, k2, k3, rfl⟩ := hI
    refine WP_know (d := 1) (v := .ptr 0 0 133) k1 ?_
    refine WP_know (d := 2) (v := .ptr 1 0 133) k2 ?_
    refine WP_know (d := 3) (v := .ptr 2 0 133) k3 ?_
    refine WP_seq ?_
    refine WP_ops ?_
    first | refine WO_ldA0 rfl rfl (.head _) ?_ | refine WO_ldAI rfl rfl (.head _) ?_
    refine WO_stA rfl rfl rfl rfl (.there .here) ?_
    refine WO_nil ?_
    refine WP_ret ?_
    refine ⟨_, RS_cell rfl rfl (.tail _ (.head _)) (RS_nil), ?_⟩
    refine ⟨_, ⟨?_, ?_, ?_, ?_, ?_, ?_, ?_⟩, rfl⟩
    · exact turned_of (fun c hc => by rw [ovA_at (by omega), Nat.sub_zero]) hT
    · exact h128
    · exact h129
    · exact h130
    · exact hr 131 (by omega)
    · exact hr 132 (by omega)
    · exact fun i hi => ovA_out (by omega)
end Go.Proofs.Ytjldefmcnppdoaa
/- The walks of the chapter board: pieces put, lists lent and kept. -/
namespace Go.Proofs.Ytjldefmcnppdoaa
open Go Go.Am
set_option linter.unusedSimpArgs false
set_option linter.unusedVariables false
/-- Pieces put, one by one; the error. -/
def putS (P X K : Nat → Int) : Nat → Nat → Int
  | 0 => P
  | n + 1 => ovA (putS P X K n) (0 + (K n).toNat * 2) 2 X
def putE (X K : Nat → Int) (n : Nat) : Int := if ¬ (X 0 = 0 ∧ X 1 = 0) ∧ mayM (X 0) (X 1) = false then 2 else if ∀ j : Nat, j < n → isM (K j) = true then 0 else 6
def putQ (P X K : Nat → Int) (n : Nat) : Nat → Int := ovA (fun _ => 0) 0 133 (if putE X K n = 0 then putS P X K n else fun _ => 0)
theorem putS_same {P X K G : Nat → Int} : ∀ n : Nat, (∀ j : Nat, j < n → G j = K j) → putS P X G n = putS P X K n
  | 0, _ => rfl
  | n + 1, h => by rw [putS, putS, putS_same n (fun j hj => h j (by omega)), h n (by omega)]
theorem putE_same {X K G : Nat → Int} {n : Nat} (h : ∀ j : Nat, j < n → G j = K j) : putE X G n = putE X K n := by
  have e : (∀ j : Nat, j < n → isM (G j) = true) ↔ (∀ j : Nat, j < n → isM (K j) = true) := ⟨fun a j hj => by rw [← h j hj]; exact a j hj, fun a j hj => by rw [h j hj]; exact a j hj⟩
  unfold putE
  by_cases c : ¬ (X 0 = 0 ∧ X 1 = 0) ∧ mayM (X 0) (X 1) = false
  · rw [if_pos c, if_pos c]
  · rw [if_neg c, if_neg c]
    by_cases q : ∀ j : Nat, j < n → isM (K j) = true
    · rw [if_pos q, if_pos (e.2 q)]
    · rw [if_neg q, if_neg (fun z => q (e.1 z))]
theorem putQ_same {P X K G : Nat → Int} {n : Nat} (h : ∀ j : Nat, j < n → G j = K j) : putQ P X G n = putQ P X K n := by
  unfold putQ
  rw [putE_same h, putS_same n h]
theorem putE_2 {X K : Nat → Int} {n : Nat} (h : ¬ (X 0 = 0 ∧ X 1 = 0)) (hm : mayM (X 0) (X 1) = false) : putE X K n = 2 := if_pos ⟨h, hm⟩
theorem putE_6 {X K : Nat → Int} {n : Nat} (h : (X 0 = 0 ∧ X 1 = 0) ∨ mayM (X 0) (X 1) = true) (hk : ¬ ∀ j : Nat, j < n → isM (K j) = true) : putE X K n = 6 := by
  unfold putE
  rw [if_neg (fun q => by rcases h with h | h; exact q.1 h; rw [h] at q; exact absurd q.2 (by decide)), if_neg hk]
theorem putE_0 {X K : Nat → Int} {n : Nat} (h : (X 0 = 0 ∧ X 1 = 0) ∨ mayM (X 0) (X 1) = true) (hk : ∀ j : Nat, j < n → isM (K j) = true) : putE X K n = 0 := by
  unfold putE
  rw [if_neg (fun q => by rcases h with h | h; exact q.1 h; rw [h] at q; exact absurd q.2 (by decide)), if_pos hk]
theorem put_bad {P X K : Nat → Int} {n : Nat} {e : Int} (he : putE X K n = e) (h0 : e ≠ 0) : (V.tup [.agg 133 (ia (ovA (fun _ => 0) 0 133 (fun _ => 0))), .s (.int .i64 e)]) = .tup [.agg 133 (ia (putQ P X K n)), .s (.int .i64 (putE X K n))] := by
  unfold putQ
  rw [he, if_neg h0]
theorem put_good {P X K : Nat → Int} {n : Nat} (he : putE X K n = 0) : (V.tup [.agg 133 (ia (ovA (fun _ => 0) 0 133 (putS P X K n))), .s (.int .i64 0)]) = .tup [.agg 133 (ia (putQ P X K n)), .s (.int .i64 (putE X K n))] := by
  unfold putQ
  rw [he, if_pos rfl]

theorem Put1_run (x : Int) : WR AM 93 [.s (.int .i64 x)] [] (fun v _ _ => v = .s (.bool (!(isM x)))) := by
 refine WR_fn (a := a93) rfl rfl (entryF _) (entry_E (Nat.le_of_ble_eq_true rfl)) (m := 0) rfl ?_
 refine WP_seq ?_
 refine WP_ops ?_
 refine WO_mv rfl ?_
 refine WO_nil ?_
 refine WP_seq ?_
 refine WP_ops ?_
 refine WO_mv (v := .s (.int _ _)) rfl ?_
 refine WO_call0 rfl (SqIs_run _) rfl rfl rfl ?_
 refine WO_un (r := .bool _) rfl rfl ?_
 refine WO_mv (v := .s (.bool _)) rfl ?_
 refine WO_nil ?_
 refine WP_ret ?_
 refine ⟨_, RS_tmp (v := .s (.bool _)) rfl (RS_nil), ?_⟩
 rfl
theorem IndexFunc_run {md : Md} {q : Nat} {c : Cp} (K : Nat → Int) (nn : Nat) (hnn : nn ≤ 1000000) : WR AM 114 [.sl 0 0 nn 1 c, .fn 93 []] [.sc md q (ia K)] (fun v _ L => (∃ x, v = .s (.int .i64 x) ∧ ((x = -1 ∧ ∀ j : Nat, j < nn → isM (K j) = true) ∨ (0 ≤ x ∧ ¬ ∀ j : Nat, j < nn → isM (K j) = true))) ∧ (0, Blk.sc md q (ia K)) ∈ L) := by
 refine WR_fn (a := a114) rfl rfl (entryF _) (entry_E (Nat.le_of_ble_eq_true rfl)) (m := 1) rfl ?_
 refine WP_seq ?_
 refine WP_ops ?_
 refine WO_mv rfl ?_
 refine WO_nil ?_
 refine WP_seq ?_
 refine WP_seq ?_
 refine WP_ops ?_
 refine WO_mv (v := .sl _ _ _ _ _) rfl ?_
 refine WO_len rfl ?_
 refine WO_mv rfl ?_
 refine WO_nil ?_
 refine WP_block ?_
 refine WP_sub (L' := [_]) (.cons_cons _ .slnil) ?_
 refine WP_loop (fun m f _ L => ∃ (i : Nat), (i ≤ nn) ∧ (m = nn - i) ∧ (∀ j : Nat, j < i → isM (K j) = true) ∧ (f 0 = .sl 0 0 nn 1 c) ∧ (f 1 = .fn 93 []) ∧ (f 7 = .s (.int .i64 nn)) ∧ (f 8 = .s (.int .i64 i)) ∧ (L = [(0, .sc md q (ia K))])) (fun m f nb L hI => ?_) (nn) ⟨0, by omega, rfl, fun j h => by omega, rfl, rfl, rfl, rfl, rfl⟩
 obtain ⟨i, hi, hm, hn, k0, k1, k7, k8, rfl⟩ := hI
 refine WP_know (d := 0) (v := .sl 0 0 nn 1 c) k0 ?_
 refine WP_know (d := 1) (v := .fn 93 []) k1 ?_
 refine WP_know (d := 7) (v := .s (.int .i64 nn)) k7 ?_
 refine WP_know (d := 8) (v := .s (.int .i64 i)) k8 ?_
 refine WP_seq ?_
 refine WP_ops ?_
 refine WO_bin (r := .bool _) rfl rfl rfl ?_
 refine WO_nil ?_
 refine WP_seq ?_
 refine WP_cond rfl (fun h1 => ?_) (fun h1 => ?_)
 ·try simp only [NM] at h1
  refine WP_skip ?_
  refine WP_seq ?_
  refine WP_block ?_
  refine WP_seq ?_
  refine WP_ops ?_
  refine WO_mv (v := .s (.int _ _)) rfl ?_
  refine WO_mv (v := .s (.int _ _)) rfl ?_
  refine WO_nil ?_
  refine WP_seq ?_
  refine WP_ops ?_
  refine WO_mv (v := .fn _ _) rfl ?_
  refine WO_mv (v := .sl _ _ _ _ _) rfl ?_
  refine WO_mv (v := .s (.int _ _)) rfl ?_
  refine WO_ixs rfl rfl (by omega) ?_
  refine WO_ldI (x := K i) rfl rfl (.head _) (congrArg K (by omega)) ?_
  refine WO_call0 rfl (RF_of (Put1_run (K i))) rfl rfl rfl ?_
  refine WO_nil ?_
  refine WP_cond rfl (fun h2 => ?_) (fun h2 => ?_)
  ·try simp only [NM] at h2
   refine WP_seq ?_
   refine WP_ops ?_
   refine WO_mv (v := .s (.int _ _)) rfl ?_
   refine WO_mv (v := .s (.int _ _)) rfl ?_
   refine WO_nil ?_
   refine WP_ret ?_
   refine ⟨_, RS_tmp (v := .s (.int _ _)) rfl (RS_nil), ?_⟩
   first | exact ⟨⟨_, rfl, .inl ⟨rfl, fun j hj => hn j (by omega)⟩⟩, (.head _)⟩ | exact ⟨⟨_, rfl, .inr ⟨by omega, fun q => absurd ((q i (by omega)).symm.trans (by assumption)) (by decide)⟩⟩, (.head _)⟩
  ·try simp only [NM] at h2
   refine WP_skip ?_
   refine WP_ops ?_
   refine WO_add rfl rfl (by omega) ?_
   refine WO_mv (v := .s (.int _ _)) rfl ?_
   refine WO_nil ?_
   refine ⟨nn - (i + 1), _, by omega, (.cons_cons _ .slnil), i + 1, by omega, rfl, ?_, rfl, rfl, rfl, rfl, rfl⟩
   intro j hj
   by_cases e : j = i
   · subst e; assumption
   · exact hn j (by omega)
 ·try simp only [NM] at h1
  refine WP_exit ?_
  refine xhere ?_
  refine WP_seq ?_
  refine WP_ops ?_
  refine WO_mv rfl ?_
  refine WO_nil ?_
  refine WP_ret ?_
  refine ⟨_, RS_tmp (v := .s (.int _ _)) rfl (RS_nil), ?_⟩
  first | exact ⟨⟨_, rfl, .inl ⟨rfl, fun j hj => hn j (by omega)⟩⟩, (.head _)⟩ | exact ⟨⟨_, rfl, .inr ⟨by omega, fun q => absurd ((q i (by omega)).symm.trans (by assumption)) (by decide)⟩⟩, (.head _)⟩
theorem IndexFunc_ex {md : Md} {q : Nat} {c : Cp} (K : Nat → Int) (nn : Nat) (hnn : nn ≤ 1000000) : ∃ x, ((x = -1 ∧ ∀ j : Nat, j < nn → isM (K j) = true) ∨ (0 ≤ x ∧ ¬ ∀ j : Nat, j < nn → isM (K j) = true)) ∧ RB AM 114 [.sl 0 0 nn 1 c, .fn 93 []] [.sc md q (ia K)] (.s (.int .i64 x)) [.sc md q (ia K)] := by
  obtain ⟨v, σ', n', L', h1, h2, ⟨x, rfl, hx⟩, hm⟩ := IndexFunc_run (md := md) (q := q) (c := c) K nn hnn
  exact ⟨x, hx, σ', h1, (h2.2.mem hm).2, ⟨_, _, _, rfl⟩, trivial⟩

theorem ContainsFunc_run {md : Md} {q : Nat} {c : Cp} (K : Nat → Int) (nn : Nat) (hnn : nn ≤ 1000000) : WR AM 92 [.sl 0 0 nn 1 c, .fn 93 []] [.sc md q (ia K)] (fun v _ L => (∃ b, v = .s (.bool b) ∧ (b = false ↔ ∀ j : Nat, j < nn → isM (K j) = true)) ∧ (0, Blk.sc md q (ia K)) ∈ L) := by
 refine WR_fn (a := a92) rfl rfl (entryF _) (entry_E (Nat.le_of_ble_eq_true rfl)) (m := 1) rfl ?_
 refine WP_seq ?_
 refine WP_ops ?_
 refine WO_mv rfl ?_
 refine WO_nil ?_
 refine WP_seq ?_
 refine WP_ops ?_
 refine WO_mv (v := .sl _ _ _ _ _) rfl ?_
 refine WO_mv (v := .fn _ _) rfl ?_
 obtain ⟨x, hx, hI⟩ := IndexFunc_ex (md := md) (q := q) (c := c) K nn hnn
 refine WO_call (rs := [0]) (Bs := [_]) rfl (hI) rfl rfl (Nat.le_of_ble_eq_true rfl) (fun _ h => h) rfl ⟨(.head _), ⟨_, _, _, rfl⟩, trivial⟩ rfl rfl rfl (.cons .here .nil) ?_
 refine WO_bin (r := .bool _) rfl rfl rfl ?_
 refine WO_mv (v := .s (.bool _)) rfl ?_
 refine WO_nil ?_
 refine WP_ret ?_
 refine ⟨_, RS_tmp (v := .s (.bool _)) rfl (RS_nil), ?_⟩
 refine ⟨⟨_, rfl, ?_⟩, (.head _)⟩
 rcases hx with ⟨h1, h2⟩ | ⟨h1, h2⟩
 · exact ⟨fun _ => h2, fun _ => decide_eq_false (by omega)⟩
 · exact ⟨fun q => absurd (of_decide_eq_false q) (by omega), fun q => absurd q h2⟩
theorem ContainsFunc_ex {md : Md} {q : Nat} {c : Cp} (K : Nat → Int) (nn : Nat) (hnn : nn ≤ 1000000) : ∃ b, (b = false ↔ ∀ j : Nat, j < nn → isM (K j) = true) ∧ RB AM 92 [.sl 0 0 nn 1 c, .fn 93 []] [.sc md q (ia K)] (.s (.bool b)) [.sc md q (ia K)] := by
  obtain ⟨v, σ', n', L', h1, h2, ⟨x, rfl, hx⟩, hm⟩ := ContainsFunc_run (md := md) (q := q) (c := c) K nn hnn
  exact ⟨x, hx, σ', h1, (h2.2.mem hm).2, ⟨_, _, _, rfl⟩, trivial⟩

theorem Put_walk {md : Md} {q : Nat} {c : Cp} (P X K : Nat → Int) (nn : Nat) (hnn : nn ≤ 1000000) : WR AM 59 [.agg 133 (ia P), .agg 2 (ia X), .sl 0 0 nn 1 c] [.sc md q (ia K)] (fun v _ L => v = .tup [.agg 133 (ia (putQ P X K nn)), .s (.int .i64 (putE X K nn))] ∧ (0, Blk.sc md q (ia K)) ∈ L) := by
 refine WR_fn (a := a59) rfl rfl (entryF _) (entry_E (Nat.le_of_ble_eq_true rfl)) (m := 1) rfl ?_
 refine WP_seq ?_
 refine WP_ops ?_
 refine WO_boxA rfl ?_
 refine WO_boxA rfl ?_
 refine WO_allocI ?_
 refine WO_mv rfl ?_
 refine WO_nil ?_
 refine WP_seq ?_
 refine WP_seq ?_
 refine WP_ops ?_
 first | refine WO_ldA0 rfl rfl (.tail _ (.head _)) ?_ | refine WO_ldAI rfl rfl (.tail _ (.head _)) ?_
 refine WO_buildI rfl .nil ?_
 refine WO_eqa rfl rfl ?_
 refine WO_mv (v := .s (.bool _)) rfl ?_
 refine WO_case (t := 13) rfl (fun h3 => ?_) (fun h3 => ?_)
 ·try simp only [NM] at h3
  try simp only [eq_two, decide_eq_true_eq, decide_eq_false_iff_not] at h3
  refine WO_gt rfl ?_
  first | refine WO_ldA0 rfl rfl (.tail _ (.head _)) ?_ | refine WO_ldAI rfl rfl (.tail _ (.head _)) ?_
  refine WO_gt rfl ?_
  refine WO_call0 rfl (RF_of (may_run _)) rfl rfl rfl ?_
  refine WO_gt rfl ?_
  refine WO_un (r := .bool _) rfl rfl ?_
  refine WO_pick (v := .s (.bool _)) rfl rfl ?_
  refine WO_nil ?_
  refine WP_cond rfl (fun h4 => ?_) (fun h4 => ?_)
  ·try simp only [NM] at h4
   try simp only [eq_two, decide_eq_true_eq, decide_eq_false_iff_not] at h4
   refine WP_seq ?_
   refine WP_ops ?_
   refine WO_buildI rfl .nil ?_
   refine WO_stA rfl rfl rfl rfl .here ?_
   refine WO_mv rfl ?_
   refine WO_nil ?_
   refine WP_ret ?_
   refine ⟨_, RS_cell rfl rfl (.head _) (RS_tmp (v := .s (.int _ _)) rfl (RS_nil)), ?_⟩
   exact ⟨put_bad (putE_2 (by assumption) (by assumption)) (by decide), (.tail _ (.tail _ (.tail _ (.head _))))⟩
  ·try simp only [NM] at h4
   try simp only [eq_two, decide_eq_true_eq, decide_eq_false_iff_not] at h4
   refine WP_skip ?_
   refine WP_cut (fun f n L => ((X 0 = 0 ∧ X 1 = 0) ∨ mayM (X 0) (X 1) = true) ∧ (∀ j : Nat, j < nn → isM (K j) = true) ∧ (f 2 = .sl 0 0 nn 1 c) ∧ (f 3 = .ptr 1 0 133) ∧ (f 4 = .ptr 2 0 2) ∧ (f 6 = .ptr 3 0 133) ∧ (L = [(3, .sc .var 133 (ia fun _ => 0)), (2, .sc .var 2 (ia X)), (1, .sc .var 133 (ia P)), (0, .sc md q (ia K))]) ∧ (n = 4)) ?_ (fun f nb L hI => ?_)
   ·skip
    refine WP_seq ?_
    refine WP_ops ?_
    refine WO_mv (v := .sl _ _ _ _ _) rfl ?_
    obtain ⟨bc, hbc, hC⟩ := ContainsFunc_ex (md := md) (q := q) (c := c) K nn hnn
    refine WO_call (rs := [0]) (Bs := [_]) rfl (hC) rfl rfl (Nat.le_of_ble_eq_true rfl) (fun _ h => h) rfl ⟨(.tail _ (.tail _ (.tail _ (.head _)))), ⟨_, _, _, rfl⟩, trivial⟩ rfl rfl rfl (.cons (.there (.there (.there .here))) .nil) ?_
    refine WO_nil ?_
    refine WP_cond rfl (fun h5 => ?_) (fun h5 => ?_)
    ·try simp only [NM] at h5
     try simp only [eq_two, decide_eq_true_eq, decide_eq_false_iff_not] at h5
     refine WP_seq ?_
     refine WP_ops ?_
     refine WO_buildI rfl .nil ?_
     refine WO_stA rfl rfl rfl rfl .here ?_
     refine WO_mv rfl ?_
     refine WO_nil ?_
     refine WP_ret ?_
     refine ⟨_, RS_cell rfl rfl (.head _) (RS_tmp (v := .s (.int _ _)) rfl (RS_nil)), ?_⟩
     exact ⟨put_bad (putE_6 (by first | exact .inl (by assumption) | exact .inr (by assumption)) (fun q => absurd ((hbc.2 q).symm.trans (by assumption)) (by decide))) (by decide), (.tail _ (.tail _ (.tail _ (.head _))))⟩
    ·try simp only [NM] at h5
     try simp only [eq_two, decide_eq_true_eq, decide_eq_false_iff_not] at h5
     refine WP_skip ?_
     refine ⟨_, (.cons_cons _ (.cons_cons _ (.cons_cons _ (.cons_cons _ .slnil)))), ?_, hbc.1 (by assumption), rfl, rfl, rfl, rfl, rfl, rfl⟩
     first | exact .inl (by assumption) | exact .inr (by assumption)
   ·skip
    obtain ⟨hok, hall, k2, k3, k4, k6, rfl, rfl⟩ := hI
    refine WP_know (d := 2) (v := .sl 0 0 nn 1 c) k2 ?_
    refine WP_know (d := 3) (v := .ptr 1 0 133) k3 ?_
    refine WP_know (d := 4) (v := .ptr 2 0 2) k4 ?_
    refine WP_know (d := 6) (v := .ptr 3 0 133) k6 ?_
    refine WP_seq ?_
    refine WP_seq ?_
    refine WP_ops ?_
    refine WO_mv (v := .sl _ _ _ _ _) rfl ?_
    refine WO_len rfl ?_
    refine WO_mv rfl ?_
    refine WO_nil ?_
    refine WP_block ?_
    refine WP_sub (L' := [_, _, _, _]) (.cons_cons _ (.cons_cons _ (.cons_cons _ (.cons_cons _ .slnil)))) ?_
    refine WP_loop (fun m f _ L => ∃ (i : Nat), (i ≤ nn) ∧ (m = nn - i) ∧ (f 3 = .ptr 1 0 133) ∧ (f 4 = .ptr 2 0 2) ∧ (f 6 = .ptr 3 0 133) ∧ (f 22 = .sl 0 0 nn 1 c) ∧ (f 23 = .s (.int .i64 nn)) ∧ (f 24 = .s (.int .i64 i)) ∧ (L = [(3, .sc .var 133 (ia fun _ => 0)), (2, .sc .var 2 (ia X)), (1, .sc .var 133 (ia (putS P X K i))), (0, .sc md q (ia K))])) (fun m f nb L hI => ?_) (nn) ⟨0, by omega, rfl, rfl, rfl, rfl, rfl, rfl, rfl, rfl⟩
    obtain ⟨i, hi, hm, k3, k4, k6, k22, k23, k24, rfl⟩ := hI
    refine WP_know (d := 3) (v := .ptr 1 0 133) k3 ?_
    refine WP_know (d := 4) (v := .ptr 2 0 2) k4 ?_
    refine WP_know (d := 6) (v := .ptr 3 0 133) k6 ?_
    refine WP_know (d := 22) (v := .sl 0 0 nn 1 c) k22 ?_
    refine WP_know (d := 23) (v := .s (.int .i64 nn)) k23 ?_
    refine WP_know (d := 24) (v := .s (.int .i64 i)) k24 ?_
    refine WP_seq ?_
    refine WP_ops ?_
    refine WO_bin (r := .bool _) rfl rfl rfl ?_
    refine WO_nil ?_
    refine WP_seq ?_
    refine WP_cond rfl (fun h6 => ?_) (fun h6 => ?_)
    ·try simp only [NM] at h6
     try simp only [eq_two, decide_eq_true_eq, decide_eq_false_iff_not] at h6
     refine WP_skip ?_
     refine WP_seq ?_
     refine WP_block ?_
     refine WP_seq ?_
     refine WP_ops ?_
     refine WO_ixs rfl rfl (by first | omega | exact of_decide_eq_true (hall i (by omega))) ?_
     refine WO_ldI (x := K i) rfl rfl (.tail _ (.tail _ (.tail _ (.head _)))) (congrArg K (by omega)) ?_
     refine WO_mv (v := .s (.int _ _)) rfl ?_
     refine WO_nil ?_
     refine WP_ops ?_
     refine WO_mv (v := .s (.int _ _)) rfl ?_
     first | refine WO_ldA0 rfl rfl (.tail _ (.head _)) ?_ | refine WO_ldAI rfl rfl (.tail _ (.head _)) ?_
     refine WO_fa (o' := 0) rfl rfl rfl ?_
     refine WO_ixa rfl rfl rfl (by first | omega | exact of_decide_eq_true (hall i (by omega))) ?_
     refine WO_stA rfl rfl rfl rfl (.there (.there .here)) ?_
     refine WO_nil ?_
     refine WP_ops ?_
     refine WO_add rfl rfl (by omega) ?_
     refine WO_mv (v := .s (.int _ _)) rfl ?_
     refine WO_nil ?_
     exact ⟨nn - (i + 1), _, by omega, (.cons_cons _ (.cons_cons _ (.cons_cons _ (.cons_cons _ .slnil)))), i + 1, by omega, rfl, rfl, rfl, rfl, rfl, rfl, rfl, rfl⟩
    ·try simp only [NM] at h6
     try simp only [eq_two, decide_eq_true_eq, decide_eq_false_iff_not] at h6
     refine WP_exit ?_
     refine xhere ?_
     refine WP_seq ?_
     refine WP_ops ?_
     first | refine WO_ldA0 rfl rfl (.tail _ (.tail _ (.head _))) ?_ | refine WO_ldAI rfl rfl (.tail _ (.tail _ (.head _))) ?_
     refine WO_stA rfl rfl rfl rfl .here ?_
     refine WO_mv rfl ?_
     refine WO_nil ?_
     refine WP_ret ?_
     refine ⟨_, RS_cell rfl rfl (.head _) (RS_tmp (v := .s (.int _ _)) rfl (RS_nil)), ?_⟩
     obtain rfl : i = nn := by omega
     exact ⟨put_good (putE_0 hok hall), (.tail _ (.tail _ (.tail _ (.head _))))⟩
 ·try simp only [NM] at h3
  try simp only [eq_two, decide_eq_true_eq, decide_eq_false_iff_not] at h3
  refine WO_gf rfl rfl ?_
  refine WO_gf rfl rfl ?_
  refine WO_gf rfl rfl ?_
  refine WO_pick (v := .s (.bool _)) rfl rfl ?_
  refine WO_nil ?_
  refine WP_cond rfl (fun h => nomatch h) (fun _ => ?_)
  refine WP_skip ?_
  refine WP_cut (fun f n L => ((X 0 = 0 ∧ X 1 = 0) ∨ mayM (X 0) (X 1) = true) ∧ (∀ j : Nat, j < nn → isM (K j) = true) ∧ (f 2 = .sl 0 0 nn 1 c) ∧ (f 3 = .ptr 1 0 133) ∧ (f 4 = .ptr 2 0 2) ∧ (f 6 = .ptr 3 0 133) ∧ (L = [(3, .sc .var 133 (ia fun _ => 0)), (2, .sc .var 2 (ia X)), (1, .sc .var 133 (ia P)), (0, .sc md q (ia K))]) ∧ (n = 4)) ?_ (fun f nb L hI => ?_)
  ·skip
   refine WP_seq ?_
   refine WP_ops ?_
   refine WO_mv (v := .sl _ _ _ _ _) rfl ?_
   obtain ⟨bc, hbc, hC⟩ := ContainsFunc_ex (md := md) (q := q) (c := c) K nn hnn
   refine WO_call (rs := [0]) (Bs := [_]) rfl (hC) rfl rfl (Nat.le_of_ble_eq_true rfl) (fun _ h => h) rfl ⟨(.tail _ (.tail _ (.tail _ (.head _)))), ⟨_, _, _, rfl⟩, trivial⟩ rfl rfl rfl (.cons (.there (.there (.there .here))) .nil) ?_
   refine WO_nil ?_
   refine WP_cond rfl (fun h7 => ?_) (fun h7 => ?_)
   ·try simp only [NM] at h7
    try simp only [eq_two, decide_eq_true_eq, decide_eq_false_iff_not] at h7
    refine WP_seq ?_
    refine WP_ops ?_
    refine WO_buildI rfl .nil ?_
    refine WO_stA rfl rfl rfl rfl .here ?_
    refine WO_mv rfl ?_
    refine WO_nil ?_
    refine WP_ret ?_
    refine ⟨_, RS_cell rfl rfl (.head _) (RS_tmp (v := .s (.int _ _)) rfl (RS_nil)), ?_⟩
    exact ⟨put_bad (putE_6 (by first | exact .inl (by assumption) | exact .inr (by assumption)) (fun q => absurd ((hbc.2 q).symm.trans (by assumption)) (by decide))) (by decide), (.tail _ (.tail _ (.tail _ (.head _))))⟩
   ·try simp only [NM] at h7
    try simp only [eq_two, decide_eq_true_eq, decide_eq_false_iff_not] at h7
    refine WP_skip ?_
    refine ⟨_, (.cons_cons _ (.cons_cons _ (.cons_cons _ (.cons_cons _ .slnil)))), ?_, hbc.1 (by assumption), rfl, rfl, rfl, rfl, rfl, rfl⟩
    first | exact .inl (by assumption) | exact .inr (by assumption)
  ·skip
   obtain ⟨hok, hall, k2, k3, k4, k6, rfl, rfl⟩ := hI
   refine WP_know (d := 2) (v := .sl 0 0 nn 1 c) k2 ?_
   refine WP_know (d := 3) (v := .ptr 1 0 133) k3 ?_
   refine WP_know (d := 4) (v := .ptr 2 0 2) k4 ?_
   refine WP_know (d := 6) (v := .ptr 3 0 133) k6 ?_
   refine WP_seq ?_
   refine WP_seq ?_
   refine WP_ops ?_
   refine WO_mv (v := .sl _ _ _ _ _) rfl ?_
   refine WO_len rfl ?_
   refine WO_mv rfl ?_
   refine WO_nil ?_
   refine WP_block ?_
   refine WP_sub (L' := [_, _, _, _]) (.cons_cons _ (.cons_cons _ (.cons_cons _ (.cons_cons _ .slnil)))) ?_
   refine WP_loop (fun m f _ L => ∃ (i : Nat), (i ≤ nn) ∧ (m = nn - i) ∧ (f 3 = .ptr 1 0 133) ∧ (f 4 = .ptr 2 0 2) ∧ (f 6 = .ptr 3 0 133) ∧ (f 22 = .sl 0 0 nn 1 c) ∧ (f 23 = .s (.int .i64 nn)) ∧ (f 24 = .s (.int .i64 i)) ∧ (L = [(3, .sc .var 133 (ia fun _ => 0)), (2, .sc .var 2 (ia X)), (1, .sc .var 133 (ia (putS P X K i))), (0, .sc md q (ia K))])) (fun m f nb L hI => ?_) (nn) ⟨0, by omega, rfl, rfl, rfl, rfl, rfl, rfl, rfl, rfl⟩
   obtain ⟨i, hi, hm, k3, k4, k6, k22, k23, k24, rfl⟩ := hI
   refine WP_know (d := 3) (v := .ptr 1 0 133) k3 ?_
   refine WP_know (d := 4) (v := .ptr 2 0 2) k4 ?_
   refine WP_know (d := 6) (v := .ptr 3 0 133) k6 ?_
   refine WP_know (d := 22) (v := .sl 0 0 nn 1 c) k22 ?_
   refine WP_know (d := 23) (v := .s (.int .i64 nn)) k23 ?_
   refine WP_know (d := 24) (v := .s (.int .i64 i)) k24 ?_
   refine WP_seq ?_
   refine WP_ops ?_
   refine WO_bin (r := .bool _) rfl rfl rfl ?_
   refine WO_nil ?_
   refine WP_seq ?_
   refine WP_cond rfl (fun h8 => ?_) (fun h8 => ?_)
   ·try simp only [NM] at h8
    try simp only [eq_two, decide_eq_true_eq, decide_eq_false_iff_not] at h8
    refine WP_skip ?_
    refine WP_seq ?_
    refine WP_block ?_
    refine WP_seq ?_
    refine WP_ops ?_
    refine WO_ixs rfl rfl (by first | omega | exact of_decide_eq_true (hall i (by omega))) ?_
    refine WO_ldI (x := K i) rfl rfl (.tail _ (.tail _ (.tail _ (.head _)))) (congrArg K (by omega)) ?_
    refine WO_mv (v := .s (.int _ _)) rfl ?_
    refine WO_nil ?_
    refine WP_ops ?_
    refine WO_mv (v := .s (.int _ _)) rfl ?_
    first | refine WO_ldA0 rfl rfl (.tail _ (.head _)) ?_ | refine WO_ldAI rfl rfl (.tail _ (.head _)) ?_
    refine WO_fa (o' := 0) rfl rfl rfl ?_
    refine WO_ixa rfl rfl rfl (by first | omega | exact of_decide_eq_true (hall i (by omega))) ?_
    refine WO_stA rfl rfl rfl rfl (.there (.there .here)) ?_
    refine WO_nil ?_
    refine WP_ops ?_
    refine WO_add rfl rfl (by omega) ?_
    refine WO_mv (v := .s (.int _ _)) rfl ?_
    refine WO_nil ?_
    exact ⟨nn - (i + 1), _, by omega, (.cons_cons _ (.cons_cons _ (.cons_cons _ (.cons_cons _ .slnil)))), i + 1, by omega, rfl, rfl, rfl, rfl, rfl, rfl, rfl, rfl⟩
   ·try simp only [NM] at h8
    try simp only [eq_two, decide_eq_true_eq, decide_eq_false_iff_not] at h8
    refine WP_exit ?_
    refine xhere ?_
    refine WP_seq ?_
    refine WP_ops ?_
    first | refine WO_ldA0 rfl rfl (.tail _ (.tail _ (.head _))) ?_ | refine WO_ldAI rfl rfl (.tail _ (.tail _ (.head _))) ?_
    refine WO_stA rfl rfl rfl rfl .here ?_
    refine WO_mv rfl ?_
    refine WO_nil ?_
    refine WP_ret ?_
    refine ⟨_, RS_cell rfl rfl (.head _) (RS_tmp (v := .s (.int _ _)) rfl (RS_nil)), ?_⟩
    obtain rfl : i = nn := by omega
    exact ⟨put_good (putE_0 hok hall), (.tail _ (.tail _ (.tail _ (.head _))))⟩
theorem dPut_walk {md : Md} {q : Nat} {c : Cp} (P X K : Nat → Int) (nn : Nat) (hnn : nn ≤ 1000000) : WR AM 70 [.agg 133 (ia P), .agg 2 (ia X), .sl 0 0 nn 1 c] [.sc md q (ia K)] (fun v _ L => v = .tup [.agg 133 (ia (putQ P X K nn)), .s (.int .i64 (putE X K nn))] ∧ (0, Blk.sc md q (ia K)) ∈ L) := by
 refine WR_fn (a := a70) rfl rfl (entryF _) (entry_E (Nat.le_of_ble_eq_true rfl)) (m := 1) rfl ?_
 refine WP_seq ?_
 refine WP_ops ?_
 refine WO_boxA rfl ?_
 refine WO_boxA rfl ?_
 refine WO_allocI ?_
 refine WO_mv rfl ?_
 refine WO_nil ?_
 refine WP_cut (fun f n L => ((X 0 = 0 ∧ X 1 = 0) ∨ mayM (X 0) (X 1) = true) ∧ (f 2 = .sl 0 0 nn 1 c) ∧ (f 3 = .ptr 1 0 133) ∧ (f 4 = .ptr 2 0 2) ∧ (f 6 = .ptr 3 0 133) ∧ (L = [(3, .sc .var 133 (ia fun _ => 0)), (2, .sc .var 2 (ia X)), (1, .sc .var 133 (ia P)), (0, .sc md q (ia K))]) ∧ (n = 4)) ?_ (fun f nb L hI => ?_)
 ·skip
  refine WP_seq ?_
  refine WP_ops ?_
  first | refine WO_ldA0 rfl rfl (.tail _ (.head _)) ?_ | refine WO_ldAI rfl rfl (.tail _ (.head _)) ?_
  refine WO_call0 rfl (RF_of (none_run X)) rfl rfl rfl ?_
  refine WO_un (r := .bool _) rfl rfl ?_
  refine WO_mv (v := .s (.bool _)) rfl ?_
  refine WO_case (t := 13) rfl (fun h9 => ?_) (fun h9 => ?_)
  ·try simp only [NM] at h9
   try simp only [isM, decide_eq_true_eq, decide_eq_false_iff_not] at h9
   refine WO_gt rfl ?_
   first | refine WO_ldA0 rfl rfl (.tail _ (.head _)) ?_ | refine WO_ldAI rfl rfl (.tail _ (.head _)) ?_
   refine WO_gt rfl ?_
   refine WO_call0 rfl (RF_of (rMay_run X)) rfl rfl rfl ?_
   refine WO_gt rfl ?_
   refine WO_un (r := .bool _) rfl rfl ?_
   refine WO_pick (v := .s (.bool _)) rfl rfl ?_
   refine WO_nil ?_
   refine WP_cond rfl (fun h10 => ?_) (fun h10 => ?_)
   ·try simp only [NM] at h10
    try simp only [isM, decide_eq_true_eq, decide_eq_false_iff_not] at h10
    refine WP_seq ?_
    refine WP_ops ?_
    refine WO_buildI rfl .nil ?_
    refine WO_stA rfl rfl rfl rfl .here ?_
    refine WO_mv rfl ?_
    refine WO_nil ?_
    refine WP_ret ?_
    refine ⟨_, RS_cell rfl rfl (.head _) (RS_tmp (v := .s (.int _ _)) rfl (RS_nil)), ?_⟩
    exact ⟨put_bad (putE_2 (by assumption) (by assumption)) (by decide), (.tail _ (.tail _ (.tail _ (.head _))))⟩
   ·try simp only [NM] at h10
    try simp only [isM, decide_eq_true_eq, decide_eq_false_iff_not] at h10
    refine WP_skip ?_
    refine ⟨_, (.cons_cons _ (.cons_cons _ (.cons_cons _ (.cons_cons _ .slnil)))), ?_, rfl, rfl, rfl, rfl, rfl, rfl⟩
    first | exact .inl (by assumption) | exact .inr (by assumption)
  ·try simp only [NM] at h9
   try simp only [isM, decide_eq_true_eq, decide_eq_false_iff_not] at h9
   refine WO_gf rfl rfl ?_
   refine WO_gf rfl rfl ?_
   refine WO_gf rfl rfl ?_
   refine WO_pick (v := .s (.bool _)) rfl rfl ?_
   refine WO_nil ?_
   refine WP_cond rfl (fun h => nomatch h) (fun _ => ?_)
   refine WP_skip ?_
   refine ⟨_, (.cons_cons _ (.cons_cons _ (.cons_cons _ (.cons_cons _ .slnil)))), ?_, rfl, rfl, rfl, rfl, rfl, rfl⟩
   first | exact .inl (by assumption) | exact .inr (by assumption)
 ·skip
  obtain ⟨hok, k2, k3, k4, k6, rfl, rfl⟩ := hI
  refine WP_know (d := 2) (v := .sl 0 0 nn 1 c) k2 ?_
  refine WP_know (d := 3) (v := .ptr 1 0 133) k3 ?_
  refine WP_know (d := 4) (v := .ptr 2 0 2) k4 ?_
  refine WP_know (d := 6) (v := .ptr 3 0 133) k6 ?_
  refine WP_seq ?_
  refine WP_seq ?_
  refine WP_ops ?_
  refine WO_mv rfl ?_
  refine WO_nil ?_
  refine WP_block ?_
  refine WP_sub (L' := [_, _, _, _]) (.cons_cons _ (.cons_cons _ (.cons_cons _ (.cons_cons _ .slnil)))) ?_
  refine WP_loop (fun m f _ L => ∃ (i : Nat), (i ≤ nn) ∧ (m = nn - i) ∧ (∀ j : Nat, j < i → isM (K j) = true) ∧ (f 2 = .sl 0 0 nn 1 c) ∧ (f 3 = .ptr 1 0 133) ∧ (f 4 = .ptr 2 0 2) ∧ (f 6 = .ptr 3 0 133) ∧ (f 8 = .s (.int .i64 i)) ∧ (L = [(3, .sc .var 133 (ia fun _ => 0)), (2, .sc .var 2 (ia X)), (1, .sc .var 133 (ia P)), (0, .sc md q (ia K))])) (fun m f nb L hI => ?_) (nn) ⟨0, by omega, rfl, fun j h => by omega, rfl, rfl, rfl, rfl, rfl, rfl⟩
  obtain ⟨i, hi, hm, hn, k2, k3, k4, k6, k8, rfl⟩ := hI
  refine WP_know (d := 2) (v := .sl 0 0 nn 1 c) k2 ?_
  refine WP_know (d := 3) (v := .ptr 1 0 133) k3 ?_
  refine WP_know (d := 4) (v := .ptr 2 0 2) k4 ?_
  refine WP_know (d := 6) (v := .ptr 3 0 133) k6 ?_
  refine WP_know (d := 8) (v := .s (.int .i64 i)) k8 ?_
  refine WP_seq ?_
  refine WP_seq ?_
  refine WP_ops ?_
  refine WO_mv (v := .s (.int _ _)) rfl ?_
  refine WO_mv (v := .sl _ _ _ _ _) rfl ?_
  refine WO_len rfl ?_
  refine WO_bin (r := .bool _) rfl rfl rfl ?_
  refine WO_nil ?_
  refine WP_cond rfl (fun h11 => ?_) (fun h11 => ?_)
  ·try simp only [NM] at h11
   try simp only [isM, decide_eq_true_eq, decide_eq_false_iff_not] at h11
   refine WP_skip ?_
   refine WP_seq ?_
   refine WP_block ?_
   refine WP_seq ?_
   refine WP_ops ?_
   refine WO_mv (v := .sl _ _ _ _ _) rfl ?_
   refine WO_mv (v := .s (.int _ _)) rfl ?_
   refine WO_ixs rfl rfl (by first | omega | exact of_decide_eq_true (hall i (by omega))) ?_
   refine WO_ldI (x := K i) rfl rfl (.tail _ (.tail _ (.tail _ (.head _)))) (congrArg K (by omega)) ?_
   refine WO_bin (r := .bool _) rfl rfl rfl ?_
   refine WO_mv (v := .s (.bool _)) rfl ?_
   refine WO_case (t := 30) rfl (fun h12 => ?_) (fun h12 => ?_)
   ·try simp only [NM] at h12
    try simp only [isM, decide_eq_true_eq, decide_eq_false_iff_not] at h12
    refine WO_gf rfl rfl ?_
    refine WO_gf rfl rfl ?_
    refine WO_gf rfl rfl ?_
    refine WO_gf rfl rfl ?_
    refine WO_gf rfl rfl ?_
    refine WO_pick (v := .s (.bool _)) rfl rfl ?_
    refine WO_nil ?_
    refine WP_cond rfl (fun _ => ?_) (fun h => nomatch h)
    refine WP_seq ?_
    refine WP_ops ?_
    refine WO_buildI rfl .nil ?_
    refine WO_stA rfl rfl rfl rfl .here ?_
    refine WO_mv rfl ?_
    refine WO_nil ?_
    refine WP_ret ?_
    refine ⟨_, RS_cell rfl rfl (.head _) (RS_tmp (v := .s (.int _ _)) rfl (RS_nil)), ?_⟩
    exact ⟨put_bad (putE_6 hok (fun q => by have := of_decide_eq_true (q i (by omega)); omega)) (by decide), (.tail _ (.tail _ (.tail _ (.head _))))⟩
   ·try simp only [NM] at h12
    try simp only [isM, decide_eq_true_eq, decide_eq_false_iff_not] at h12
    refine WO_gt rfl ?_
    refine WO_mv (v := .sl _ _ _ _ _) rfl ?_
    refine WO_gt rfl ?_
    refine WO_mv (v := .s (.int _ _)) rfl ?_
    refine WO_gt rfl ?_
    refine WO_ixs rfl rfl (by first | omega | exact of_decide_eq_true (hall i (by omega))) ?_
    refine WO_gt rfl ?_
    refine WO_ldI (x := K i) rfl rfl (.tail _ (.tail _ (.tail _ (.head _)))) (congrArg K (by omega)) ?_
    refine WO_gt rfl ?_
    refine WO_bin (r := .bool _) rfl rfl rfl ?_
    refine WO_pick (v := .s (.bool _)) rfl rfl ?_
    refine WO_nil ?_
    refine WP_cond rfl (fun h13 => ?_) (fun h13 => ?_)
    ·try simp only [NM] at h13
     try simp only [isM, decide_eq_true_eq, decide_eq_false_iff_not] at h13
     refine WP_seq ?_
     refine WP_ops ?_
     refine WO_buildI rfl .nil ?_
     refine WO_stA rfl rfl rfl rfl .here ?_
     refine WO_mv rfl ?_
     refine WO_nil ?_
     refine WP_ret ?_
     refine ⟨_, RS_cell rfl rfl (.head _) (RS_tmp (v := .s (.int _ _)) rfl (RS_nil)), ?_⟩
     exact ⟨put_bad (putE_6 hok (fun q => by have := of_decide_eq_true (q i (by omega)); omega)) (by decide), (.tail _ (.tail _ (.tail _ (.head _))))⟩
    ·try simp only [NM] at h13
     try simp only [isM, decide_eq_true_eq, decide_eq_false_iff_not] at h13
     refine WP_skip ?_
     refine WP_ops ?_
     refine WO_mv (v := .s (.int _ _)) rfl ?_
     refine WO_add rfl rfl (by omega) ?_
     refine WO_mv (v := .s (.int _ _)) rfl ?_
     refine WO_nil ?_
     refine ⟨nn - (i + 1), _, by omega, (.cons_cons _ (.cons_cons _ (.cons_cons _ (.cons_cons _ .slnil)))), i + 1, by omega, rfl, ?_, rfl, rfl, rfl, rfl, rfl, rfl⟩
     intro j hj
     by_cases e : j = i
     · subst e; exact decide_eq_true (by omega)
     · exact hn j (by omega)
  ·try simp only [NM] at h11
   try simp only [isM, decide_eq_true_eq, decide_eq_false_iff_not] at h11
   refine WP_exit ?_
   refine xhere ?_
   refine WP_seq ?_
   refine WP_seq ?_
   refine WP_ops ?_
   refine WO_mv rfl ?_
   refine WO_nil ?_
   refine WP_block ?_
   have hall : ∀ j : Nat, j < nn → isM (K j) = true := fun j hj => hn j (by omega)
   refine WP_sub (L' := [_, _, _, _]) (.cons_cons _ (.cons_cons _ (.cons_cons _ (.cons_cons _ .slnil)))) ?_
   refine WP_loop (fun m f _ L => ∃ (i : Nat), (i ≤ nn) ∧ (m = nn - i) ∧ (f 2 = .sl 0 0 nn 1 c) ∧ (f 3 = .ptr 1 0 133) ∧ (f 4 = .ptr 2 0 2) ∧ (f 6 = .ptr 3 0 133) ∧ (f 9 = .s (.int .i64 i)) ∧ (L = [(3, .sc .var 133 (ia fun _ => 0)), (2, .sc .var 2 (ia X)), (1, .sc .var 133 (ia (putS P X K i))), (0, .sc md q (ia K))])) (fun m f nb L hI => ?_) (nn) ⟨0, by omega, rfl, rfl, rfl, rfl, rfl, rfl, rfl⟩
   obtain ⟨i, hi, hm, k2, k3, k4, k6, k9, rfl⟩ := hI
   refine WP_know (d := 2) (v := .sl 0 0 nn 1 c) k2 ?_
   refine WP_know (d := 3) (v := .ptr 1 0 133) k3 ?_
   refine WP_know (d := 4) (v := .ptr 2 0 2) k4 ?_
   refine WP_know (d := 6) (v := .ptr 3 0 133) k6 ?_
   refine WP_know (d := 9) (v := .s (.int .i64 i)) k9 ?_
   refine WP_seq ?_
   refine WP_seq ?_
   refine WP_ops ?_
   refine WO_mv (v := .s (.int _ _)) rfl ?_
   refine WO_mv (v := .sl _ _ _ _ _) rfl ?_
   refine WO_len rfl ?_
   refine WO_bin (r := .bool _) rfl rfl rfl ?_
   refine WO_nil ?_
   refine WP_cond rfl (fun h14 => ?_) (fun h14 => ?_)
   ·try simp only [NM] at h14
    try simp only [isM, decide_eq_true_eq, decide_eq_false_iff_not] at h14
    refine WP_skip ?_
    refine WP_seq ?_
    refine WP_block ?_
    refine WP_ops ?_
    refine WO_mv (v := .sl _ _ _ _ _) rfl ?_
    refine WO_mv (v := .s (.int _ _)) rfl ?_
    refine WO_ixs rfl rfl (by first | omega | exact of_decide_eq_true (hall i (by omega))) ?_
    refine WO_ldI (x := K i) rfl rfl (.tail _ (.tail _ (.tail _ (.head _)))) (congrArg K (by omega)) ?_
    first | refine WO_ldA0 rfl rfl (.tail _ (.head _)) ?_ | refine WO_ldAI rfl rfl (.tail _ (.head _)) ?_
    refine WO_fa (o' := 0) rfl rfl rfl ?_
    refine WO_ixa rfl rfl rfl (by first | omega | exact of_decide_eq_true (hall i (by omega))) ?_
    refine WO_stA rfl rfl rfl rfl (.there (.there .here)) ?_
    refine WO_nil ?_
    refine WP_ops ?_
    refine WO_mv (v := .s (.int _ _)) rfl ?_
    refine WO_add rfl rfl (by omega) ?_
    refine WO_mv (v := .s (.int _ _)) rfl ?_
    refine WO_nil ?_
    exact ⟨nn - (i + 1), _, by omega, (.cons_cons _ (.cons_cons _ (.cons_cons _ (.cons_cons _ .slnil)))), i + 1, by omega, rfl, rfl, rfl, rfl, rfl, rfl, rfl⟩
   ·try simp only [NM] at h14
    try simp only [isM, decide_eq_true_eq, decide_eq_false_iff_not] at h14
    refine WP_exit ?_
    refine xhere ?_
    refine WP_seq ?_
    refine WP_ops ?_
    first | refine WO_ldA0 rfl rfl (.tail _ (.tail _ (.head _))) ?_ | refine WO_ldAI rfl rfl (.tail _ (.tail _ (.head _))) ?_
    refine WO_stA rfl rfl rfl rfl .here ?_
    refine WO_mv rfl ?_
    refine WO_nil ?_
    refine WP_ret ?_
    refine ⟨_, RS_cell rfl rfl (.head _) (RS_tmp (v := .s (.int _ _)) rfl (RS_nil)), ?_⟩
    obtain rfl : i = nn := by omega
    exact ⟨put_good (putE_0 hok hall), (.tail _ (.tail _ (.tail _ (.head _))))⟩
theorem dPut_walkN (P X : Nat → Int) : WR AM 70 [.agg 133 (ia P), .agg 2 (ia X), .snil] [] (fun v _ L => v = .tup [.agg 133 (ia (putQ P X (fun _ => 0) 0)), .s (.int .i64 (putE X (fun _ => 0) 0))]) := by
 refine WR_fn (a := a70) rfl rfl (entryF _) (entry_E (Nat.le_of_ble_eq_true rfl)) (m := 0) rfl ?_
 refine WP_seq ?_
 refine WP_ops ?_
 refine WO_boxA rfl ?_
 refine WO_boxA rfl ?_
 refine WO_allocI ?_
 refine WO_mv rfl ?_
 refine WO_nil ?_
 refine WP_cut (fun f n L => ((X 0 = 0 ∧ X 1 = 0) ∨ mayM (X 0) (X 1) = true) ∧ (f 2 = .snil) ∧ (f 3 = .ptr 0 0 133) ∧ (f 4 = .ptr 1 0 2) ∧ (f 6 = .ptr 2 0 133) ∧ (L = [(2, .sc .var 133 (ia fun _ => 0)), (1, .sc .var 2 (ia X)), (0, .sc .var 133 (ia P))]) ∧ (n = 3)) ?_ (fun f nb L hI => ?_)
 ·skip
  refine WP_seq ?_
  refine WP_ops ?_
  first | refine WO_ldA0 rfl rfl (.tail _ (.head _)) ?_ | refine WO_ldAI rfl rfl (.tail _ (.head _)) ?_
  refine WO_call0 rfl (RF_of (none_run X)) rfl rfl rfl ?_
  refine WO_un (r := .bool _) rfl rfl ?_
  refine WO_mv (v := .s (.bool _)) rfl ?_
  refine WO_case (t := 13) rfl (fun h15 => ?_) (fun h15 => ?_)
  ·try simp only [NM] at h15
   try simp only [isM, decide_eq_true_eq, decide_eq_false_iff_not] at h15
   refine WO_gt rfl ?_
   first | refine WO_ldA0 rfl rfl (.tail _ (.head _)) ?_ | refine WO_ldAI rfl rfl (.tail _ (.head _)) ?_
   refine WO_gt rfl ?_
   refine WO_call0 rfl (RF_of (rMay_run X)) rfl rfl rfl ?_
   refine WO_gt rfl ?_
   refine WO_un (r := .bool _) rfl rfl ?_
   refine WO_pick (v := .s (.bool _)) rfl rfl ?_
   refine WO_nil ?_
   refine WP_cond rfl (fun h16 => ?_) (fun h16 => ?_)
   ·try simp only [NM] at h16
    try simp only [isM, decide_eq_true_eq, decide_eq_false_iff_not] at h16
    refine WP_seq ?_
    refine WP_ops ?_
    refine WO_buildI rfl .nil ?_
    refine WO_stA rfl rfl rfl rfl .here ?_
    refine WO_mv rfl ?_
    refine WO_nil ?_
    refine WP_ret ?_
    refine ⟨_, RS_cell rfl rfl (.head _) (RS_tmp (v := .s (.int _ _)) rfl (RS_nil)), ?_⟩
    exact put_bad (K := fun _ => 0) (n := 0) (putE_2 (by assumption) (by assumption)) (by decide)
   ·try simp only [NM] at h16
    try simp only [isM, decide_eq_true_eq, decide_eq_false_iff_not] at h16
    refine WP_skip ?_
    refine ⟨_, (.cons_cons _ (.cons_cons _ (.cons_cons _ .slnil))), ?_, rfl, rfl, rfl, rfl, rfl, rfl⟩
    first | exact .inl (by assumption) | exact .inr (by assumption)
  ·try simp only [NM] at h15
   try simp only [isM, decide_eq_true_eq, decide_eq_false_iff_not] at h15
   refine WO_gf rfl rfl ?_
   refine WO_gf rfl rfl ?_
   refine WO_gf rfl rfl ?_
   refine WO_pick (v := .s (.bool _)) rfl rfl ?_
   refine WO_nil ?_
   refine WP_cond rfl (fun h => nomatch h) (fun _ => ?_)
   refine WP_skip ?_
   refine ⟨_, (.cons_cons _ (.cons_cons _ (.cons_cons _ .slnil))), ?_, rfl, rfl, rfl, rfl, rfl, rfl⟩
   first | exact .inl (by assumption) | exact .inr (by assumption)
 ·skip
  obtain ⟨hok, k2, k3, k4, k6, rfl, rfl⟩ := hI
  refine WP_know (d := 2) (v := .snil) k2 ?_
  refine WP_know (d := 3) (v := .ptr 0 0 133) k3 ?_
  refine WP_know (d := 4) (v := .ptr 1 0 2) k4 ?_
  refine WP_know (d := 6) (v := .ptr 2 0 133) k6 ?_
  refine WP_seq ?_
  refine WP_seq ?_
  refine WP_ops ?_
  refine WO_mv rfl ?_
  refine WO_nil ?_
  refine WP_block ?_
  refine WP_loop (fun m f _ L => f 2 = .snil ∧ f 3 = .ptr 0 0 133 ∧ f 4 = .ptr 1 0 2 ∧ f 6 = .ptr 2 0 133 ∧ f 8 = .s (.int .i64 0) ∧ L = [(2, .sc .var 133 (ia fun _ => 0)), (1, .sc .var 2 (ia X)), (0, .sc .var 133 (ia P))]) (fun m f nb L hI => ?_) 0 ⟨rfl, rfl, rfl, rfl, rfl, rfl⟩
  obtain ⟨k2, k3, k4, k6, k8, rfl⟩ := hI
  refine WP_know (d := 2) (v := .snil) k2 ?_
  refine WP_know (d := 3) (v := .ptr 0 0 133) k3 ?_
  refine WP_know (d := 4) (v := .ptr 1 0 2) k4 ?_
  refine WP_know (d := 6) (v := .ptr 2 0 133) k6 ?_
  refine WP_know (d := 8) (v := .s (.int .i64 0)) k8 ?_
  refine WP_seq ?_
  refine WP_seq ?_
  refine WP_ops ?_
  refine WO_mv (v := .s (.int _ _)) rfl ?_
  refine WO_mv (v := .snil) rfl ?_
  refine WO_lenN rfl ?_
  refine WO_bin (r := .bool _) rfl rfl rfl ?_
  refine WO_nil ?_
  refine WP_cond rfl (fun h17 => ?_) (fun h17 => ?_)
  ·try simp only [NM] at h17
   try simp only [isM, decide_eq_true_eq, decide_eq_false_iff_not] at h17
   exfalso; first | omega | (simp at h17)
  ·try simp only [NM] at h17
   try simp only [isM, decide_eq_true_eq, decide_eq_false_iff_not] at h17
   refine WP_exit ?_
   refine xhere ?_
   refine WP_seq ?_
   refine WP_seq ?_
   refine WP_ops ?_
   refine WO_mv rfl ?_
   refine WO_nil ?_
   refine WP_block ?_
   refine WP_loop (fun m f _ L => f 2 = .snil ∧ f 3 = .ptr 0 0 133 ∧ f 4 = .ptr 1 0 2 ∧ f 6 = .ptr 2 0 133 ∧ f 9 = .s (.int .i64 0) ∧ L = [(2, .sc .var 133 (ia fun _ => 0)), (1, .sc .var 2 (ia X)), (0, .sc .var 133 (ia P))]) (fun m f nb L hI => ?_) 0 ⟨rfl, rfl, rfl, rfl, rfl, rfl⟩
   obtain ⟨k2, k3, k4, k6, k9, rfl⟩ := hI
   refine WP_know (d := 2) (v := .snil) k2 ?_
   refine WP_know (d := 3) (v := .ptr 0 0 133) k3 ?_
   refine WP_know (d := 4) (v := .ptr 1 0 2) k4 ?_
   refine WP_know (d := 6) (v := .ptr 2 0 133) k6 ?_
   refine WP_know (d := 9) (v := .s (.int .i64 0)) k9 ?_
   refine WP_seq ?_
   refine WP_seq ?_
   refine WP_ops ?_
   refine WO_mv (v := .s (.int _ _)) rfl ?_
   refine WO_mv (v := .snil) rfl ?_
   refine WO_lenN rfl ?_
   refine WO_bin (r := .bool _) rfl rfl rfl ?_
   refine WO_nil ?_
   refine WP_cond rfl (fun h18 => ?_) (fun h18 => ?_)
   ·try simp only [NM] at h18
    try simp only [isM, decide_eq_true_eq, decide_eq_false_iff_not] at h18
    exfalso; first | omega | (simp at h18)
   ·try simp only [NM] at h18
    try simp only [isM, decide_eq_true_eq, decide_eq_false_iff_not] at h18
    refine WP_exit ?_
    refine xhere ?_
    refine WP_seq ?_
    refine WP_ops ?_
    first | refine WO_ldA0 rfl rfl (.tail _ (.tail _ (.head _))) ?_ | refine WO_ldAI rfl rfl (.tail _ (.tail _ (.head _))) ?_
    refine WO_stA rfl rfl rfl rfl .here ?_
    refine WO_mv rfl ?_
    refine WO_nil ?_
    refine WP_ret ?_
    refine ⟨_, RS_cell rfl rfl (.head _) (RS_tmp (v := .s (.int _ _)) rfl (RS_nil)), ?_⟩
    exact put_good (K := fun _ => 0) (n := 0) (putE_0 hok (fun j h => by omega))
theorem mark_run (i : Int) (hi : 0 ≤ i ∧ i < 1000) : WR AM 106 [.s (.int .i64 1), .s (.int .i64 i)] [] (fun v _ _ => v = .s (.int .i64 (1000003 * (1 + 7) + i))) := by
 refine WR_fn (a := a106) rfl rfl (entryF _) (entry_E (Nat.le_of_ble_eq_true rfl)) (m := 0) rfl ?_
 refine WP_seq ?_
 refine WP_ops ?_
 refine WO_mv rfl ?_
 refine WO_nil ?_
 refine WP_seq ?_
 refine WP_ops ?_
 refine WO_mv (v := .s (.int _ _)) rfl ?_
 refine WO_add rfl rfl (by omega) ?_
 refine WO_mul rfl rfl (by omega) ?_
 refine WO_mv (v := .s (.int _ _)) rfl ?_
 refine WO_add rfl rfl (by omega) ?_
 refine WO_mv (v := .s (.int _ _)) rfl ?_
 refine WO_nil ?_
 refine WP_ret ?_
 refine ⟨_, RS_tmp (v := .s (.int _ _)) rfl (RS_nil), ?_⟩
 rfl
theorem lent_step {G Rr K : Nat → Int} {nn i : Nat} (hG : ∀ j : Nat, j < nn → G j = K j) (hM : ∀ j : Nat, j < i → G (nn + j) = 1000003 * (1 + 7) + (j : Int)) (hr : Rr 0 = 1000003 * (1 + 7) + (i : Int)) :
    (∀ j : Nat, j < nn → ovA G (0 + (nn + i) * 1) (1 * 1) (fun a => Rr (0 + a)) j = K j) ∧ (∀ j : Nat, j < i + 1 → ovA G (0 + (nn + i) * 1) (1 * 1) (fun a => Rr (0 + a)) (nn + j) = 1000003 * (1 + 7) + (j : Int)) := by
  constructor
  · intro j hj
    rw [ovA_out (by omega)]; exact hG j hj
  · intro j hj
    by_cases e : j = i
    · subst e
      rw [ovA_at (by omega), show 0 + (nn + j - (0 + (nn + j) * 1)) = 0 by omega]; exact hr
    · rw [ovA_out (by omega)]; exact hM j (by omega)

theorem Lent_walk {md : Md} {q : Nat} {c : Cp} (K : Nat → Int) (nn : Nat) (hnn : nn ≤ 1000) : WR AM 69 [.sl 0 0 nn 1 c] [.sc md q (ia K)] (fun v _ L => ∃ b G, v = .sl b 0 nn 1 (.ex (nn + 12)) ∧ 1 ≤ b ∧ (b, Blk.sc .var (nn + 12) (ia G)) ∈ L ∧ (0, Blk.sc md q (ia K)) ∈ L ∧ (∀ j : Nat, j < nn → G j = K j) ∧ (∀ j : Nat, j < 12 → G (nn + j) = 1000003 * (1 + 7) + (j : Int))) := by
 refine WR_fn (a := a69) rfl rfl (entryF _) (entry_E (Nat.le_of_ble_eq_true rfl)) (m := 1) rfl ?_
 refine WP_seq ?_
 refine WP_ops ?_
 refine WO_mv rfl ?_
 refine WO_nil ?_
 refine WP_seq ?_
 refine WP_ops ?_
 refine WO_mv (v := .sl _ _ _ _ _) rfl ?_
 refine WO_len rfl ?_
 refine WO_add rfl rfl (by omega) ?_
 rw [show (((nn : Nat) : Int) + 12) = ((nn + 12 : Nat) : Int) by omega]
 refine WO_mkslI0 rfl rfl (by omega) (by simp [roomy] <;> omega) ?_
 refine WO_mv (v := .sl _ _ _ _ _) rfl ?_
 refine WO_nil ?_
 refine WP_seq ?_
 refine WP_ops ?_
 refine WO_mv (v := .sl _ _ _ _ _) rfl ?_
 refine WO_mv (v := .sl _ _ _ _ _) rfl ?_
 refine WO_appendX rfl rfl (.tail _ (.head _)) rfl (by omega) .here ?_
 rw [show 0 + nn = nn from Nat.zero_add nn]
 refine WO_mv (v := .sl _ _ _ _ _) rfl ?_
 refine WO_nil ?_
 refine WP_seq ?_
 refine WP_seq ?_
 refine WP_ops ?_
 refine WO_mv rfl ?_
 refine WO_nil ?_
 refine WP_block ?_
 refine WP_sub (L' := [_, _]) (.cons_cons _ (.cons_cons _ .slnil)) ?_
 refine WP_loop (fun m f _ L => ∃ (i : Nat) (G : Nat → Int), (i ≤ 12) ∧ (m = 12 - i) ∧ (∀ j : Nat, j < nn → G j = K j) ∧ (∀ j : Nat, j < i → G (nn + j) = 1000003 * (1 + 7) + (j : Int)) ∧ (f 0 = .sl 0 0 nn 1 c) ∧ (f 3 = .sl 1 0 (nn + i) 1 (.ex (nn + 12))) ∧ (f 4 = .s (.int .i64 i)) ∧ (L = [(1, .sc .var (nn + 12) (ia G)), (0, .sc md q (ia K))])) (fun m f nb L hI => ?_) (12) ⟨0, _, by omega, rfl, (fun j hj => by rw [ovA_at (by omega)]; exact congrArg K (by omega)), fun j h => by omega, rfl, rfl, rfl, rfl⟩
 obtain ⟨i, G, hi, hm, hG, hM, k0, k3, k4, rfl⟩ := hI
 refine WP_know (d := 0) (v := .sl 0 0 nn 1 c) k0 ?_
 refine WP_know (d := 3) (v := .sl 1 0 (nn + i) 1 (.ex (nn + 12))) k3 ?_
 refine WP_know (d := 4) (v := .s (.int .i64 i)) k4 ?_
 refine WP_seq ?_
 refine WP_seq ?_
 refine WP_ops ?_
 refine WO_mv (v := .s (.int _ _)) rfl ?_
 refine WO_bin (r := .bool _) rfl rfl rfl ?_
 refine WO_nil ?_
 refine WP_cond rfl (fun h23 => ?_) (fun h23 => ?_)
 ·try simp only [NM] at h23
  refine WP_skip ?_
  refine WP_seq ?_
  refine WP_block ?_
  refine WP_ops ?_
  refine WO_mv (v := .sl _ _ _ _ _) rfl ?_
  refine WO_mv (v := .s (.int _ _)) rfl ?_
  refine WO_call0 rfl (RF_of (mark_run _ (by omega))) rfl rfl rfl ?_
  refine WO_mkslS rfl (.one rfl .nil) ?_
  refine WO_appendX rfl rfl (.head _) rfl (by omega) (.there .here) ?_
  refine WO_mv (v := .sl _ _ _ _ _) rfl ?_
  refine WO_nil ?_
  refine WP_ops ?_
  refine WO_mv (v := .s (.int _ _)) rfl ?_
  refine WO_add rfl rfl (by omega) ?_
  refine WO_mv (v := .s (.int _ _)) rfl ?_
  refine WO_nil ?_
  have hst := lent_step hG hM (Rr := ov (fun _ => 0) (0 * 1) (1000003 * (1 + 7) + (i : Int))) rfl
  exact ⟨12 - (i + 1), _, by omega, (.cons _ (.cons_cons _ (.cons_cons _ .slnil))), i + 1, _, by omega, rfl, hst.1, hst.2, rfl, rfl, rfl, rfl⟩
 ·try simp only [NM] at h23
  refine WP_exit ?_
  refine xhere ?_
  refine WP_seq ?_
  refine WP_ops ?_
  refine WO_mv (v := .sl _ _ _ _ _) rfl ?_
  refine WO_mv (v := .sl _ _ _ _ _) rfl ?_
  refine WO_len rfl ?_
  refine WO_slVx rfl rfl ⟨by omega, by omega⟩ ?_
  refine WO_mv (v := .sl _ _ _ _ _) rfl ?_
  refine WO_nil ?_
  refine WP_ret ?_
  refine ⟨_, RS_tmp (v := .sl _ _ _ _ _) rfl (RS_nil), ?_⟩
  obtain rfl : i = 12 := by omega
  exact ⟨1, G, rfl, by omega, (.head _), (.tail _ (.head _)), hG, hM⟩
theorem Lent_walkN  : WR AM 69 [.snil] [] (fun v _ L => ∃ b G, v = .sl b 0 0 1 (.ex (0 + 12)) ∧ (b, Blk.sc .var (0 + 12) (ia G)) ∈ L ∧ (∀ j : Nat, j < 0 → G j = (fun _ => 0) j) ∧ (∀ j : Nat, j < 12 → G (0 + j) = 1000003 * (1 + 7) + (j : Int))) := by
 refine WR_fn (a := a69) rfl rfl (entryF _) (entry_E (Nat.le_of_ble_eq_true rfl)) (m := 0) rfl ?_
 refine WP_seq ?_
 refine WP_ops ?_
 refine WO_mv rfl ?_
 refine WO_nil ?_
 refine WP_seq ?_
 refine WP_ops ?_
 refine WO_mv (v := .snil) rfl ?_
 refine WO_lenN rfl ?_
 refine WO_add rfl rfl (by omega) ?_
 rw [show ((0 : Int) + 12) = ((0 + 12 : Nat) : Int) by omega]
 refine WO_mkslI0 rfl rfl (by omega) (by simp [roomy] <;> omega) ?_
 refine WO_mv (v := .sl _ _ _ _ _) rfl ?_
 refine WO_nil ?_
 refine WP_seq ?_
 refine WP_ops ?_
 refine WO_mv (v := .sl _ _ _ _ _) rfl ?_
 refine WO_mv (v := .snil) rfl ?_
 refine WO_appendX0 rfl rfl (.inl rfl) rfl (by omega) .here ?_
 refine WO_mv (v := .sl _ _ _ _ _) rfl ?_
 refine WO_nil ?_
 refine WP_seq ?_
 refine WP_seq ?_
 refine WP_ops ?_
 refine WO_mv rfl ?_
 refine WO_nil ?_
 refine WP_block ?_
 refine WP_sub (L' := [_]) (.cons_cons _ .slnil) ?_
 refine WP_loop (fun m f _ L => ∃ (i : Nat) (G : Nat → Int), (i ≤ 12) ∧ (m = 12 - i) ∧ (∀ j : Nat, j < 0 → G j = (fun _ => 0) j) ∧ (∀ j : Nat, j < i → G (0 + j) = 1000003 * (1 + 7) + (j : Int)) ∧ (f 0 = .snil) ∧ (f 3 = .sl 0 0 (0 + i) 1 (.ex (0 + 12))) ∧ (f 4 = .s (.int .i64 i)) ∧ (L = [(0, .sc .var (0 + 12) (ia G))])) (fun m f nb L hI => ?_) (12) ⟨0, _, by omega, rfl, (fun j h => by omega), fun j h => by omega, rfl, rfl, rfl, rfl⟩
 obtain ⟨i, G, hi, hm, hG, hM, k0, k3, k4, rfl⟩ := hI
 refine WP_know (d := 0) (v := .snil) k0 ?_
 refine WP_know (d := 3) (v := .sl 0 0 (0 + i) 1 (.ex (0 + 12))) k3 ?_
 refine WP_know (d := 4) (v := .s (.int .i64 i)) k4 ?_
 refine WP_seq ?_
 refine WP_seq ?_
 refine WP_ops ?_
 refine WO_mv (v := .s (.int _ _)) rfl ?_
 refine WO_bin (r := .bool _) rfl rfl rfl ?_
 refine WO_nil ?_
 refine WP_cond rfl (fun h24 => ?_) (fun h24 => ?_)
 ·try simp only [NM] at h24
  refine WP_skip ?_
  refine WP_seq ?_
  refine WP_block ?_
  refine WP_ops ?_
  refine WO_mv (v := .sl _ _ _ _ _) rfl ?_
  refine WO_mv (v := .s (.int _ _)) rfl ?_
  refine WO_call0 rfl (RF_of (mark_run _ (by omega))) rfl rfl rfl ?_
  refine WO_mkslS rfl (.one rfl .nil) ?_
  refine WO_appendX rfl rfl (.head _) rfl (by omega) (.there .here) ?_
  refine WO_mv (v := .sl _ _ _ _ _) rfl ?_
  refine WO_nil ?_
  refine WP_ops ?_
  refine WO_mv (v := .s (.int _ _)) rfl ?_
  refine WO_add rfl rfl (by omega) ?_
  refine WO_mv (v := .s (.int _ _)) rfl ?_
  refine WO_nil ?_
  have hst := lent_step hG hM (Rr := ov (fun _ => 0) (0 * 1) (1000003 * (1 + 7) + (i : Int))) rfl
  exact ⟨12 - (i + 1), _, by omega, (.cons _ (.cons_cons _ .slnil)), i + 1, _, by omega, rfl, hst.1, hst.2, rfl, rfl, rfl, rfl⟩
 ·try simp only [NM] at h24
  refine WP_exit ?_
  refine xhere ?_
  refine WP_seq ?_
  refine WP_ops ?_
  refine WO_mv (v := .sl _ _ _ _ _) rfl ?_
  refine WO_mv (v := .snil) rfl ?_
  refine WO_lenN rfl ?_
  refine WO_slVx rfl rfl ⟨by omega, by omega⟩ ?_
  refine WO_mv (v := .sl _ _ _ _ _) rfl ?_
  refine WO_nil ?_
  refine WP_ret ?_
  refine ⟨_, RS_tmp (v := .sl _ _ _ _ _) rfl (RS_nil), ?_⟩
  obtain rfl : i = 12 := by omega
  exact ⟨0, G, rfl, (.head _), hG, hM⟩
theorem eql_eq {a b : Int} (h : a = b) : binS .eql (.int .i64 a) (.int .i64 b) = some (.bool true) := by
  subst h
  show (if IntKind.i64 = IntKind.i64 then some (S.bool (a == a)) else none) = _
  simp
theorem Kept_walk {md : Md} {q : Nat} {c : Cp} (K G : Nat → Int) (nn : Nat) (hnn : nn ≤ 1000) (hG : ∀ j : Nat, j < nn → G j = K j) (hM : ∀ j : Nat, j < 12 → G (nn + j) = 1000003 * (1 + 7) + (j : Int)) : WR AM 71 [.sl 0 0 nn 1 (.ex (nn + 12)), .sl 1 0 nn 1 c] [.sc .var (nn + 12) (ia G), .sc md q (ia K)] (fun v _ L => v = .s (.bool true) ∧ (0, Blk.sc .var (nn + 12) (ia G)) ∈ L ∧ (1, Blk.sc md q (ia K)) ∈ L) := by
 refine WR_fn (a := a71) rfl rfl (entryF _) (entry_E (Nat.le_of_ble_eq_true rfl)) (m := 2) rfl ?_
 refine WP_seq ?_
 refine WP_ops ?_
 refine WO_mv rfl ?_
 refine WO_nil ?_
 refine WP_seq ?_
 refine WP_seq ?_
 refine WP_ops ?_
 refine WO_mv (v := .sl _ _ _ _ _) rfl ?_
 refine WO_len rfl ?_
 refine WO_mv (v := .sl _ _ _ _ _) rfl ?_
 refine WO_len rfl ?_
 refine WO_bin (r := .bool _) rfl rfl rfl ?_
 refine WO_nil ?_
 refine WP_cond rfl (fun h26 => ?_) (fun h26 => ?_)
 ·try simp only [NM] at h26
  exfalso; first | omega | (simp at h26)
 ·try simp only [NM] at h26
  refine WP_skip ?_
  refine WP_seq ?_
  refine WP_ops ?_
  refine WO_mv (v := .sl _ _ _ _ _) rfl ?_
  refine WO_mv (v := .sl _ _ _ _ _) rfl ?_
  refine WO_len rfl ?_
  refine WO_add rfl rfl (by omega) ?_
  rw [show ((nn : Int) + 12) = ((nn + 12 : Nat) : Int) by omega]
  refine WO_slVx rfl rfl ⟨by omega, by omega⟩ ?_
  refine WO_mv (v := .sl _ _ _ _ _) rfl ?_
  refine WO_nil ?_
  refine WP_seq ?_
  refine WP_seq ?_
  refine WP_ops ?_
  refine WO_mv rfl ?_
  refine WO_nil ?_
  refine WP_block ?_
  refine WP_sub (L' := [_, _]) (.cons_cons _ (.cons_cons _ .slnil)) ?_
  refine WP_loop (fun m f _ L => ∃ (i : Nat), (i ≤ nn + 12) ∧ (m = nn + 12 - i) ∧ (f 1 = .sl 1 0 nn 1 c) ∧ (f 5 = .sl 0 0 (nn + 12) 1 (.ex (nn + 12))) ∧ (f 6 = .s (.int .i64 i)) ∧ (L = [(0, .sc .var (nn + 12) (ia G)), (1, .sc md q (ia K))])) (fun m f nb L hI => ?_) (nn + 12) ⟨0, by omega, rfl, rfl, rfl, rfl, rfl⟩
  obtain ⟨i, hi, hm, k1, k5, k6, rfl⟩ := hI
  refine WP_know (d := 1) (v := .sl 1 0 nn 1 c) k1 ?_
  refine WP_know (d := 5) (v := .sl 0 0 (nn + 12) 1 (.ex (nn + 12))) k5 ?_
  refine WP_know (d := 6) (v := .s (.int .i64 i)) k6 ?_
  refine WP_seq ?_
  refine WP_seq ?_
  refine WP_ops ?_
  refine WO_mv (v := .s (.int _ _)) rfl ?_
  refine WO_mv (v := .sl _ _ _ _ _) rfl ?_
  refine WO_len rfl ?_
  refine WO_bin (r := .bool _) rfl rfl rfl ?_
  refine WO_nil ?_
  refine WP_cond rfl (fun h27 => ?_) (fun h27 => ?_)
  ·try simp only [NM] at h27
   refine WP_skip ?_
   refine WP_seq ?_
   refine WP_block ?_
   refine WP_seq ?_
   refine WP_ops ?_
   refine WO_mv (v := .s (.int _ _)) rfl ?_
   refine WO_mv (v := .sl _ _ _ _ _) rfl ?_
   refine WO_len rfl ?_
   refine WO_bin (r := .bool _) rfl rfl rfl ?_
   refine WO_mv (v := .s (.bool _)) rfl ?_
   refine WO_case (t := 27) rfl (fun h28 => ?_) (fun h28 => ?_)
   ·try simp only [NM] at h28
    refine WO_gt rfl ?_
    refine WO_mv (v := .sl _ _ _ _ _) rfl ?_
    refine WO_gt rfl ?_
    refine WO_mv (v := .s (.int _ _)) rfl ?_
    refine WO_gt rfl ?_
    refine WO_ixs rfl rfl (by omega) ?_
    refine WO_gt rfl ?_
    refine WO_ldI (x := K i) rfl rfl (.head _) ((congrArg G (by omega)).trans (hG i (by omega))) ?_
    refine WO_gt rfl ?_
    refine WO_mv (v := .sl _ _ _ _ _) rfl ?_
    refine WO_gt rfl ?_
    refine WO_mv (v := .s (.int _ _)) rfl ?_
    refine WO_gt rfl ?_
    refine WO_ixs rfl rfl (by omega) ?_
    refine WO_gt rfl ?_
    refine WO_ldI (x := K i) rfl rfl (.tail _ (.head _)) (congrArg K (by omega)) ?_
    refine WO_gt rfl ?_
    refine WO_bin rfl rfl (eql_eq rfl) ?_
    refine WO_gt rfl ?_
    refine WO_un (r := .bool _) rfl rfl ?_
    refine WO_pick (v := .s (.bool _)) rfl rfl ?_
    refine WO_mv (v := .s (.bool _)) rfl ?_
    refine WO_gt rfl ?_
    refine WO_mv (v := .s (.int _ _)) rfl ?_
    refine WO_gt rfl ?_
    refine WO_mv (v := .sl _ _ _ _ _) rfl ?_
    refine WO_gt rfl ?_
    refine WO_len rfl ?_
    refine WO_gt rfl ?_
    refine WO_bin (r := .bool _) rfl rfl rfl ?_
    refine WO_gt rfl ?_
    refine WO_mv (v := .s (.bool _)) rfl ?_
    refine WO_case (t := 44) rfl (fun h29 => ?_) (fun h29 => ?_)
    ·try simp only [NM] at h29
     exfalso; first | omega | (simp at h29)
    ·try simp only [NM] at h29
     refine WO_gf rfl rfl ?_
     refine WO_gf rfl rfl ?_
     refine WO_gf rfl rfl ?_
     refine WO_gf rfl rfl ?_
     refine WO_gf rfl rfl ?_
     refine WO_gf rfl rfl ?_
     refine WO_gf rfl rfl ?_
     refine WO_gf rfl rfl ?_
     refine WO_gf rfl rfl ?_
     refine WO_gf rfl rfl ?_
     refine WO_gf rfl rfl ?_
     refine WO_gt rfl ?_
     refine WO_pick (v := .s (.bool _)) rfl rfl ?_
     refine WO_pick (v := .s (.bool _)) rfl rfl ?_
     refine WO_nil ?_
     refine WP_cond rfl (fun h => nomatch h) (fun _ => ?_)
     refine WP_skip ?_
     refine WP_ops ?_
     refine WO_mv (v := .s (.int _ _)) rfl ?_
     refine WO_add rfl rfl (by omega) ?_
     refine WO_mv (v := .s (.int _ _)) rfl ?_
     refine WO_nil ?_
     exact ⟨nn + 12 - (i + 1), _, by omega, (.cons_cons _ (.cons_cons _ .slnil)), i + 1, by omega, rfl, rfl, rfl, rfl, rfl⟩
   ·try simp only [NM] at h28
    refine WO_gf rfl rfl ?_
    refine WO_gf rfl rfl ?_
    refine WO_gf rfl rfl ?_
    refine WO_gf rfl rfl ?_
    refine WO_gf rfl rfl ?_
    refine WO_gf rfl rfl ?_
    refine WO_gf rfl rfl ?_
    refine WO_gf rfl rfl ?_
    refine WO_gf rfl rfl ?_
    refine WO_gf rfl rfl ?_
    refine WO_pick (v := .s (.bool _)) rfl rfl ?_
    refine WO_mv (v := .s (.bool _)) rfl ?_
    refine WO_gt rfl ?_
    refine WO_mv (v := .s (.int _ _)) rfl ?_
    refine WO_gt rfl ?_
    refine WO_mv (v := .sl _ _ _ _ _) rfl ?_
    refine WO_gt rfl ?_
    refine WO_len rfl ?_
    refine WO_gt rfl ?_
    refine WO_bin (r := .bool _) rfl rfl rfl ?_
    refine WO_gt rfl ?_
    refine WO_mv (v := .s (.bool _)) rfl ?_
    refine WO_case (t := 44) rfl (fun h30 => ?_) (fun h30 => ?_)
    ·try simp only [NM] at h30
     refine WO_gt rfl ?_
     refine WO_mv (v := .sl _ _ _ _ _) rfl ?_
     refine WO_gt rfl ?_
     refine WO_mv (v := .s (.int _ _)) rfl ?_
     refine WO_gt rfl ?_
     refine WO_ixs rfl rfl (by omega) ?_
     refine WO_gt rfl ?_
     refine WO_ldI (x := 1000003 * (1 + 7) + ((i : Int) - (nn : Int))) rfl rfl (.head _) ((congrArg G (show _ = nn + (i - nn) by omega)).trans ((hM (i - nn) (by omega)).trans (by omega))) ?_
     refine WO_gt rfl ?_
     refine WO_mv (v := .s (.int _ _)) rfl ?_
     refine WO_gt rfl ?_
     refine WO_mv (v := .sl _ _ _ _ _) rfl ?_
     refine WO_gt rfl ?_
     refine WO_len rfl ?_
     refine WO_gt rfl ?_
     refine WO_sub rfl rfl (by omega) ?_
     refine WO_gt rfl ?_
     refine WO_callq0 rfl (RF_of (mark_run _ (by omega))) rfl rfl rfl ?_
     refine WO_gt rfl ?_
     refine WO_bin rfl rfl (eql_eq rfl) ?_
     refine WO_gt rfl ?_
     refine WO_un (r := .bool _) rfl rfl ?_
     refine WO_gt rfl ?_
     refine WO_pick (v := .s (.bool _)) rfl rfl ?_
     refine WO_pick (v := .s (.bool _)) rfl rfl ?_
     refine WO_nil ?_
     refine WP_cond rfl (fun h => nomatch h) (fun _ => ?_)
     refine WP_skip ?_
     refine WP_ops ?_
     refine WO_mv (v := .s (.int _ _)) rfl ?_
     refine WO_add rfl rfl (by omega) ?_
     refine WO_mv (v := .s (.int _ _)) rfl ?_
     refine WO_nil ?_
     exact ⟨nn + 12 - (i + 1), _, by omega, (.cons_cons _ (.cons_cons _ .slnil)), i + 1, by omega, rfl, rfl, rfl, rfl, rfl⟩
    ·try simp only [NM] at h30
     exfalso; first | omega | (simp at h30)
  ·try simp only [NM] at h27
   refine WP_exit ?_
   refine xhere ?_
   refine WP_seq ?_
   refine WP_ops ?_
   refine WO_mv rfl ?_
   refine WO_nil ?_
   refine WP_ret ?_
   refine ⟨_, RS_tmp (v := .s (.bool _)) rfl (RS_nil), ?_⟩
   exact ⟨rfl, (.head _), (.tail _ (.head _))⟩
theorem Kept_walkN (G : Nat → Int) (hM : ∀ j : Nat, j < 12 → G (0 + j) = 1000003 * (1 + 7) + (j : Int)) : WR AM 71 [.sl 0 0 0 1 (.ex (0 + 12)), .snil] [.sc .var (0 + 12) (ia G)] (fun v _ L => v = .s (.bool true) ∧ (0, Blk.sc .var (0 + 12) (ia G)) ∈ L) := by
 refine WR_fn (a := a71) rfl rfl (entryF _) (entry_E (Nat.le_of_ble_eq_true rfl)) (m := 1) rfl ?_
 refine WP_seq ?_
 refine WP_ops ?_
 refine WO_mv rfl ?_
 refine WO_nil ?_
 refine WP_seq ?_
 refine WP_seq ?_
 refine WP_ops ?_
 refine WO_mv (v := .sl _ _ _ _ _) rfl ?_
 refine WO_len rfl ?_
 refine WO_mv (v := .snil) rfl ?_
 refine WO_lenN rfl ?_
 refine WO_bin (r := .bool _) rfl rfl rfl ?_
 refine WO_nil ?_
 refine WP_cond rfl (fun h31 => ?_) (fun h31 => ?_)
 ·try simp only [NM] at h31
  exfalso; first | omega | (simp at h31)
 ·try simp only [NM] at h31
  refine WP_skip ?_
  refine WP_seq ?_
  refine WP_ops ?_
  refine WO_mv (v := .sl _ _ _ _ _) rfl ?_
  refine WO_mv (v := .snil) rfl ?_
  refine WO_lenN rfl ?_
  refine WO_add rfl rfl (by omega) ?_
  rw [show ((0 : Int) + 12) = ((0 + 12 : Nat) : Int) by omega]
  refine WO_slVx rfl rfl ⟨by omega, by omega⟩ ?_
  refine WO_mv (v := .sl _ _ _ _ _) rfl ?_
  refine WO_nil ?_
  refine WP_seq ?_
  refine WP_seq ?_
  refine WP_ops ?_
  refine WO_mv rfl ?_
  refine WO_nil ?_
  refine WP_block ?_
  refine WP_sub (L' := [_]) (.cons_cons _ .slnil) ?_
  refine WP_loop (fun m f _ L => ∃ (i : Nat), (i ≤ 0 + 12) ∧ (m = 0 + 12 - i) ∧ (f 1 = .snil) ∧ (f 5 = .sl 0 0 (0 + 12) 1 (.ex (0 + 12))) ∧ (f 6 = .s (.int .i64 i)) ∧ (L = [(0, .sc .var (0 + 12) (ia G))])) (fun m f nb L hI => ?_) (0 + 12) ⟨0, by omega, rfl, rfl, rfl, rfl, rfl⟩
  obtain ⟨i, hi, hm, k1, k5, k6, rfl⟩ := hI
  refine WP_know (d := 1) (v := .snil) k1 ?_
  refine WP_know (d := 5) (v := .sl 0 0 (0 + 12) 1 (.ex (0 + 12))) k5 ?_
  refine WP_know (d := 6) (v := .s (.int .i64 i)) k6 ?_
  refine WP_seq ?_
  refine WP_seq ?_
  refine WP_ops ?_
  refine WO_mv (v := .s (.int _ _)) rfl ?_
  refine WO_mv (v := .sl _ _ _ _ _) rfl ?_
  refine WO_len rfl ?_
  refine WO_bin (r := .bool _) rfl rfl rfl ?_
  refine WO_nil ?_
  refine WP_cond rfl (fun h32 => ?_) (fun h32 => ?_)
  ·try simp only [NM] at h32
   refine WP_skip ?_
   refine WP_seq ?_
   refine WP_block ?_
   refine WP_seq ?_
   refine WP_ops ?_
   refine WO_mv (v := .s (.int _ _)) rfl ?_
   refine WO_mv (v := .snil) rfl ?_
   refine WO_lenN rfl ?_
   refine WO_bin (r := .bool _) rfl rfl rfl ?_
   refine WO_mv (v := .s (.bool _)) rfl ?_
   refine WO_case (t := 27) rfl (fun h33 => ?_) (fun h33 => ?_)
   ·try simp only [NM] at h33
    exfalso; first | omega | (simp at h33)
   ·try simp only [NM] at h33
    refine WO_gf rfl rfl ?_
    refine WO_gf rfl rfl ?_
    refine WO_gf rfl rfl ?_
    refine WO_gf rfl rfl ?_
    refine WO_gf rfl rfl ?_
    refine WO_gf rfl rfl ?_
    refine WO_gf rfl rfl ?_
    refine WO_gf rfl rfl ?_
    refine WO_gf rfl rfl ?_
    refine WO_gf rfl rfl ?_
    refine WO_pick (v := .s (.bool _)) rfl rfl ?_
    refine WO_mv (v := .s (.bool _)) rfl ?_
    refine WO_gt rfl ?_
    refine WO_mv (v := .s (.int _ _)) rfl ?_
    refine WO_gt rfl ?_
    refine WO_mv (v := .snil) rfl ?_
    refine WO_gt rfl ?_
    refine WO_lenN rfl ?_
    refine WO_gt rfl ?_
    refine WO_bin (r := .bool _) rfl rfl rfl ?_
    refine WO_gt rfl ?_
    refine WO_mv (v := .s (.bool _)) rfl ?_
    refine WO_case (t := 44) rfl (fun h34 => ?_) (fun h34 => ?_)
    ·try simp only [NM] at h34
     refine WO_gt rfl ?_
     refine WO_mv (v := .sl _ _ _ _ _) rfl ?_
     refine WO_gt rfl ?_
     refine WO_mv (v := .s (.int _ _)) rfl ?_
     refine WO_gt rfl ?_
     refine WO_ixs rfl rfl (by omega) ?_
     refine WO_gt rfl ?_
     refine WO_ldI (x := 1000003 * (1 + 7) + ((i : Int) - 0)) rfl rfl (.head _) ((congrArg G (show _ = 0 + (i - 0) by omega)).trans ((hM (i - 0) (by omega)).trans (by omega))) ?_
     refine WO_gt rfl ?_
     refine WO_mv (v := .s (.int _ _)) rfl ?_
     refine WO_gt rfl ?_
     refine WO_mv (v := .snil) rfl ?_
     refine WO_gt rfl ?_
     refine WO_lenN rfl ?_
     refine WO_gt rfl ?_
     refine WO_sub rfl rfl (by omega) ?_
     refine WO_gt rfl ?_
     refine WO_callq0 rfl (RF_of (mark_run _ (by omega))) rfl rfl rfl ?_
     refine WO_gt rfl ?_
     refine WO_bin rfl rfl (eql_eq rfl) ?_
     refine WO_gt rfl ?_
     refine WO_un (r := .bool _) rfl rfl ?_
     refine WO_gt rfl ?_
     refine WO_pick (v := .s (.bool _)) rfl rfl ?_
     refine WO_pick (v := .s (.bool _)) rfl rfl ?_
     refine WO_nil ?_
     refine WP_cond rfl (fun h => nomatch h) (fun _ => ?_)
     refine WP_skip ?_
     refine WP_ops ?_
     refine WO_mv (v := .s (.int _ _)) rfl ?_
     refine WO_add rfl rfl (by omega) ?_
     refine WO_mv (v := .s (.int _ _)) rfl ?_
     refine WO_nil ?_
     exact ⟨0 + 12 - (i + 1), _, by omega, (.cons_cons _ .slnil), i + 1, by omega, rfl, rfl, rfl, rfl, rfl⟩
    ·try simp only [NM] at h34
     exfalso; first | omega | (simp at h34)
  ·try simp only [NM] at h32
   refine WP_exit ?_
   refine xhere ?_
   refine WP_seq ?_
   refine WP_ops ?_
   refine WO_mv rfl ?_
   refine WO_nil ?_
   refine WP_ret ?_
   refine ⟨_, RS_tmp (v := .s (.bool _)) rfl (RS_nil), ?_⟩
   exact ⟨rfl, (.head _)⟩
end Go.Proofs.Ytjldefmcnppdoaa
/- The walks of squares: names, steps, ways, rings. -/
namespace Go.Am
open Go
section
variable {A : AP} {N : Nat} {f : FE} {n : Nat} {L : HA} {K : KN} {l : List I} {d : Nat}
def bytes2 (a b : Int) : Nat → S := over (over (fun _ => .int .u8 0) (0 * 1) 1 (fun _ => .int .u8 a)) (1 * 1) 1 (fun _ => .int .u8 b)
end
end Go.Am

namespace Go.Proofs.Ytjldefmcnppdoaa
open Go Go.Am
set_option linter.unusedSimpArgs false
set_option linter.unusedVariables false
def darkM (x : Int) : Bool := decide ((0 ≤ x ∧ x < 64) ∧ (x % 8 + x / 8) % 2 = 0)
/-- A square's name. -/
def nameS (x : Int) : ByteArray := if 0 ≤ x ∧ x < 64 then ⟨#[UInt8.ofNat (97 + (x % 8).toNat), UInt8.ofNat (49 + (x / 8).toNat)]⟩ else ⟨#[]⟩
end Go.Proofs.Ytjldefmcnppdoaa
