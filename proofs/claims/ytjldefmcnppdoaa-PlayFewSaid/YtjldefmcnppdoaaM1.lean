/- Texts of this seat, joined. -/
import Derived.Test.YtjldefmcnppdoaaM0
/- The walks of the chapter board: what is right, whole. -/
namespace Go.Proofs.Ytjldefmcnppdoaa
open Go Go.Am
set_option linter.unusedSimpArgs false
set_option linter.unusedVariables false
theorem ovK {F : Nat → Int} {x y : Int} : ov (ov F 0 x) 1 y 0 = x ∧ ov (ov F 0 x) 1 y 1 = y := ⟨rfl, rfl⟩
theorem rank_run (s : Nat) (h : s < 64) : RF AM 38 [.s (.int .i64 (s : Int))] (.s (.int .i64 ((s : Int) / 8))) := by
  have := Rank_run (s : Int)
  rw [rankM, if_pos (by omega)] at this
  exact this

theorem pieces_ok (P : Nat → Int) : WR AM 89 [.agg 133 (ia P)] [] (fun v _ _ => v = .s (.bool (piecesM P))) := by
 refine WR_fn (a := a89) rfl rfl (entryF _) (entry_E (Nat.le_of_ble_eq_true rfl)) (m := 0) rfl ?_
 refine WP_seq ?_
 refine WP_ops ?_
 refine WO_boxA rfl ?_
 refine WO_mv rfl ?_
 refine WO_nil ?_
 refine WP_seq ?_
 refine WP_ops ?_
 refine WO_allocI ?_
 refine WO_nil ?_
 refine WP_seq ?_
 refine WP_seq ?_
 refine WP_ops ?_
 refine WO_fa (o' := 0) rfl rfl rfl ?_
 refine WO_fa (o' := 0) rfl rfl rfl ?_
 first | refine WO_ldA0 rfl rfl (.tail _ (.head _)) ?_ | refine WO_ldAI rfl rfl (.tail _ (.head _)) ?_
 refine WO_mv rfl ?_
 refine WO_nil ?_
 refine WP_block ?_
 refine WP_sub (L' := [_, _]) (.cons_cons _ (.cons_cons _ .slnil)) ?_
 refine WP_loop (fun m f _ L => ∃ (i : Nat) (C : Nat → Int), (i ≤ 64) ∧ (m = 64 - i) ∧ (∀ s : Nat, s < i → okM P s) ∧ (C 0 = kM P 0 i) ∧ (C 1 = kM P 1 i) ∧ (f 1 = .ptr 0 0 133) ∧ (f 3 = .ptr 1 0 2) ∧ (f 9 = .agg 128 (ia P)) ∧ (f 10 = .s (.int .i64 i)) ∧ (L = [(1, .sc .var 2 (ia C)), (0, .sc .var 133 (ia P))])) (fun m f nb L hI => ?_) (64) ⟨0, fun _ => 0, by omega, rfl, fun s h => by omega, rfl, rfl, rfl, rfl, rfl, rfl, rfl⟩
 obtain ⟨i, C, hi, hm, hok, hc0, hc1, k1, k3, k9, k10, rfl⟩ := hI
 refine WP_know (d := 1) (v := .ptr 0 0 133) k1 ?_
 refine WP_know (d := 3) (v := .ptr 1 0 2) k3 ?_
 refine WP_know (d := 9) (v := .agg 128 (ia P)) k9 ?_
 refine WP_know (d := 10) (v := .s (.int .i64 i)) k10 ?_
 refine WP_seq ?_
 refine WP_ops ?_
 refine WO_bin (r := .bool _) rfl rfl rfl ?_
 refine WO_nil ?_
 refine WP_seq ?_
 refine WP_cond rfl (fun h1 => ?_) (fun h1 => ?_)
 ·try simp only [NM] at h1
  try simp only [eq_two, ovA2.1, ovA2.2, ovK.1, ovK.2, decide_eq_true_eq, decide_eq_false_iff_not, mayM, dp, Nat.add_zero] at h1
  refine WP_skip ?_
  refine WP_seq ?_
  refine WP_block ?_
  refine WP_seq ?_
  refine WP_ops ?_
  refine WO_mv (v := .s (.int _ _)) rfl ?_
  refine WO_ixA rfl rfl rfl (by first | omega | (simp only [mayM, decide_eq_true_eq] at *; omega)) ?_
  rw [dp_ix]
  refine WO_allocI ?_
  refine WO_mv (v := .s (.int _ _)) rfl ?_
  refine WO_stA rfl rfl rfl rfl .here ?_
  refine WO_nil ?_
  refine WP_seq ?_
  refine WP_seq ?_
  refine WP_ops ?_
  first | refine WO_ldA0 rfl rfl (.head _) ?_ | refine WO_ldAI rfl rfl (.head _) ?_
  refine WO_buildI rfl .nil ?_
  refine WO_eqa rfl rfl ?_
  refine WO_nil ?_
  refine WP_cond rfl (fun h2 => ?_) (fun h2 => ?_)
  ·try simp only [NM] at h2
   try simp only [eq_two, ovA2.1, ovA2.2, ovK.1, ovK.2, decide_eq_true_eq, decide_eq_false_iff_not, mayM, dp, Nat.add_zero] at h2
   refine WP_exit ?_
   refine xhere ?_
   refine WP_ops ?_
   refine WO_add rfl rfl (by omega) ?_
   refine WO_mv (v := .s (.int _ _)) rfl ?_
   refine WO_nil ?_
   first | (have hk := kings_yes hc0 hc1 (by omega) (by omega); refine ⟨64 - (i + 1), _, by omega, (.cons _ (.cons_cons _ (.cons_cons _ .slnil))), i + 1, _, by omega, rfl, ok_next hok (by unfold okM; omega), hk.1, hk.2, rfl, rfl, rfl, rfl, rfl⟩) | (have hk := kings_no hc0 hc1 (by omega); refine ⟨64 - (i + 1), _, by omega, (.cons _ (.cons_cons _ (.cons_cons _ .slnil))), i + 1, _, by omega, rfl, ok_next hok (by unfold okM; omega), hk.1, hk.2, rfl, rfl, rfl, rfl, rfl⟩)
  ·try simp only [NM] at h2
   try simp only [eq_two, ovA2.1, ovA2.2, ovK.1, ovK.2, decide_eq_true_eq, decide_eq_false_iff_not, mayM, dp, Nat.add_zero] at h2
   refine WP_skip ?_
   refine WP_seq ?_
   refine WP_ops ?_
   refine WO_mv (v := .s (.int _ _)) rfl ?_
   refine WO_call0 rfl (rank_run i (by omega)) rfl rfl rfl ?_
   refine WO_bin (r := .bool _) rfl rfl rfl ?_
   refine WO_mv (v := .s (.bool _)) rfl ?_
   refine WO_case (t := 20) rfl (fun h3 => ?_) (fun h3 => ?_)
   ·try simp only [NM] at h3
    try simp only [eq_two, ovA2.1, ovA2.2, ovK.1, ovK.2, decide_eq_true_eq, decide_eq_false_iff_not, mayM, dp, Nat.add_zero] at h3
    refine WO_gf rfl rfl ?_
    refine WO_gf rfl rfl ?_
    refine WO_gf rfl rfl ?_
    refine WO_pick (v := .s (.bool _)) rfl rfl ?_
    refine WO_mv (v := .s (.bool _)) rfl ?_
    refine WO_nil ?_
    refine WP_seq ?_
    refine WP_seq ?_
    refine WP_ops ?_
    first | refine WO_ldA0 rfl rfl (.head _) ?_ | refine WO_ldAI rfl rfl (.head _) ?_
    refine WO_call0 rfl (show RF AM 88 _ (.s (.bool (mayM (P (sqI i)) (P (sqI i + 1))))) from RF_of (may_run (ovA (fun _ => 0) 0 2 (dp P (sqI i))))) rfl rfl rfl ?_
    refine WO_un (r := .bool _) rfl rfl ?_
    refine WO_mv (v := .s (.bool _)) rfl ?_
    refine WO_case (t := 28) rfl (fun h4 => ?_) (fun h4 => ?_)
    ·try simp only [NM] at h4
     try simp only [eq_two, ovA2.1, ovA2.2, ovK.1, ovK.2, decide_eq_true_eq, decide_eq_false_iff_not, mayM, dp, Nat.add_zero] at h4
     refine WO_gf rfl rfl ?_
     refine WO_gf rfl rfl ?_
     refine WO_gu rfl ?_
     refine WO_gu rfl ?_
     refine WO_gu rfl ?_
     refine WO_gf rfl rfl ?_
     refine WO_pick (v := .s (.bool _)) rfl rfl ?_
     refine WO_nil ?_
     refine WP_cond rfl (fun _ => ?_) (fun h => nomatch h)
     refine WP_seq ?_
     refine WP_ops ?_
     refine WO_mv rfl ?_
     refine WO_nil ?_
     refine WP_ret ?_
     refine ⟨_, RS_tmp (v := .s (.bool _)) rfl (RS_nil), ?_⟩
     exact congrArg (fun b => V.s (S.bool b)) (pieces_no (fun q => absurd (q.1 i (by omega)) (by unfold okM; omega))).symm
    ·try simp only [NM] at h4
     try simp only [eq_two, ovA2.1, ovA2.2, ovK.1, ovK.2, decide_eq_true_eq, decide_eq_false_iff_not, mayM, dp, Nat.add_zero] at h4
     refine WO_gt rfl ?_
     refine WO_mv (v := .s (.bool _)) rfl ?_
     refine WO_gt rfl ?_
     refine WO_mv (v := .s (.bool _)) rfl ?_
     refine WO_gt rfl ?_
     refine WO_fa (o' := 0) rfl rfl rfl ?_
     refine WO_gt rfl ?_
     refine WO_ldI (x := P (sqI i)) rfl rfl (.head _) (rfl) ?_
     refine WO_gt rfl ?_
     refine WO_bin (r := .bool _) rfl rfl rfl ?_
     refine WO_gt rfl ?_
     refine WO_pick (v := .s (.bool _)) rfl rfl ?_
     refine WO_pick (v := .s (.bool _)) rfl rfl ?_
     refine WO_nil ?_
     refine WP_cond rfl (fun h5 => ?_) (fun h5 => ?_)
     ·try simp only [NM] at h5
      try simp only [eq_two, ovA2.1, ovA2.2, ovK.1, ovK.2, decide_eq_true_eq, decide_eq_false_iff_not, mayM, dp, Nat.add_zero] at h5
      refine WP_seq ?_
      refine WP_ops ?_
      refine WO_mv rfl ?_
      refine WO_nil ?_
      refine WP_ret ?_
      refine ⟨_, RS_tmp (v := .s (.bool _)) rfl (RS_nil), ?_⟩
      exact congrArg (fun b => V.s (S.bool b)) (pieces_no (fun q => absurd (q.1 i (by omega)) (by unfold okM; omega))).symm
     ·try simp only [NM] at h5
      try simp only [eq_two, ovA2.1, ovA2.2, ovK.1, ovK.2, decide_eq_true_eq, decide_eq_false_iff_not, mayM, dp, Nat.add_zero] at h5
      refine WP_skip ?_
      refine WP_seq ?_
      refine WP_ops ?_
      refine WO_fa (o' := 0) rfl rfl rfl ?_
      refine WO_ldI (x := P (sqI i)) rfl rfl (.head _) (rfl) ?_
      refine WO_bin (r := .bool _) rfl rfl rfl ?_
      refine WO_nil ?_
      refine WP_cond rfl (fun h6 => ?_) (fun h6 => ?_)
      ·try simp only [NM] at h6
       try simp only [eq_two, ovA2.1, ovA2.2, ovK.1, ovK.2, decide_eq_true_eq, decide_eq_false_iff_not, mayM, dp, Nat.add_zero] at h6
       refine WP_ops ?_
       refine WO_fa (o' := 1) rfl rfl rfl ?_
       refine WO_ldI (x := P (sqI i + 1)) rfl rfl (.head _) (rfl) ?_
       refine WO_ixa rfl rfl rfl (by first | omega | (simp only [mayM, decide_eq_true_eq] at *; omega)) ?_
       refine WO_ldI rfl rfl (.tail _ (.head _)) rfl ?_
       refine WO_add rfl rfl (king_bd hc0 hc1 hi (by omega)) ?_
       refine WO_ixa rfl rfl rfl (by first | omega | (simp only [mayM, decide_eq_true_eq] at *; omega)) ?_
       refine WO_stI rfl rfl rfl rfl (.there .here) ?_
       refine WO_nil ?_
       refine WP_ops ?_
       refine WO_add rfl rfl (by omega) ?_
       refine WO_mv (v := .s (.int _ _)) rfl ?_
       refine WO_nil ?_
       first | (have hk := kings_yes hc0 hc1 (by omega) (by omega); refine ⟨64 - (i + 1), _, by omega, (.cons _ (.cons_cons _ (.cons_cons _ .slnil))), i + 1, _, by omega, rfl, ok_next hok (by unfold okM; omega), hk.1, hk.2, rfl, rfl, rfl, rfl, rfl⟩) | (have hk := kings_no hc0 hc1 (by omega); refine ⟨64 - (i + 1), _, by omega, (.cons _ (.cons_cons _ (.cons_cons _ .slnil))), i + 1, _, by omega, rfl, ok_next hok (by unfold okM; omega), hk.1, hk.2, rfl, rfl, rfl, rfl, rfl⟩)
      ·try simp only [NM] at h6
       try simp only [eq_two, ovA2.1, ovA2.2, ovK.1, ovK.2, decide_eq_true_eq, decide_eq_false_iff_not, mayM, dp, Nat.add_zero] at h6
       refine WP_skip ?_
       refine WP_ops ?_
       refine WO_add rfl rfl (by omega) ?_
       refine WO_mv (v := .s (.int _ _)) rfl ?_
       refine WO_nil ?_
       first | (have hk := kings_yes hc0 hc1 (by omega) (by omega); refine ⟨64 - (i + 1), _, by omega, (.cons _ (.cons_cons _ (.cons_cons _ .slnil))), i + 1, _, by omega, rfl, ok_next hok (by unfold okM; omega), hk.1, hk.2, rfl, rfl, rfl, rfl, rfl⟩) | (have hk := kings_no hc0 hc1 (by omega); refine ⟨64 - (i + 1), _, by omega, (.cons _ (.cons_cons _ (.cons_cons _ .slnil))), i + 1, _, by omega, rfl, ok_next hok (by unfold okM; omega), hk.1, hk.2, rfl, rfl, rfl, rfl, rfl⟩)
   ·try simp only [NM] at h3
    try simp only [eq_two, ovA2.1, ovA2.2, ovK.1, ovK.2, decide_eq_true_eq, decide_eq_false_iff_not, mayM, dp, Nat.add_zero] at h3
    refine WO_gt rfl ?_
    refine WO_mv (v := .s (.int _ _)) rfl ?_
    refine WO_gt rfl ?_
    refine WO_call0 rfl (rank_run i (by omega)) rfl rfl rfl ?_
    refine WO_gt rfl ?_
    refine WO_bin (r := .bool _) rfl rfl rfl ?_
    refine WO_pick (v := .s (.bool _)) rfl rfl ?_
    refine WO_mv (v := .s (.bool _)) rfl ?_
    refine WO_nil ?_
    refine WP_seq ?_
    refine WP_seq ?_
    refine WP_ops ?_
    first | refine WO_ldA0 rfl rfl (.head _) ?_ | refine WO_ldAI rfl rfl (.head _) ?_
    refine WO_call0 rfl (show RF AM 88 _ (.s (.bool (mayM (P (sqI i)) (P (sqI i + 1))))) from RF_of (may_run (ovA (fun _ => 0) 0 2 (dp P (sqI i))))) rfl rfl rfl ?_
    refine WO_un (r := .bool _) rfl rfl ?_
    refine WO_mv (v := .s (.bool _)) rfl ?_
    refine WO_case (t := 28) rfl (fun h7 => ?_) (fun h7 => ?_)
    ·try simp only [NM] at h7
     try simp only [eq_two, ovA2.1, ovA2.2, ovK.1, ovK.2, decide_eq_true_eq, decide_eq_false_iff_not, mayM, dp, Nat.add_zero] at h7
     refine WO_gf rfl rfl ?_
     refine WO_gf rfl rfl ?_
     refine WO_gu rfl ?_
     refine WO_gu rfl ?_
     refine WO_gu rfl ?_
     refine WO_gf rfl rfl ?_
     refine WO_pick (v := .s (.bool _)) rfl rfl ?_
     refine WO_nil ?_
     refine WP_cond rfl (fun _ => ?_) (fun h => nomatch h)
     refine WP_seq ?_
     refine WP_ops ?_
     refine WO_mv rfl ?_
     refine WO_nil ?_
     refine WP_ret ?_
     refine ⟨_, RS_tmp (v := .s (.bool _)) rfl (RS_nil), ?_⟩
     exact congrArg (fun b => V.s (S.bool b)) (pieces_no (fun q => absurd (q.1 i (by omega)) (by unfold okM; omega))).symm
    ·try simp only [NM] at h7
     try simp only [eq_two, ovA2.1, ovA2.2, ovK.1, ovK.2, decide_eq_true_eq, decide_eq_false_iff_not, mayM, dp, Nat.add_zero] at h7
     refine WO_gt rfl ?_
     refine WO_mv (v := .s (.bool _)) rfl ?_
     refine WO_gt rfl ?_
     refine WO_mv (v := .s (.bool _)) rfl ?_
     refine WO_case (t := 30) rfl (fun h8 => ?_) (fun h8 => ?_)
     ·try simp only [NM] at h8
      try simp only [eq_two, ovA2.1, ovA2.2, ovK.1, ovK.2, decide_eq_true_eq, decide_eq_false_iff_not, mayM, dp, Nat.add_zero] at h8
      refine WO_gt rfl ?_
      refine WO_fa (o' := 0) rfl rfl rfl ?_
      refine WO_gt rfl ?_
      refine WO_ldI (x := P (sqI i)) rfl rfl (.head _) (rfl) ?_
      refine WO_gt rfl ?_
      refine WO_bin (r := .bool _) rfl rfl rfl ?_
      refine WO_gt rfl ?_
      refine WO_pick (v := .s (.bool _)) rfl rfl ?_
      refine WO_pick (v := .s (.bool _)) rfl rfl ?_
      refine WO_nil ?_
      refine WP_cond rfl (fun h9 => ?_) (fun h9 => ?_)
      ·try simp only [NM] at h9
       try simp only [eq_two, ovA2.1, ovA2.2, ovK.1, ovK.2, decide_eq_true_eq, decide_eq_false_iff_not, mayM, dp, Nat.add_zero] at h9
       refine WP_seq ?_
       refine WP_ops ?_
       refine WO_mv rfl ?_
       refine WO_nil ?_
       refine WP_ret ?_
       refine ⟨_, RS_tmp (v := .s (.bool _)) rfl (RS_nil), ?_⟩
       exact congrArg (fun b => V.s (S.bool b)) (pieces_no (fun q => absurd (q.1 i (by omega)) (by unfold okM; omega))).symm
      ·try simp only [NM] at h9
       try simp only [eq_two, ovA2.1, ovA2.2, ovK.1, ovK.2, decide_eq_true_eq, decide_eq_false_iff_not, mayM, dp, Nat.add_zero] at h9
       refine WP_skip ?_
       refine WP_seq ?_
       refine WP_ops ?_
       refine WO_fa (o' := 0) rfl rfl rfl ?_
       refine WO_ldI (x := P (sqI i)) rfl rfl (.head _) (rfl) ?_
       refine WO_bin (r := .bool _) rfl rfl rfl ?_
       refine WO_nil ?_
       refine WP_cond rfl (fun h10 => ?_) (fun h10 => ?_)
       ·try simp only [NM] at h10
        try simp only [eq_two, ovA2.1, ovA2.2, ovK.1, ovK.2, decide_eq_true_eq, decide_eq_false_iff_not, mayM, dp, Nat.add_zero] at h10
        refine WP_ops ?_
        refine WO_fa (o' := 1) rfl rfl rfl ?_
        refine WO_ldI (x := P (sqI i + 1)) rfl rfl (.head _) (rfl) ?_
        refine WO_ixa rfl rfl rfl (by first | omega | (simp only [mayM, decide_eq_true_eq] at *; omega)) ?_
        refine WO_ldI rfl rfl (.tail _ (.head _)) rfl ?_
        refine WO_add rfl rfl (king_bd hc0 hc1 hi (by omega)) ?_
        refine WO_ixa rfl rfl rfl (by first | omega | (simp only [mayM, decide_eq_true_eq] at *; omega)) ?_
        refine WO_stI rfl rfl rfl rfl (.there .here) ?_
        refine WO_nil ?_
        refine WP_ops ?_
        refine WO_add rfl rfl (by omega) ?_
        refine WO_mv (v := .s (.int _ _)) rfl ?_
        refine WO_nil ?_
        first | (have hk := kings_yes hc0 hc1 (by omega) (by omega); refine ⟨64 - (i + 1), _, by omega, (.cons _ (.cons_cons _ (.cons_cons _ .slnil))), i + 1, _, by omega, rfl, ok_next hok (by unfold okM; omega), hk.1, hk.2, rfl, rfl, rfl, rfl, rfl⟩) | (have hk := kings_no hc0 hc1 (by omega); refine ⟨64 - (i + 1), _, by omega, (.cons _ (.cons_cons _ (.cons_cons _ .slnil))), i + 1, _, by omega, rfl, ok_next hok (by unfold okM; omega), hk.1, hk.2, rfl, rfl, rfl, rfl, rfl⟩)
       ·try simp only [NM] at h10
        try simp only [eq_two, ovA2.1, ovA2.2, ovK.1, ovK.2, decide_eq_true_eq, decide_eq_false_iff_not, mayM, dp, Nat.add_zero] at h10
        refine WP_skip ?_
        refine WP_ops ?_
        refine WO_add rfl rfl (by omega) ?_
        refine WO_mv (v := .s (.int _ _)) rfl ?_
        refine WO_nil ?_
        first | (have hk := kings_yes hc0 hc1 (by omega) (by omega); refine ⟨64 - (i + 1), _, by omega, (.cons _ (.cons_cons _ (.cons_cons _ .slnil))), i + 1, _, by omega, rfl, ok_next hok (by unfold okM; omega), hk.1, hk.2, rfl, rfl, rfl, rfl, rfl⟩) | (have hk := kings_no hc0 hc1 (by omega); refine ⟨64 - (i + 1), _, by omega, (.cons _ (.cons_cons _ (.cons_cons _ .slnil))), i + 1, _, by omega, rfl, ok_next hok (by unfold okM; omega), hk.1, hk.2, rfl, rfl, rfl, rfl, rfl⟩)
     ·try simp only [NM] at h8
      try simp only [eq_two, ovA2.1, ovA2.2, ovK.1, ovK.2, decide_eq_true_eq, decide_eq_false_iff_not, mayM, dp, Nat.add_zero] at h8
      refine WO_gf rfl rfl ?_
      refine WO_gf rfl rfl ?_
      refine WO_gf rfl rfl ?_
      refine WO_gt rfl ?_
      refine WO_pick (v := .s (.bool _)) rfl rfl ?_
      refine WO_pick (v := .s (.bool _)) rfl rfl ?_
      refine WO_nil ?_
      refine WP_cond rfl (fun h => nomatch h) (fun _ => ?_)
      refine WP_skip ?_
      refine WP_seq ?_
      refine WP_ops ?_
      refine WO_fa (o' := 0) rfl rfl rfl ?_
      refine WO_ldI (x := P (sqI i)) rfl rfl (.head _) (rfl) ?_
      refine WO_bin (r := .bool _) rfl rfl rfl ?_
      refine WO_nil ?_
      refine WP_cond rfl (fun h11 => ?_) (fun h11 => ?_)
      ·try simp only [NM] at h11
       try simp only [eq_two, ovA2.1, ovA2.2, ovK.1, ovK.2, decide_eq_true_eq, decide_eq_false_iff_not, mayM, dp, Nat.add_zero] at h11
       refine WP_ops ?_
       refine WO_fa (o' := 1) rfl rfl rfl ?_
       refine WO_ldI (x := P (sqI i + 1)) rfl rfl (.head _) (rfl) ?_
       refine WO_ixa rfl rfl rfl (by first | omega | (simp only [mayM, decide_eq_true_eq] at *; omega)) ?_
       refine WO_ldI rfl rfl (.tail _ (.head _)) rfl ?_
       refine WO_add rfl rfl (king_bd hc0 hc1 hi (by omega)) ?_
       refine WO_ixa rfl rfl rfl (by first | omega | (simp only [mayM, decide_eq_true_eq] at *; omega)) ?_
       refine WO_stI rfl rfl rfl rfl (.there .here) ?_
       refine WO_nil ?_
       refine WP_ops ?_
       refine WO_add rfl rfl (by omega) ?_
       refine WO_mv (v := .s (.int _ _)) rfl ?_
       refine WO_nil ?_
       first | (have hk := kings_yes hc0 hc1 (by omega) (by omega); refine ⟨64 - (i + 1), _, by omega, (.cons _ (.cons_cons _ (.cons_cons _ .slnil))), i + 1, _, by omega, rfl, ok_next hok (by unfold okM; omega), hk.1, hk.2, rfl, rfl, rfl, rfl, rfl⟩) | (have hk := kings_no hc0 hc1 (by omega); refine ⟨64 - (i + 1), _, by omega, (.cons _ (.cons_cons _ (.cons_cons _ .slnil))), i + 1, _, by omega, rfl, ok_next hok (by unfold okM; omega), hk.1, hk.2, rfl, rfl, rfl, rfl, rfl⟩)
      ·try simp only [NM] at h11
       try simp only [eq_two, ovA2.1, ovA2.2, ovK.1, ovK.2, decide_eq_true_eq, decide_eq_false_iff_not, mayM, dp, Nat.add_zero] at h11
       refine WP_skip ?_
       refine WP_ops ?_
       refine WO_add rfl rfl (by omega) ?_
       refine WO_mv (v := .s (.int _ _)) rfl ?_
       refine WO_nil ?_
       first | (have hk := kings_yes hc0 hc1 (by omega) (by omega); refine ⟨64 - (i + 1), _, by omega, (.cons _ (.cons_cons _ (.cons_cons _ .slnil))), i + 1, _, by omega, rfl, ok_next hok (by unfold okM; omega), hk.1, hk.2, rfl, rfl, rfl, rfl, rfl⟩) | (have hk := kings_no hc0 hc1 (by omega); refine ⟨64 - (i + 1), _, by omega, (.cons _ (.cons_cons _ (.cons_cons _ .slnil))), i + 1, _, by omega, rfl, ok_next hok (by unfold okM; omega), hk.1, hk.2, rfl, rfl, rfl, rfl, rfl⟩)
 ·try simp only [NM] at h1
  try simp only [eq_two, ovA2.1, ovA2.2, ovK.1, ovK.2, decide_eq_true_eq, decide_eq_false_iff_not, mayM, dp, Nat.add_zero] at h1
  refine WP_exit ?_
  refine xhere ?_
  refine WP_seq ?_
  refine WP_ops ?_
  first | refine WO_ldA0 rfl rfl (.head _) ?_ | refine WO_ldAI rfl rfl (.head _) ?_
  refine WO_buildI rfl (.one rfl (.one rfl .nil)) ?_
  refine WO_eqa rfl rfl ?_
  refine WO_mv (v := .s (.bool _)) rfl ?_
  refine WO_case (t := 49) rfl (fun h12 => ?_) (fun h12 => ?_)
  ·try simp only [NM] at h12
   try simp only [eq_two, ovA2.1, ovA2.2, ovK.1, ovK.2, decide_eq_true_eq, decide_eq_false_iff_not, mayM, dp, Nat.add_zero] at h12
   refine WO_gt rfl ?_
   refine WO_fa (o' := 0) rfl rfl rfl ?_
   refine WO_gt rfl ?_
   refine WO_fa (o' := 128) rfl rfl rfl ?_
   refine WO_gt rfl ?_
   refine WO_ldI rfl rfl (.tail _ (.head _)) rfl ?_
   refine WO_gt rfl ?_
   refine WO_bin (r := .bool _) rfl rfl rfl ?_
   refine WO_gt rfl ?_
   refine WO_mv (v := .s (.bool _)) rfl ?_
   refine WO_case (t := 54) rfl (fun h13 => ?_) (fun h13 => ?_)
   ·try simp only [NM] at h13
    try simp only [eq_two, ovA2.1, ovA2.2, ovK.1, ovK.2, decide_eq_true_eq, decide_eq_false_iff_not, mayM, dp, Nat.add_zero] at h13
    refine WO_gf rfl rfl ?_
    refine WO_gf rfl rfl ?_
    refine WO_gf rfl rfl ?_
    refine WO_gf rfl rfl ?_
    refine WO_gt rfl ?_
    refine WO_pick (v := .s (.bool _)) rfl rfl ?_
    refine WO_pick (v := .s (.bool _)) rfl rfl ?_
    refine WO_mv (v := .s (.bool _)) rfl ?_
    refine WO_nil ?_
    refine WP_ret ?_
    refine ⟨_, RS_tmp (v := .s (.bool _)) rfl (RS_nil), ?_⟩
    obtain rfl : i = 64 := by omega
    refine congrArg (fun b => V.s (S.bool b)) ?_
    by_cases hq : (∀ s : Nat, s < 64 → okM P s) ∧ kM P 0 64 = 1 ∧ kM P 1 64 = 1 ∧ (P 128 = 0 ∨ P 128 = 1)
    · refine Eq.trans (b := true) ?_ (pieces_yes hq).symm; have hq2 := hq.2; first | rfl | (exfalso; omega) | exact beq_iff_eq.2 (by omega)
    · refine Eq.trans (b := false) ?_ (pieces_no hq).symm; have hn : ¬ (kM P 0 64 = 1 ∧ kM P 1 64 = 1 ∧ (P 128 = 0 ∨ P 128 = 1)) := fun e => hq ⟨hok, e⟩; first | rfl | (exfalso; omega) | exact beq_eq_false_iff_ne.2 (by omega)
   ·try simp only [NM] at h13
    try simp only [eq_two, ovA2.1, ovA2.2, ovK.1, ovK.2, decide_eq_true_eq, decide_eq_false_iff_not, mayM, dp, Nat.add_zero] at h13
    refine WO_gt rfl ?_
    refine WO_fa (o' := 0) rfl rfl rfl ?_
    refine WO_gt rfl ?_
    refine WO_fa (o' := 128) rfl rfl rfl ?_
    refine WO_gt rfl ?_
    refine WO_ldI rfl rfl (.tail _ (.head _)) rfl ?_
    refine WO_gt rfl ?_
    refine WO_bin (r := .bool _) rfl rfl rfl ?_
    refine WO_gt rfl ?_
    refine WO_pick (v := .s (.bool _)) rfl rfl ?_
    refine WO_pick (v := .s (.bool _)) rfl rfl ?_
    refine WO_mv (v := .s (.bool _)) rfl ?_
    refine WO_nil ?_
    refine WP_ret ?_
    refine ⟨_, RS_tmp (v := .s (.bool _)) rfl (RS_nil), ?_⟩
    obtain rfl : i = 64 := by omega
    refine congrArg (fun b => V.s (S.bool b)) ?_
    by_cases hq : (∀ s : Nat, s < 64 → okM P s) ∧ kM P 0 64 = 1 ∧ kM P 1 64 = 1 ∧ (P 128 = 0 ∨ P 128 = 1)
    · refine Eq.trans (b := true) ?_ (pieces_yes hq).symm; have hq2 := hq.2; first | rfl | (exfalso; omega) | exact beq_iff_eq.2 (by omega)
    · refine Eq.trans (b := false) ?_ (pieces_no hq).symm; have hn : ¬ (kM P 0 64 = 1 ∧ kM P 1 64 = 1 ∧ (P 128 = 0 ∨ P 128 = 1)) := fun e => hq ⟨hok, e⟩; first | rfl | (exfalso; omega) | exact beq_eq_false_iff_ne.2 (by omega)
  ·try simp only [NM] at h12
   try simp only [eq_two, ovA2.1, ovA2.2, ovK.1, ovK.2, decide_eq_true_eq, decide_eq_false_iff_not, mayM, dp, Nat.add_zero] at h12
   refine WO_gf rfl rfl ?_
   refine WO_gf rfl rfl ?_
   refine WO_gf rfl rfl ?_
   refine WO_gf rfl rfl ?_
   refine WO_gf rfl rfl ?_
   refine WO_gu rfl ?_
   refine WO_gu rfl ?_
   refine WO_gu rfl ?_
   refine WO_gu rfl ?_
   refine WO_gf rfl rfl ?_
   refine WO_pick (v := .s (.bool _)) rfl rfl ?_
   refine WO_mv (v := .s (.bool _)) rfl ?_
   refine WO_nil ?_
   refine WP_ret ?_
   refine ⟨_, RS_tmp (v := .s (.bool _)) rfl (RS_nil), ?_⟩
   obtain rfl : i = 64 := by omega
   refine congrArg (fun b => V.s (S.bool b)) ?_
   by_cases hq : (∀ s : Nat, s < 64 → okM P s) ∧ kM P 0 64 = 1 ∧ kM P 1 64 = 1 ∧ (P 128 = 0 ∨ P 128 = 1)
   · refine Eq.trans (b := true) ?_ (pieces_yes hq).symm; have hq2 := hq.2; first | rfl | (exfalso; omega) | exact beq_iff_eq.2 (by omega)
   · refine Eq.trans (b := false) ?_ (pieces_no hq).symm; have hn : ¬ (kM P 0 64 = 1 ∧ kM P 1 64 = 1 ∧ (P 128 = 0 ∨ P 128 = 1)) := fun e => hq ⟨hok, e⟩; first | rfl | (exfalso; omega) | exact beq_eq_false_iff_ne.2 (by omega)
theorem step_up {x : Int} (hx : 0 ≤ x ∧ x < 64) (h : x / 8 < 7) : RF AM 33 [.s (.int .i64 x), .s (.int .i64 0), .s (.int .i64 1)] (.s (.int .i64 (x + 8))) := by
  have := Step_run x 0 1
  rw [step_is hx (by omega)] at this
  exact this
theorem step_dn {x : Int} (hx : 0 ≤ x ∧ x < 64) (h : 1 ≤ x / 8) : RF AM 33 [.s (.int .i64 x), .s (.int .i64 0), .s (.int .i64 (-1))] (.s (.int .i64 (x - 8))) := by
  have := Step_run x 0 (-1)
  rw [step_is hx (by omega)] at this
  exact this
theorem other0 {x : Int} (h : x = 0 ∨ x = 1) : otherM x = 1 - x := by
  unfold otherM; split <;> omega
theorem rank_all (x : Int) : (0 ≤ x ∧ x < 64 ∧ rankM x = x / 8) ∨ (¬ (0 ≤ x ∧ x < 64) ∧ rankM x = -1) := by
  unfold rankM; split
  · exact .inl ⟨by omega, by omega, rfl⟩
  · exact .inr ⟨by assumption, rfl⟩

theorem over_ok (P : Nat → Int) (hs : P 128 = 0 ∨ P 128 = 1) : WR AM 91 [.agg 133 (ia P)] [] (fun v _ _ => v = .s (.bool (overOK P))) := by
 refine WR_fn (a := a91) rfl rfl (entryF _) (entry_E (Nat.le_of_ble_eq_true rfl)) (m := 0) rfl ?_
 refine WP_seq ?_
 refine WP_ops ?_
 refine WO_boxA rfl ?_
 refine WO_mv rfl ?_
 refine WO_nil ?_
 refine WP_seq ?_
 refine WP_seq ?_
 refine WP_ops ?_
 refine WO_fa (o' := 0) rfl rfl rfl ?_
 refine WO_fa (o' := 130) rfl rfl rfl ?_
 refine WO_ldI rfl rfl (.head _) rfl ?_
 refine WO_bin (r := .bool _) rfl rfl rfl ?_
 refine WO_nil ?_
 refine WP_cond rfl (fun h30 => ?_) (fun h30 => ?_)
 ·try simp only [NM] at h30
  try simp only [standM, decide_eq_true_eq, decide_eq_false_iff_not] at h30
  refine WP_seq ?_
  refine WP_ops ?_
  refine WO_mv rfl ?_
  refine WO_nil ?_
  refine WP_ret ?_
  refine ⟨_, RS_tmp (v := .s (.bool _)) rfl (RS_nil), ?_⟩
  refine congrArg (fun b => V.s (S.bool b)) ?_
  have ho := other0 hs
  have hra := rank_all (P 130)
  rw [Bool.eq_iff_iff]
  simp only [overOK, standM, decide_eq_true_eq, Bool.false_eq_true, false_iff, true_iff, ho] at *
  omega
 ·try simp only [NM] at h30
  try simp only [standM, decide_eq_true_eq, decide_eq_false_iff_not] at h30
  refine WP_skip ?_
  refine WP_seq ?_
  refine WP_ops ?_
  refine WO_mv rfl ?_
  refine WO_mv rfl ?_
  refine WO_nil ?_
  refine WP_seq ?_
  refine WP_seq ?_
  refine WP_ops ?_
  refine WO_fa (o' := 0) rfl rfl rfl ?_
  refine WO_fa (o' := 128) rfl rfl rfl ?_
  refine WO_ldI rfl rfl (.head _) rfl ?_
  refine WO_bin (r := .bool _) rfl rfl rfl ?_
  refine WO_nil ?_
  refine WP_cond rfl (fun h31 => ?_) (fun h31 => ?_)
  ·try simp only [NM] at h31
   try simp only [standM, decide_eq_true_eq, decide_eq_false_iff_not] at h31
   refine WP_ops ?_
   refine WO_mv rfl ?_
   refine WO_mv rfl ?_
   refine WO_nil ?_
   refine WP_seq ?_
   refine WP_seq ?_
   refine WP_ops ?_
   refine WO_fa (o' := 0) rfl rfl rfl ?_
   refine WO_fa (o' := 130) rfl rfl rfl ?_
   refine WO_ldI rfl rfl (.head _) rfl ?_
   refine WO_call0 rfl (Rank_run _) rfl rfl rfl ?_
   refine WO_mv (v := .s (.int _ _)) rfl ?_
   refine WO_bin (r := .bool _) rfl rfl rfl ?_
   refine WO_mv (v := .s (.bool _)) rfl ?_
   refine WO_case (t := 20) rfl (fun h32 => ?_) (fun h32 => ?_)
   ·try simp only [NM] at h32
    try simp only [standM, decide_eq_true_eq, decide_eq_false_iff_not] at h32
    refine WO_gf rfl rfl ?_
    refine WO_gf rfl rfl ?_
    refine WO_gf rfl rfl ?_
    refine WO_gf rfl rfl ?_
    refine WO_pick (v := .s (.bool _)) rfl rfl ?_
    refine WO_nil ?_
    refine WP_cond rfl (fun _ => ?_) (fun h => nomatch h)
    refine WP_seq ?_
    refine WP_ops ?_
    refine WO_mv rfl ?_
    refine WO_nil ?_
    refine WP_ret ?_
    refine ⟨_, RS_tmp (v := .s (.bool _)) rfl (RS_nil), ?_⟩
    refine congrArg (fun b => V.s (S.bool b)) ?_
    have ho := other0 hs
    have hra := rank_all (P 130)
    rw [Bool.eq_iff_iff]
    simp only [overOK, standM, decide_eq_true_eq, Bool.false_eq_true, false_iff, true_iff, ho] at *
    omega
   ·try simp only [NM] at h32
    try simp only [standM, decide_eq_true_eq, decide_eq_false_iff_not] at h32
    refine WO_gt rfl ?_
    refine WO_fa (o' := 0) rfl rfl rfl ?_
    refine WO_gt rfl ?_
    refine WO_fa (o' := 131) rfl rfl rfl ?_
    refine WO_gt rfl ?_
    refine WO_ldI rfl rfl (.head _) rfl ?_
    refine WO_gt rfl ?_
    refine WO_bin (r := .bool _) rfl rfl rfl ?_
    refine WO_pick (v := .s (.bool _)) rfl rfl ?_
    refine WO_nil ?_
    refine WP_cond rfl (fun h33 => ?_) (fun h33 => ?_)
    ·try simp only [NM] at h33
     try simp only [standM, decide_eq_true_eq, decide_eq_false_iff_not] at h33
     refine WP_seq ?_
     refine WP_ops ?_
     refine WO_mv rfl ?_
     refine WO_nil ?_
     refine WP_ret ?_
     refine ⟨_, RS_tmp (v := .s (.bool _)) rfl (RS_nil), ?_⟩
     refine congrArg (fun b => V.s (S.bool b)) ?_
     have ho := other0 hs
     have hra := rank_all (P 130)
     rw [Bool.eq_iff_iff]
     simp only [overOK, standM, decide_eq_true_eq, Bool.false_eq_true, false_iff, true_iff, ho] at *
     omega
    ·try simp only [NM] at h33
     try simp only [standM, decide_eq_true_eq, decide_eq_false_iff_not] at h33
     refine WP_skip ?_
     refine WP_seq ?_
     refine WP_ops ?_
     refine WO_mkfn rfl ?_
     refine WO_mv (v := .fn _ _) rfl ?_
     refine WO_nil ?_
     refine WP_seq ?_
     refine WP_ops ?_
     refine WO_mv (v := .fn _ _) rfl ?_
     refine WO_fa (o' := 0) rfl rfl rfl ?_
     refine WO_fa (o' := 130) rfl rfl rfl ?_
     refine WO_ldI rfl rfl (.head _) rfl ?_
     have hin31 := rank_in (x := P 130) (by assumption) (by omega)
     refine WO_callC (rs := [0]) (Bs := [_]) rfl (RB_of1 (free_run (md := .var) P _ (by omega))) rfl rfl (Nat.le_of_ble_eq_true rfl) (fun _ h => h) rfl ⟨(.head _), ⟨_, _, _, rfl⟩, trivial⟩ rfl rfl rfl (.cons .here .nil) ?_
     refine WO_mv (v := .s (.bool _)) rfl ?_
     refine WO_case (t := 32) rfl (fun h34 => ?_) (fun h34 => ?_)
     ·try simp only [NM] at h34
      try simp only [standM, decide_eq_true_eq, decide_eq_false_iff_not] at h34
      refine WO_gt rfl ?_
      refine WO_mv (v := .fn _ _) rfl ?_
      refine WO_gt rfl ?_
      refine WO_fa (o' := 0) rfl rfl rfl ?_
      refine WO_gt rfl ?_
      refine WO_fa (o' := 130) rfl rfl rfl ?_
      refine WO_gt rfl ?_
      refine WO_ldI rfl rfl (.head _) rfl ?_
      refine WO_gt rfl ?_
      refine WO_mv (v := .s (.int _ _)) rfl ?_
      refine WO_gt rfl ?_
      have hin38 := rank_in (x := P 130) (by assumption) (by omega)
      refine WO_call0 rfl (step_dn hin38.1 (by omega)) rfl rfl rfl ?_
      refine WO_gt rfl ?_
      have hin39 := rank_in (x := P 130) (by assumption) (by omega)
      refine WO_callC (rs := [0]) (Bs := [_]) rfl (RB_of1 (free_run (md := .var) P _ (by omega))) rfl rfl (Nat.le_of_ble_eq_true rfl) (fun _ h => h) rfl ⟨(.head _), ⟨_, _, _, rfl⟩, trivial⟩ rfl rfl rfl (.cons .here .nil) ?_
      refine WO_pick (v := .s (.bool _)) rfl rfl ?_
      refine WO_mv (v := .s (.bool _)) rfl ?_
      refine WO_case (t := 41) rfl (fun h35 => ?_) (fun h35 => ?_)
      ·try simp only [NM] at h35
       try simp only [standM, decide_eq_true_eq, decide_eq_false_iff_not] at h35
       refine WO_gt rfl ?_
       first | refine WO_ldA0 rfl rfl (.head _) ?_ | refine WO_ldAI rfl rfl (.head _) ?_
       refine WO_gt rfl ?_
       refine WO_fa (o' := 0) rfl rfl rfl ?_
       refine WO_gt rfl ?_
       refine WO_fa (o' := 128) rfl rfl rfl ?_
       refine WO_gt rfl ?_
       refine WO_ldI rfl rfl (.head _) rfl ?_
       refine WO_gt rfl ?_
       refine WO_callq0 rfl (RF_of (Other_run _)) rfl rfl rfl ?_
       refine WO_gt rfl ?_
       refine WO_fa (o' := 0) rfl rfl rfl ?_
       refine WO_gt rfl ?_
       refine WO_fa (o' := 130) rfl rfl rfl ?_
       refine WO_gt rfl ?_
       refine WO_ldI rfl rfl (.head _) rfl ?_
       refine WO_gt rfl ?_
       refine WO_mv (v := .s (.int _ _)) rfl ?_
       refine WO_gt rfl ?_
       refine WO_neg rfl (by omega) ?_
       refine WO_gt rfl ?_
       have hin52 := rank_in (x := P 130) (by assumption) (by omega)
       refine WO_callq0 rfl (step_up hin52.1 (by omega)) rfl rfl rfl ?_
       refine WO_gt rfl ?_
       refine WO_call0 rfl (RF_of (stands_run _ _ _ _ (by omega))) rfl rfl rfl ?_
       refine WO_pick (v := .s (.bool _)) rfl rfl ?_
       refine WO_mv (v := .s (.bool _)) rfl ?_
       refine WO_nil ?_
       refine WP_ret ?_
       refine ⟨_, RS_tmp (v := .s (.bool _)) rfl (RS_nil), ?_⟩
       refine congrArg (fun b => V.s (S.bool b)) ?_
       have ho := other0 hs
       have hra := rank_all (P 130)
       rw [Bool.eq_iff_iff]
       simp only [overOK, standM, decide_eq_true_eq, Bool.false_eq_true, false_iff, true_iff, ho] at *
       omega
      ·try simp only [NM] at h35
       try simp only [standM, decide_eq_true_eq, decide_eq_false_iff_not] at h35
       refine WO_gf rfl rfl ?_
       refine WO_gf rfl rfl ?_
       refine WO_gf rfl rfl ?_
       refine WO_gf rfl rfl ?_
       refine WO_gf rfl rfl ?_
       refine WO_gf rfl rfl ?_
       refine WO_gf rfl rfl ?_
       refine WO_gf rfl rfl ?_
       refine WO_gf rfl rfl ?_
       refine WO_gf rfl rfl ?_
       refine WO_gf rfl rfl ?_
       refine WO_gf rfl rfl ?_
       refine WO_pick (v := .s (.bool _)) rfl rfl ?_
       refine WO_mv (v := .s (.bool _)) rfl ?_
       refine WO_nil ?_
       refine WP_ret ?_
       refine ⟨_, RS_tmp (v := .s (.bool _)) rfl (RS_nil), ?_⟩
       refine congrArg (fun b => V.s (S.bool b)) ?_
       have ho := other0 hs
       have hra := rank_all (P 130)
       rw [Bool.eq_iff_iff]
       simp only [overOK, standM, decide_eq_true_eq, Bool.false_eq_true, false_iff, true_iff, ho] at *
       omega
     ·try simp only [NM] at h34
      try simp only [standM, decide_eq_true_eq, decide_eq_false_iff_not] at h34
      refine WO_gf rfl rfl ?_
      refine WO_gf rfl rfl ?_
      refine WO_gf rfl rfl ?_
      refine WO_gf rfl rfl ?_
      refine WO_gf rfl rfl ?_
      refine WO_gf rfl rfl ?_
      refine WO_gf rfl rfl ?_
      refine WO_pick (v := .s (.bool _)) rfl rfl ?_
      refine WO_mv (v := .s (.bool _)) rfl ?_
      refine WO_gf rfl rfl ?_
      refine WO_gf rfl rfl ?_
      refine WO_gf rfl rfl ?_
      refine WO_gf rfl rfl ?_
      refine WO_gf rfl rfl ?_
      refine WO_gf rfl rfl ?_
      refine WO_gf rfl rfl ?_
      refine WO_gf rfl rfl ?_
      refine WO_gf rfl rfl ?_
      refine WO_gf rfl rfl ?_
      refine WO_gf rfl rfl ?_
      refine WO_gf rfl rfl ?_
      refine WO_pick (v := .s (.bool _)) rfl rfl ?_
      refine WO_mv (v := .s (.bool _)) rfl ?_
      refine WO_nil ?_
      refine WP_ret ?_
      refine ⟨_, RS_tmp (v := .s (.bool _)) rfl (RS_nil), ?_⟩
      refine congrArg (fun b => V.s (S.bool b)) ?_
      have ho := other0 hs
      have hra := rank_all (P 130)
      rw [Bool.eq_iff_iff]
      simp only [overOK, standM, decide_eq_true_eq, Bool.false_eq_true, false_iff, true_iff, ho] at *
      omega
  ·try simp only [NM] at h31
   try simp only [standM, decide_eq_true_eq, decide_eq_false_iff_not] at h31
   refine WP_skip ?_
   refine WP_seq ?_
   refine WP_seq ?_
   refine WP_ops ?_
   refine WO_fa (o' := 0) rfl rfl rfl ?_
   refine WO_fa (o' := 130) rfl rfl rfl ?_
   refine WO_ldI rfl rfl (.head _) rfl ?_
   refine WO_call0 rfl (Rank_run _) rfl rfl rfl ?_
   refine WO_mv (v := .s (.int _ _)) rfl ?_
   refine WO_bin (r := .bool _) rfl rfl rfl ?_
   refine WO_mv (v := .s (.bool _)) rfl ?_
   refine WO_case (t := 20) rfl (fun h36 => ?_) (fun h36 => ?_)
   ·try simp only [NM] at h36
    try simp only [standM, decide_eq_true_eq, decide_eq_false_iff_not] at h36
    refine WO_gf rfl rfl ?_
    refine WO_gf rfl rfl ?_
    refine WO_gf rfl rfl ?_
    refine WO_gf rfl rfl ?_
    refine WO_pick (v := .s (.bool _)) rfl rfl ?_
    refine WO_nil ?_
    refine WP_cond rfl (fun _ => ?_) (fun h => nomatch h)
    refine WP_seq ?_
    refine WP_ops ?_
    refine WO_mv rfl ?_
    refine WO_nil ?_
    refine WP_ret ?_
    refine ⟨_, RS_tmp (v := .s (.bool _)) rfl (RS_nil), ?_⟩
    refine congrArg (fun b => V.s (S.bool b)) ?_
    have ho := other0 hs
    have hra := rank_all (P 130)
    rw [Bool.eq_iff_iff]
    simp only [overOK, standM, decide_eq_true_eq, Bool.false_eq_true, false_iff, true_iff, ho] at *
    omega
   ·try simp only [NM] at h36
    try simp only [standM, decide_eq_true_eq, decide_eq_false_iff_not] at h36
    refine WO_gt rfl ?_
    refine WO_fa (o' := 0) rfl rfl rfl ?_
    refine WO_gt rfl ?_
    refine WO_fa (o' := 131) rfl rfl rfl ?_
    refine WO_gt rfl ?_
    refine WO_ldI rfl rfl (.head _) rfl ?_
    refine WO_gt rfl ?_
    refine WO_bin (r := .bool _) rfl rfl rfl ?_
    refine WO_pick (v := .s (.bool _)) rfl rfl ?_
    refine WO_nil ?_
    refine WP_cond rfl (fun h37 => ?_) (fun h37 => ?_)
    ·try simp only [NM] at h37
     try simp only [standM, decide_eq_true_eq, decide_eq_false_iff_not] at h37
     refine WP_seq ?_
     refine WP_ops ?_
     refine WO_mv rfl ?_
     refine WO_nil ?_
     refine WP_ret ?_
     refine ⟨_, RS_tmp (v := .s (.bool _)) rfl (RS_nil), ?_⟩
     refine congrArg (fun b => V.s (S.bool b)) ?_
     have ho := other0 hs
     have hra := rank_all (P 130)
     rw [Bool.eq_iff_iff]
     simp only [overOK, standM, decide_eq_true_eq, Bool.false_eq_true, false_iff, true_iff, ho] at *
     omega
    ·try simp only [NM] at h37
     try simp only [standM, decide_eq_true_eq, decide_eq_false_iff_not] at h37
     refine WP_skip ?_
     refine WP_seq ?_
     refine WP_ops ?_
     refine WO_mkfn rfl ?_
     refine WO_mv (v := .fn _ _) rfl ?_
     refine WO_nil ?_
     refine WP_seq ?_
     refine WP_ops ?_
     refine WO_mv (v := .fn _ _) rfl ?_
     refine WO_fa (o' := 0) rfl rfl rfl ?_
     refine WO_fa (o' := 130) rfl rfl rfl ?_
     refine WO_ldI rfl rfl (.head _) rfl ?_
     have hin31 := rank_in (x := P 130) (by assumption) (by omega)
     refine WO_callC (rs := [0]) (Bs := [_]) rfl (RB_of1 (free_run (md := .var) P _ (by omega))) rfl rfl (Nat.le_of_ble_eq_true rfl) (fun _ h => h) rfl ⟨(.head _), ⟨_, _, _, rfl⟩, trivial⟩ rfl rfl rfl (.cons .here .nil) ?_
     refine WO_mv (v := .s (.bool _)) rfl ?_
     refine WO_case (t := 32) rfl (fun h38 => ?_) (fun h38 => ?_)
     ·try simp only [NM] at h38
      try simp only [standM, decide_eq_true_eq, decide_eq_false_iff_not] at h38
      refine WO_gt rfl ?_
      refine WO_mv (v := .fn _ _) rfl ?_
      refine WO_gt rfl ?_
      refine WO_fa (o' := 0) rfl rfl rfl ?_
      refine WO_gt rfl ?_
      refine WO_fa (o' := 130) rfl rfl rfl ?_
      refine WO_gt rfl ?_
      refine WO_ldI rfl rfl (.head _) rfl ?_
      refine WO_gt rfl ?_
      refine WO_mv (v := .s (.int _ _)) rfl ?_
      refine WO_gt rfl ?_
      have hin38 := rank_in (x := P 130) (by assumption) (by omega)
      refine WO_call0 rfl (step_up hin38.1 (by omega)) rfl rfl rfl ?_
      refine WO_gt rfl ?_
      have hin39 := rank_in (x := P 130) (by assumption) (by omega)
      refine WO_callC (rs := [0]) (Bs := [_]) rfl (RB_of1 (free_run (md := .var) P _ (by omega))) rfl rfl (Nat.le_of_ble_eq_true rfl) (fun _ h => h) rfl ⟨(.head _), ⟨_, _, _, rfl⟩, trivial⟩ rfl rfl rfl (.cons .here .nil) ?_
      refine WO_pick (v := .s (.bool _)) rfl rfl ?_
      refine WO_mv (v := .s (.bool _)) rfl ?_
      refine WO_case (t := 41) rfl (fun h39 => ?_) (fun h39 => ?_)
      ·try simp only [NM] at h39
       try simp only [standM, decide_eq_true_eq, decide_eq_false_iff_not] at h39
       refine WO_gt rfl ?_
       first | refine WO_ldA0 rfl rfl (.head _) ?_ | refine WO_ldAI rfl rfl (.head _) ?_
       refine WO_gt rfl ?_
       refine WO_fa (o' := 0) rfl rfl rfl ?_
       refine WO_gt rfl ?_
       refine WO_fa (o' := 128) rfl rfl rfl ?_
       refine WO_gt rfl ?_
       refine WO_ldI rfl rfl (.head _) rfl ?_
       refine WO_gt rfl ?_
       refine WO_callq0 rfl (RF_of (Other_run _)) rfl rfl rfl ?_
       refine WO_gt rfl ?_
       refine WO_fa (o' := 0) rfl rfl rfl ?_
       refine WO_gt rfl ?_
       refine WO_fa (o' := 130) rfl rfl rfl ?_
       refine WO_gt rfl ?_
       refine WO_ldI rfl rfl (.head _) rfl ?_
       refine WO_gt rfl ?_
       refine WO_mv (v := .s (.int _ _)) rfl ?_
       refine WO_gt rfl ?_
       refine WO_neg rfl (by omega) ?_
       refine WO_gt rfl ?_
       have hin52 := rank_in (x := P 130) (by assumption) (by omega)
       refine WO_callq0 rfl (step_dn hin52.1 (by omega)) rfl rfl rfl ?_
       refine WO_gt rfl ?_
       refine WO_call0 rfl (RF_of (stands_run _ _ _ _ (by omega))) rfl rfl rfl ?_
       refine WO_pick (v := .s (.bool _)) rfl rfl ?_
       refine WO_mv (v := .s (.bool _)) rfl ?_
       refine WO_nil ?_
       refine WP_ret ?_
       refine ⟨_, RS_tmp (v := .s (.bool _)) rfl (RS_nil), ?_⟩
       refine congrArg (fun b => V.s (S.bool b)) ?_
       have ho := other0 hs
       have hra := rank_all (P 130)
       rw [Bool.eq_iff_iff]
       simp only [overOK, standM, decide_eq_true_eq, Bool.false_eq_true, false_iff, true_iff, ho] at *
       omega
      ·try simp only [NM] at h39
       try simp only [standM, decide_eq_true_eq, decide_eq_false_iff_not] at h39
       refine WO_gf rfl rfl ?_
       refine WO_gf rfl rfl ?_
       refine WO_gf rfl rfl ?_
       refine WO_gf rfl rfl ?_
       refine WO_gf rfl rfl ?_
       refine WO_gf rfl rfl ?_
       refine WO_gf rfl rfl ?_
       refine WO_gf rfl rfl ?_
       refine WO_gf rfl rfl ?_
       refine WO_gf rfl rfl ?_
       refine WO_gf rfl rfl ?_
       refine WO_gf rfl rfl ?_
       refine WO_pick (v := .s (.bool _)) rfl rfl ?_
       refine WO_mv (v := .s (.bool _)) rfl ?_
       refine WO_nil ?_
       refine WP_ret ?_
       refine ⟨_, RS_tmp (v := .s (.bool _)) rfl (RS_nil), ?_⟩
       refine congrArg (fun b => V.s (S.bool b)) ?_
       have ho := other0 hs
       have hra := rank_all (P 130)
       rw [Bool.eq_iff_iff]
       simp only [overOK, standM, decide_eq_true_eq, Bool.false_eq_true, false_iff, true_iff, ho] at *
       omega
     ·try simp only [NM] at h38
      try simp only [standM, decide_eq_true_eq, decide_eq_false_iff_not] at h38
      refine WO_gf rfl rfl ?_
      refine WO_gf rfl rfl ?_
      refine WO_gf rfl rfl ?_
      refine WO_gf rfl rfl ?_
      refine WO_gf rfl rfl ?_
      refine WO_gf rfl rfl ?_
      refine WO_gf rfl rfl ?_
      refine WO_pick (v := .s (.bool _)) rfl rfl ?_
      refine WO_mv (v := .s (.bool _)) rfl ?_
      refine WO_gf rfl rfl ?_
      refine WO_gf rfl rfl ?_
      refine WO_gf rfl rfl ?_
      refine WO_gf rfl rfl ?_
      refine WO_gf rfl rfl ?_
      refine WO_gf rfl rfl ?_
      refine WO_gf rfl rfl ?_
      refine WO_gf rfl rfl ?_
      refine WO_gf rfl rfl ?_
      refine WO_gf rfl rfl ?_
      refine WO_gf rfl rfl ?_
      refine WO_gf rfl rfl ?_
      refine WO_pick (v := .s (.bool _)) rfl rfl ?_
      refine WO_mv (v := .s (.bool _)) rfl ?_
      refine WO_nil ?_
      refine WP_ret ?_
      refine ⟨_, RS_tmp (v := .s (.bool _)) rfl (RS_nil), ?_⟩
      refine congrArg (fun b => V.s (S.bool b)) ?_
      have ho := other0 hs
      have hra := rank_all (P 130)
      rw [Bool.eq_iff_iff]
      simp only [overOK, standM, decide_eq_true_eq, Bool.false_eq_true, false_iff, true_iff, ho] at *
      omega
theorem kM_same {P Q : Nat → Int} (h : ∀ i, i < 128 → P i = Q i) (c : Int) : ∀ n : Nat, n ≤ 64 → kM P c n = kM Q c n
  | 0, _ => rfl
  | n + 1, hn => by
    have hq : sqI n = 0 + (n : Int).toNat * 2 := rfl
    unfold kM
    rw [kM_same h c n (by omega), h (sqI n) (by omega), h (sqI n + 1) (by omega)]
theorem okM_same {P Q : Nat → Int} (h : ∀ i, i < 128 → P i = Q i) {s : Nat} (hs : s < 64) : okM P s = okM Q s := by
  have hq : sqI s = 0 + (s : Int).toNat * 2 := rfl
  unfold okM
  rw [h (sqI s) (by omega), h (sqI s + 1) (by omega)]
theorem piecesM_same {P Q : Nat → Int} (h : ∀ i, i < 133 → P i = Q i) : piecesM P = piecesM Q := by
  have hl : ∀ i, i < 128 → P i = Q i := fun i hi => h i (by omega)
  have ho : (∀ s : Nat, s < 64 → okM P s) ↔ (∀ s : Nat, s < 64 → okM Q s) := ⟨fun a s hs => (okM_same hl hs) ▸ a s hs, fun a s hs => (okM_same hl hs).symm ▸ a s hs⟩
  unfold piecesM
  rw [Bool.eq_iff_iff, decide_eq_true_eq, decide_eq_true_eq, ho, kM_same hl 0 64 (by omega), kM_same hl 1 64 (by omega), h 128 (by omega)]
theorem standM_same {P Q : Nat → Int} (h : ∀ i, i < 133 → P i = Q i) {x k c : Int} (hx : 0 ≤ x ∧ x < 64) : standM P x k c = standM Q x k c := by
  have hq : sqI x = 0 + x.toNat * 2 := rfl
  unfold standM
  rw [h (sqI x) (by omega), h (sqI x + 1) (by omega)]
theorem homeM_same {P Q : Nat → Int} (h : ∀ i, i < 133 → P i = Q i) {s a b : Int} (ha : 0 ≤ a ∧ a < 64) (hb : 0 ≤ b ∧ b < 64) : homeM P s a b = homeM Q s a b := by
  have hq : sqI a = 0 + a.toNat * 2 := rfl
  have hq2 : sqI b = 0 + b.toNat * 2 := rfl
  unfold homeM
  rw [h (sqI a) (by omega), h (sqI a + 1) (by omega), h (sqI b) (by omega), h (sqI b + 1) (by omega)]
theorem castlesM_same {P Q : Nat → Int} (h : ∀ i, i < 133 → P i = Q i) : castlesM P = castlesM Q := by
  unfold castlesM
  rw [h 129 (by omega), homeM_same h (by omega) (by omega), homeM_same h (by omega) (by omega), homeM_same h (by omega) (by omega), homeM_same h (by omega) (by omega)]
theorem overOK_same {P Q : Nat → Int} (h : ∀ i, i < 133 → P i = Q i) : overOK P = overOK Q := by
  unfold overOK
  rw [h 130 (by omega), h 131 (by omega), h 128 (by omega)]
  by_cases hx : (0 ≤ Q 130 ∧ Q 130 < 64) ∧ (Q 130 / 8 = 2 ∨ Q 130 / 8 = 5)
  · rw [standM_same h (x := Q 130) (by omega), standM_same h (x := Q 130 - 8) (by omega), standM_same h (x := Q 130 + 8) (by omega), standM_same h (x := Q 130 + 8) (by omega), standM_same h (x := Q 130 - 8) (by omega)]
  · rw [Bool.eq_iff_iff, decide_eq_true_eq, decide_eq_true_eq]
    constructor
    · rintro (e | ⟨e, _, ⟨_, f, _⟩ | ⟨_, f, _⟩⟩)
      · exact .inl e
      · exact absurd ⟨e, .inl f⟩ hx
      · exact absurd ⟨e, .inr f⟩ hx
    · rintro (e | ⟨e, _, ⟨_, f, _⟩ | ⟨_, f, _⟩⟩)
      · exact .inl e
      · exact absurd ⟨e, .inl f⟩ hx
      · exact absurd ⟨e, .inr f⟩ hx
theorem cut_same (P : Nat → Int) : ∀ i, i < 133 → ovA (fun _ => 0) 0 133 (ovA (fun _ => 0) 0 133 P) i = P i := fun i hi => by
  rw [ovA_at (by omega), Nat.sub_zero, ovA_at (by omega), Nat.sub_zero]
theorem right_is {P : Nat → Int} {a b c r : Bool} (ha : a = piecesM P) (hb : a = true → b = castlesM P) (hc : a = true → b = true → c = overOK P) (hr : r = (a && b && c && decide (0 ≤ P 131 ∧ P 131 ≤ 1024 ∧ 1 ≤ P 132 ∧ P 132 ≤ 16384))) : r = rightM P := by
  subst hr ha
  unfold rightM
  cases hp : piecesM P with
  | false => simp
  | true =>
    have hb := hb hp
    subst hb
    cases hq : castlesM P with
    | false => simp
    | true =>
      have hc := hc hp hq
      subst hc
      simp

theorem Right_run (P : Nat → Int) : WR AM 56 [.agg 133 (ia P)] [] (fun v _ _ => v = .s (.bool (rightM P))) := by
 refine WR_fn (a := a56) rfl rfl (entryF _) (entry_E (Nat.le_of_ble_eq_true rfl)) (m := 0) rfl ?_
 refine WP_seq ?_
 refine WP_ops ?_
 refine WO_boxA rfl ?_
 refine WO_mv rfl ?_
 refine WO_nil ?_
 refine WP_seq ?_
 refine WP_ops ?_
 first | refine WO_ldA0 rfl rfl (.head _) ?_ | refine WO_ldAI rfl rfl (.head _) ?_
 refine WO_buildI rfl (.agg rfl .nil) ?_
 refine WO_allocI ?_
 refine WO_stA rfl rfl rfl rfl .here ?_
 refine WO_nil ?_
 refine WP_seq ?_
 refine WP_ops ?_
 first | refine WO_ldA0 rfl rfl (.head _) ?_ | refine WO_ldAI rfl rfl (.head _) ?_
 obtain ⟨bp, hbp⟩ : ∃ b, b = piecesM P := ⟨_, rfl⟩
 have hP := RF_of (pieces_ok (ovA (fun _ => 0) 0 133 (ovA (fun _ => 0) 0 133 P)))
 rw [piecesM_same (cut_same P), ← hbp] at hP
 refine WO_call0 rfl (hP) rfl rfl rfl ?_
 refine WO_mv (v := .s (.bool _)) rfl ?_
 refine WO_case (t := 8) rfl (fun h51 => ?_) (fun h51 => ?_)
 ·try simp only [NM] at h51
  refine WO_gt rfl ?_
  first | refine WO_ldA0 rfl rfl (.head _) ?_ | refine WO_ldAI rfl rfl (.head _) ?_
  refine WO_gt rfl ?_
  obtain ⟨bc, hbc⟩ : ∃ b, b = castlesM P := ⟨_, rfl⟩
  have hC := RF_of (castles_ok (ovA (fun _ => 0) 0 133 (ovA (fun _ => 0) 0 133 P)))
  rw [castlesM_same (cut_same P), ← hbc] at hC
  refine WO_call0 rfl (hC) rfl rfl rfl ?_
  refine WO_pick (v := .s (.bool _)) rfl rfl ?_
  refine WO_mv (v := .s (.bool _)) rfl ?_
  refine WO_case (t := 12) rfl (fun h52 => ?_) (fun h52 => ?_)
  ·try simp only [NM] at h52
   refine WO_gt rfl ?_
   first | refine WO_ldA0 rfl rfl (.head _) ?_ | refine WO_ldAI rfl rfl (.head _) ?_
   refine WO_gt rfl ?_
   have hbt : bp = true := by assumption
   have hs := (pieces_is (P := P) (by rw [← hbp]; exact hbt)).2.2.2
   obtain ⟨bo, hbo⟩ : ∃ b, b = overOK P := ⟨_, rfl⟩
   have hO := RF_of (over_ok (ovA (fun _ => 0) 0 133 (ovA (fun _ => 0) 0 133 P)) hs)
   rw [overOK_same (cut_same P), ← hbo] at hO
   refine WO_call0 rfl (hO) rfl rfl rfl ?_
   refine WO_pick (v := .s (.bool _)) rfl rfl ?_
   refine WO_mv (v := .s (.bool _)) rfl ?_
   refine WO_case (t := 16) rfl (fun h53 => ?_) (fun h53 => ?_)
   ·try simp only [NM] at h53
    refine WO_gt rfl ?_
    refine WO_fa (o' := 131) rfl rfl rfl ?_
    refine WO_gt rfl ?_
    refine WO_ldI (x := P 131) rfl rfl (.tail _ (.head _)) (rfl) ?_
    refine WO_gt rfl ?_
    refine WO_bin (r := .bool _) rfl rfl rfl ?_
    refine WO_pick (v := .s (.bool _)) rfl rfl ?_
    refine WO_mv (v := .s (.bool _)) rfl ?_
    refine WO_case (t := 21) rfl (fun h54 => ?_) (fun h54 => ?_)
    ·try simp only [NM] at h54
     refine WO_gt rfl ?_
     refine WO_fa (o' := 131) rfl rfl rfl ?_
     refine WO_gt rfl ?_
     refine WO_ldI (x := P 131) rfl rfl (.tail _ (.head _)) (rfl) ?_
     refine WO_gt rfl ?_
     refine WO_bin (r := .bool _) rfl rfl rfl ?_
     refine WO_pick (v := .s (.bool _)) rfl rfl ?_
     refine WO_mv (v := .s (.bool _)) rfl ?_
     refine WO_case (t := 26) rfl (fun h55 => ?_) (fun h55 => ?_)
     ·try simp only [NM] at h55
      refine WO_gt rfl ?_
      refine WO_fa (o' := 132) rfl rfl rfl ?_
      refine WO_gt rfl ?_
      refine WO_ldI (x := P 132) rfl rfl (.tail _ (.head _)) (rfl) ?_
      refine WO_gt rfl ?_
      refine WO_bin (r := .bool _) rfl rfl rfl ?_
      refine WO_pick (v := .s (.bool _)) rfl rfl ?_
      refine WO_mv (v := .s (.bool _)) rfl ?_
      refine WO_case (t := 31) rfl (fun h56 => ?_) (fun h56 => ?_)
      ·try simp only [NM] at h56
       refine WO_gt rfl ?_
       refine WO_fa (o' := 132) rfl rfl rfl ?_
       refine WO_gt rfl ?_
       refine WO_ldI (x := P 132) rfl rfl (.tail _ (.head _)) (rfl) ?_
       refine WO_gt rfl ?_
       refine WO_bin (r := .bool _) rfl rfl rfl ?_
       refine WO_pick (v := .s (.bool _)) rfl rfl ?_
       refine WO_mv (v := .s (.bool _)) rfl ?_
       refine WO_nil ?_
       refine WP_ret ?_
       refine ⟨_, RS_tmp (v := .s (.bool _)) rfl (RS_nil), ?_⟩
       refine congrArg (fun b => V.s (S.bool b)) (right_is (b := bc) (c := bo) hbp (fun _ => hbc) (fun _ _ => hbo) ?_)
       clear hbp hbc hbo hP hC hO
       first | (simp [*]; done) | (subst_vars; simp only [Bool.true_and]; rw [Bool.eq_iff_iff]; simp only [decide_eq_true_eq, Bool.false_eq_true, false_iff, true_iff]; omega)
      ·try simp only [NM] at h56
       refine WO_gf rfl rfl ?_
       refine WO_gf rfl rfl ?_
       refine WO_gf rfl rfl ?_
       refine WO_pick (v := .s (.bool _)) rfl rfl ?_
       refine WO_mv (v := .s (.bool _)) rfl ?_
       refine WO_nil ?_
       refine WP_ret ?_
       refine ⟨_, RS_tmp (v := .s (.bool _)) rfl (RS_nil), ?_⟩
       refine congrArg (fun b => V.s (S.bool b)) (right_is (b := bc) (c := bo) hbp (fun _ => hbc) (fun _ _ => hbo) ?_)
       clear hbp hbc hbo hP hC hO
       first | (simp [*]; done) | (subst_vars; simp only [Bool.true_and]; rw [Bool.eq_iff_iff]; simp only [decide_eq_true_eq, Bool.false_eq_true, false_iff, true_iff]; omega)
     ·try simp only [NM] at h55
      refine WO_gf rfl rfl ?_
      refine WO_gf rfl rfl ?_
      refine WO_gf rfl rfl ?_
      refine WO_pick (v := .s (.bool _)) rfl rfl ?_
      refine WO_mv (v := .s (.bool _)) rfl ?_
      refine WO_gf rfl rfl ?_
      refine WO_gf rfl rfl ?_
      refine WO_gf rfl rfl ?_
      refine WO_pick (v := .s (.bool _)) rfl rfl ?_
      refine WO_mv (v := .s (.bool _)) rfl ?_
      refine WO_nil ?_
      refine WP_ret ?_
      refine ⟨_, RS_tmp (v := .s (.bool _)) rfl (RS_nil), ?_⟩
      refine congrArg (fun b => V.s (S.bool b)) (right_is (b := bc) (c := bo) hbp (fun _ => hbc) (fun _ _ => hbo) ?_)
      clear hbp hbc hbo hP hC hO
      first | (simp [*]; done) | (subst_vars; simp only [Bool.true_and]; rw [Bool.eq_iff_iff]; simp only [decide_eq_true_eq, Bool.false_eq_true, false_iff, true_iff]; omega)
    ·try simp only [NM] at h54
     refine WO_gf rfl rfl ?_
     refine WO_gf rfl rfl ?_
     refine WO_gf rfl rfl ?_
     refine WO_pick (v := .s (.bool _)) rfl rfl ?_
     refine WO_mv (v := .s (.bool _)) rfl ?_
     refine WO_gf rfl rfl ?_
     refine WO_gf rfl rfl ?_
     refine WO_gf rfl rfl ?_
     refine WO_pick (v := .s (.bool _)) rfl rfl ?_
     refine WO_mv (v := .s (.bool _)) rfl ?_
     refine WO_gf rfl rfl ?_
     refine WO_gf rfl rfl ?_
     refine WO_gf rfl rfl ?_
     refine WO_pick (v := .s (.bool _)) rfl rfl ?_
     refine WO_mv (v := .s (.bool _)) rfl ?_
     refine WO_nil ?_
     refine WP_ret ?_
     refine ⟨_, RS_tmp (v := .s (.bool _)) rfl (RS_nil), ?_⟩
     refine congrArg (fun b => V.s (S.bool b)) (right_is (b := bc) (c := bo) hbp (fun _ => hbc) (fun _ _ => hbo) ?_)
     clear hbp hbc hbo hP hC hO
     first | (simp [*]; done) | (subst_vars; simp only [Bool.true_and]; rw [Bool.eq_iff_iff]; simp only [decide_eq_true_eq, Bool.false_eq_true, false_iff, true_iff]; omega)
   ·try simp only [NM] at h53
    refine WO_gf rfl rfl ?_
    refine WO_gf rfl rfl ?_
    refine WO_gf rfl rfl ?_
    refine WO_pick (v := .s (.bool _)) rfl rfl ?_
    refine WO_mv (v := .s (.bool _)) rfl ?_
    refine WO_gf rfl rfl ?_
    refine WO_gf rfl rfl ?_
    refine WO_gf rfl rfl ?_
    refine WO_pick (v := .s (.bool _)) rfl rfl ?_
    refine WO_mv (v := .s (.bool _)) rfl ?_
    refine WO_gf rfl rfl ?_
    refine WO_gf rfl rfl ?_
    refine WO_gf rfl rfl ?_
    refine WO_pick (v := .s (.bool _)) rfl rfl ?_
    refine WO_mv (v := .s (.bool _)) rfl ?_
    refine WO_gf rfl rfl ?_
    refine WO_gf rfl rfl ?_
    refine WO_gf rfl rfl ?_
    refine WO_pick (v := .s (.bool _)) rfl rfl ?_
    refine WO_mv (v := .s (.bool _)) rfl ?_
    refine WO_nil ?_
    refine WP_ret ?_
    refine ⟨_, RS_tmp (v := .s (.bool _)) rfl (RS_nil), ?_⟩
    refine congrArg (fun b => V.s (S.bool b)) (right_is (b := bc) (c := bo) hbp (fun _ => hbc) (fun _ _ => hbo) ?_)
    clear hbp hbc hbo hP hC hO
    first | (simp [*]; done) | (subst_vars; simp only [Bool.true_and]; rw [Bool.eq_iff_iff]; simp only [decide_eq_true_eq, Bool.false_eq_true, false_iff, true_iff]; omega)
  ·try simp only [NM] at h52
   refine WO_gf rfl rfl ?_
   refine WO_gf rfl rfl ?_
   refine WO_pick (v := .s (.bool _)) rfl rfl ?_
   refine WO_mv (v := .s (.bool _)) rfl ?_
   refine WO_gf rfl rfl ?_
   refine WO_gf rfl rfl ?_
   refine WO_gf rfl rfl ?_
   refine WO_pick (v := .s (.bool _)) rfl rfl ?_
   refine WO_mv (v := .s (.bool _)) rfl ?_
   refine WO_gf rfl rfl ?_
   refine WO_gf rfl rfl ?_
   refine WO_gf rfl rfl ?_
   refine WO_pick (v := .s (.bool _)) rfl rfl ?_
   refine WO_mv (v := .s (.bool _)) rfl ?_
   refine WO_gf rfl rfl ?_
   refine WO_gf rfl rfl ?_
   refine WO_gf rfl rfl ?_
   refine WO_pick (v := .s (.bool _)) rfl rfl ?_
   refine WO_mv (v := .s (.bool _)) rfl ?_
   refine WO_gf rfl rfl ?_
   refine WO_gf rfl rfl ?_
   refine WO_gf rfl rfl ?_
   refine WO_pick (v := .s (.bool _)) rfl rfl ?_
   refine WO_mv (v := .s (.bool _)) rfl ?_
   refine WO_nil ?_
   refine WP_ret ?_
   refine ⟨_, RS_tmp (v := .s (.bool _)) rfl (RS_nil), ?_⟩
   exact congrArg (fun b => V.s (S.bool b)) (right_is (b := bc) (c := overOK P) hbp (fun _ => hbc) (fun _ _ => rfl) (by clear hbp hbc hP hC; simp [*]))
 ·try simp only [NM] at h51
  refine WO_gf rfl rfl ?_
  refine WO_gf rfl rfl ?_
  refine WO_pick (v := .s (.bool _)) rfl rfl ?_
  refine WO_mv (v := .s (.bool _)) rfl ?_
  refine WO_gf rfl rfl ?_
  refine WO_gf rfl rfl ?_
  refine WO_pick (v := .s (.bool _)) rfl rfl ?_
  refine WO_mv (v := .s (.bool _)) rfl ?_
  refine WO_gf rfl rfl ?_
  refine WO_gf rfl rfl ?_
  refine WO_gf rfl rfl ?_
  refine WO_pick (v := .s (.bool _)) rfl rfl ?_
  refine WO_mv (v := .s (.bool _)) rfl ?_
  refine WO_gf rfl rfl ?_
  refine WO_gf rfl rfl ?_
  refine WO_gf rfl rfl ?_
  refine WO_pick (v := .s (.bool _)) rfl rfl ?_
  refine WO_mv (v := .s (.bool _)) rfl ?_
  refine WO_gf rfl rfl ?_
  refine WO_gf rfl rfl ?_
  refine WO_gf rfl rfl ?_
  refine WO_pick (v := .s (.bool _)) rfl rfl ?_
  refine WO_mv (v := .s (.bool _)) rfl ?_
  refine WO_gf rfl rfl ?_
  refine WO_gf rfl rfl ?_
  refine WO_gf rfl rfl ?_
  refine WO_pick (v := .s (.bool _)) rfl rfl ?_
  refine WO_mv (v := .s (.bool _)) rfl ?_
  refine WO_nil ?_
  refine WP_ret ?_
  refine ⟨_, RS_tmp (v := .s (.bool _)) rfl (RS_nil), ?_⟩
  exact congrArg (fun b => V.s (S.bool b)) (right_is (b := castlesM P) (c := overOK P) hbp (fun _ => rfl) (fun _ _ => rfl) (by clear hbp hP; simp [*]))
end Go.Proofs.Ytjldefmcnppdoaa
/- PlayTurns: the walk. -/
namespace Go.Proofs.Ytjldefmcnppdoaa
open Go Go.Am
set_option linter.unusedSimpArgs false
set_option linter.unusedVariables false
theorem grow_at {G R : Nat → Int} {c : Nat} {j : Nat} (h : j < c + 1) : (bif Nat.blt j (c * 1) then G (0 + j) else R (0 + (j - c * 1))) = if j < c then G j else R 0 := by
  by_cases k : j < c
  · rw [show Nat.blt j (c * 1) = true from Nat.ble_eq_true_of_le (by omega), if_pos k, Nat.zero_add]; rfl
  · have : Nat.blt j (c * 1) = false := by
      cases hb : Nat.blt j (c * 1) with
      | false => rfl
      | true => have := Nat.le_of_ble_eq_true hb; omega
    rw [this, if_neg k, show 0 + (j - c * 1) = 0 by omega]; rfl
theorem Takes_ok {P m : Nat → Int} (he : errM P (m 0) (m 1) (m 2) = 0) : RF AM 66 [.agg 133 (ia P), .agg 3 (ia m)] (.s (.int .i64 (takesM P (P (sqI (m 0))) (m 0) (m 1)))) := by
  have h := RF_of (Takes_walk P m)
  rw [if_pos he] at h
  exact h
end Go.Proofs.Ytjldefmcnppdoaa
/- PlayFew: what is other behind a move. -/
namespace Go.Proofs.Ytjldefmcnppdoaa
open Go Go.Am
set_option linter.unusedSimpArgs false
set_option linter.unusedVariables false
/-- How many of the first n. -/
def cntB (f : Nat → Bool) : Nat → Int
  | 0 => 0
  | n + 1 => cntB f n + (if f n = true then 1 else 0)
theorem cntB_bd (f : Nat → Bool) : ∀ n, 0 ≤ cntB f n ∧ cntB f n ≤ n
  | 0 => by simp [cntB]
  | n + 1 => by
    have := cntB_bd f n
    unfold cntB
    split <;> omega
theorem cntB_t {f : Nat → Bool} {n : Nat} (h : f n = true) : cntB f (n + 1) = cntB f n + 1 := by rw [cntB, if_pos h]
theorem cntB_f {f : Nat → Bool} {n : Nat} (h : f n = false) : cntB f (n + 1) = cntB f n := by rw [cntB, if_neg (by rw [h]; decide)]; omega
theorem cntB_put {f g : Nat → Bool} {s : Nat} (h : ∀ i, i ≠ s → f i = g i) : ∀ n, cntB g n = cntB f n + (if s < n then (if g s = true then 1 else 0) - (if f s = true then 1 else 0) else 0)
  | 0 => by simp [cntB]
  | n + 1 => by
    have ih := cntB_put h n
    unfold cntB
    rw [ih]
    by_cases e : n = s
    · subst e
      rw [if_neg (Nat.lt_irrefl n), if_pos (Nat.lt_succ_self n)]; omega
    · rw [h n e]
      by_cases l : s < n
      · rw [if_pos l, if_pos (show s < n + 1 by omega)]; omega
      · rw [if_neg l, if_neg (show ¬ s < n + 1 by omega)]; omega
theorem cntB_zero {f : Nat → Bool} (h : ∀ i, f i = false) : ∀ n, cntB f n = 0
  | 0 => rfl
  | n + 1 => by rw [cntB_f (h n), cntB_zero h n]
theorem cntB_pos {f : Nat → Bool} {s : Nat} (h : f s = true) : ∀ n, s < n → 1 ≤ cntB f n
  | 0, hn => by omega
  | n + 1, hn => by
    have := (cntB_bd f n).1
    by_cases e : n = s
    · subst e; rw [cntB_t h]; omega
    · have := cntB_pos h n (by omega)
      unfold cntB
      split <;> omega
/-- Is a piece there? Is a square other? -/
def hasB (X : Nat → Int) (s : Nat) : Bool := decide (X (sqI s) ≠ 0)
def difB (P X : Nat → Int) (s : Nat) : Bool := !(eqI 2 (dp P (sqI s)) (dp X (sqI s)))
theorem sqI_nat (s : Nat) : sqI (s : Int) = s * 2 := by show 0 + (s : Int).toNat * 2 = s * 2; omega
theorem put_at {B X : Nat → Int} {x : Nat} {j : Nat} (hj : j < 2) : ovA B (sqI x) 2 X (sqI x + j) = X j := by
  rw [ovA_at (by omega)]; congr 1; omega
theorem put_out {B X : Nat → Int} {x s : Nat} (h : s ≠ x) {j : Nat} (hj : j < 2) : ovA B (sqI x) 2 X (sqI s + j) = B (sqI s + j) := by
  have h1 := sqI_nat x
  have h2 := sqI_nat s
  rw [ovA_out (by omega)]
theorem has_put {B X : Nat → Int} {x : Nat} (hx : x < 64) : cntB (hasB (ovA B (sqI x) 2 X)) 64 = cntB (hasB B) 64 + ((if X 0 ≠ 0 then 1 else 0) - (if hasB B x = true then 1 else 0)) := by
  have e : hasB (ovA B (sqI x) 2 X) x = decide (X 0 ≠ 0) := by
    have := put_at (B := B) (X := X) (x := x) (j := 0) (by omega)
    unfold hasB
    rw [Nat.add_zero] at this
    rw [this]
  rw [cntB_put (f := hasB B) (s := x) (fun i hi => by
    have := put_out (B := B) (X := X) (x := x) (s := i) hi (j := 0) (by omega)
    unfold hasB
    rw [Nat.add_zero] at this
    rw [this]) 64, if_pos hx, e]
  by_cases h : X 0 ≠ 0
  · rw [if_pos h, if_pos (decide_eq_true h)]
  · rw [if_neg h, if_neg (by rw [decide_eq_false h]; decide)]
theorem dif_put {P B X : Nat → Int} {x : Nat} (hx : x < 64) : cntB (difB P (ovA B (sqI x) 2 X)) 64 = cntB (difB P B) 64 + ((if difB P (ovA B (sqI x) 2 X) x = true then 1 else 0) - (if difB P B x = true then 1 else 0)) := by
  rw [cntB_put (f := difB P B) (s := x) (fun i hi => by
    unfold difB
    have e : eqI 2 (dp P (sqI i)) (dp B (sqI i)) = eqI 2 (dp P (sqI i)) (dp (ovA B (sqI x) 2 X) (sqI i)) := by
      rw [Bool.eq_iff_iff, eqI_iff, eqI_iff]
      constructor
      · intro h j hj
        have := put_out (B := B) (X := X) (x := x) (s := i) hi hj
        have h2 := h j hj
        show P (sqI i + j) = ovA B (sqI x) 2 X (sqI i + j)
        rw [this]; exact h2
      · intro h j hj
        have := put_out (B := B) (X := X) (x := x) (s := i) hi hj
        have h2 : P (sqI i + j) = ovA B (sqI x) 2 X (sqI i + j) := h j hj
        rw [this] at h2; exact h2
    rw [e]) 64, if_pos hx]
theorem dif_iff {P X : Nat → Int} {s : Nat} : difB P X s = true ↔ ¬ (P (sqI s) = X (sqI s) ∧ P (sqI s + 1) = X (sqI s + 1)) := by
  unfold difB
  rw [Bool.not_eq_true', ← Bool.not_eq_true, eqI_iff]
  constructor
  · intro h ⟨h0, h1⟩
    exact h fun j hj => by
      have : j = 0 ∨ j = 1 := by omega
      rcases this with rfl | rfl
      · exact h0
      · exact h1
  · intro h k
    exact h ⟨k 0 (by omega), k 1 (by omega)⟩
theorem has_self {P B : Nat → Int} {x s : Nat} {X : Nat → Int} (h : s ≠ x) : hasB (ovA B (sqI x) 2 X) s = hasB B s := by
  have := put_out (B := B) (X := X) (x := x) (s := s) h (j := 0) (by omega)
  unfold hasB
  rw [Nat.add_zero] at this
  rw [this]
theorem has_iff {B : Nat → Int} {s : Nat} : hasB B s = true ↔ B (sqI s) ≠ 0 := by unfold hasB; simp
theorem cntB_same {f g : Nat → Bool} : ∀ {n : Nat}, (∀ i, i < n → f i = g i) → cntB f n = cntB g n
  | 0, _ => rfl
  | n + 1, h => by rw [cntB, cntB, cntB_same (n := n) (fun i hi => h i (by omega)), h n (by omega)]

/-- A move of numbers, from one of the mover's pieces. -/
def OwnM (P : Nat → Int) (s : Int) : Prop := (0 ≤ s ∧ s < 64) ∧ P (sqI s) ≠ 0 ∧ P (sqI s + 1) = P 128
def MadeM (P M : Nat → Int) : Prop := (M 0 = 0 ∧ M 1 = 0) ∨ (OwnM P (M 0) ∧ (0 ≤ M 1 ∧ M 1 < 64) ∧ (if P (sqI (M 0)) = 1 ∧ (56 ≤ M 1 ∨ M 1 < 8) then 2 ≤ M 2 ∧ M 2 ≤ 5 else M 2 = 0))
theorem made_yes {c : Prop} [Decidable c] {x : Int} (hc : c) (h : 2 ≤ x ∧ x ≤ 5) : if c then 2 ≤ x ∧ x ≤ 5 else x = 0 := by rw [if_pos hc]; exact h
theorem made_no {c : Prop} [Decidable c] {x : Int} (hc : ¬ c) (h : x = 0) : if c then 2 ≤ x ∧ x ≤ 5 else x = 0 := by rw [if_neg hc]; exact h
theorem MadeM.bd {P M : Nat → Int} (h : MadeM P M) : (0 ≤ M 0 ∧ M 0 < 64) ∧ (0 ≤ M 1 ∧ M 1 < 64) := by
  rcases h with ⟨h0, h1⟩ | ⟨h0, h1, _⟩
  · omega
  · exact ⟨h0.1, h1⟩
theorem okM_kind {P : Nat → Int} {s : Nat} (h : okM P s) (hk : P (sqI s) ≠ 0) : (1 ≤ P (sqI s) ∧ P (sqI s) ≤ 6) ∧ (P (sqI s + 1) = 0 ∨ P (sqI s + 1) = 1) := by
  rcases h with ⟨h0, _⟩ | ⟨h1, _⟩
  · exact absurd h0 hk
  · exact ⟨⟨h1.1, h1.2.1⟩, h1.2.2⟩
/-- Why a made move can't be made. -/
theorem made_err {P M : Nat → Int} (hR : rightM P = true) (hM : MadeM P M) (he : errM P (M 0) (M 1) (M 2) ≠ 0) : (errM P (M 0) (M 1) (M 2) = 6 ∧ M 0 = M 1) ∨ (errM P (M 0) (M 1) (M 2) = 8 ∧ P (sqI (M 0)) = 1) := by
  have ⟨ha, ht⟩ := hM.bd
  by_cases e : M 0 = M 1
  · exact .inl ⟨errM_out (by omega), e⟩
  · rcases hM with ⟨h0, h1⟩ | ⟨⟨_, hk, hs⟩, _, hb⟩
    · omega
    · by_cases hc : canM P (M 0) (M 1) (M 2) = true
      · exact absurd (errM_ok ⟨ha, ht, e⟩ hc) he
      · have hcf : canM P (M 0) (M 1) (M 2) = false := by simpa using hc
        refine .inr ⟨errM_not ⟨ha, ht, e⟩ hcf, ?_⟩
        unfold rightM at hR
        simp only [Bool.and_eq_true] at hR
        have hok := (pieces_is hR.1.1.1).1 (M 0).toNat (by omega)
        have hn : ((M 0).toNat : Int) = M 0 := by omega
        rw [show okM P (M 0).toNat = okM P (M 0).toNat from rfl] at hok
        have hkk := okM_kind hok (by rw [hn]; exact hk)
        rw [hn] at hkk
        by_cases h1 : P (sqI (M 0)) = 1
        · exact h1
        · exfalso
          rw [if_neg (by omega)] at hb
          refine hc (decide_eq_true ⟨hkk.1.1, hkk.1.2, hs, hkk.2, ?_⟩)
          rw [if_neg (by omega)]; exact hb
theorem andNot_none : ∀ C : Fin 16, ∀ x ∈ [0, 1, 2, 3, 4, 8, 12], ∀ y ∈ [0, 1, 2, 3, 4, 8, 12], andNotM (andNotM (C.val : Int) (orM (orM 0 x) y)) (C.val : Int) = 0 := by decide +kernel
/-- The position behind a move, as it is laid. -/
abbrev QM (P M : Nat → Int) : Nat → Int := ovA (fun _ => 0) 0 133 (moveM P (M 0) (M 1) (M 2))
structure Few (P : Nat → Int) (a t b : Int) (Q : Nat → Int) : Prop where
  d1 : 1 ≤ cntB (difB P Q) 64
  d3 : cntB (difB P Q) 64 ≤ 3
  dp3 : cntB (difB P Q) 64 = 3 → P (sqI a) = 1
  left : cntB (hasB Q) 64 = cntB (hasB P) 64 - (if 0 ≤ takesM P (P (sqI a)) a t then 1 else 0)
  gone : ∀ i, i < 2 → Q (sqI a + i) = 0
  side : Q (sqI t + 1) = P (sqI a + 1)
  kind : Q (sqI t) ≠ P (sqI a) ↔ b ≠ 0
  castle : andNotM (Q 129) (P 129) = 0
  full1 : P 128 = 1 → P 132 < 16384 → Q 132 = P 132 + 1
  full0 : ¬ (P 128 = 1 ∧ P 132 < 16384) → Q 132 = P 132
  half : Q 131 = 0 ↔ (0 ≤ takesM P (P (sqI a)) a t ∨ P (sqI a) = 1)
  over : Q 130 = -1 ∨ P (sqI a) = 1

theorem few_kind {k b : Int} (hkind : 1 ≤ k ∧ k ≤ 6) (hb : b = 0 ∨ (k = 1 ∧ 2 ≤ b ∧ b ≤ 5)) : (if b = 0 then k else b) ≠ k ↔ b ≠ 0 := by
  split <;> omega
theorem few_at {P : Nat → Int} {a t b : Int} (hR : rightM P = true) (ha : 0 ≤ a ∧ a < 64) (ht : 0 ≤ t ∧ t < 64) (he : errM P a t b = 0) (hk : ¬ (P (sqI a) = 6 ∧ (t - a = 2 ∨ a - t = 2))) : Few P a t b (ovA (fun _ => 0) 0 133 (moveM P a t b)) := by
  obtain ⟨a, rfl⟩ : ∃ n : Nat, a = n := ⟨a.toNat, by omega⟩
  obtain ⟨t, rfl⟩ : ∃ n : Nat, t = n := ⟨t.toNat, by omega⟩
  have ⟨hne, hcan⟩ := errM_zero he
  have hkind := canM_kind hcan
  have hside := canM_side hcan
  have hRR := hR
  unfold rightM at hRR
  simp only [Bool.and_eq_true, decide_eq_true_eq] at hRR
  obtain ⟨⟨⟨hp, hcs⟩, _⟩, hnum⟩ := hRR
  have hok := (pieces_is hp).1
  have hC := castM_bd P
  have e0 : ovA (fun _ => 0) 0 133 (moveM P a t b) = moveM P a t b := ovA_id fun i hi => moveM_out hi
  rw [e0]
  have hP : moveM P a t b = afterM P (P (sqI a)) (P (sqI a + 1)) a t b (castM P) := by unfold moveM; rw [if_pos he]
  rw [hP]
  have hg : castlingM (P (sqI a)) a t (P (sqI a + 1)) (castM P) = 0 := by
    unfold castlingM
    rw [if_neg (by omega), if_neg (by omega)]
  have hb : b = 0 ∨ (P (sqI a) = 1 ∧ 2 ≤ b ∧ b ≤ 5) := by
    have := (of_decide_eq_true hcan).2.2.2.2
    split at this
    · rename_i q; exact .inr ⟨q.1, this⟩
    · exact .inl this
  generalize hkd : P (sqI (a : Int)) = k at *
  generalize hsd : P (sqI (a : Int) + 1) = c at *
  have lo : ∀ i, i < 128 → afterM P k c a t b (castM P) i = brd3 P (takesM P k a t) a t k c b i := by
    intro i hi
    unfold afterM
    rw [if_pos hi, hg, brd4, if_neg (by decide), if_neg (by decide)]
  generalize hw : takesM P k a t = w at *
  have hax : (a : Nat) < 64 := by omega
  have htx : (t : Nat) < 64 := by omega
  have hat : t ≠ a := by omega
  have hwc : (w = -1 ∧ hasB P t = false) ∨ (∃ x : Nat, w = x ∧ x < 64 ∧ x ≠ a ∧ hasB P x = true ∧ (x = t ∨ (k = 1 ∧ hasB P t = false))) := by
    have hem : ∀ x : Nat, emptyM P x = true → hasB P x = false := fun x hx => by
      have := (emptyM_iff.1 hx).1
      unfold hasB
      rw [this]; rfl
    have hatb := atT_bd (P := P) (k := k) ha ht
    unfold takesM at hw
    by_cases q : k = 1 ∧ (t : Int) % 8 ≠ (a : Int) % 8 ∧ (t : Int) = P 130 ∧ emptyM P t = true
    · have ew : atT P k a t = (a : Int) / 8 * 8 + (t : Int) % 8 := by unfold atT; rw [if_pos q]
      rw [ew] at hw
      by_cases em : emptyM P ((a : Int) / 8 * 8 + (t : Int) % 8) = true
      · rw [if_pos em] at hw
        exact .inl ⟨hw.symm, hem t q.2.2.2⟩
      · rw [if_neg em] at hw
        obtain ⟨x, hx⟩ : ∃ x : Nat, (a : Int) / 8 * 8 + (t : Int) % 8 = x := ⟨((a : Int) / 8 * 8 + (t : Int) % 8).toNat, by omega⟩
        refine .inr ⟨x, by omega, by omega, by omega, ?_, .inr ⟨q.1, hem t q.2.2.2⟩⟩
        rw [hx] at em
        rw [has_iff]
        intro h0
        refine em (emptyM_iff.2 ⟨h0, ?_⟩)
        rcases hok x (by omega) with ⟨_, h⟩ | ⟨h, _⟩
        · exact h
        · omega
    · have ew : atT P k a t = (t : Int) := by unfold atT; rw [if_neg q]
      rw [ew] at hw
      by_cases em : emptyM P (t : Int) = true
      · rw [if_pos em] at hw
        exact .inl ⟨hw.symm, hem t em⟩
      · rw [if_neg em] at hw
        refine .inr ⟨t, by omega, htx, hat, ?_, .inl rfl⟩
        rw [has_iff]
        intro h0
        refine em (emptyM_iff.2 ⟨h0, ?_⟩)
        rcases hok t htx with ⟨_, h⟩ | ⟨h, _⟩
        · exact h
        · omega
  have hB2 : ∀ s : Nat, s < 64 → ∀ j, j < 2 → afterM P k c a t b (castM P) (sqI s + j) = brd3 P w a t k c b (sqI s + j) := fun s hs j hj => lo _ (by have := sqI_nat s; omega)
  have hasE : cntB (hasB (afterM P k c a t b (castM P))) 64 = cntB (hasB (brd3 P w a t k c b)) 64 := cntB_same fun i hi => by
    unfold hasB
    have := hB2 i hi 0 (by omega)
    rw [Nat.add_zero] at this
    rw [this]
  have difE : cntB (difB P (afterM P k c a t b (castM P))) 64 = cntB (difB P (brd3 P w a t k c b)) 64 := cntB_same fun i hi => by
    rw [Bool.eq_iff_iff, dif_iff, dif_iff, hB2 i hi 1 (by omega)]
    have := hB2 i hi 0 (by omega)
    rw [Nat.add_zero] at this
    rw [this]
  have hx0 : pc (if b = 0 then k else b) c 0 ≠ 0 := by
    show (if b = 0 then k else b) ≠ 0
    split <;> omega
  have hasA : hasB P a = true := has_iff.2 (by omega)
  have self0 : cntB (difB P P) 64 = 0 := cntB_zero (fun i => by
    cases h : difB P P i with
    | false => rfl
    | true => exact absurd ⟨rfl, rfl⟩ (dif_iff.1 h)) 64
  have bnd : ∀ b : Bool, 0 ≤ (if b = true then (1 : Int) else 0) ∧ (if b = true then (1 : Int) else 0) ≤ 1 := fun b => by cases b <;> decide
  have cnt1 : (cntB (difB P (brd1 P w)) 64 ≤ 1 ∧ (w = -1 → cntB (difB P (brd1 P w)) 64 = 0)) ∧ cntB (hasB (brd1 P w)) 64 = cntB (hasB P) 64 - (if 0 ≤ w then 1 else 0) ∧ hasB (brd1 P w) a = true ∧ hasB (brd1 P w) t = false := by
    unfold brd1
    rcases hwc with ⟨rfl, h⟩ | ⟨x, rfl, hx, hxa, hxp, hxt⟩
    · rw [if_neg (by decide), if_neg (by decide)]
      exact ⟨⟨by omega, fun _ => self0⟩, by omega, hasA, h⟩
    · rw [if_pos (by omega), if_pos (by omega)]
      refine ⟨⟨?_, fun h => by omega⟩, ?_, ?_, ?_⟩
      · rw [dif_put hx, self0]
        have h1 := bnd (difB P (ovA P (sqI (x : Int)) 2 nopc) x)
        have h2 := bnd (difB P P x)
        omega
      · rw [has_put hx, if_neg (show ¬ (nopc 0 ≠ 0) from fun h => h rfl), if_pos hxp]; omega
      · rw [has_self (P := P) (Ne.symm hxa)]; exact hasA
      · rcases hxt with rfl | ⟨_, h⟩
        · have := put_at (B := P) (X := nopc) (x := x) (j := 0) (by omega)
          unfold hasB
          rw [Nat.add_zero] at this
          rw [this]; rfl
        · by_cases e : t = x
          · subst e
            rw [h] at hxp; cases hxp
          · rw [has_self (P := P) e]; exact h
  have h3 := has_put (B := brd2 P w a) (X := pc (if b = 0 then k else b) c) htx
  have h2 := has_put (B := brd1 P w) (X := nopc) hax
  have d3 := dif_put (P := P) (B := brd2 P w a) (X := pc (if b = 0 then k else b) c) htx
  have d2 := dif_put (P := P) (B := brd1 P w) (X := nopc) hax
  have b2 : brd2 P w a = ovA (brd1 P w) (sqI (a : Int)) 2 nopc := rfl
  have b3 : brd3 P w a t k c b = ovA (brd2 P w a) (sqI (t : Int)) 2 (pc (if b = 0 then k else b) c) := rfl
  rw [← b2] at h2 d2
  rw [← b3] at h3 d3
  rw [if_pos hx0, show hasB (brd2 P w a) t = false by rw [b2, has_self (P := P) hat]; exact cnt1.2.2.2, if_neg (by decide)] at h3
  rw [if_neg (show ¬ (nopc 0 ≠ 0) from fun h => h rfl), if_pos cnt1.2.2.1] at h2
  have q0 : brd3 P w a t k c b (sqI (a : Int)) = 0 := by
    have h := put_out (B := brd2 P w a) (X := pc (if b = 0 then k else b) c) (x := t) (s := a) (Ne.symm hat) (j := 0) (by omega)
    have h' := put_at (B := brd1 P w) (X := nopc) (x := a) (j := 0) (by omega)
    rw [Nat.add_zero] at h h'
    rw [b3, h, b2, h']; rfl
  have q1 : brd3 P w a t k c b (sqI (a : Int) + 1) = 0 := by
    rw [b3, put_out (Ne.symm hat) (by omega), b2, put_at (by omega)]; rfl
  have t0 : brd3 P w a t k c b (sqI (t : Int)) = (if b = 0 then k else b) := by
    have h := put_at (B := brd2 P w a) (X := pc (if b = 0 then k else b) c) (x := t) (j := 0) (by omega)
    rw [Nat.add_zero] at h
    rw [b3, h]; rfl
  have t1 : brd3 P w a t k c b (sqI (t : Int) + 1) = c := by rw [b3, put_at (by omega)]; rfl
  have f1 := bnd (difB P (brd3 P w a t k c b) t)
  have f2 := bnd (difB P (brd2 P w a) t)
  have f3 := bnd (difB P (brd2 P w a) a)
  have f4 := bnd (difB P (brd1 P w) a)
  have A0 := hB2 a hax 0 (by omega)
  have A1 := hB2 a hax 1 (by omega)
  have T0 := hB2 t htx 0 (by omega)
  have T1 := hB2 t htx 1 (by omega)
  rw [Nat.add_zero] at A0 T0
  have hca : afterM P k c a t b (castM P) 129 = andNotM (castM P) (orM (orM 0 (lostM a)) (lostM t)) := rfl
  have hcm : castM P = P 129 := by
    have := (of_decide_eq_true hcs).1
    unfold castM; rw [if_neg (by omega)]
  refine ⟨?_, ?_, ?_, ?_, ?_, ?_, ?_, ?_, ?_, ?_, ?_, ?_⟩ <;> (try rw [hkd]) <;> (try rw [hsd]) <;> (try rw [hw])
  · rw [difE]
    refine cntB_pos (s := a) (dif_iff.2 fun h => ?_) 64 hax
    rw [q0, hkd] at h
    omega
  · rw [difE]; omega
  · intro h
    rw [difE] at h
    rcases hwc with ⟨hw1, _⟩ | ⟨x, rfl, hx, hxa, hxp, hxt⟩
    · have := cnt1.1.2 hw1; omega
    · rcases hxt with rfl | ⟨hk1, _⟩
      · exfalso
        have hd : difB P (brd2 P (x : Int) a) x = true := by
          rw [dif_iff]
          intro h0
          have e0 := put_out (B := brd1 P (x : Int)) (X := nopc) (x := a) (s := x) hat (j := 0) (by omega)
          have e1 := put_at (B := P) (X := nopc) (x := x) (j := 0) (by omega)
          rw [Nat.add_zero] at e0 e1
          have e2 : brd1 P (x : Int) = ovA P (sqI (x : Int)) 2 nopc := by unfold brd1; rw [if_pos (by omega)]
          rw [← b2, e2, e1] at e0
          rw [e0] at h0
          rw [has_iff] at hxp
          exact hxp h0.1
        rw [hd, if_pos rfl] at d3
        omega
      · exact hk1
  · rw [hasE]; omega
  · intro i hi
    have : i = 0 ∨ i = 1 := by omega
    rcases this with rfl | rfl
    · rw [Nat.add_zero, A0, q0]
    · rw [A1, q1]
  · rw [T1, t1]
  · rw [T0, t0]
    exact few_kind hkind hb
  · rw [hca, hcm]
    obtain ⟨n, hn⟩ : ∃ n : Nat, P 129 = n := ⟨(P 129).toNat, by omega⟩
    rw [hn]
    exact andNot_none ⟨n, by omega⟩ _ (lost_in a) _ (lost_in t)
  · intro e1 e2
    show fullM P = _
    unfold fullM
    rw [if_pos e1, show min (P 132) 16383 = P 132 by omega]
    exact IntWalk.i64_in _ (by omega)
  · intro e
    show fullM P = _
    unfold fullM
    by_cases e1 : P 128 = 1
    · rw [if_pos e1, show min (P 132) 16383 = 16383 by omega]
      have : P 132 = 16384 := by omega
      rw [this]; rfl
    · rw [if_neg e1]
  · show halfM P k (takesM P k a t) = 0 ↔ _
    rw [hw]
    unfold halfM
    by_cases e : k = 1 ∨ 0 ≤ w
    · rw [if_pos e]; exact ⟨fun _ => e.symm, fun _ => rfl⟩
    · rw [if_neg e, IntWalk.i64_in _ (by omega)]
      constructor
      · intro h; omega
      · intro h; exact absurd h.symm e
  · show overM k a t c = -1 ∨ _
    unfold overM
    by_cases e : longM k a t c = true
    · exact .inr (of_decide_eq_true e).1
    · rw [if_neg e]; exact .inl rfl
theorem few_of {P M : Nat → Int} (hR : rightM P = true) (hM : MadeM P M) (he : errM P (M 0) (M 1) (M 2) = 0) (hk : ¬ (P (sqI (M 0)) = 6 ∧ (M 1 - M 0 = 2 ∨ M 0 - M 1 = 2))) : Few P (M 0) (M 1) (M 2) (QM P M) := few_at hR hM.bd.1 hM.bd.2 he hk

theorem own_at {P : Nat → Int} {i : Nat} (hi : (i : Int) < 64) (h1 : P (sqI i) ≠ 0) (h2 : P (sqI i + 1) = P 128) : OwnM P (i : Int) := ⟨⟨by omega, hi⟩, h1, h2⟩
theorem grow_ok {C : Int → Prop} {G R : Nat → Int} {c : Nat} (h : ∀ j : Nat, j < c → C (G j)) (hr : C (R 0)) : ∀ j : Nat, j < c + 1 → C (bif Nat.blt j (c * 1) then G (0 + j) else R (0 + (j - c * 1))) := by
  intro j hj
  rw [grow_at hj]
  split
  · exact h j (by assumption)
  · exact hr

theorem lmade2_run (P : Nat → Int) (x y z : Int) : WR AM 79 [.agg 133 (ia P), .s (.int .i64 x), .s (.int .i64 y), .s (.int .i64 z)] [] (fun v _ _ => ∃ M, v = .agg 3 (ia M) ∧ MadeM P M) := by
 refine WR_fn (a := a79) rfl rfl (entryF _) (entry_E (Nat.le_of_ble_eq_true rfl)) (m := 0) rfl ?_
 refine WP_seq ?_
 refine WP_ops ?_
 refine WO_boxA rfl ?_
 refine WO_allocI ?_
 refine WO_nil ?_
 refine WP_seq ?_
 refine WP_ops ?_
 refine WO_mv rfl ?_
 refine WO_nil ?_
 refine WP_seq ?_
 refine WP_seq ?_
 refine WP_ops ?_
 refine WO_mv rfl ?_
 refine WO_nil ?_
 refine WP_block ?_
 refine WP_sub (L' := [_, _]) (.cons_cons _ (.cons_cons _ .slnil)) ?_
 refine WP_loop (fun m f nn L => ∃ (i : Nat), (i ≤ 64) ∧ (m = 64 - i) ∧ (f 1 = .s (.int .i64 x)) ∧ (f 2 = .s (.int .i64 y)) ∧ (f 3 = .s (.int .i64 z)) ∧ (f 4 = .ptr 0 0 133) ∧ (f 8 = .ptr 1 0 3) ∧ (f 10 = .s (.int .i64 i)) ∧ (((f 9 = .snil) ∧ (L = [(1, .sc .var 3 (ia fun _ => 0)), (0, .sc .var 133 (ia P))])) ∨ (∃ (b cnt q : Nat) (F : Nat → Int), (0 < cnt ∧ cnt ≤ i) ∧ (∀ j : Nat, j < cnt → OwnM P (F j)) ∧ (f 9 = .sl b 0 cnt 1 .whole) ∧ (L = (b, Blk.sc .grow q (ia F)) :: [(1, .sc .var 3 (ia fun _ => 0)), (0, .sc .var 133 (ia P))])))) (fun m f nb L hI => ?_) (64) ⟨0, by omega, rfl, rfl, rfl, rfl, rfl, rfl, rfl, .inl ⟨rfl, rfl⟩⟩
 obtain ⟨i, hi, hm, k1, k2, k3, k4, k8, k10, hI2⟩ := hI
 rcases hI2 with ⟨kS, rfl⟩ | ⟨b, cnt, q, F, hc, hF, kS, rfl⟩
 ·skip
  refine WP_know (d := 1) (v := .s (.int .i64 x)) k1 ?_
  refine WP_know (d := 2) (v := .s (.int .i64 y)) k2 ?_
  refine WP_know (d := 3) (v := .s (.int .i64 z)) k3 ?_
  refine WP_know (d := 4) (v := .ptr 0 0 133) k4 ?_
  refine WP_know (d := 8) (v := .ptr 1 0 3) k8 ?_
  refine WP_know (d := 10) (v := .s (.int .i64 i)) k10 ?_
  refine WP_know (d := 9) (v := .snil) kS ?_
  refine WP_seq ?_
  refine WP_seq ?_
  refine WP_ops ?_
  refine WO_mv (v := .s (.int _ _)) rfl ?_
  refine WO_bin (r := .bool _) rfl rfl rfl ?_
  refine WO_nil ?_
  refine WP_cond rfl (fun h1 => ?_) (fun h1 => ?_)
  ·try simp only [NM] at h1
   refine WP_skip ?_
   refine WP_seq ?_
   refine WP_block ?_
   refine WP_seq ?_
   refine WP_ops ?_
   refine WO_mv (v := .s (.int _ _)) rfl ?_
   refine WO_fa (o' := 0) rfl rfl rfl ?_
   refine WO_ixa rfl rfl rfl (by omega) ?_
   refine WO_fa rfl rfl rfl ?_
   refine WO_ldI (x := P (sqI i)) rfl rfl (.tail _ (.head _)) (rfl) ?_
   refine WO_bin (r := .bool _) rfl rfl rfl ?_
   refine WO_mv (v := .s (.bool _)) rfl ?_
   refine WO_case (t := 22) rfl (fun h2 => ?_) (fun h2 => ?_)
   ·try simp only [NM] at h2
    refine WO_gt rfl ?_
    refine WO_mv (v := .s (.int _ _)) rfl ?_
    refine WO_gt rfl ?_
    refine WO_fa (o' := 0) rfl rfl rfl ?_
    refine WO_gt rfl ?_
    refine WO_ixa rfl rfl rfl (by omega) ?_
    refine WO_gt rfl ?_
    refine WO_fa rfl rfl rfl ?_
    refine WO_gt rfl ?_
    refine WO_ldI (x := P (sqI i + 1)) rfl rfl (.tail _ (.head _)) (rfl) ?_
    refine WO_gt rfl ?_
    refine WO_fa (o' := 128) rfl rfl rfl ?_
    refine WO_gt rfl ?_
    refine WO_ldI (x := P 128) rfl rfl (.tail _ (.head _)) (rfl) ?_
    refine WO_gt rfl ?_
    refine WO_bin (r := .bool _) rfl rfl rfl ?_
    refine WO_pick (v := .s (.bool _)) rfl rfl ?_
    refine WO_nil ?_
    refine WP_cond rfl (fun h3 => ?_) (fun h3 => ?_)
    ·try simp only [NM] at h3
     refine WP_ops ?_
     refine WO_mv (v := .snil) rfl ?_
     refine WO_mv (v := .s (.int _ _)) rfl ?_
     refine WO_mkslS rfl (.one rfl .nil) ?_
     refine WO_appendNil rfl rfl (.head _) (by decide) rfl ?_
     refine WO_mv (v := .sl _ _ _ _ _) rfl ?_
     refine WO_nil ?_
     refine WP_ops ?_
     refine WO_mv (v := .s (.int _ _)) rfl ?_
     refine WO_add rfl rfl (by omega) ?_
     refine WO_mv (v := .s (.int _ _)) rfl ?_
     refine WO_nil ?_
     refine ⟨64 - (i + 1), _, by omega, (.cons_cons _ (.cons _ (.cons_cons _ (.cons_cons _ .slnil)))), i + 1, by omega, rfl, rfl, rfl, rfl, rfl, rfl, rfl, .inr ⟨_, 1, _, _, by omega, ?_, rfl, rfl⟩⟩
     intro j hj
     obtain rfl : j = 0 := by omega
     exact own_at (by omega) (by assumption) (by assumption)
    ·try simp only [NM] at h3
     refine WP_skip ?_
     refine WP_ops ?_
     refine WO_mv (v := .s (.int _ _)) rfl ?_
     refine WO_add rfl rfl (by omega) ?_
     refine WO_mv (v := .s (.int _ _)) rfl ?_
     refine WO_nil ?_
     refine ⟨64 - (i + 1), _, by omega, (.cons_cons _ (.cons_cons _ .slnil)), i + 1, by omega, rfl, rfl, rfl, rfl, rfl, rfl, rfl, .inl ⟨rfl, rfl⟩⟩
   ·try simp only [NM] at h2
    refine WO_gf rfl rfl ?_
    refine WO_gf rfl rfl ?_
    refine WO_gf rfl rfl ?_
    refine WO_gf rfl rfl ?_
    refine WO_gf rfl rfl ?_
    refine WO_gf rfl rfl ?_
    refine WO_gf rfl rfl ?_
    refine WO_gf rfl rfl ?_
    refine WO_pick (v := .s (.bool _)) rfl rfl ?_
    refine WO_nil ?_
    refine WP_cond rfl (fun h => nomatch h) (fun _ => ?_)
    refine WP_skip ?_
    refine WP_ops ?_
    refine WO_mv (v := .s (.int _ _)) rfl ?_
    refine WO_add rfl rfl (by omega) ?_
    refine WO_mv (v := .s (.int _ _)) rfl ?_
    refine WO_nil ?_
    refine ⟨64 - (i + 1), _, by omega, (.cons_cons _ (.cons_cons _ .slnil)), i + 1, by omega, rfl, rfl, rfl, rfl, rfl, rfl, rfl, .inl ⟨rfl, rfl⟩⟩
  ·try simp only [NM] at h1
   refine WP_exit ?_
   refine xhere ?_
   refine WP_seq ?_
   refine WP_seq ?_
   refine WP_ops ?_
   refine WO_mv (v := .snil) rfl ?_
   refine WO_lenN rfl ?_
   refine WO_bin (r := .bool _) rfl rfl rfl ?_
   refine WO_nil ?_
   refine WP_cond rfl (fun h4 => ?_) (fun h4 => ?_)
   ·try simp only [NM] at h4
    refine WP_seq ?_
    refine WP_ops ?_
    refine WO_buildI rfl .nil ?_
    refine WO_stA rfl rfl rfl rfl .here ?_
    refine WO_nil ?_
    refine WP_ret ?_
    refine ⟨_, RS_cell rfl rfl (.head _) (RS_nil), ?_⟩
    exact ⟨_, rfl, .inl ⟨rfl, rfl⟩⟩
   ·try simp only [NM] at h4
    exfalso; first | omega | (simp at h4)
 ·skip
  refine WP_know (d := 1) (v := .s (.int .i64 x)) k1 ?_
  refine WP_know (d := 2) (v := .s (.int .i64 y)) k2 ?_
  refine WP_know (d := 3) (v := .s (.int .i64 z)) k3 ?_
  refine WP_know (d := 4) (v := .ptr 0 0 133) k4 ?_
  refine WP_know (d := 8) (v := .ptr 1 0 3) k8 ?_
  refine WP_know (d := 10) (v := .s (.int .i64 i)) k10 ?_
  refine WP_know (d := 9) (v := .sl b 0 cnt 1 .whole) kS ?_
  refine WP_seq ?_
  refine WP_seq ?_
  refine WP_ops ?_
  refine WO_mv (v := .s (.int _ _)) rfl ?_
  refine WO_bin (r := .bool _) rfl rfl rfl ?_
  refine WO_nil ?_
  refine WP_cond rfl (fun h5 => ?_) (fun h5 => ?_)
  ·try simp only [NM] at h5
   refine WP_skip ?_
   refine WP_seq ?_
   refine WP_block ?_
   refine WP_seq ?_
   refine WP_ops ?_
   refine WO_mv (v := .s (.int _ _)) rfl ?_
   refine WO_fa (o' := 0) rfl rfl rfl ?_
   refine WO_ixa rfl rfl rfl (by omega) ?_
   refine WO_fa rfl rfl rfl ?_
   refine WO_ldI (x := P (sqI i)) rfl rfl (.tail _ (.tail _ (.head _))) (rfl) ?_
   refine WO_bin (r := .bool _) rfl rfl rfl ?_
   refine WO_mv (v := .s (.bool _)) rfl ?_
   refine WO_case (t := 22) rfl (fun h6 => ?_) (fun h6 => ?_)
   ·try simp only [NM] at h6
    refine WO_gt rfl ?_
    refine WO_mv (v := .s (.int _ _)) rfl ?_
    refine WO_gt rfl ?_
    refine WO_fa (o' := 0) rfl rfl rfl ?_
    refine WO_gt rfl ?_
    refine WO_ixa rfl rfl rfl (by omega) ?_
    refine WO_gt rfl ?_
    refine WO_fa rfl rfl rfl ?_
    refine WO_gt rfl ?_
    refine WO_ldI (x := P (sqI i + 1)) rfl rfl (.tail _ (.tail _ (.head _))) (rfl) ?_
    refine WO_gt rfl ?_
    refine WO_fa (o' := 128) rfl rfl rfl ?_
    refine WO_gt rfl ?_
    refine WO_ldI (x := P 128) rfl rfl (.tail _ (.tail _ (.head _))) (rfl) ?_
    refine WO_gt rfl ?_
    refine WO_bin (r := .bool _) rfl rfl rfl ?_
    refine WO_pick (v := .s (.bool _)) rfl rfl ?_
    refine WO_nil ?_
    refine WP_cond rfl (fun h7 => ?_) (fun h7 => ?_)
    ·try simp only [NM] at h7
     refine WP_ops ?_
     refine WO_mv (v := .sl _ _ _ _ _) rfl ?_
     refine WO_mv (v := .s (.int _ _)) rfl ?_
     refine WO_mkslS rfl (.one rfl .nil) ?_
     refine WO_appendW rfl rfl (.head _) (.there .here) (by simp [roomy]; omega) ?_
     refine WO_mv (v := .sl _ _ _ _ _) rfl ?_
     refine WO_nil ?_
     refine WP_ops ?_
     refine WO_mv (v := .s (.int _ _)) rfl ?_
     refine WO_add rfl rfl (by omega) ?_
     refine WO_mv (v := .s (.int _ _)) rfl ?_
     refine WO_nil ?_
     refine ⟨64 - (i + 1), _, by omega, (.cons_cons _ (.cons _ (.cons _ (.cons_cons _ (.cons_cons _ .slnil))))), i + 1, by omega, rfl, rfl, rfl, rfl, rfl, rfl, rfl, .inr ⟨_, cnt + 1, _, _, by omega, ?_, rfl, rfl⟩⟩
     exact grow_ok (C := OwnM P) hF (own_at (by omega) (by assumption) (by assumption))
    ·try simp only [NM] at h7
     refine WP_skip ?_
     refine WP_ops ?_
     refine WO_mv (v := .s (.int _ _)) rfl ?_
     refine WO_add rfl rfl (by omega) ?_
     refine WO_mv (v := .s (.int _ _)) rfl ?_
     refine WO_nil ?_
     refine ⟨64 - (i + 1), _, by omega, (.cons_cons _ (.cons_cons _ (.cons_cons _ .slnil))), i + 1, by omega, rfl, rfl, rfl, rfl, rfl, rfl, rfl, .inr ⟨_, cnt, _, _, by omega, hF, rfl, rfl⟩⟩
   ·try simp only [NM] at h6
    refine WO_gf rfl rfl ?_
    refine WO_gf rfl rfl ?_
    refine WO_gf rfl rfl ?_
    refine WO_gf rfl rfl ?_
    refine WO_gf rfl rfl ?_
    refine WO_gf rfl rfl ?_
    refine WO_gf rfl rfl ?_
    refine WO_gf rfl rfl ?_
    refine WO_pick (v := .s (.bool _)) rfl rfl ?_
    refine WO_nil ?_
    refine WP_cond rfl (fun h => nomatch h) (fun _ => ?_)
    refine WP_skip ?_
    refine WP_ops ?_
    refine WO_mv (v := .s (.int _ _)) rfl ?_
    refine WO_add rfl rfl (by omega) ?_
    refine WO_mv (v := .s (.int _ _)) rfl ?_
    refine WO_nil ?_
    refine ⟨64 - (i + 1), _, by omega, (.cons_cons _ (.cons_cons _ (.cons_cons _ .slnil))), i + 1, by omega, rfl, rfl, rfl, rfl, rfl, rfl, rfl, .inr ⟨_, cnt, _, _, by omega, hF, rfl, rfl⟩⟩
  ·try simp only [NM] at h5
   refine WP_exit ?_
   refine xhere ?_
   refine WP_seq ?_
   refine WP_seq ?_
   refine WP_ops ?_
   refine WO_mv (v := .sl _ _ _ _ _) rfl ?_
   refine WO_len rfl ?_
   refine WO_bin (r := .bool _) rfl rfl rfl ?_
   refine WO_nil ?_
   refine WP_cond rfl (fun h8 => ?_) (fun h8 => ?_)
   ·try simp only [NM] at h8
    exfalso; first | omega | (simp at h8)
   ·try simp only [NM] at h8
    refine WP_skip ?_
    refine WP_seq ?_
    refine WP_ops ?_
    refine WO_mv (v := .sl _ _ _ _ _) rfl ?_
    refine WO_mv (v := .s (.int _ _)) rfl ?_
    refine WO_mv (v := .sl _ _ _ _ _) rfl ?_
    refine WO_len rfl ?_
    have hk := pickM_bd x (n := (cnt : Int)) (by omega)
    refine WO_callq0 rfl (RF_of (Pick_run x (cnt : Int) (by omega) (by omega))) rfl rfl rfl ?_
    obtain ⟨a, ha⟩ : ∃ a : Nat, pickM x (cnt : Int) = a := ⟨(pickM x (cnt : Int)).toNat, by omega⟩
    rw [ha] at hk ⊢
    have hfb := hF a (by omega)
    have hfa := hfb.1
    have hy := pickM_bd y (n := 64) (by omega)
    have hz := pickM_bd z (n := 4) (by omega)
    refine WO_ixs rfl rfl (by omega) ?_
    refine WO_ldI (x := F a) rfl rfl (.head _) (congrArg F (by omega)) ?_
    refine WO_mv (v := .s (.int _ _)) rfl ?_
    refine WO_callq0 rfl (RF_of (Pick_run y 64 (by omega) (by omega))) rfl rfl rfl ?_
    refine WO_buildI rfl (.one rfl (.one rfl .nil)) ?_
    refine WO_allocI ?_
    refine WO_stA rfl rfl rfl rfl .here ?_
    refine WO_nil ?_
    refine WP_seq ?_
    refine WP_seq ?_
    refine WP_ops ?_
    refine WO_fa (o' := 0) rfl rfl rfl ?_
    refine WO_ldI (x := F a) rfl rfl (.head _) (rfl) ?_
    refine WO_fa (o' := 0) rfl rfl rfl ?_
    refine WO_ixa rfl rfl rfl (by omega) ?_
    refine WO_fa rfl rfl rfl ?_
    refine WO_ldI (x := P (sqI (F a))) rfl rfl (.tail _ (.tail _ (.tail _ (.head _)))) (rfl) ?_
    refine WO_bin (r := .bool _) rfl rfl rfl ?_
    refine WO_mv (v := .s (.bool _)) rfl ?_
    refine WO_case (t := 57) rfl (fun h9 => ?_) (fun h9 => ?_)
    ·try simp only [NM] at h9
     refine WO_gt rfl ?_
     refine WO_fa (o' := 1) rfl rfl rfl ?_
     refine WO_gt rfl ?_
     refine WO_ldI (x := pickM y 64) rfl rfl (.head _) (rfl) ?_
     refine WO_gt rfl ?_
     refine WO_bin (r := .bool _) rfl rfl rfl ?_
     refine WO_gt rfl ?_
     refine WO_mv (v := .s (.bool _)) rfl ?_
     refine WO_case (t := 61) rfl (fun h10 => ?_) (fun h10 => ?_)
     ·try simp only [NM] at h10
      refine WO_gf rfl rfl ?_
      refine WO_gf rfl rfl ?_
      refine WO_gf rfl rfl ?_
      refine WO_gt rfl ?_
      refine WO_pick (v := .s (.bool _)) rfl rfl ?_
      refine WO_pick (v := .s (.bool _)) rfl rfl ?_
      refine WO_nil ?_
      refine WP_cond rfl (fun _ => ?_) (fun h => nomatch h)
      refine WP_ops ?_
      refine WO_mv (v := .s (.int _ _)) rfl ?_
      refine WO_call0 rfl (RF_of (Pick_run z 4 (by omega) (by omega))) rfl rfl rfl ?_
      refine WO_add rfl rfl (by omega) ?_
      refine WO_fa (o' := 2) rfl rfl rfl ?_
      refine WO_stI rfl rfl rfl rfl .here ?_
      refine WO_nil ?_
      refine WP_seq ?_
      refine WP_ops ?_
      first | refine WO_ldA0 rfl rfl (.head _) ?_ | refine WO_ldAI rfl rfl (.head _) ?_
      refine WO_stA rfl rfl rfl rfl (.there (.there .here)) ?_
      refine WO_nil ?_
      refine WP_ret ?_
      refine ⟨_, RS_cell rfl rfl (.tail _ (.tail _ (.head _))) (RS_nil), ?_⟩
      exact ⟨_, rfl, .inr ⟨hfb, hy, made_yes ⟨by assumption, by first | exact .inl (by assumption) | exact .inr (by assumption)⟩ (by show 2 ≤ 2 + pickM z 4 ∧ 2 + pickM z 4 ≤ 5; omega)⟩⟩
     ·try simp only [NM] at h10
      refine WO_gt rfl ?_
      refine WO_fa (o' := 1) rfl rfl rfl ?_
      refine WO_gt rfl ?_
      refine WO_ldI (x := pickM y 64) rfl rfl (.head _) (rfl) ?_
      refine WO_gt rfl ?_
      refine WO_bin (r := .bool _) rfl rfl rfl ?_
      refine WO_gt rfl ?_
      refine WO_pick (v := .s (.bool _)) rfl rfl ?_
      refine WO_pick (v := .s (.bool _)) rfl rfl ?_
      refine WO_nil ?_
      refine WP_cond rfl (fun h11 => ?_) (fun h11 => ?_)
      ·try simp only [NM] at h11
       refine WP_ops ?_
       refine WO_mv (v := .s (.int _ _)) rfl ?_
       refine WO_call0 rfl (RF_of (Pick_run z 4 (by omega) (by omega))) rfl rfl rfl ?_
       refine WO_add rfl rfl (by omega) ?_
       refine WO_fa (o' := 2) rfl rfl rfl ?_
       refine WO_stI rfl rfl rfl rfl .here ?_
       refine WO_nil ?_
       refine WP_seq ?_
       refine WP_ops ?_
       first | refine WO_ldA0 rfl rfl (.head _) ?_ | refine WO_ldAI rfl rfl (.head _) ?_
       refine WO_stA rfl rfl rfl rfl (.there (.there .here)) ?_
       refine WO_nil ?_
       refine WP_ret ?_
       refine ⟨_, RS_cell rfl rfl (.tail _ (.tail _ (.head _))) (RS_nil), ?_⟩
       exact ⟨_, rfl, .inr ⟨hfb, hy, made_yes ⟨by assumption, by first | exact .inl (by assumption) | exact .inr (by assumption)⟩ (by show 2 ≤ 2 + pickM z 4 ∧ 2 + pickM z 4 ≤ 5; omega)⟩⟩
      ·try simp only [NM] at h11
       refine WP_skip ?_
       refine WP_seq ?_
       refine WP_ops ?_
       first | refine WO_ldA0 rfl rfl (.head _) ?_ | refine WO_ldAI rfl rfl (.head _) ?_
       refine WO_stA rfl rfl rfl rfl (.there (.there .here)) ?_
       refine WO_nil ?_
       refine WP_ret ?_
       refine ⟨_, RS_cell rfl rfl (.tail _ (.tail _ (.head _))) (RS_nil), ?_⟩
       exact ⟨_, rfl, .inr ⟨hfb, hy, made_no (by show ¬ (P (sqI (F a)) = 1 ∧ (56 ≤ pickM y 64 ∨ pickM y 64 < 8)); omega) rfl⟩⟩
    ·try simp only [NM] at h9
     refine WO_gf rfl rfl ?_
     refine WO_gf rfl rfl ?_
     refine WO_gf rfl rfl ?_
     refine WO_gf rfl rfl ?_
     refine WO_gu rfl ?_
     refine WO_gu rfl ?_
     refine WO_gu rfl ?_
     refine WO_gf rfl rfl ?_
     refine WO_pick (v := .s (.bool _)) rfl rfl ?_
     refine WO_nil ?_
     refine WP_cond rfl (fun h => nomatch h) (fun _ => ?_)
     refine WP_skip ?_
     refine WP_seq ?_
     refine WP_ops ?_
     first | refine WO_ldA0 rfl rfl (.head _) ?_ | refine WO_ldAI rfl rfl (.head _) ?_
     refine WO_stA rfl rfl rfl rfl (.there (.there .here)) ?_
     refine WO_nil ?_
     refine WP_ret ?_
     refine ⟨_, RS_cell rfl rfl (.tail _ (.tail _ (.head _))) (RS_nil), ?_⟩
     exact ⟨_, rfl, .inr ⟨hfb, hy, made_no (by show ¬ (P (sqI (F a)) = 1 ∧ (56 ≤ pickM y 64 ∨ pickM y 64 < 8)); omega) rfl⟩⟩
theorem lmade2_ex (P : Nat → Int) (x y z : Int) : ∃ M, MadeM P M ∧ RF AM 79 [.agg 133 (ia P), .s (.int .i64 x), .s (.int .i64 y), .s (.int .i64 z)] (.agg 3 (ia M)) := by
  obtain ⟨v, σ, _, _, h, _, M, rfl, h0⟩ := lmade2_run P x y z
  exact ⟨M, h0, σ, h⟩
theorem bin_gtr {a b : Int} {r : Bool} (h : decide (b < a) = r) : binS .gtr (.int .i64 a) (.int .i64 b) = some (.bool r) := by subst h; rfl
theorem bin_lss {a b : Int} {r : Bool} (h : decide (a < b) = r) : binS .lss (.int .i64 a) (.int .i64 b) = some (.bool r) := by subst h; rfl
theorem bin_eql {a b : Int} {r : Bool} (h : decide (a = b) = r) : binS .eql (.int .i64 a) (.int .i64 b) = some (.bool r) := by
  show (if IntKind.i64 = IntKind.i64 then some (S.bool (a == b)) else none) = _
  rw [if_pos rfl, ← h]; rfl
theorem bin_neq {a b : Int} {r : Bool} (h : decide (¬ a = b) = r) : binS .neq (.int .i64 a) (.int .i64 b) = some (.bool r) := by
  show (if IntKind.i64 = IntKind.i64 then some (S.bool (a != b)) else none) = _
  rw [if_pos rfl, ← h]
  by_cases e : a = b
  · subst e; simp
  · simp [e]
theorem dif_t {P X : Nat → Int} {s : Nat} (h : eqI 2 (dp P (sqI s)) (dp X (sqI s)) = false) : difB P X s = true := by unfold difB; rw [h]; rfl
theorem dif_f {P X : Nat → Int} {s : Nat} (h : eqI 2 (dp P (sqI s)) (dp X (sqI s)) = true) : difB P X s = false := by unfold difB; rw [h]; rfl
theorem neq_eq {a b c d : Int} (h : a ≠ b ↔ c ≠ d) : (a != b) = (c != d) := by
  rw [Bool.eq_iff_iff, bne_iff_ne, bne_iff_ne]; exact h
theorem eq_eq {a b c d : Int} (h : a = b ↔ c = d) : (a == b) = (c == d) := by
  rw [Bool.eq_iff_iff, beq_iff_eq, beq_iff_eq]; exact h
theorem eq_true {a b : Int} (h : a = b) : (a == b) = true := by
  rw [beq_iff_eq]; exact h
theorem right_full {P : Nat → Int} (h : rightM P = true) : 1 ≤ P 132 ∧ P 132 ≤ 16384 := by
  unfold rightM at h
  simp only [Bool.and_eq_true, decide_eq_true_eq] at h
  omega
theorem bin_andNot {a b : Int} : binS .andNot (.int .i64 a) (.int .i64 b) = some (.int .i64 (andNotM a b)) := rfl

theorem PlayFew_run (P : Nat → Int) (x y z : Int) : WR AM 17 [.agg 133 (ia P), .s (.int .i64 x), .s (.int .i64 y), .s (.int .i64 z)] [] (fun v _ _ => v = .s (.bool true)) := by
 refine WR_fn (a := a17) rfl rfl (entryF _) (entry_E (Nat.le_of_ble_eq_true rfl)) (m := 0) rfl ?_
 refine WP_seq ?_
 refine WP_ops ?_
 refine WO_boxA rfl ?_
 refine WO_mv rfl ?_
 refine WO_nil ?_
 refine WP_seq ?_
 refine WP_seq ?_
 refine WP_ops ?_
 refine WO_call0 rfl (playAwake_run) rfl rfl rfl ?_
 refine WO_un (r := .bool _) rfl rfl ?_
 refine WO_nil ?_
 refine WP_cond rfl (fun h => nomatch h) (fun _ => ?_)
 refine WP_skip ?_
 refine WP_seq ?_
 refine WP_seq ?_
 refine WP_ops ?_
 first | refine WO_ldA0 rfl rfl (.head _) ?_ | refine WO_ldAI rfl rfl (.head _) ?_
 refine WO_call0 rfl (RF_of (Right_run P)) rfl rfl rfl ?_
 refine WO_un (r := .bool _) rfl rfl ?_
 refine WO_nil ?_
 refine WP_cond rfl (fun h12 => ?_) (fun h12 => ?_)
 ·try simp only [NM] at h12
  refine WP_seq ?_
  refine WP_ops ?_
  refine WO_mv rfl ?_
  refine WO_nil ?_
  refine WP_ret ?_
  refine ⟨_, RS_tmp (v := .s (.bool _)) rfl (RS_nil), ?_⟩
  rfl
 ·try simp only [NM] at h12
  refine WP_skip ?_
  refine WP_seq ?_
  refine WP_ops ?_
  first | refine WO_ldA0 rfl rfl (.head _) ?_ | refine WO_ldAI rfl rfl (.head _) ?_
  refine WO_mv (v := .s (.int _ _)) rfl ?_
  refine WO_mv (v := .s (.int _ _)) rfl ?_
  refine WO_mv (v := .s (.int _ _)) rfl ?_
  have hR : rightM P = true := by assumption
  obtain ⟨M, hM, hMr⟩ := lmade2_ex P x y z
  have ⟨ha, ht⟩ := hM.bd
  refine WO_call0 rfl (hMr) rfl rfl rfl ?_
  refine WO_allocI ?_
  refine WO_stA rfl rfl rfl rfl .here ?_
  refine WO_nil ?_
  refine WP_seq ?_
  refine WP_ops ?_
  first | refine WO_ldA0 rfl rfl (.tail _ (.head _)) ?_ | refine WO_ldAI rfl rfl (.tail _ (.head _)) ?_
  first | refine WO_ldA0 rfl rfl (.head _) ?_ | refine WO_ldAI rfl rfl (.head _) ?_
  refine WO_call0 rfl (show RF AM 64 [.agg 133 (ia P), .agg 3 (ia (ovA (fun _ => 0) 0 3 M))] (.tup [.agg 133 (ia (moveM P (M 0) (M 1) (M 2))), .s (.int .i64 (errM P (M 0) (M 1) (M 2)))]) from Move_is) rfl rfl rfl ?_
  refine WO_mv (v := .tup _) rfl ?_
  refine WO_ext (v := .agg _ _) rfl rfl ?_
  refine WO_ext (v := .s (.int _ _)) rfl rfl ?_
  refine WO_allocI ?_
  refine WO_stA rfl rfl rfl rfl .here ?_
  refine WO_mv (v := .s (.int _ _)) rfl ?_
  refine WO_nil ?_
  refine WP_seq ?_
  refine WP_seq ?_
  refine WP_ops ?_
  refine WO_mv (v := .s (.int _ _)) rfl ?_
  refine WO_bin (r := .bool _) rfl rfl rfl ?_
  refine WO_nil ?_
  refine WP_cond rfl (fun h13 => ?_) (fun h13 => ?_)
  ·try simp only [NM] at h13
   refine WP_seq ?_
   refine WP_ops ?_
   refine WO_mv (v := .s (.int _ _)) rfl ?_
   have hme := made_err hR hM (by assumption)
   refine WO_bin (r := .bool _) rfl rfl rfl ?_
   refine WO_mv (v := .s (.bool _)) rfl ?_
   refine WO_case (t := 40) rfl (fun h14 => ?_) (fun h14 => ?_)
   ·try simp only [NM] at h14
    refine WO_gt rfl ?_
    refine WO_fa (o' := 0) rfl rfl rfl ?_
    refine WO_gt rfl ?_
    refine WO_ldI (x := M 0) rfl rfl (.tail _ (.head _)) (rfl) ?_
    refine WO_gt rfl ?_
    refine WO_fa (o' := 1) rfl rfl rfl ?_
    refine WO_gt rfl ?_
    refine WO_ldI (x := M 1) rfl rfl (.tail _ (.head _)) (rfl) ?_
    refine WO_gt rfl ?_
    refine WO_bin rfl rfl (bin_eql (decide_eq_true (by omega))) ?_
    refine WO_pick (v := .s (.bool _)) rfl rfl ?_
    refine WO_mv (v := .s (.bool _)) rfl ?_
    refine WO_gf rfl rfl ?_
    refine WO_gf rfl rfl ?_
    refine WO_gf rfl rfl ?_
    refine WO_gu rfl ?_
    refine WO_gu rfl ?_
    refine WO_gu rfl ?_
    refine WO_gu rfl ?_
    refine WO_gu rfl ?_
    refine WO_gu rfl ?_
    refine WO_gu rfl ?_
    refine WO_gf rfl rfl ?_
    refine WO_pick (v := .s (.bool _)) rfl rfl ?_
    refine WO_mv (v := .s (.bool _)) rfl ?_
    refine WO_nil ?_
    refine WP_ret ?_
    refine ⟨_, RS_tmp (v := .s (.bool _)) rfl (RS_nil), ?_⟩
    refine congrArg (fun b => V.s (S.bool b)) ?_
    first | rfl | (simp only [beq_iff_eq, decide_eq_true_eq]; omega)
   ·try simp only [NM] at h14
    refine WO_gf rfl rfl ?_
    refine WO_gf rfl rfl ?_
    refine WO_gf rfl rfl ?_
    refine WO_gf rfl rfl ?_
    refine WO_gf rfl rfl ?_
    refine WO_pick (v := .s (.bool _)) rfl rfl ?_
    refine WO_mv (v := .s (.bool _)) rfl ?_
    refine WO_gt rfl ?_
    refine WO_mv (v := .s (.int _ _)) rfl ?_
    refine WO_gt rfl ?_
    refine WO_bin rfl rfl (bin_eql (decide_eq_true (by omega))) ?_
    refine WO_gt rfl ?_
    refine WO_mv (v := .s (.bool _)) rfl ?_
    refine WO_gt rfl ?_
    refine WO_fa (o' := 0) rfl rfl rfl ?_
    refine WO_gt rfl ?_
    refine WO_ldI (x := M 0) rfl rfl (.tail _ (.head _)) (rfl) ?_
    refine WO_gt rfl ?_
    refine WO_fa (o' := 0) rfl rfl rfl ?_
    refine WO_gt rfl ?_
    refine WO_ixa rfl rfl rfl (by omega) ?_
    refine WO_gt rfl ?_
    refine WO_fa rfl rfl rfl ?_
    refine WO_gt rfl ?_
    refine WO_ldI (x := P (sqI (M 0))) rfl rfl (.tail _ (.tail _ (.head _))) (rfl) ?_
    refine WO_gt rfl ?_
    refine WO_bin rfl rfl (bin_eql (decide_eq_true (by omega))) ?_
    refine WO_gt rfl ?_
    refine WO_pick (v := .s (.bool _)) rfl rfl ?_
    refine WO_pick (v := .s (.bool _)) rfl rfl ?_
    refine WO_mv (v := .s (.bool _)) rfl ?_
    refine WO_nil ?_
    refine WP_ret ?_
    refine ⟨_, RS_tmp (v := .s (.bool _)) rfl (RS_nil), ?_⟩
    refine congrArg (fun b => V.s (S.bool b)) ?_
    first | rfl | (simp only [beq_iff_eq, decide_eq_true_eq]; omega)
  ·try simp only [NM] at h13
   refine WP_skip ?_
   refine WP_cut (fun f n L => (errM P (M 0) (M 1) (M 2) = 0) ∧ (¬ (P (sqI (M 0)) = 6 ∧ (M 1 - M 0 = 2 ∨ M 0 - M 1 = 2))) ∧ (f 4 = .ptr 0 0 133) ∧ (f 9 = .ptr 1 0 3) ∧ (f 10 = .ptr 2 0 133) ∧ (L = [(2, .sc .var 133 (ia (QM P M))), (1, .sc .var 3 (ia (ovA (fun _ => 0) 0 3 M))), (0, .sc .var 133 (ia P))]) ∧ (n = 3)) ?_ (fun f nb L hI => ?_)
   ·skip
    refine WP_seq ?_
    refine WP_ops ?_
    refine WO_fa (o' := 0) rfl rfl rfl ?_
    refine WO_ldI (x := M 0) rfl rfl (.tail _ (.head _)) (rfl) ?_
    refine WO_fa (o' := 0) rfl rfl rfl ?_
    refine WO_ixa rfl rfl rfl (by omega) ?_
    refine WO_fa rfl rfl rfl ?_
    refine WO_ldI (x := P (sqI (M 0))) rfl rfl (.tail _ (.tail _ (.head _))) (rfl) ?_
    refine WO_bin (r := .bool _) rfl rfl rfl ?_
    refine WO_mv (v := .s (.bool _)) rfl ?_
    refine WO_case (t := 67) rfl (fun h15 => ?_) (fun h15 => ?_)
    ·try simp only [NM] at h15
     refine WO_gt rfl ?_
     refine WO_fa (o' := 1) rfl rfl rfl ?_
     refine WO_gt rfl ?_
     refine WO_ldI (x := M 1) rfl rfl (.tail _ (.head _)) (rfl) ?_
     refine WO_gt rfl ?_
     refine WO_fa (o' := 0) rfl rfl rfl ?_
     refine WO_gt rfl ?_
     refine WO_ldI (x := M 0) rfl rfl (.tail _ (.head _)) (rfl) ?_
     refine WO_gt rfl ?_
     refine WO_sub rfl rfl (by omega) ?_
     refine WO_gt rfl ?_
     refine WO_bin (r := .bool _) rfl rfl rfl ?_
     refine WO_gt rfl ?_
     refine WO_mv (v := .s (.bool _)) rfl ?_
     refine WO_case (t := 74) rfl (fun h16 => ?_) (fun h16 => ?_)
     ·try simp only [NM] at h16
      refine WO_gf rfl rfl ?_
      refine WO_gf rfl rfl ?_
      refine WO_gf rfl rfl ?_
      refine WO_gf rfl rfl ?_
      refine WO_gf rfl rfl ?_
      refine WO_gf rfl rfl ?_
      refine WO_gt rfl ?_
      refine WO_pick (v := .s (.bool _)) rfl rfl ?_
      refine WO_pick (v := .s (.bool _)) rfl rfl ?_
      refine WO_nil ?_
      refine WP_cond rfl (fun _ => ?_) (fun h => nomatch h)
      refine WP_seq ?_
      refine WP_ops ?_
      refine WO_mv rfl ?_
      refine WO_nil ?_
      refine WP_ret ?_
      refine ⟨_, RS_tmp (v := .s (.bool _)) rfl (RS_nil), ?_⟩
      first | rfl | (exfalso; omega)
     ·try simp only [NM] at h16
      refine WO_gt rfl ?_
      refine WO_fa (o' := 0) rfl rfl rfl ?_
      refine WO_gt rfl ?_
      refine WO_ldI (x := M 0) rfl rfl (.tail _ (.head _)) (rfl) ?_
      refine WO_gt rfl ?_
      refine WO_fa (o' := 1) rfl rfl rfl ?_
      refine WO_gt rfl ?_
      refine WO_ldI (x := M 1) rfl rfl (.tail _ (.head _)) (rfl) ?_
      refine WO_gt rfl ?_
      refine WO_sub rfl rfl (by omega) ?_
      refine WO_gt rfl ?_
      refine WO_bin (r := .bool _) rfl rfl rfl ?_
      refine WO_gt rfl ?_
      refine WO_pick (v := .s (.bool _)) rfl rfl ?_
      refine WO_pick (v := .s (.bool _)) rfl rfl ?_
      refine WO_nil ?_
      refine WP_cond rfl (fun h17 => ?_) (fun h17 => ?_)
      ·try simp only [NM] at h17
       refine WP_seq ?_
       refine WP_ops ?_
       refine WO_mv rfl ?_
       refine WO_nil ?_
       refine WP_ret ?_
       refine ⟨_, RS_tmp (v := .s (.bool _)) rfl (RS_nil), ?_⟩
       first | rfl | (exfalso; omega)
      ·try simp only [NM] at h17
       refine WP_skip ?_
       exact ⟨_, (.cons_cons _ (.cons_cons _ (.cons_cons _ .slnil))), by assumption, by omega, rfl, rfl, rfl, rfl, rfl⟩
    ·try simp only [NM] at h15
     refine WO_gf rfl rfl ?_
     refine WO_gf rfl rfl ?_
     refine WO_gf rfl rfl ?_
     refine WO_gf rfl rfl ?_
     refine WO_gf rfl rfl ?_
     refine WO_gf rfl rfl ?_
     refine WO_gf rfl rfl ?_
     refine WO_gu rfl ?_
     refine WO_gu rfl ?_
     refine WO_gu rfl ?_
     refine WO_gu rfl ?_
     refine WO_gu rfl ?_
     refine WO_gu rfl ?_
     refine WO_gf rfl rfl ?_
     refine WO_pick (v := .s (.bool _)) rfl rfl ?_
     refine WO_nil ?_
     refine WP_cond rfl (fun h => nomatch h) (fun _ => ?_)
     refine WP_skip ?_
     exact ⟨_, (.cons_cons _ (.cons_cons _ (.cons_cons _ .slnil))), by assumption, by omega, rfl, rfl, rfl, rfl, rfl⟩
   ·skip
    obtain ⟨he, hkk, k4, k9, k10, rfl, rfl⟩ := hI
    refine WP_know (d := 4) (v := .ptr 0 0 133) k4 ?_
    refine WP_know (d := 9) (v := .ptr 1 0 3) k9 ?_
    refine WP_know (d := 10) (v := .ptr 2 0 133) k10 ?_
    refine WP_seq ?_
    refine WP_ops ?_
    refine WO_mv rfl ?_
    refine WO_mv rfl ?_
    refine WO_mv rfl ?_
    refine WO_nil ?_
    refine WP_cut (fun f n L => ∃ (i : Nat), (i = 64) ∧ (f 4 = .ptr 0 0 133) ∧ (f 9 = .ptr 1 0 3) ∧ (f 10 = .ptr 2 0 133) ∧ (f 12 = .s (.int .i64 (cntB (difB P (QM P M)) i))) ∧ (f 13 = .s (.int .i64 (cntB (hasB P) i))) ∧ (f 14 = .s (.int .i64 (cntB (hasB (QM P M)) i))) ∧ (f 15 = .s (.int .i64 i)) ∧ (L = [(2, .sc .var 133 (ia (QM P M))), (1, .sc .var 3 (ia (ovA (fun _ => 0) 0 3 M))), (0, .sc .var 133 (ia P))])) ?_ (fun f nb L hI => ?_)
    ·skip
     refine WP_seq ?_
     refine WP_ops ?_
     refine WO_mv rfl ?_
     refine WO_nil ?_
     refine WP_block ?_
     refine WP_sub (L' := [_, _, _]) (.cons_cons _ (.cons_cons _ (.cons_cons _ .slnil))) ?_
     refine WP_loop (fun m f _ L => ∃ (i : Nat), (i ≤ 64) ∧ (m = 64 - i) ∧ (f 4 = .ptr 0 0 133) ∧ (f 9 = .ptr 1 0 3) ∧ (f 10 = .ptr 2 0 133) ∧ (f 12 = .s (.int .i64 (cntB (difB P (QM P M)) i))) ∧ (f 13 = .s (.int .i64 (cntB (hasB P) i))) ∧ (f 14 = .s (.int .i64 (cntB (hasB (QM P M)) i))) ∧ (f 15 = .s (.int .i64 i)) ∧ (L = [(2, .sc .var 133 (ia (QM P M))), (1, .sc .var 3 (ia (ovA (fun _ => 0) 0 3 M))), (0, .sc .var 133 (ia P))])) (fun m f nb L hI => ?_) (64) ⟨0, by omega, rfl, rfl, rfl, rfl, rfl, rfl, rfl, rfl, rfl⟩
     obtain ⟨i, hi, hm, k4, k9, k10, k12, k13, k14, k15, rfl⟩ := hI
     refine WP_know (d := 4) (v := .ptr 0 0 133) k4 ?_
     refine WP_know (d := 9) (v := .ptr 1 0 3) k9 ?_
     refine WP_know (d := 10) (v := .ptr 2 0 133) k10 ?_
     refine WP_know (d := 12) (v := .s (.int .i64 (cntB (difB P (QM P M)) i))) k12 ?_
     refine WP_know (d := 13) (v := .s (.int .i64 (cntB (hasB P) i))) k13 ?_
     refine WP_know (d := 14) (v := .s (.int .i64 (cntB (hasB (QM P M)) i))) k14 ?_
     refine WP_know (d := 15) (v := .s (.int .i64 i)) k15 ?_
     have c1 := cntB_bd (difB P (QM P M)) i
     have c2 := cntB_bd (hasB P) i
     have c3 := cntB_bd (hasB (QM P M)) i
     refine WP_seq ?_
     refine WP_seq ?_
     refine WP_ops ?_
     refine WO_mv (v := .s (.int _ _)) rfl ?_
     refine WO_bin (r := .bool _) rfl rfl rfl ?_
     refine WO_nil ?_
     refine WP_cond rfl (fun h18 => ?_) (fun h18 => ?_)
     ·try simp only [NM] at h18
      refine WP_skip ?_
      refine WP_seq ?_
      refine WP_block ?_
      refine WP_seq ?_
      refine WP_seq ?_
      refine WP_ops ?_
      refine WO_mv (v := .s (.int _ _)) rfl ?_
      refine WO_fa (o' := 0) rfl rfl rfl ?_
      refine WO_ixa rfl rfl rfl (by omega) ?_
      first | refine WO_ldA0 rfl rfl (.tail _ (.tail _ (.head _))) ?_ | refine WO_ldAI rfl rfl (.tail _ (.tail _ (.head _))) ?_
      refine WO_mv (v := .s (.int _ _)) rfl ?_
      refine WO_fa (o' := 0) rfl rfl rfl ?_
      refine WO_ixa rfl rfl rfl (by omega) ?_
      first | refine WO_ldA0 rfl rfl (.head _) ?_ | refine WO_ldAI rfl rfl (.head _) ?_
      refine WO_eqa rfl rfl ?_
      refine WO_nil ?_
      refine WP_cond rfl (fun h19 => ?_) (fun h19 => ?_)
      ·try simp only [NM] at h19
       refine WP_ops ?_
       refine WO_mv (v := .s (.int _ _)) rfl ?_
       refine WO_add rfl rfl (by omega) ?_
       refine WO_mv (v := .s (.int _ _)) rfl ?_
       refine WO_nil ?_
       refine WP_seq ?_
       refine WP_seq ?_
       refine WP_ops ?_
       refine WO_mv (v := .s (.int _ _)) rfl ?_
       refine WO_fa (o' := 0) rfl rfl rfl ?_
       refine WO_ixa rfl rfl rfl (by omega) ?_
       refine WO_fa rfl rfl rfl ?_
       refine WO_ldI (x := P (sqI i)) rfl rfl (.tail _ (.tail _ (.head _))) (rfl) ?_
       refine WO_bin (r := .bool _) rfl rfl rfl ?_
       refine WO_nil ?_
       refine WP_cond rfl (fun h20 => ?_) (fun h20 => ?_)
       ·try simp only [NM] at h20
        refine WP_ops ?_
        refine WO_mv (v := .s (.int _ _)) rfl ?_
        refine WO_add rfl rfl (by omega) ?_
        refine WO_mv (v := .s (.int _ _)) rfl ?_
        refine WO_nil ?_
        refine WP_seq ?_
        refine WP_ops ?_
        refine WO_mv (v := .s (.int _ _)) rfl ?_
        refine WO_fa (o' := 0) rfl rfl rfl ?_
        refine WO_ixa rfl rfl rfl (by omega) ?_
        refine WO_fa rfl rfl rfl ?_
        refine WO_ldI rfl rfl (.head _) rfl ?_
        refine WO_bin (r := .bool _) rfl rfl rfl ?_
        refine WO_nil ?_
        refine WP_cond rfl (fun h21 => ?_) (fun h21 => ?_)
        ·try simp only [NM] at h21
         refine WP_ops ?_
         refine WO_mv (v := .s (.int _ _)) rfl ?_
         refine WO_add rfl rfl (by omega) ?_
         refine WO_mv (v := .s (.int _ _)) rfl ?_
         refine WO_nil ?_
         refine WP_ops ?_
         refine WO_mv (v := .s (.int _ _)) rfl ?_
         refine WO_add rfl rfl (by omega) ?_
         refine WO_mv (v := .s (.int _ _)) rfl ?_
         refine WO_nil ?_
         refine ⟨64 - (i + 1), _, by omega, (.cons_cons _ (.cons_cons _ (.cons_cons _ .slnil))), i + 1, by omega, rfl, rfl, rfl, rfl, ?_, ?_, ?_, rfl, rfl⟩
         ·refine congrArg (fun b => V.s (S.int .i64 b)) ?_
          first | exact (cntB_t (dif_t (by assumption))).symm | exact (cntB_f (dif_f (by assumption))).symm
         ·refine congrArg (fun b => V.s (S.int .i64 b)) ?_
          first | exact (cntB_t (decide_eq_true (by assumption))).symm | exact (cntB_f (decide_eq_false (fun h => h (by assumption)))).symm
         ·refine congrArg (fun b => V.s (S.int .i64 b)) ?_
          first | exact (cntB_t (decide_eq_true (by assumption))).symm | exact (cntB_f (decide_eq_false (fun h => h (by assumption)))).symm
        ·try simp only [NM] at h21
         refine WP_skip ?_
         refine WP_ops ?_
         refine WO_mv (v := .s (.int _ _)) rfl ?_
         refine WO_add rfl rfl (by omega) ?_
         refine WO_mv (v := .s (.int _ _)) rfl ?_
         refine WO_nil ?_
         refine ⟨64 - (i + 1), _, by omega, (.cons_cons _ (.cons_cons _ (.cons_cons _ .slnil))), i + 1, by omega, rfl, rfl, rfl, rfl, ?_, ?_, ?_, rfl, rfl⟩
         ·refine congrArg (fun b => V.s (S.int .i64 b)) ?_
          first | exact (cntB_t (dif_t (by assumption))).symm | exact (cntB_f (dif_f (by assumption))).symm
         ·refine congrArg (fun b => V.s (S.int .i64 b)) ?_
          first | exact (cntB_t (decide_eq_true (by assumption))).symm | exact (cntB_f (decide_eq_false (fun h => h (by assumption)))).symm
         ·refine congrArg (fun b => V.s (S.int .i64 b)) ?_
          first | exact (cntB_t (decide_eq_true (by assumption))).symm | exact (cntB_f (decide_eq_false (fun h => h (by assumption)))).symm
       ·try simp only [NM] at h20
        refine WP_skip ?_
        refine WP_seq ?_
        refine WP_ops ?_
        refine WO_mv (v := .s (.int _ _)) rfl ?_
        refine WO_fa (o' := 0) rfl rfl rfl ?_
        refine WO_ixa rfl rfl rfl (by omega) ?_
        refine WO_fa rfl rfl rfl ?_
        refine WO_ldI rfl rfl (.head _) rfl ?_
        refine WO_bin (r := .bool _) rfl rfl rfl ?_
        refine WO_nil ?_
        refine WP_cond rfl (fun h22 => ?_) (fun h22 => ?_)
        ·try simp only [NM] at h22
         refine WP_ops ?_
         refine WO_mv (v := .s (.int _ _)) rfl ?_
         refine WO_add rfl rfl (by omega) ?_
         refine WO_mv (v := .s (.int _ _)) rfl ?_
         refine WO_nil ?_
         refine WP_ops ?_
         refine WO_mv (v := .s (.int _ _)) rfl ?_
         refine WO_add rfl rfl (by omega) ?_
         refine WO_mv (v := .s (.int _ _)) rfl ?_
         refine WO_nil ?_
         refine ⟨64 - (i + 1), _, by omega, (.cons_cons _ (.cons_cons _ (.cons_cons _ .slnil))), i + 1, by omega, rfl, rfl, rfl, rfl, ?_, ?_, ?_, rfl, rfl⟩
         ·refine congrArg (fun b => V.s (S.int .i64 b)) ?_
          first | exact (cntB_t (dif_t (by assumption))).symm | exact (cntB_f (dif_f (by assumption))).symm
         ·refine congrArg (fun b => V.s (S.int .i64 b)) ?_
          first | exact (cntB_t (decide_eq_true (by assumption))).symm | exact (cntB_f (decide_eq_false (fun h => h (by assumption)))).symm
         ·refine congrArg (fun b => V.s (S.int .i64 b)) ?_
          first | exact (cntB_t (decide_eq_true (by assumption))).symm | exact (cntB_f (decide_eq_false (fun h => h (by assumption)))).symm
        ·try simp only [NM] at h22
         refine WP_skip ?_
         refine WP_ops ?_
         refine WO_mv (v := .s (.int _ _)) rfl ?_
         refine WO_add rfl rfl (by omega) ?_
         refine WO_mv (v := .s (.int _ _)) rfl ?_
         refine WO_nil ?_
         refine ⟨64 - (i + 1), _, by omega, (.cons_cons _ (.cons_cons _ (.cons_cons _ .slnil))), i + 1, by omega, rfl, rfl, rfl, rfl, ?_, ?_, ?_, rfl, rfl⟩
         ·refine congrArg (fun b => V.s (S.int .i64 b)) ?_
          first | exact (cntB_t (dif_t (by assumption))).symm | exact (cntB_f (dif_f (by assumption))).symm
         ·refine congrArg (fun b => V.s (S.int .i64 b)) ?_
          first | exact (cntB_t (decide_eq_true (by assumption))).symm | exact (cntB_f (decide_eq_false (fun h => h (by assumption)))).symm
         ·refine congrArg (fun b => V.s (S.int .i64 b)) ?_
          first | exact (cntB_t (decide_eq_true (by assumption))).symm | exact (cntB_f (decide_eq_false (fun h => h (by assumption)))).symm
      ·try simp only [NM] at h19
       refine WP_skip ?_
       refine WP_seq ?_
       refine WP_seq ?_
       refine WP_ops ?_
       refine WO_mv (v := .s (.int _ _)) rfl ?_
       refine WO_fa (o' := 0) rfl rfl rfl ?_
       refine WO_ixa rfl rfl rfl (by omega) ?_
       refine WO_fa rfl rfl rfl ?_
       refine WO_ldI (x := P (sqI i)) rfl rfl (.tail _ (.tail _ (.head _))) (rfl) ?_
       refine WO_bin (r := .bool _) rfl rfl rfl ?_
       refine WO_nil ?_
       refine WP_cond rfl (fun h23 => ?_) (fun h23 => ?_)
       ·try simp only [NM] at h23
        refine WP_ops ?_
        refine WO_mv (v := .s (.int _ _)) rfl ?_
        refine WO_add rfl rfl (by omega) ?_
        refine WO_mv (v := .s (.int _ _)) rfl ?_
        refine WO_nil ?_
        refine WP_seq ?_
        refine WP_ops ?_
        refine WO_mv (v := .s (.int _ _)) rfl ?_
        refine WO_fa (o' := 0) rfl rfl rfl ?_
        refine WO_ixa rfl rfl rfl (by omega) ?_
        refine WO_fa rfl rfl rfl ?_
        refine WO_ldI rfl rfl (.head _) rfl ?_
        refine WO_bin (r := .bool _) rfl rfl rfl ?_
        refine WO_nil ?_
        refine WP_cond rfl (fun h24 => ?_) (fun h24 => ?_)
        ·try simp only [NM] at h24
         refine WP_ops ?_
         refine WO_mv (v := .s (.int _ _)) rfl ?_
         refine WO_add rfl rfl (by omega) ?_
         refine WO_mv (v := .s (.int _ _)) rfl ?_
         refine WO_nil ?_
         refine WP_ops ?_
         refine WO_mv (v := .s (.int _ _)) rfl ?_
         refine WO_add rfl rfl (by omega) ?_
         refine WO_mv (v := .s (.int _ _)) rfl ?_
         refine WO_nil ?_
         refine ⟨64 - (i + 1), _, by omega, (.cons_cons _ (.cons_cons _ (.cons_cons _ .slnil))), i + 1, by omega, rfl, rfl, rfl, rfl, ?_, ?_, ?_, rfl, rfl⟩
         ·refine congrArg (fun b => V.s (S.int .i64 b)) ?_
          first | exact (cntB_t (dif_t (by assumption))).symm | exact (cntB_f (dif_f (by assumption))).symm
         ·refine congrArg (fun b => V.s (S.int .i64 b)) ?_
          first | exact (cntB_t (decide_eq_true (by assumption))).symm | exact (cntB_f (decide_eq_false (fun h => h (by assumption)))).symm
         ·refine congrArg (fun b => V.s (S.int .i64 b)) ?_
          first | exact (cntB_t (decide_eq_true (by assumption))).symm | exact (cntB_f (decide_eq_false (fun h => h (by assumption)))).symm
        ·try simp only [NM] at h24
         refine WP_skip ?_
         refine WP_ops ?_
         refine WO_mv (v := .s (.int _ _)) rfl ?_
         refine WO_add rfl rfl (by omega) ?_
         refine WO_mv (v := .s (.int _ _)) rfl ?_
         refine WO_nil ?_
         refine ⟨64 - (i + 1), _, by omega, (.cons_cons _ (.cons_cons _ (.cons_cons _ .slnil))), i + 1, by omega, rfl, rfl, rfl, rfl, ?_, ?_, ?_, rfl, rfl⟩
         ·refine congrArg (fun b => V.s (S.int .i64 b)) ?_
          first | exact (cntB_t (dif_t (by assumption))).symm | exact (cntB_f (dif_f (by assumption))).symm
         ·refine congrArg (fun b => V.s (S.int .i64 b)) ?_
          first | exact (cntB_t (decide_eq_true (by assumption))).symm | exact (cntB_f (decide_eq_false (fun h => h (by assumption)))).symm
         ·refine congrArg (fun b => V.s (S.int .i64 b)) ?_
          first | exact (cntB_t (decide_eq_true (by assumption))).symm | exact (cntB_f (decide_eq_false (fun h => h (by assumption)))).symm
       ·try simp only [NM] at h23
        refine WP_skip ?_
        refine WP_seq ?_
        refine WP_ops ?_
        refine WO_mv (v := .s (.int _ _)) rfl ?_
        refine WO_fa (o' := 0) rfl rfl rfl ?_
        refine WO_ixa rfl rfl rfl (by omega) ?_
        refine WO_fa rfl rfl rfl ?_
        refine WO_ldI rfl rfl (.head _) rfl ?_
        refine WO_bin (r := .bool _) rfl rfl rfl ?_
        refine WO_nil ?_
        refine WP_cond rfl (fun h25 => ?_) (fun h25 => ?_)
        ·try simp only [NM] at h25
         refine WP_ops ?_
         refine WO_mv (v := .s (.int _ _)) rfl ?_
         refine WO_add rfl rfl (by omega) ?_
         refine WO_mv (v := .s (.int _ _)) rfl ?_
         refine WO_nil ?_
         refine WP_ops ?_
         refine WO_mv (v := .s (.int _ _)) rfl ?_
         refine WO_add rfl rfl (by omega) ?_
         refine WO_mv (v := .s (.int _ _)) rfl ?_
         refine WO_nil ?_
         refine ⟨64 - (i + 1), _, by omega, (.cons_cons _ (.cons_cons _ (.cons_cons _ .slnil))), i + 1, by omega, rfl, rfl, rfl, rfl, ?_, ?_, ?_, rfl, rfl⟩
         ·refine congrArg (fun b => V.s (S.int .i64 b)) ?_
          first | exact (cntB_t (dif_t (by assumption))).symm | exact (cntB_f (dif_f (by assumption))).symm
         ·refine congrArg (fun b => V.s (S.int .i64 b)) ?_
          first | exact (cntB_t (decide_eq_true (by assumption))).symm | exact (cntB_f (decide_eq_false (fun h => h (by assumption)))).symm
         ·refine congrArg (fun b => V.s (S.int .i64 b)) ?_
          first | exact (cntB_t (decide_eq_true (by assumption))).symm | exact (cntB_f (decide_eq_false (fun h => h (by assumption)))).symm
        ·try simp only [NM] at h25
         refine WP_skip ?_
         refine WP_ops ?_
         refine WO_mv (v := .s (.int _ _)) rfl ?_
         refine WO_add rfl rfl (by omega) ?_
         refine WO_mv (v := .s (.int _ _)) rfl ?_
         refine WO_nil ?_
         refine ⟨64 - (i + 1), _, by omega, (.cons_cons _ (.cons_cons _ (.cons_cons _ .slnil))), i + 1, by omega, rfl, rfl, rfl, rfl, ?_, ?_, ?_, rfl, rfl⟩
         ·refine congrArg (fun b => V.s (S.int .i64 b)) ?_
          first | exact (cntB_t (dif_t (by assumption))).symm | exact (cntB_f (dif_f (by assumption))).symm
         ·refine congrArg (fun b => V.s (S.int .i64 b)) ?_
          first | exact (cntB_t (decide_eq_true (by assumption))).symm | exact (cntB_f (decide_eq_false (fun h => h (by assumption)))).symm
         ·refine congrArg (fun b => V.s (S.int .i64 b)) ?_
          first | exact (cntB_t (decide_eq_true (by assumption))).symm | exact (cntB_f (decide_eq_false (fun h => h (by assumption)))).symm
     ·try simp only [NM] at h18
      refine WP_exit ?_
      refine xhere ?_
      obtain rfl : i = 64 := by omega
      exact ⟨_, (.cons_cons _ (.cons_cons _ (.cons_cons _ .slnil))), 64, rfl, rfl, rfl, rfl, rfl, rfl, rfl, rfl, rfl⟩
    ·skip
     obtain ⟨i, hi, k4, k9, k10, k12, k13, k14, k15, rfl⟩ := hI
     refine WP_know (d := 4) (v := .ptr 0 0 133) k4 ?_
     refine WP_know (d := 9) (v := .ptr 1 0 3) k9 ?_
     refine WP_know (d := 10) (v := .ptr 2 0 133) k10 ?_
     refine WP_know (d := 12) (v := .s (.int .i64 (cntB (difB P (QM P M)) i))) k12 ?_
     refine WP_know (d := 13) (v := .s (.int .i64 (cntB (hasB P) i))) k13 ?_
     refine WP_know (d := 14) (v := .s (.int .i64 (cntB (hasB (QM P M)) i))) k14 ?_
     refine WP_know (d := 15) (v := .s (.int .i64 i)) k15 ?_
     refine WP_seq ?_
     refine WP_ops ?_
     refine WO_mv rfl ?_
     refine WO_nil ?_
     refine WP_seq ?_
     refine WP_seq ?_
     refine WP_ops ?_
     obtain rfl : i = 64 := hi
     have few := few_of hR hM he hkk
     have c1 := cntB_bd (difB P (QM P M)) 64
     have c2 := cntB_bd (hasB P) 64
     have c3 := cntB_bd (hasB (QM P M)) 64
     have hfl := right_full hR
     first | refine WO_ldA0 rfl rfl (.tail _ (.tail _ (.head _))) ?_ | refine WO_ldAI rfl rfl (.tail _ (.tail _ (.head _))) ?_
     first | refine WO_ldA0 rfl rfl (.tail _ (.head _)) ?_ | refine WO_ldAI rfl rfl (.tail _ (.head _)) ?_
     refine WO_call0 rfl (show RF AM 66 [.agg 133 (ia P), .agg 3 (ia (ovA (fun _ => 0) 0 3 M))] (.s (.int .i64 (takesM P (P (sqI (M 0))) (M 0) (M 1)))) from Takes_ok he) rfl rfl rfl ?_
     refine WO_bin (r := .bool _) rfl rfl rfl ?_
     refine WO_nil ?_
     refine WP_cond rfl (fun h26 => ?_) (fun h26 => ?_)
     ·try simp only [NM] at h26
      refine WP_ops ?_
      refine WO_mv rfl ?_
      refine WO_nil ?_
      refine WP_seq ?_
      refine WP_ops ?_
      refine WO_fa (o' := 0) rfl rfl rfl ?_
      refine WO_ldI (x := M 0) rfl rfl (.tail _ (.head _)) (rfl) ?_
      refine WO_fa (o' := 0) rfl rfl rfl ?_
      refine WO_ixa rfl rfl rfl (by omega) ?_
      first | refine WO_ldA0 rfl rfl (.tail _ (.tail _ (.head _))) ?_ | refine WO_ldAI rfl rfl (.tail _ (.tail _ (.head _))) ?_
      refine WO_fa (o' := 1) rfl rfl rfl ?_
      refine WO_ldI (x := M 1) rfl rfl (.tail _ (.head _)) (rfl) ?_
      refine WO_fa (o' := 0) rfl rfl rfl ?_
      refine WO_ixa rfl rfl rfl (by omega) ?_
      first | refine WO_ldA0 rfl rfl (.head _) ?_ | refine WO_ldAI rfl rfl (.head _) ?_
      refine WO_allocd ?_
      refine WO_allocd ?_
      refine WO_init0 (v := .agg _ _) rfl rfl rfl (.tail _ (.head _)) ?_
      refine WO_init0 (v := .agg _ _) rfl rfl rfl (.head _) ?_
      refine WO_revive (v := .agg _ _) rfl rfl rfl (.there .here) ?_
      refine WO_revive (v := .agg _ _) rfl rfl rfl .here ?_
      refine WO_nil ?_
      refine WP_seq ?_
      refine WP_ops ?_
      refine WO_fa (o' := 132) rfl rfl rfl ?_
      refine WO_ldI (x := P 132) rfl rfl (.tail _ (.tail _ (.tail _ (.tail _ (.head _))))) (rfl) ?_
      refine WO_mv (v := .s (.int _ _)) rfl ?_
      refine WO_nil ?_
      refine WP_seq ?_
      refine WP_seq ?_
      refine WP_ops ?_
      refine WO_fa (o' := 128) rfl rfl rfl ?_
      refine WO_ldI (x := P 128) rfl rfl (.tail _ (.tail _ (.tail _ (.tail _ (.head _))))) (rfl) ?_
      refine WO_bin (r := .bool _) rfl rfl rfl ?_
      refine WO_mv (v := .s (.bool _)) rfl ?_
      refine WO_case (t := 133) rfl (fun h27 => ?_) (fun h27 => ?_)
      ·try simp only [NM] at h27
       refine WO_gt rfl ?_
       refine WO_mv (v := .s (.int _ _)) rfl ?_
       refine WO_gt rfl ?_
       refine WO_bin (r := .bool _) rfl rfl rfl ?_
       refine WO_pick (v := .s (.bool _)) rfl rfl ?_
       refine WO_nil ?_
       refine WP_cond rfl (fun h28 => ?_) (fun h28 => ?_)
       ·try simp only [NM] at h28
        refine WP_ops ?_
        refine WO_mv (v := .s (.int _ _)) rfl ?_
        refine WO_add rfl rfl (by omega) ?_
        refine WO_mv (v := .s (.int _ _)) rfl ?_
        refine WO_nil ?_
        refine WP_seq ?_
        refine WP_seq ?_
        refine WP_ops ?_
        refine WO_mv (v := .s (.int _ _)) rfl ?_
        refine WO_bin rfl rfl (bin_gtr (decide_eq_false (by have := few.d1; have := few.d3; have := few.dp3; have := few.left; omega))) ?_
        refine WO_mv (v := .s (.bool _)) rfl ?_
        refine WO_gt rfl ?_
        refine WO_mv (v := .s (.int _ _)) rfl ?_
        refine WO_gt rfl ?_
        refine WO_bin (r := .bool _) rfl rfl rfl ?_
        refine WO_gt rfl ?_
        refine WO_mv (v := .s (.bool _)) rfl ?_
        refine WO_case (t := 144) rfl (fun h29 => ?_) (fun h29 => ?_)
        ·try simp only [NM] at h29
         refine WO_gt rfl ?_
         refine WO_fa (o' := 0) rfl rfl rfl ?_
         refine WO_gt rfl ?_
         refine WO_ldI (x := P (sqI (M 0))) rfl rfl (.tail _ (.head _)) (rfl) ?_
         refine WO_gt rfl ?_
         refine WO_bin rfl rfl (bin_neq (decide_eq_false (fun q => q (few.dp3 (by assumption))))) ?_
         refine WO_gt rfl ?_
         refine WO_pick (v := .s (.bool _)) rfl rfl ?_
         refine WO_pick (v := .s (.bool _)) rfl rfl ?_
         refine WO_mv (v := .s (.bool _)) rfl ?_
         refine WO_gt rfl ?_
         refine WO_mv (v := .s (.int _ _)) rfl ?_
         refine WO_gt rfl ?_
         refine WO_bin rfl rfl (bin_lss (decide_eq_false (by have := few.d1; have := few.d3; have := few.dp3; have := few.left; omega))) ?_
         refine WO_pick (v := .s (.bool _)) rfl rfl ?_
         refine WO_mv (v := .s (.bool _)) rfl ?_
         refine WO_gt rfl ?_
         refine WO_mv (v := .s (.int _ _)) rfl ?_
         refine WO_gt rfl ?_
         refine WO_mv (v := .s (.int _ _)) rfl ?_
         refine WO_gt rfl ?_
         refine WO_mv (v := .s (.int _ _)) rfl ?_
         refine WO_gt rfl ?_
         refine WO_sub rfl rfl (by omega) ?_
         refine WO_gt rfl ?_
         refine WO_bin rfl rfl (bin_neq (decide_eq_false (by have := few.left; omega))) ?_
         refine WO_pick (v := .s (.bool _)) rfl rfl ?_
         refine WO_mv (v := .s (.bool _)) rfl ?_
         refine WO_gt rfl ?_
         refine WO_fa (o' := 0) rfl rfl rfl ?_
         refine WO_gt rfl ?_
         refine WO_ldI (x := M 0) rfl rfl (.tail _ (.tail _ (.tail _ (.head _)))) (rfl) ?_
         refine WO_gt rfl ?_
         refine WO_fa (o' := 0) rfl rfl rfl ?_
         refine WO_gt rfl ?_
         refine WO_ixa rfl rfl rfl (by omega) ?_
         refine WO_gt rfl ?_
         first | refine WO_ldA0 rfl rfl (.tail _ (.tail _ (.head _))) ?_ | refine WO_ldAI rfl rfl (.tail _ (.tail _ (.head _))) ?_
         refine WO_gt rfl ?_
         refine WO_buildI rfl .nil ?_
         refine WO_gt rfl ?_
         refine WO_eqaC rfl rfl (eqI_f (fun j hj => few.gone j hj)) ?_
         refine WO_pick (v := .s (.bool _)) rfl rfl ?_
         refine WO_mv (v := .s (.bool _)) rfl ?_
         refine WO_gt rfl ?_
         refine WO_fa (o' := 1) rfl rfl rfl ?_
         refine WO_gt rfl ?_
         refine WO_ldI (x := QM P M (sqI (M 1) + 1)) rfl rfl (.head _) (rfl) ?_
         refine WO_gt rfl ?_
         refine WO_fa (o' := 1) rfl rfl rfl ?_
         refine WO_gt rfl ?_
         refine WO_ldI (x := P (sqI (M 0) + 1)) rfl rfl (.tail _ (.head _)) (rfl) ?_
         refine WO_gt rfl ?_
         refine WO_bin rfl rfl (bin_neq (decide_eq_false (fun q => q few.side))) ?_
         refine WO_pick (v := .s (.bool _)) rfl rfl ?_
         refine WO_mv (v := .s (.bool _)) rfl ?_
         refine WO_gt rfl ?_
         refine WO_fa (o' := 0) rfl rfl rfl ?_
         refine WO_gt rfl ?_
         refine WO_ldI (x := QM P M (sqI (M 1))) rfl rfl (.head _) (rfl) ?_
         refine WO_gt rfl ?_
         refine WO_fa (o' := 0) rfl rfl rfl ?_
         refine WO_gt rfl ?_
         refine WO_ldI (x := P (sqI (M 0))) rfl rfl (.tail _ (.head _)) (rfl) ?_
         refine WO_gt rfl ?_
         refine WO_bin (r := .bool _) rfl rfl rfl ?_
         refine WO_gt rfl ?_
         refine WO_fa (o' := 2) rfl rfl rfl ?_
         refine WO_gt rfl ?_
         refine WO_ldI (x := M 2) rfl rfl (.tail _ (.tail _ (.tail _ (.head _)))) (rfl) ?_
         refine WO_gt rfl ?_
         refine WO_bin (r := .bool _) rfl rfl rfl ?_
         refine WO_gt rfl ?_
         refine WO_eqbF rfl rfl (neq_eq few.kind) ?_
         refine WO_pick (v := .s (.bool _)) rfl rfl ?_
         refine WO_nil ?_
         refine WP_cond rfl (fun h => nomatch h) (fun _ => ?_)
         refine WP_skip ?_
         refine WP_seq ?_
         refine WP_ops ?_
         refine WO_fa (o' := 129) rfl rfl rfl ?_
         refine WO_ldI (x := QM P M 129) rfl rfl (.tail _ (.tail _ (.head _))) (rfl) ?_
         refine WO_fa (o' := 129) rfl rfl rfl ?_
         refine WO_ldI (x := P 129) rfl rfl (.tail _ (.tail _ (.tail _ (.tail _ (.head _))))) (rfl) ?_
         refine WO_bin rfl rfl bin_andNot ?_
         refine WO_bin rfl rfl (bin_eql (decide_eq_true (few.castle))) ?_
         refine WO_mv (v := .s (.bool _)) rfl ?_
         refine WO_gt rfl ?_
         refine WO_fa (o' := 132) rfl rfl rfl ?_
         refine WO_gt rfl ?_
         refine WO_ldI (x := QM P M 132) rfl rfl (.tail _ (.tail _ (.head _))) (rfl) ?_
         refine WO_gt rfl ?_
         refine WO_mv (v := .s (.int _ _)) rfl ?_
         refine WO_gt rfl ?_
         refine WO_bin rfl rfl (bin_eql (decide_eq_true (by have h1 := few.full1; have h0 := few.full0; omega))) ?_
         refine WO_pick (v := .s (.bool _)) rfl rfl ?_
         refine WO_mv (v := .s (.bool _)) rfl ?_
         refine WO_gt rfl ?_
         refine WO_fa (o' := 131) rfl rfl rfl ?_
         refine WO_gt rfl ?_
         refine WO_ldI (x := QM P M 131) rfl rfl (.tail _ (.tail _ (.head _))) (rfl) ?_
         refine WO_gt rfl ?_
         refine WO_bin (r := .bool _) rfl rfl rfl ?_
         refine WO_gt rfl ?_
         refine WO_mv (v := .s (.int _ _)) rfl ?_
         refine WO_gt rfl ?_
         refine WO_bin rfl rfl (bin_eql (decide_eq_true (by omega))) ?_
         refine WO_gt rfl ?_
         refine WO_mv (v := .s (.bool _)) rfl ?_
         refine WO_gf rfl rfl ?_
         refine WO_gf rfl rfl ?_
         refine WO_gf rfl rfl ?_
         refine WO_gt rfl ?_
         refine WO_pick (v := .s (.bool _)) rfl rfl ?_
         refine WO_gt rfl ?_
         refine WO_eqbT rfl rfl (by have h1 := few.half; first | exact eq_true (h1.2 (.inl (by omega))) | exact eq_eq (by omega)) ?_
         refine WO_pick (v := .s (.bool _)) rfl rfl ?_
         refine WO_mv (v := .s (.bool _)) rfl ?_
         refine WO_gt rfl ?_
         refine WO_fa (o' := 130) rfl rfl rfl ?_
         refine WO_gt rfl ?_
         refine WO_ldI (x := QM P M 130) rfl rfl (.tail _ (.tail _ (.head _))) (rfl) ?_
         refine WO_gt rfl ?_
         refine WO_bin (r := .bool _) rfl rfl rfl ?_
         refine WO_gt rfl ?_
         refine WO_mv (v := .s (.bool _)) rfl ?_
         refine WO_case (t := 217) rfl (fun h30 => ?_) (fun h30 => ?_)
         ·try simp only [NM] at h30
          refine WO_gf rfl rfl ?_
          refine WO_gf rfl rfl ?_
          refine WO_gf rfl rfl ?_
          refine WO_gt rfl ?_
          refine WO_pick (v := .s (.bool _)) rfl rfl ?_
          refine WO_pick (v := .s (.bool _)) rfl rfl ?_
          refine WO_mv (v := .s (.bool _)) rfl ?_
          refine WO_nil ?_
          refine WP_ret ?_
          refine ⟨_, RS_tmp (v := .s (.bool _)) rfl (RS_nil), ?_⟩
          rfl
         ·try simp only [NM] at h30
          refine WO_gt rfl ?_
          refine WO_fa (o' := 0) rfl rfl rfl ?_
          refine WO_gt rfl ?_
          refine WO_ldI (x := P (sqI (M 0))) rfl rfl (.tail _ (.head _)) (rfl) ?_
          refine WO_gt rfl ?_
          refine WO_bin rfl rfl (bin_eql (decide_eq_true (by have := few.over; omega))) ?_
          refine WO_gt rfl ?_
          refine WO_pick (v := .s (.bool _)) rfl rfl ?_
          refine WO_pick (v := .s (.bool _)) rfl rfl ?_
          refine WO_mv (v := .s (.bool _)) rfl ?_
          refine WO_nil ?_
          refine WP_ret ?_
          refine ⟨_, RS_tmp (v := .s (.bool _)) rfl (RS_nil), ?_⟩
          rfl
        ·try simp only [NM] at h29
         refine WO_gf rfl rfl ?_
         refine WO_gf rfl rfl ?_
         refine WO_gf rfl rfl ?_
         refine WO_gt rfl ?_
         refine WO_pick (v := .s (.bool _)) rfl rfl ?_
         refine WO_pick (v := .s (.bool _)) rfl rfl ?_
         refine WO_mv (v := .s (.bool _)) rfl ?_
         refine WO_gt rfl ?_
         refine WO_mv (v := .s (.int _ _)) rfl ?_
         refine WO_gt rfl ?_
         refine WO_bin rfl rfl (bin_lss (decide_eq_false (by have := few.d1; have := few.d3; have := few.dp3; have := few.left; omega))) ?_
         refine WO_pick (v := .s (.bool _)) rfl rfl ?_
         refine WO_mv (v := .s (.bool _)) rfl ?_
         refine WO_gt rfl ?_
         refine WO_mv (v := .s (.int _ _)) rfl ?_
         refine WO_gt rfl ?_
         refine WO_mv (v := .s (.int _ _)) rfl ?_
         refine WO_gt rfl ?_
         refine WO_mv (v := .s (.int _ _)) rfl ?_
         refine WO_gt rfl ?_
         refine WO_sub rfl rfl (by omega) ?_
         refine WO_gt rfl ?_
         refine WO_bin rfl rfl (bin_neq (decide_eq_false (by have := few.left; omega))) ?_
         refine WO_pick (v := .s (.bool _)) rfl rfl ?_
         refine WO_mv (v := .s (.bool _)) rfl ?_
         refine WO_gt rfl ?_
         refine WO_fa (o' := 0) rfl rfl rfl ?_
         refine WO_gt rfl ?_
         refine WO_ldI (x := M 0) rfl rfl (.tail _ (.tail _ (.tail _ (.head _)))) (rfl) ?_
         refine WO_gt rfl ?_
         refine WO_fa (o' := 0) rfl rfl rfl ?_
         refine WO_gt rfl ?_
         refine WO_ixa rfl rfl rfl (by omega) ?_
         refine WO_gt rfl ?_
         first | refine WO_ldA0 rfl rfl (.tail _ (.tail _ (.head _))) ?_ | refine WO_ldAI rfl rfl (.tail _ (.tail _ (.head _))) ?_
         refine WO_gt rfl ?_
         refine WO_buildI rfl .nil ?_
         refine WO_gt rfl ?_
         refine WO_eqaC rfl rfl (eqI_f (fun j hj => few.gone j hj)) ?_
         refine WO_pick (v := .s (.bool _)) rfl rfl ?_
         refine WO_mv (v := .s (.bool _)) rfl ?_
         refine WO_gt rfl ?_
         refine WO_fa (o' := 1) rfl rfl rfl ?_
         refine WO_gt rfl ?_
         refine WO_ldI (x := QM P M (sqI (M 1) + 1)) rfl rfl (.head _) (rfl) ?_
         refine WO_gt rfl ?_
         refine WO_fa (o' := 1) rfl rfl rfl ?_
         refine WO_gt rfl ?_
         refine WO_ldI (x := P (sqI (M 0) + 1)) rfl rfl (.tail _ (.head _)) (rfl) ?_
         refine WO_gt rfl ?_
         refine WO_bin rfl rfl (bin_neq (decide_eq_false (fun q => q few.side))) ?_
         refine WO_pick (v := .s (.bool _)) rfl rfl ?_
         refine WO_mv (v := .s (.bool _)) rfl ?_
         refine WO_gt rfl ?_
         refine WO_fa (o' := 0) rfl rfl rfl ?_
         refine WO_gt rfl ?_
         refine WO_ldI (x := QM P M (sqI (M 1))) rfl rfl (.head _) (rfl) ?_
         refine WO_gt rfl ?_
         refine WO_fa (o' := 0) rfl rfl rfl ?_
         refine WO_gt rfl ?_
         refine WO_ldI (x := P (sqI (M 0))) rfl rfl (.tail _ (.head _)) (rfl) ?_
         refine WO_gt rfl ?_
         refine WO_bin (r := .bool _) rfl rfl rfl ?_
         refine WO_gt rfl ?_
         refine WO_fa (o' := 2) rfl rfl rfl ?_
         refine WO_gt rfl ?_
         refine WO_ldI (x := M 2) rfl rfl (.tail _ (.tail _ (.tail _ (.head _)))) (rfl) ?_
         refine WO_gt rfl ?_
         refine WO_bin (r := .bool _) rfl rfl rfl ?_
         refine WO_gt rfl ?_
         refine WO_eqbF rfl rfl (neq_eq few.kind) ?_
         refine WO_pick (v := .s (.bool _)) rfl rfl ?_
         refine WO_nil ?_
         refine WP_cond rfl (fun h => nomatch h) (fun _ => ?_)
         refine WP_skip ?_
         refine WP_seq ?_
         refine WP_ops ?_
         refine WO_fa (o' := 129) rfl rfl rfl ?_
         refine WO_ldI (x := QM P M 129) rfl rfl (.tail _ (.tail _ (.head _))) (rfl) ?_
         refine WO_fa (o' := 129) rfl rfl rfl ?_
         refine WO_ldI (x := P 129) rfl rfl (.tail _ (.tail _ (.tail _ (.tail _ (.head _))))) (rfl) ?_
         refine WO_bin rfl rfl bin_andNot ?_
         refine WO_bin rfl rfl (bin_eql (decide_eq_true (few.castle))) ?_
         refine WO_mv (v := .s (.bool _)) rfl ?_
         refine WO_gt rfl ?_
         refine WO_fa (o' := 132) rfl rfl rfl ?_
         refine WO_gt rfl ?_
         refine WO_ldI (x := QM P M 132) rfl rfl (.tail _ (.tail _ (.head _))) (rfl) ?_
         refine WO_gt rfl ?_
         refine WO_mv (v := .s (.int _ _)) rfl ?_
         refine WO_gt rfl ?_
         refine WO_bin rfl rfl (bin_eql (decide_eq_true (by have h1 := few.full1; have h0 := few.full0; omega))) ?_
         refine WO_pick (v := .s (.bool _)) rfl rfl ?_
         refine WO_mv (v := .s (.bool _)) rfl ?_
         refine WO_gt rfl ?_
         refine WO_fa (o' := 131) rfl rfl rfl ?_
         refine WO_gt rfl ?_
         refine WO_ldI (x := QM P M 131) rfl rfl (.tail _ (.tail _ (.head _))) (rfl) ?_
         refine WO_gt rfl ?_
         refine WO_bin (r := .bool _) rfl rfl rfl ?_
         refine WO_gt rfl ?_
         refine WO_mv (v := .s (.int _ _)) rfl ?_
         refine WO_gt rfl ?_
         refine WO_bin rfl rfl (bin_eql (decide_eq_true (by omega))) ?_
         refine WO_gt rfl ?_
         refine WO_mv (v := .s (.bool _)) rfl ?_
         refine WO_gf rfl rfl ?_
         refine WO_gf rfl rfl ?_
         refine WO_gf rfl rfl ?_
         refine WO_gt rfl ?_
         refine WO_pick (v := .s (.bool _)) rfl rfl ?_
         refine WO_gt rfl ?_
         refine WO_eqbT rfl rfl (by have h1 := few.half; first | exact eq_true (h1.2 (.inl (by omega))) | exact eq_eq (by omega)) ?_
         refine WO_pick (v := .s (.bool _)) rfl rfl ?_
         refine WO_mv (v := .s (.bool _)) rfl ?_
         refine WO_gt rfl ?_
         refine WO_fa (o' := 130) rfl rfl rfl ?_
         refine WO_gt rfl ?_
         refine WO_ldI (x := QM P M 130) rfl rfl (.tail _ (.tail _ (.head _))) (rfl) ?_
         refine WO_gt rfl ?_
         refine WO_bin (r := .bool _) rfl rfl rfl ?_
         refine WO_gt rfl ?_
         refine WO_mv (v := .s (.bool _)) rfl ?_
         refine WO_case (t := 217) rfl (fun h31 => ?_) (fun h31 => ?_)
         ·try simp only [NM] at h31
          refine WO_gf rfl rfl ?_
          refine WO_gf rfl rfl ?_
          refine WO_gf rfl rfl ?_
          refine WO_gt rfl ?_
          refine WO_pick (v := .s (.bool _)) rfl rfl ?_
          refine WO_pick (v := .s (.bool _)) rfl rfl ?_
          refine WO_mv (v := .s (.bool _)) rfl ?_
          refine WO_nil ?_
          refine WP_ret ?_
          refine ⟨_, RS_tmp (v := .s (.bool _)) rfl (RS_nil), ?_⟩
          rfl
         ·try simp only [NM] at h31
          refine WO_gt rfl ?_
          refine WO_fa (o' := 0) rfl rfl rfl ?_
          refine WO_gt rfl ?_
          refine WO_ldI (x := P (sqI (M 0))) rfl rfl (.tail _ (.head _)) (rfl) ?_
          refine WO_gt rfl ?_
          refine WO_bin rfl rfl (bin_eql (decide_eq_true (by have := few.over; omega))) ?_
          refine WO_gt rfl ?_
          refine WO_pick (v := .s (.bool _)) rfl rfl ?_
          refine WO_pick (v := .s (.bool _)) rfl rfl ?_
          refine WO_mv (v := .s (.bool _)) rfl ?_
          refine WO_nil ?_
          refine WP_ret ?_
          refine ⟨_, RS_tmp (v := .s (.bool _)) rfl (RS_nil), ?_⟩
          rfl
       ·try simp only [NM] at h28
        refine WP_skip ?_
        refine WP_seq ?_
        refine WP_seq ?_
        refine WP_ops ?_
        refine WO_mv (v := .s (.int _ _)) rfl ?_
        refine WO_bin rfl rfl (bin_gtr (decide_eq_false (by have := few.d1; have := few.d3; have := few.dp3; have := few.left; omega))) ?_
        refine WO_mv (v := .s (.bool _)) rfl ?_
        refine WO_gt rfl ?_
        refine WO_mv (v := .s (.int _ _)) rfl ?_
        refine WO_gt rfl ?_
        refine WO_bin (r := .bool _) rfl rfl rfl ?_
        refine WO_gt rfl ?_
        refine WO_mv (v := .s (.bool _)) rfl ?_
        refine WO_case (t := 144) rfl (fun h32 => ?_) (fun h32 => ?_)
        ·try simp only [NM] at h32
         refine WO_gt rfl ?_
         refine WO_fa (o' := 0) rfl rfl rfl ?_
         refine WO_gt rfl ?_
         refine WO_ldI (x := P (sqI (M 0))) rfl rfl (.tail _ (.head _)) (rfl) ?_
         refine WO_gt rfl ?_
         refine WO_bin rfl rfl (bin_neq (decide_eq_false (fun q => q (few.dp3 (by assumption))))) ?_
         refine WO_gt rfl ?_
         refine WO_pick (v := .s (.bool _)) rfl rfl ?_
         refine WO_pick (v := .s (.bool _)) rfl rfl ?_
         refine WO_mv (v := .s (.bool _)) rfl ?_
         refine WO_gt rfl ?_
         refine WO_mv (v := .s (.int _ _)) rfl ?_
         refine WO_gt rfl ?_
         refine WO_bin rfl rfl (bin_lss (decide_eq_false (by have := few.d1; have := few.d3; have := few.dp3; have := few.left; omega))) ?_
         refine WO_pick (v := .s (.bool _)) rfl rfl ?_
         refine WO_mv (v := .s (.bool _)) rfl ?_
         refine WO_gt rfl ?_
         refine WO_mv (v := .s (.int _ _)) rfl ?_
         refine WO_gt rfl ?_
         refine WO_mv (v := .s (.int _ _)) rfl ?_
         refine WO_gt rfl ?_
         refine WO_mv (v := .s (.int _ _)) rfl ?_
         refine WO_gt rfl ?_
         refine WO_sub rfl rfl (by omega) ?_
         refine WO_gt rfl ?_
         refine WO_bin rfl rfl (bin_neq (decide_eq_false (by have := few.left; omega))) ?_
         refine WO_pick (v := .s (.bool _)) rfl rfl ?_
         refine WO_mv (v := .s (.bool _)) rfl ?_
         refine WO_gt rfl ?_
         refine WO_fa (o' := 0) rfl rfl rfl ?_
         refine WO_gt rfl ?_
         refine WO_ldI (x := M 0) rfl rfl (.tail _ (.tail _ (.tail _ (.head _)))) (rfl) ?_
         refine WO_gt rfl ?_
         refine WO_fa (o' := 0) rfl rfl rfl ?_
         refine WO_gt rfl ?_
         refine WO_ixa rfl rfl rfl (by omega) ?_
         refine WO_gt rfl ?_
         first | refine WO_ldA0 rfl rfl (.tail _ (.tail _ (.head _))) ?_ | refine WO_ldAI rfl rfl (.tail _ (.tail _ (.head _))) ?_
         refine WO_gt rfl ?_
         refine WO_buildI rfl .nil ?_
         refine WO_gt rfl ?_
         refine WO_eqaC rfl rfl (eqI_f (fun j hj => few.gone j hj)) ?_
         refine WO_pick (v := .s (.bool _)) rfl rfl ?_
         refine WO_mv (v := .s (.bool _)) rfl ?_
         refine WO_gt rfl ?_
         refine WO_fa (o' := 1) rfl rfl rfl ?_
         refine WO_gt rfl ?_
         refine WO_ldI (x := QM P M (sqI (M 1) + 1)) rfl rfl (.head _) (rfl) ?_
         refine WO_gt rfl ?_
         refine WO_fa (o' := 1) rfl rfl rfl ?_
         refine WO_gt rfl ?_
         refine WO_ldI (x := P (sqI (M 0) + 1)) rfl rfl (.tail _ (.head _)) (rfl) ?_
         refine WO_gt rfl ?_
         refine WO_bin rfl rfl (bin_neq (decide_eq_false (fun q => q few.side))) ?_
         refine WO_pick (v := .s (.bool _)) rfl rfl ?_
         refine WO_mv (v := .s (.bool _)) rfl ?_
         refine WO_gt rfl ?_
         refine WO_fa (o' := 0) rfl rfl rfl ?_
         refine WO_gt rfl ?_
         refine WO_ldI (x := QM P M (sqI (M 1))) rfl rfl (.head _) (rfl) ?_
         refine WO_gt rfl ?_
         refine WO_fa (o' := 0) rfl rfl rfl ?_
         refine WO_gt rfl ?_
         refine WO_ldI (x := P (sqI (M 0))) rfl rfl (.tail _ (.head _)) (rfl) ?_
         refine WO_gt rfl ?_
         refine WO_bin (r := .bool _) rfl rfl rfl ?_
         refine WO_gt rfl ?_
         refine WO_fa (o' := 2) rfl rfl rfl ?_
         refine WO_gt rfl ?_
         refine WO_ldI (x := M 2) rfl rfl (.tail _ (.tail _ (.tail _ (.head _)))) (rfl) ?_
         refine WO_gt rfl ?_
         refine WO_bin (r := .bool _) rfl rfl rfl ?_
         refine WO_gt rfl ?_
         refine WO_eqbF rfl rfl (neq_eq few.kind) ?_
         refine WO_pick (v := .s (.bool _)) rfl rfl ?_
         refine WO_nil ?_
         refine WP_cond rfl (fun h => nomatch h) (fun _ => ?_)
         refine WP_skip ?_
         refine WP_seq ?_
         refine WP_ops ?_
         refine WO_fa (o' := 129) rfl rfl rfl ?_
         refine WO_ldI (x := QM P M 129) rfl rfl (.tail _ (.tail _ (.head _))) (rfl) ?_
         refine WO_fa (o' := 129) rfl rfl rfl ?_
         refine WO_ldI (x := P 129) rfl rfl (.tail _ (.tail _ (.tail _ (.tail _ (.head _))))) (rfl) ?_
         refine WO_bin rfl rfl bin_andNot ?_
         refine WO_bin rfl rfl (bin_eql (decide_eq_true (few.castle))) ?_
         refine WO_mv (v := .s (.bool _)) rfl ?_
         refine WO_gt rfl ?_
         refine WO_fa (o' := 132) rfl rfl rfl ?_
         refine WO_gt rfl ?_
         refine WO_ldI (x := QM P M 132) rfl rfl (.tail _ (.tail _ (.head _))) (rfl) ?_
         refine WO_gt rfl ?_
         refine WO_mv (v := .s (.int _ _)) rfl ?_
         refine WO_gt rfl ?_
         refine WO_bin rfl rfl (bin_eql (decide_eq_true (by have h1 := few.full1; have h0 := few.full0; omega))) ?_
         refine WO_pick (v := .s (.bool _)) rfl rfl ?_
         refine WO_mv (v := .s (.bool _)) rfl ?_
         refine WO_gt rfl ?_
         refine WO_fa (o' := 131) rfl rfl rfl ?_
         refine WO_gt rfl ?_
         refine WO_ldI (x := QM P M 131) rfl rfl (.tail _ (.tail _ (.head _))) (rfl) ?_
         refine WO_gt rfl ?_
         refine WO_bin (r := .bool _) rfl rfl rfl ?_
         refine WO_gt rfl ?_
         refine WO_mv (v := .s (.int _ _)) rfl ?_
         refine WO_gt rfl ?_
         refine WO_bin rfl rfl (bin_eql (decide_eq_true (by omega))) ?_
         refine WO_gt rfl ?_
         refine WO_mv (v := .s (.bool _)) rfl ?_
         refine WO_gf rfl rfl ?_
         refine WO_gf rfl rfl ?_
         refine WO_gf rfl rfl ?_
         refine WO_gt rfl ?_
         refine WO_pick (v := .s (.bool _)) rfl rfl ?_
         refine WO_gt rfl ?_
         refine WO_eqbT rfl rfl (by have h1 := few.half; first | exact eq_true (h1.2 (.inl (by omega))) | exact eq_eq (by omega)) ?_
         refine WO_pick (v := .s (.bool _)) rfl rfl ?_
         refine WO_mv (v := .s (.bool _)) rfl ?_
         refine WO_gt rfl ?_
         refine WO_fa (o' := 130) rfl rfl rfl ?_
         refine WO_gt rfl ?_
         refine WO_ldI (x := QM P M 130) rfl rfl (.tail _ (.tail _ (.head _))) (rfl) ?_
         refine WO_gt rfl ?_
         refine WO_bin (r := .bool _) rfl rfl rfl ?_
         refine WO_gt rfl ?_
         refine WO_mv (v := .s (.bool _)) rfl ?_
         refine WO_case (t := 217) rfl (fun h33 => ?_) (fun h33 => ?_)
         ·try simp only [NM] at h33
          refine WO_gf rfl rfl ?_
          refine WO_gf rfl rfl ?_
          refine WO_gf rfl rfl ?_
          refine WO_gt rfl ?_
          refine WO_pick (v := .s (.bool _)) rfl rfl ?_
          refine WO_pick (v := .s (.bool _)) rfl rfl ?_
          refine WO_mv (v := .s (.bool _)) rfl ?_
          refine WO_nil ?_
          refine WP_ret ?_
          refine ⟨_, RS_tmp (v := .s (.bool _)) rfl (RS_nil), ?_⟩
          rfl
         ·try simp only [NM] at h33
          refine WO_gt rfl ?_
          refine WO_fa (o' := 0) rfl rfl rfl ?_
          refine WO_gt rfl ?_
          refine WO_ldI (x := P (sqI (M 0))) rfl rfl (.tail _ (.head _)) (rfl) ?_
          refine WO_gt rfl ?_
          refine WO_bin rfl rfl (bin_eql (decide_eq_true (by have := few.over; omega))) ?_
          refine WO_gt rfl ?_
          refine WO_pick (v := .s (.bool _)) rfl rfl ?_
          refine WO_pick (v := .s (.bool _)) rfl rfl ?_
          refine WO_mv (v := .s (.bool _)) rfl ?_
          refine WO_nil ?_
          refine WP_ret ?_
          refine ⟨_, RS_tmp (v := .s (.bool _)) rfl (RS_nil), ?_⟩
          rfl
        ·try simp only [NM] at h32
         refine WO_gf rfl rfl ?_
         refine WO_gf rfl rfl ?_
         refine WO_gf rfl rfl ?_
         refine WO_gt rfl ?_
         refine WO_pick (v := .s (.bool _)) rfl rfl ?_
         refine WO_pick (v := .s (.bool _)) rfl rfl ?_
         refine WO_mv (v := .s (.bool _)) rfl ?_
         refine WO_gt rfl ?_
         refine WO_mv (v := .s (.int _ _)) rfl ?_
         refine WO_gt rfl ?_
         refine WO_bin rfl rfl (bin_lss (decide_eq_false (by have := few.d1; have := few.d3; have := few.dp3; have := few.left; omega))) ?_
         refine WO_pick (v := .s (.bool _)) rfl rfl ?_
         refine WO_mv (v := .s (.bool _)) rfl ?_
         refine WO_gt rfl ?_
         refine WO_mv (v := .s (.int _ _)) rfl ?_
         refine WO_gt rfl ?_
         refine WO_mv (v := .s (.int _ _)) rfl ?_
         refine WO_gt rfl ?_
         refine WO_mv (v := .s (.int _ _)) rfl ?_
         refine WO_gt rfl ?_
         refine WO_sub rfl rfl (by omega) ?_
         refine WO_gt rfl ?_
         refine WO_bin rfl rfl (bin_neq (decide_eq_false (by have := few.left; omega))) ?_
         refine WO_pick (v := .s (.bool _)) rfl rfl ?_
         refine WO_mv (v := .s (.bool _)) rfl ?_
         refine WO_gt rfl ?_
         refine WO_fa (o' := 0) rfl rfl rfl ?_
         refine WO_gt rfl ?_
         refine WO_ldI (x := M 0) rfl rfl (.tail _ (.tail _ (.tail _ (.head _)))) (rfl) ?_
         refine WO_gt rfl ?_
         refine WO_fa (o' := 0) rfl rfl rfl ?_
         refine WO_gt rfl ?_
         refine WO_ixa rfl rfl rfl (by omega) ?_
         refine WO_gt rfl ?_
         first | refine WO_ldA0 rfl rfl (.tail _ (.tail _ (.head _))) ?_ | refine WO_ldAI rfl rfl (.tail _ (.tail _ (.head _))) ?_
         refine WO_gt rfl ?_
         refine WO_buildI rfl .nil ?_
         refine WO_gt rfl ?_
         refine WO_eqaC rfl rfl (eqI_f (fun j hj => few.gone j hj)) ?_
         refine WO_pick (v := .s (.bool _)) rfl rfl ?_
         refine WO_mv (v := .s (.bool _)) rfl ?_
         refine WO_gt rfl ?_
         refine WO_fa (o' := 1) rfl rfl rfl ?_
         refine WO_gt rfl ?_
         refine WO_ldI (x := QM P M (sqI (M 1) + 1)) rfl rfl (.head _) (rfl) ?_
         refine WO_gt rfl ?_
         refine WO_fa (o' := 1) rfl rfl rfl ?_
         refine WO_gt rfl ?_
         refine WO_ldI (x := P (sqI (M 0) + 1)) rfl rfl (.tail _ (.head _)) (rfl) ?_
         refine WO_gt rfl ?_
         refine WO_bin rfl rfl (bin_neq (decide_eq_false (fun q => q few.side))) ?_
         refine WO_pick (v := .s (.bool _)) rfl rfl ?_
         refine WO_mv (v := .s (.bool _)) rfl ?_
         refine WO_gt rfl ?_
         refine WO_fa (o' := 0) rfl rfl rfl ?_
         refine WO_gt rfl ?_
         refine WO_ldI (x := QM P M (sqI (M 1))) rfl rfl (.head _) (rfl) ?_
         refine WO_gt rfl ?_
         refine WO_fa (o' := 0) rfl rfl rfl ?_
         refine WO_gt rfl ?_
         refine WO_ldI (x := P (sqI (M 0))) rfl rfl (.tail _ (.head _)) (rfl) ?_
         refine WO_gt rfl ?_
         refine WO_bin (r := .bool _) rfl rfl rfl ?_
         refine WO_gt rfl ?_
         refine WO_fa (o' := 2) rfl rfl rfl ?_
         refine WO_gt rfl ?_
         refine WO_ldI (x := M 2) rfl rfl (.tail _ (.tail _ (.tail _ (.head _)))) (rfl) ?_
         refine WO_gt rfl ?_
         refine WO_bin (r := .bool _) rfl rfl rfl ?_
         refine WO_gt rfl ?_
         refine WO_eqbF rfl rfl (neq_eq few.kind) ?_
         refine WO_pick (v := .s (.bool _)) rfl rfl ?_
         refine WO_nil ?_
         refine WP_cond rfl (fun h => nomatch h) (fun _ => ?_)
         refine WP_skip ?_
         refine WP_seq ?_
         refine WP_ops ?_
         refine WO_fa (o' := 129) rfl rfl rfl ?_
         refine WO_ldI (x := QM P M 129) rfl rfl (.tail _ (.tail _ (.head _))) (rfl) ?_
         refine WO_fa (o' := 129) rfl rfl rfl ?_
         refine WO_ldI (x := P 129) rfl rfl (.tail _ (.tail _ (.tail _ (.tail _ (.head _))))) (rfl) ?_
         refine WO_bin rfl rfl bin_andNot ?_
         refine WO_bin rfl rfl (bin_eql (decide_eq_true (few.castle))) ?_
         refine WO_mv (v := .s (.bool _)) rfl ?_
         refine WO_gt rfl ?_
         refine WO_fa (o' := 132) rfl rfl rfl ?_
         refine WO_gt rfl ?_
         refine WO_ldI (x := QM P M 132) rfl rfl (.tail _ (.tail _ (.head _))) (rfl) ?_
         refine WO_gt rfl ?_
         refine WO_mv (v := .s (.int _ _)) rfl ?_
         refine WO_gt rfl ?_
         refine WO_bin rfl rfl (bin_eql (decide_eq_true (by have h1 := few.full1; have h0 := few.full0; omega))) ?_
         refine WO_pick (v := .s (.bool _)) rfl rfl ?_
         refine WO_mv (v := .s (.bool _)) rfl ?_
         refine WO_gt rfl ?_
         refine WO_fa (o' := 131) rfl rfl rfl ?_
         refine WO_gt rfl ?_
         refine WO_ldI (x := QM P M 131) rfl rfl (.tail _ (.tail _ (.head _))) (rfl) ?_
         refine WO_gt rfl ?_
         refine WO_bin (r := .bool _) rfl rfl rfl ?_
         refine WO_gt rfl ?_
         refine WO_mv (v := .s (.int _ _)) rfl ?_
         refine WO_gt rfl ?_
         refine WO_bin rfl rfl (bin_eql (decide_eq_true (by omega))) ?_
         refine WO_gt rfl ?_
         refine WO_mv (v := .s (.bool _)) rfl ?_
         refine WO_gf rfl rfl ?_
         refine WO_gf rfl rfl ?_
         refine WO_gf rfl rfl ?_
         refine WO_gt rfl ?_
         refine WO_pick (v := .s (.bool _)) rfl rfl ?_
         refine WO_gt rfl ?_
         refine WO_eqbT rfl rfl (by have h1 := few.half; first | exact eq_true (h1.2 (.inl (by omega))) | exact eq_eq (by omega)) ?_
         refine WO_pick (v := .s (.bool _)) rfl rfl ?_
         refine WO_mv (v := .s (.bool _)) rfl ?_
         refine WO_gt rfl ?_
         refine WO_fa (o' := 130) rfl rfl rfl ?_
         refine WO_gt rfl ?_
         refine WO_ldI (x := QM P M 130) rfl rfl (.tail _ (.tail _ (.head _))) (rfl) ?_
         refine WO_gt rfl ?_
         refine WO_bin (r := .bool _) rfl rfl rfl ?_
         refine WO_gt rfl ?_
         refine WO_mv (v := .s (.bool _)) rfl ?_
         refine WO_case (t := 217) rfl (fun h34 => ?_) (fun h34 => ?_)
         ·try simp only [NM] at h34
          refine WO_gf rfl rfl ?_
          refine WO_gf rfl rfl ?_
          refine WO_gf rfl rfl ?_
          refine WO_gt rfl ?_
          refine WO_pick (v := .s (.bool _)) rfl rfl ?_
          refine WO_pick (v := .s (.bool _)) rfl rfl ?_
          refine WO_mv (v := .s (.bool _)) rfl ?_
          refine WO_nil ?_
          refine WP_ret ?_
          refine ⟨_, RS_tmp (v := .s (.bool _)) rfl (RS_nil), ?_⟩
          rfl
         ·try simp only [NM] at h34
          refine WO_gt rfl ?_
          refine WO_fa (o' := 0) rfl rfl rfl ?_
          refine WO_gt rfl ?_
          refine WO_ldI (x := P (sqI (M 0))) rfl rfl (.tail _ (.head _)) (rfl) ?_
          refine WO_gt rfl ?_
          refine WO_bin rfl rfl (bin_eql (decide_eq_true (by have := few.over; omega))) ?_
          refine WO_gt rfl ?_
          refine WO_pick (v := .s (.bool _)) rfl rfl ?_
          refine WO_pick (v := .s (.bool _)) rfl rfl ?_
          refine WO_mv (v := .s (.bool _)) rfl ?_
          refine WO_nil ?_
          refine WP_ret ?_
          refine ⟨_, RS_tmp (v := .s (.bool _)) rfl (RS_nil), ?_⟩
          rfl
      ·try simp only [NM] at h27
       refine WO_gf rfl rfl ?_
       refine WO_gf rfl rfl ?_
       refine WO_pick (v := .s (.bool _)) rfl rfl ?_
       refine WO_nil ?_
       refine WP_cond rfl (fun h => nomatch h) (fun _ => ?_)
       refine WP_skip ?_
       refine WP_seq ?_
       refine WP_seq ?_
       refine WP_ops ?_
       refine WO_mv (v := .s (.int _ _)) rfl ?_
       refine WO_bin rfl rfl (bin_gtr (decide_eq_false (by have := few.d1; have := few.d3; have := few.dp3; have := few.left; omega))) ?_
       refine WO_mv (v := .s (.bool _)) rfl ?_
       refine WO_gt rfl ?_
       refine WO_mv (v := .s (.int _ _)) rfl ?_
       refine WO_gt rfl ?_
       refine WO_bin (r := .bool _) rfl rfl rfl ?_
       refine WO_gt rfl ?_
       refine WO_mv (v := .s (.bool _)) rfl ?_
       refine WO_case (t := 144) rfl (fun h35 => ?_) (fun h35 => ?_)
       ·try simp only [NM] at h35
        refine WO_gt rfl ?_
        refine WO_fa (o' := 0) rfl rfl rfl ?_
        refine WO_gt rfl ?_
        refine WO_ldI (x := P (sqI (M 0))) rfl rfl (.tail _ (.head _)) (rfl) ?_
        refine WO_gt rfl ?_
        refine WO_bin rfl rfl (bin_neq (decide_eq_false (fun q => q (few.dp3 (by assumption))))) ?_
        refine WO_gt rfl ?_
        refine WO_pick (v := .s (.bool _)) rfl rfl ?_
        refine WO_pick (v := .s (.bool _)) rfl rfl ?_
        refine WO_mv (v := .s (.bool _)) rfl ?_
        refine WO_gt rfl ?_
        refine WO_mv (v := .s (.int _ _)) rfl ?_
        refine WO_gt rfl ?_
        refine WO_bin rfl rfl (bin_lss (decide_eq_false (by have := few.d1; have := few.d3; have := few.dp3; have := few.left; omega))) ?_
        refine WO_pick (v := .s (.bool _)) rfl rfl ?_
        refine WO_mv (v := .s (.bool _)) rfl ?_
        refine WO_gt rfl ?_
        refine WO_mv (v := .s (.int _ _)) rfl ?_
        refine WO_gt rfl ?_
        refine WO_mv (v := .s (.int _ _)) rfl ?_
        refine WO_gt rfl ?_
        refine WO_mv (v := .s (.int _ _)) rfl ?_
        refine WO_gt rfl ?_
        refine WO_sub rfl rfl (by omega) ?_
        refine WO_gt rfl ?_
        refine WO_bin rfl rfl (bin_neq (decide_eq_false (by have := few.left; omega))) ?_
        refine WO_pick (v := .s (.bool _)) rfl rfl ?_
        refine WO_mv (v := .s (.bool _)) rfl ?_
        refine WO_gt rfl ?_
        refine WO_fa (o' := 0) rfl rfl rfl ?_
        refine WO_gt rfl ?_
        refine WO_ldI (x := M 0) rfl rfl (.tail _ (.tail _ (.tail _ (.head _)))) (rfl) ?_
        refine WO_gt rfl ?_
        refine WO_fa (o' := 0) rfl rfl rfl ?_
        refine WO_gt rfl ?_
        refine WO_ixa rfl rfl rfl (by omega) ?_
        refine WO_gt rfl ?_
        first | refine WO_ldA0 rfl rfl (.tail _ (.tail _ (.head _))) ?_ | refine WO_ldAI rfl rfl (.tail _ (.tail _ (.head _))) ?_
        refine WO_gt rfl ?_
        refine WO_buildI rfl .nil ?_
        refine WO_gt rfl ?_
        refine WO_eqaC rfl rfl (eqI_f (fun j hj => few.gone j hj)) ?_
        refine WO_pick (v := .s (.bool _)) rfl rfl ?_
        refine WO_mv (v := .s (.bool _)) rfl ?_
        refine WO_gt rfl ?_
        refine WO_fa (o' := 1) rfl rfl rfl ?_
        refine WO_gt rfl ?_
        refine WO_ldI (x := QM P M (sqI (M 1) + 1)) rfl rfl (.head _) (rfl) ?_
        refine WO_gt rfl ?_
        refine WO_fa (o' := 1) rfl rfl rfl ?_
        refine WO_gt rfl ?_
        refine WO_ldI (x := P (sqI (M 0) + 1)) rfl rfl (.tail _ (.head _)) (rfl) ?_
        refine WO_gt rfl ?_
        refine WO_bin rfl rfl (bin_neq (decide_eq_false (fun q => q few.side))) ?_
        refine WO_pick (v := .s (.bool _)) rfl rfl ?_
        refine WO_mv (v := .s (.bool _)) rfl ?_
        refine WO_gt rfl ?_
        refine WO_fa (o' := 0) rfl rfl rfl ?_
        refine WO_gt rfl ?_
        refine WO_ldI (x := QM P M (sqI (M 1))) rfl rfl (.head _) (rfl) ?_
        refine WO_gt rfl ?_
        refine WO_fa (o' := 0) rfl rfl rfl ?_
        refine WO_gt rfl ?_
        refine WO_ldI (x := P (sqI (M 0))) rfl rfl (.tail _ (.head _)) (rfl) ?_
        refine WO_gt rfl ?_
        refine WO_bin (r := .bool _) rfl rfl rfl ?_
        refine WO_gt rfl ?_
        refine WO_fa (o' := 2) rfl rfl rfl ?_
        refine WO_gt rfl ?_
        refine WO_ldI (x := M 2) rfl rfl (.tail _ (.tail _ (.tail _ (.head _)))) (rfl) ?_
        refine WO_gt rfl ?_
        refine WO_bin (r := .bool _) rfl rfl rfl ?_
        refine WO_gt rfl ?_
        refine WO_eqbF rfl rfl (neq_eq few.kind) ?_
        refine WO_pick (v := .s (.bool _)) rfl rfl ?_
        refine WO_nil ?_
        refine WP_cond rfl (fun h => nomatch h) (fun _ => ?_)
        refine WP_skip ?_
        refine WP_seq ?_
        refine WP_ops ?_
        refine WO_fa (o' := 129) rfl rfl rfl ?_
        refine WO_ldI (x := QM P M 129) rfl rfl (.tail _ (.tail _ (.head _))) (rfl) ?_
        refine WO_fa (o' := 129) rfl rfl rfl ?_
        refine WO_ldI (x := P 129) rfl rfl (.tail _ (.tail _ (.tail _ (.tail _ (.head _))))) (rfl) ?_
        refine WO_bin rfl rfl bin_andNot ?_
        refine WO_bin rfl rfl (bin_eql (decide_eq_true (few.castle))) ?_
        refine WO_mv (v := .s (.bool _)) rfl ?_
        refine WO_gt rfl ?_
        refine WO_fa (o' := 132) rfl rfl rfl ?_
        refine WO_gt rfl ?_
        refine WO_ldI (x := QM P M 132) rfl rfl (.tail _ (.tail _ (.head _))) (rfl) ?_
        refine WO_gt rfl ?_
        refine WO_mv (v := .s (.int _ _)) rfl ?_
        refine WO_gt rfl ?_
        refine WO_bin rfl rfl (bin_eql (decide_eq_true (by have h1 := few.full1; have h0 := few.full0; omega))) ?_
        refine WO_pick (v := .s (.bool _)) rfl rfl ?_
        refine WO_mv (v := .s (.bool _)) rfl ?_
        refine WO_gt rfl ?_
        refine WO_fa (o' := 131) rfl rfl rfl ?_
        refine WO_gt rfl ?_
        refine WO_ldI (x := QM P M 131) rfl rfl (.tail _ (.tail _ (.head _))) (rfl) ?_
        refine WO_gt rfl ?_
        refine WO_bin (r := .bool _) rfl rfl rfl ?_
        refine WO_gt rfl ?_
        refine WO_mv (v := .s (.int _ _)) rfl ?_
        refine WO_gt rfl ?_
        refine WO_bin rfl rfl (bin_eql (decide_eq_true (by omega))) ?_
        refine WO_gt rfl ?_
        refine WO_mv (v := .s (.bool _)) rfl ?_
        refine WO_gf rfl rfl ?_
        refine WO_gf rfl rfl ?_
        refine WO_gf rfl rfl ?_
        refine WO_gt rfl ?_
        refine WO_pick (v := .s (.bool _)) rfl rfl ?_
        refine WO_gt rfl ?_
        refine WO_eqbT rfl rfl (by have h1 := few.half; first | exact eq_true (h1.2 (.inl (by omega))) | exact eq_eq (by omega)) ?_
        refine WO_pick (v := .s (.bool _)) rfl rfl ?_
        refine WO_mv (v := .s (.bool _)) rfl ?_
        refine WO_gt rfl ?_
        refine WO_fa (o' := 130) rfl rfl rfl ?_
        refine WO_gt rfl ?_
        refine WO_ldI (x := QM P M 130) rfl rfl (.tail _ (.tail _ (.head _))) (rfl) ?_
        refine WO_gt rfl ?_
        refine WO_bin (r := .bool _) rfl rfl rfl ?_
        refine WO_gt rfl ?_
        refine WO_mv (v := .s (.bool _)) rfl ?_
        refine WO_case (t := 217) rfl (fun h36 => ?_) (fun h36 => ?_)
        ·try simp only [NM] at h36
         refine WO_gf rfl rfl ?_
         refine WO_gf rfl rfl ?_
         refine WO_gf rfl rfl ?_
         refine WO_gt rfl ?_
         refine WO_pick (v := .s (.bool _)) rfl rfl ?_
         refine WO_pick (v := .s (.bool _)) rfl rfl ?_
         refine WO_mv (v := .s (.bool _)) rfl ?_
         refine WO_nil ?_
         refine WP_ret ?_
         refine ⟨_, RS_tmp (v := .s (.bool _)) rfl (RS_nil), ?_⟩
         rfl
        ·try simp only [NM] at h36
         refine WO_gt rfl ?_
         refine WO_fa (o' := 0) rfl rfl rfl ?_
         refine WO_gt rfl ?_
         refine WO_ldI (x := P (sqI (M 0))) rfl rfl (.tail _ (.head _)) (rfl) ?_
         refine WO_gt rfl ?_
         refine WO_bin rfl rfl (bin_eql (decide_eq_true (by have := few.over; omega))) ?_
         refine WO_gt rfl ?_
         refine WO_pick (v := .s (.bool _)) rfl rfl ?_
         refine WO_pick (v := .s (.bool _)) rfl rfl ?_
         refine WO_mv (v := .s (.bool _)) rfl ?_
         refine WO_nil ?_
         refine WP_ret ?_
         refine ⟨_, RS_tmp (v := .s (.bool _)) rfl (RS_nil), ?_⟩
         rfl
       ·try simp only [NM] at h35
        refine WO_gf rfl rfl ?_
        refine WO_gf rfl rfl ?_
        refine WO_gf rfl rfl ?_
        refine WO_gt rfl ?_
        refine WO_pick (v := .s (.bool _)) rfl rfl ?_
        refine WO_pick (v := .s (.bool _)) rfl rfl ?_
        refine WO_mv (v := .s (.bool _)) rfl ?_
        refine WO_gt rfl ?_
        refine WO_mv (v := .s (.int _ _)) rfl ?_
        refine WO_gt rfl ?_
        refine WO_bin rfl rfl (bin_lss (decide_eq_false (by have := few.d1; have := few.d3; have := few.dp3; have := few.left; omega))) ?_
        refine WO_pick (v := .s (.bool _)) rfl rfl ?_
        refine WO_mv (v := .s (.bool _)) rfl ?_
        refine WO_gt rfl ?_
        refine WO_mv (v := .s (.int _ _)) rfl ?_
        refine WO_gt rfl ?_
        refine WO_mv (v := .s (.int _ _)) rfl ?_
        refine WO_gt rfl ?_
        refine WO_mv (v := .s (.int _ _)) rfl ?_
        refine WO_gt rfl ?_
        refine WO_sub rfl rfl (by omega) ?_
        refine WO_gt rfl ?_
        refine WO_bin rfl rfl (bin_neq (decide_eq_false (by have := few.left; omega))) ?_
        refine WO_pick (v := .s (.bool _)) rfl rfl ?_
        refine WO_mv (v := .s (.bool _)) rfl ?_
        refine WO_gt rfl ?_
        refine WO_fa (o' := 0) rfl rfl rfl ?_
        refine WO_gt rfl ?_
        refine WO_ldI (x := M 0) rfl rfl (.tail _ (.tail _ (.tail _ (.head _)))) (rfl) ?_
        refine WO_gt rfl ?_
        refine WO_fa (o' := 0) rfl rfl rfl ?_
        refine WO_gt rfl ?_
        refine WO_ixa rfl rfl rfl (by omega) ?_
        refine WO_gt rfl ?_
        first | refine WO_ldA0 rfl rfl (.tail _ (.tail _ (.head _))) ?_ | refine WO_ldAI rfl rfl (.tail _ (.tail _ (.head _))) ?_
        refine WO_gt rfl ?_
        refine WO_buildI rfl .nil ?_
        refine WO_gt rfl ?_
        refine WO_eqaC rfl rfl (eqI_f (fun j hj => few.gone j hj)) ?_
        refine WO_pick (v := .s (.bool _)) rfl rfl ?_
        refine WO_mv (v := .s (.bool _)) rfl ?_
        refine WO_gt rfl ?_
        refine WO_fa (o' := 1) rfl rfl rfl ?_
        refine WO_gt rfl ?_
        refine WO_ldI (x := QM P M (sqI (M 1) + 1)) rfl rfl (.head _) (rfl) ?_
        refine WO_gt rfl ?_
        refine WO_fa (o' := 1) rfl rfl rfl ?_
        refine WO_gt rfl ?_
        refine WO_ldI (x := P (sqI (M 0) + 1)) rfl rfl (.tail _ (.head _)) (rfl) ?_
        refine WO_gt rfl ?_
        refine WO_bin rfl rfl (bin_neq (decide_eq_false (fun q => q few.side))) ?_
        refine WO_pick (v := .s (.bool _)) rfl rfl ?_
        refine WO_mv (v := .s (.bool _)) rfl ?_
        refine WO_gt rfl ?_
        refine WO_fa (o' := 0) rfl rfl rfl ?_
        refine WO_gt rfl ?_
        refine WO_ldI (x := QM P M (sqI (M 1))) rfl rfl (.head _) (rfl) ?_
        refine WO_gt rfl ?_
        refine WO_fa (o' := 0) rfl rfl rfl ?_
        refine WO_gt rfl ?_
        refine WO_ldI (x := P (sqI (M 0))) rfl rfl (.tail _ (.head _)) (rfl) ?_
        refine WO_gt rfl ?_
        refine WO_bin (r := .bool _) rfl rfl rfl ?_
        refine WO_gt rfl ?_
        refine WO_fa (o' := 2) rfl rfl rfl ?_
        refine WO_gt rfl ?_
        refine WO_ldI (x := M 2) rfl rfl (.tail _ (.tail _ (.tail _ (.head _)))) (rfl) ?_
        refine WO_gt rfl ?_
        refine WO_bin (r := .bool _) rfl rfl rfl ?_
        refine WO_gt rfl ?_
        refine WO_eqbF rfl rfl (neq_eq few.kind) ?_
        refine WO_pick (v := .s (.bool _)) rfl rfl ?_
        refine WO_nil ?_
        refine WP_cond rfl (fun h => nomatch h) (fun _ => ?_)
        refine WP_skip ?_
        refine WP_seq ?_
        refine WP_ops ?_
        refine WO_fa (o' := 129) rfl rfl rfl ?_
        refine WO_ldI (x := QM P M 129) rfl rfl (.tail _ (.tail _ (.head _))) (rfl) ?_
        refine WO_fa (o' := 129) rfl rfl rfl ?_
        refine WO_ldI (x := P 129) rfl rfl (.tail _ (.tail _ (.tail _ (.tail _ (.head _))))) (rfl) ?_
        refine WO_bin rfl rfl bin_andNot ?_
        refine WO_bin rfl rfl (bin_eql (decide_eq_true (few.castle))) ?_
        refine WO_mv (v := .s (.bool _)) rfl ?_
        refine WO_gt rfl ?_
        refine WO_fa (o' := 132) rfl rfl rfl ?_
        refine WO_gt rfl ?_
        refine WO_ldI (x := QM P M 132) rfl rfl (.tail _ (.tail _ (.head _))) (rfl) ?_
        refine WO_gt rfl ?_
        refine WO_mv (v := .s (.int _ _)) rfl ?_
        refine WO_gt rfl ?_
        refine WO_bin rfl rfl (bin_eql (decide_eq_true (by have h1 := few.full1; have h0 := few.full0; omega))) ?_
        refine WO_pick (v := .s (.bool _)) rfl rfl ?_
        refine WO_mv (v := .s (.bool _)) rfl ?_
        refine WO_gt rfl ?_
        refine WO_fa (o' := 131) rfl rfl rfl ?_
        refine WO_gt rfl ?_
        refine WO_ldI (x := QM P M 131) rfl rfl (.tail _ (.tail _ (.head _))) (rfl) ?_
        refine WO_gt rfl ?_
        refine WO_bin (r := .bool _) rfl rfl rfl ?_
        refine WO_gt rfl ?_
        refine WO_mv (v := .s (.int _ _)) rfl ?_
        refine WO_gt rfl ?_
        refine WO_bin rfl rfl (bin_eql (decide_eq_true (by omega))) ?_
        refine WO_gt rfl ?_
        refine WO_mv (v := .s (.bool _)) rfl ?_
        refine WO_gf rfl rfl ?_
        refine WO_gf rfl rfl ?_
        refine WO_gf rfl rfl ?_
        refine WO_gt rfl ?_
        refine WO_pick (v := .s (.bool _)) rfl rfl ?_
        refine WO_gt rfl ?_
        refine WO_eqbT rfl rfl (by have h1 := few.half; first | exact eq_true (h1.2 (.inl (by omega))) | exact eq_eq (by omega)) ?_
        refine WO_pick (v := .s (.bool _)) rfl rfl ?_
        refine WO_mv (v := .s (.bool _)) rfl ?_
        refine WO_gt rfl ?_
        refine WO_fa (o' := 130) rfl rfl rfl ?_
        refine WO_gt rfl ?_
        refine WO_ldI (x := QM P M 130) rfl rfl (.tail _ (.tail _ (.head _))) (rfl) ?_
        refine WO_gt rfl ?_
        refine WO_bin (r := .bool _) rfl rfl rfl ?_
        refine WO_gt rfl ?_
        refine WO_mv (v := .s (.bool _)) rfl ?_
        refine WO_case (t := 217) rfl (fun h37 => ?_) (fun h37 => ?_)
        ·try simp only [NM] at h37
         refine WO_gf rfl rfl ?_
         refine WO_gf rfl rfl ?_
         refine WO_gf rfl rfl ?_
         refine WO_gt rfl ?_
         refine WO_pick (v := .s (.bool _)) rfl rfl ?_
         refine WO_pick (v := .s (.bool _)) rfl rfl ?_
         refine WO_mv (v := .s (.bool _)) rfl ?_
         refine WO_nil ?_
         refine WP_ret ?_
         refine ⟨_, RS_tmp (v := .s (.bool _)) rfl (RS_nil), ?_⟩
         rfl
        ·try simp only [NM] at h37
         refine WO_gt rfl ?_
         refine WO_fa (o' := 0) rfl rfl rfl ?_
         refine WO_gt rfl ?_
         refine WO_ldI (x := P (sqI (M 0))) rfl rfl (.tail _ (.head _)) (rfl) ?_
         refine WO_gt rfl ?_
         refine WO_bin rfl rfl (bin_eql (decide_eq_true (by have := few.over; omega))) ?_
         refine WO_gt rfl ?_
         refine WO_pick (v := .s (.bool _)) rfl rfl ?_
         refine WO_pick (v := .s (.bool _)) rfl rfl ?_
         refine WO_mv (v := .s (.bool _)) rfl ?_
         refine WO_nil ?_
         refine WP_ret ?_
         refine ⟨_, RS_tmp (v := .s (.bool _)) rfl (RS_nil), ?_⟩
         rfl
     ·try simp only [NM] at h26
      refine WP_skip ?_
      refine WP_seq ?_
      refine WP_ops ?_
      refine WO_fa (o' := 0) rfl rfl rfl ?_
      refine WO_ldI (x := M 0) rfl rfl (.tail _ (.head _)) (rfl) ?_
      refine WO_fa (o' := 0) rfl rfl rfl ?_
      refine WO_ixa rfl rfl rfl (by omega) ?_
      first | refine WO_ldA0 rfl rfl (.tail _ (.tail _ (.head _))) ?_ | refine WO_ldAI rfl rfl (.tail _ (.tail _ (.head _))) ?_
      refine WO_fa (o' := 1) rfl rfl rfl ?_
      refine WO_ldI (x := M 1) rfl rfl (.tail _ (.head _)) (rfl) ?_
      refine WO_fa (o' := 0) rfl rfl rfl ?_
      refine WO_ixa rfl rfl rfl (by omega) ?_
      first | refine WO_ldA0 rfl rfl (.head _) ?_ | refine WO_ldAI rfl rfl (.head _) ?_
      refine WO_allocd ?_
      refine WO_allocd ?_
      refine WO_init0 (v := .agg _ _) rfl rfl rfl (.tail _ (.head _)) ?_
      refine WO_init0 (v := .agg _ _) rfl rfl rfl (.head _) ?_
      refine WO_revive (v := .agg _ _) rfl rfl rfl (.there .here) ?_
      refine WO_revive (v := .agg _ _) rfl rfl rfl .here ?_
      refine WO_nil ?_
      refine WP_seq ?_
      refine WP_ops ?_
      refine WO_fa (o' := 132) rfl rfl rfl ?_
      refine WO_ldI (x := P 132) rfl rfl (.tail _ (.tail _ (.tail _ (.tail _ (.head _))))) (rfl) ?_
      refine WO_mv (v := .s (.int _ _)) rfl ?_
      refine WO_nil ?_
      refine WP_seq ?_
      refine WP_seq ?_
      refine WP_ops ?_
      refine WO_fa (o' := 128) rfl rfl rfl ?_
      refine WO_ldI (x := P 128) rfl rfl (.tail _ (.tail _ (.tail _ (.tail _ (.head _))))) (rfl) ?_
      refine WO_bin (r := .bool _) rfl rfl rfl ?_
      refine WO_mv (v := .s (.bool _)) rfl ?_
      refine WO_case (t := 133) rfl (fun h38 => ?_) (fun h38 => ?_)
      ·try simp only [NM] at h38
       refine WO_gt rfl ?_
       refine WO_mv (v := .s (.int _ _)) rfl ?_
       refine WO_gt rfl ?_
       refine WO_bin (r := .bool _) rfl rfl rfl ?_
       refine WO_pick (v := .s (.bool _)) rfl rfl ?_
       refine WO_nil ?_
       refine WP_cond rfl (fun h39 => ?_) (fun h39 => ?_)
       ·try simp only [NM] at h39
        refine WP_ops ?_
        refine WO_mv (v := .s (.int _ _)) rfl ?_
        refine WO_add rfl rfl (by omega) ?_
        refine WO_mv (v := .s (.int _ _)) rfl ?_
        refine WO_nil ?_
        refine WP_seq ?_
        refine WP_seq ?_
        refine WP_ops ?_
        refine WO_mv (v := .s (.int _ _)) rfl ?_
        refine WO_bin rfl rfl (bin_gtr (decide_eq_false (by have := few.d1; have := few.d3; have := few.dp3; have := few.left; omega))) ?_
        refine WO_mv (v := .s (.bool _)) rfl ?_
        refine WO_gt rfl ?_
        refine WO_mv (v := .s (.int _ _)) rfl ?_
        refine WO_gt rfl ?_
        refine WO_bin (r := .bool _) rfl rfl rfl ?_
        refine WO_gt rfl ?_
        refine WO_mv (v := .s (.bool _)) rfl ?_
        refine WO_case (t := 144) rfl (fun h40 => ?_) (fun h40 => ?_)
        ·try simp only [NM] at h40
         refine WO_gt rfl ?_
         refine WO_fa (o' := 0) rfl rfl rfl ?_
         refine WO_gt rfl ?_
         refine WO_ldI (x := P (sqI (M 0))) rfl rfl (.tail _ (.head _)) (rfl) ?_
         refine WO_gt rfl ?_
         refine WO_bin rfl rfl (bin_neq (decide_eq_false (fun q => q (few.dp3 (by assumption))))) ?_
         refine WO_gt rfl ?_
         refine WO_pick (v := .s (.bool _)) rfl rfl ?_
         refine WO_pick (v := .s (.bool _)) rfl rfl ?_
         refine WO_mv (v := .s (.bool _)) rfl ?_
         refine WO_gt rfl ?_
         refine WO_mv (v := .s (.int _ _)) rfl ?_
         refine WO_gt rfl ?_
         refine WO_bin rfl rfl (bin_lss (decide_eq_false (by have := few.d1; have := few.d3; have := few.dp3; have := few.left; omega))) ?_
         refine WO_pick (v := .s (.bool _)) rfl rfl ?_
         refine WO_mv (v := .s (.bool _)) rfl ?_
         refine WO_gt rfl ?_
         refine WO_mv (v := .s (.int _ _)) rfl ?_
         refine WO_gt rfl ?_
         refine WO_mv (v := .s (.int _ _)) rfl ?_
         refine WO_gt rfl ?_
         refine WO_mv (v := .s (.int _ _)) rfl ?_
         refine WO_gt rfl ?_
         refine WO_sub rfl rfl (by omega) ?_
         refine WO_gt rfl ?_
         refine WO_bin rfl rfl (bin_neq (decide_eq_false (by have := few.left; omega))) ?_
         refine WO_pick (v := .s (.bool _)) rfl rfl ?_
         refine WO_mv (v := .s (.bool _)) rfl ?_
         refine WO_gt rfl ?_
         refine WO_fa (o' := 0) rfl rfl rfl ?_
         refine WO_gt rfl ?_
         refine WO_ldI (x := M 0) rfl rfl (.tail _ (.tail _ (.tail _ (.head _)))) (rfl) ?_
         refine WO_gt rfl ?_
         refine WO_fa (o' := 0) rfl rfl rfl ?_
         refine WO_gt rfl ?_
         refine WO_ixa rfl rfl rfl (by omega) ?_
         refine WO_gt rfl ?_
         first | refine WO_ldA0 rfl rfl (.tail _ (.tail _ (.head _))) ?_ | refine WO_ldAI rfl rfl (.tail _ (.tail _ (.head _))) ?_
         refine WO_gt rfl ?_
         refine WO_buildI rfl .nil ?_
         refine WO_gt rfl ?_
         refine WO_eqaC rfl rfl (eqI_f (fun j hj => few.gone j hj)) ?_
         refine WO_pick (v := .s (.bool _)) rfl rfl ?_
         refine WO_mv (v := .s (.bool _)) rfl ?_
         refine WO_gt rfl ?_
         refine WO_fa (o' := 1) rfl rfl rfl ?_
         refine WO_gt rfl ?_
         refine WO_ldI (x := QM P M (sqI (M 1) + 1)) rfl rfl (.head _) (rfl) ?_
         refine WO_gt rfl ?_
         refine WO_fa (o' := 1) rfl rfl rfl ?_
         refine WO_gt rfl ?_
         refine WO_ldI (x := P (sqI (M 0) + 1)) rfl rfl (.tail _ (.head _)) (rfl) ?_
         refine WO_gt rfl ?_
         refine WO_bin rfl rfl (bin_neq (decide_eq_false (fun q => q few.side))) ?_
         refine WO_pick (v := .s (.bool _)) rfl rfl ?_
         refine WO_mv (v := .s (.bool _)) rfl ?_
         refine WO_gt rfl ?_
         refine WO_fa (o' := 0) rfl rfl rfl ?_
         refine WO_gt rfl ?_
         refine WO_ldI (x := QM P M (sqI (M 1))) rfl rfl (.head _) (rfl) ?_
         refine WO_gt rfl ?_
         refine WO_fa (o' := 0) rfl rfl rfl ?_
         refine WO_gt rfl ?_
         refine WO_ldI (x := P (sqI (M 0))) rfl rfl (.tail _ (.head _)) (rfl) ?_
         refine WO_gt rfl ?_
         refine WO_bin (r := .bool _) rfl rfl rfl ?_
         refine WO_gt rfl ?_
         refine WO_fa (o' := 2) rfl rfl rfl ?_
         refine WO_gt rfl ?_
         refine WO_ldI (x := M 2) rfl rfl (.tail _ (.tail _ (.tail _ (.head _)))) (rfl) ?_
         refine WO_gt rfl ?_
         refine WO_bin (r := .bool _) rfl rfl rfl ?_
         refine WO_gt rfl ?_
         refine WO_eqbF rfl rfl (neq_eq few.kind) ?_
         refine WO_pick (v := .s (.bool _)) rfl rfl ?_
         refine WO_nil ?_
         refine WP_cond rfl (fun h => nomatch h) (fun _ => ?_)
         refine WP_skip ?_
         refine WP_seq ?_
         refine WP_ops ?_
         refine WO_fa (o' := 129) rfl rfl rfl ?_
         refine WO_ldI (x := QM P M 129) rfl rfl (.tail _ (.tail _ (.head _))) (rfl) ?_
         refine WO_fa (o' := 129) rfl rfl rfl ?_
         refine WO_ldI (x := P 129) rfl rfl (.tail _ (.tail _ (.tail _ (.tail _ (.head _))))) (rfl) ?_
         refine WO_bin rfl rfl bin_andNot ?_
         refine WO_bin rfl rfl (bin_eql (decide_eq_true (few.castle))) ?_
         refine WO_mv (v := .s (.bool _)) rfl ?_
         refine WO_gt rfl ?_
         refine WO_fa (o' := 132) rfl rfl rfl ?_
         refine WO_gt rfl ?_
         refine WO_ldI (x := QM P M 132) rfl rfl (.tail _ (.tail _ (.head _))) (rfl) ?_
         refine WO_gt rfl ?_
         refine WO_mv (v := .s (.int _ _)) rfl ?_
         refine WO_gt rfl ?_
         refine WO_bin rfl rfl (bin_eql (decide_eq_true (by have h1 := few.full1; have h0 := few.full0; omega))) ?_
         refine WO_pick (v := .s (.bool _)) rfl rfl ?_
         refine WO_mv (v := .s (.bool _)) rfl ?_
         refine WO_gt rfl ?_
         refine WO_fa (o' := 131) rfl rfl rfl ?_
         refine WO_gt rfl ?_
         refine WO_ldI (x := QM P M 131) rfl rfl (.tail _ (.tail _ (.head _))) (rfl) ?_
         refine WO_gt rfl ?_
         refine WO_bin (r := .bool _) rfl rfl rfl ?_
         refine WO_gt rfl ?_
         refine WO_mv (v := .s (.int _ _)) rfl ?_
         refine WO_gt rfl ?_
         refine WO_bin rfl rfl (bin_eql (decide_eq_false (by omega))) ?_
         refine WO_gt rfl ?_
         refine WO_mv (v := .s (.bool _)) rfl ?_
         refine WO_gt rfl ?_
         refine WO_fa (o' := 0) rfl rfl rfl ?_
         refine WO_gt rfl ?_
         refine WO_ldI (x := P (sqI (M 0))) rfl rfl (.tail _ (.head _)) (rfl) ?_
         refine WO_gt rfl ?_
         refine WO_bin (r := .bool _) rfl rfl rfl ?_
         refine WO_gt rfl ?_
         refine WO_pick (v := .s (.bool _)) rfl rfl ?_
         refine WO_gt rfl ?_
         refine WO_eqbT rfl rfl (by have h1 := few.half; first | exact eq_true (h1.2 (.inl (by omega))) | exact eq_eq (by omega)) ?_
         refine WO_pick (v := .s (.bool _)) rfl rfl ?_
         refine WO_mv (v := .s (.bool _)) rfl ?_
         refine WO_gt rfl ?_
         refine WO_fa (o' := 130) rfl rfl rfl ?_
         refine WO_gt rfl ?_
         refine WO_ldI (x := QM P M 130) rfl rfl (.tail _ (.tail _ (.head _))) (rfl) ?_
         refine WO_gt rfl ?_
         refine WO_bin (r := .bool _) rfl rfl rfl ?_
         refine WO_gt rfl ?_
         refine WO_mv (v := .s (.bool _)) rfl ?_
         refine WO_case (t := 217) rfl (fun h41 => ?_) (fun h41 => ?_)
         ·try simp only [NM] at h41
          refine WO_gf rfl rfl ?_
          refine WO_gf rfl rfl ?_
          refine WO_gf rfl rfl ?_
          refine WO_gt rfl ?_
          refine WO_pick (v := .s (.bool _)) rfl rfl ?_
          refine WO_pick (v := .s (.bool _)) rfl rfl ?_
          refine WO_mv (v := .s (.bool _)) rfl ?_
          refine WO_nil ?_
          refine WP_ret ?_
          refine ⟨_, RS_tmp (v := .s (.bool _)) rfl (RS_nil), ?_⟩
          rfl
         ·try simp only [NM] at h41
          refine WO_gt rfl ?_
          refine WO_fa (o' := 0) rfl rfl rfl ?_
          refine WO_gt rfl ?_
          refine WO_ldI (x := P (sqI (M 0))) rfl rfl (.tail _ (.head _)) (rfl) ?_
          refine WO_gt rfl ?_
          refine WO_bin rfl rfl (bin_eql (decide_eq_true (by have := few.over; omega))) ?_
          refine WO_gt rfl ?_
          refine WO_pick (v := .s (.bool _)) rfl rfl ?_
          refine WO_pick (v := .s (.bool _)) rfl rfl ?_
          refine WO_mv (v := .s (.bool _)) rfl ?_
          refine WO_nil ?_
          refine WP_ret ?_
          refine ⟨_, RS_tmp (v := .s (.bool _)) rfl (RS_nil), ?_⟩
          rfl
        ·try simp only [NM] at h40
         refine WO_gf rfl rfl ?_
         refine WO_gf rfl rfl ?_
         refine WO_gf rfl rfl ?_
         refine WO_gt rfl ?_
         refine WO_pick (v := .s (.bool _)) rfl rfl ?_
         refine WO_pick (v := .s (.bool _)) rfl rfl ?_
         refine WO_mv (v := .s (.bool _)) rfl ?_
         refine WO_gt rfl ?_
         refine WO_mv (v := .s (.int _ _)) rfl ?_
         refine WO_gt rfl ?_
         refine WO_bin rfl rfl (bin_lss (decide_eq_false (by have := few.d1; have := few.d3; have := few.dp3; have := few.left; omega))) ?_
         refine WO_pick (v := .s (.bool _)) rfl rfl ?_
         refine WO_mv (v := .s (.bool _)) rfl ?_
         refine WO_gt rfl ?_
         refine WO_mv (v := .s (.int _ _)) rfl ?_
         refine WO_gt rfl ?_
         refine WO_mv (v := .s (.int _ _)) rfl ?_
         refine WO_gt rfl ?_
         refine WO_mv (v := .s (.int _ _)) rfl ?_
         refine WO_gt rfl ?_
         refine WO_sub rfl rfl (by omega) ?_
         refine WO_gt rfl ?_
         refine WO_bin rfl rfl (bin_neq (decide_eq_false (by have := few.left; omega))) ?_
         refine WO_pick (v := .s (.bool _)) rfl rfl ?_
         refine WO_mv (v := .s (.bool _)) rfl ?_
         refine WO_gt rfl ?_
         refine WO_fa (o' := 0) rfl rfl rfl ?_
         refine WO_gt rfl ?_
         refine WO_ldI (x := M 0) rfl rfl (.tail _ (.tail _ (.tail _ (.head _)))) (rfl) ?_
         refine WO_gt rfl ?_
         refine WO_fa (o' := 0) rfl rfl rfl ?_
         refine WO_gt rfl ?_
         refine WO_ixa rfl rfl rfl (by omega) ?_
         refine WO_gt rfl ?_
         first | refine WO_ldA0 rfl rfl (.tail _ (.tail _ (.head _))) ?_ | refine WO_ldAI rfl rfl (.tail _ (.tail _ (.head _))) ?_
         refine WO_gt rfl ?_
         refine WO_buildI rfl .nil ?_
         refine WO_gt rfl ?_
         refine WO_eqaC rfl rfl (eqI_f (fun j hj => few.gone j hj)) ?_
         refine WO_pick (v := .s (.bool _)) rfl rfl ?_
         refine WO_mv (v := .s (.bool _)) rfl ?_
         refine WO_gt rfl ?_
         refine WO_fa (o' := 1) rfl rfl rfl ?_
         refine WO_gt rfl ?_
         refine WO_ldI (x := QM P M (sqI (M 1) + 1)) rfl rfl (.head _) (rfl) ?_
         refine WO_gt rfl ?_
         refine WO_fa (o' := 1) rfl rfl rfl ?_
         refine WO_gt rfl ?_
         refine WO_ldI (x := P (sqI (M 0) + 1)) rfl rfl (.tail _ (.head _)) (rfl) ?_
         refine WO_gt rfl ?_
         refine WO_bin rfl rfl (bin_neq (decide_eq_false (fun q => q few.side))) ?_
         refine WO_pick (v := .s (.bool _)) rfl rfl ?_
         refine WO_mv (v := .s (.bool _)) rfl ?_
         refine WO_gt rfl ?_
         refine WO_fa (o' := 0) rfl rfl rfl ?_
         refine WO_gt rfl ?_
         refine WO_ldI (x := QM P M (sqI (M 1))) rfl rfl (.head _) (rfl) ?_
         refine WO_gt rfl ?_
         refine WO_fa (o' := 0) rfl rfl rfl ?_
         refine WO_gt rfl ?_
         refine WO_ldI (x := P (sqI (M 0))) rfl rfl (.tail _ (.head _)) (rfl) ?_
         refine WO_gt rfl ?_
         refine WO_bin (r := .bool _) rfl rfl rfl ?_
         refine WO_gt rfl ?_
         refine WO_fa (o' := 2) rfl rfl rfl ?_
         refine WO_gt rfl ?_
         refine WO_ldI (x := M 2) rfl rfl (.tail _ (.tail _ (.tail _ (.head _)))) (rfl) ?_
         refine WO_gt rfl ?_
         refine WO_bin (r := .bool _) rfl rfl rfl ?_
         refine WO_gt rfl ?_
         refine WO_eqbF rfl rfl (neq_eq few.kind) ?_
         refine WO_pick (v := .s (.bool _)) rfl rfl ?_
         refine WO_nil ?_
         refine WP_cond rfl (fun h => nomatch h) (fun _ => ?_)
         refine WP_skip ?_
         refine WP_seq ?_
         refine WP_ops ?_
         refine WO_fa (o' := 129) rfl rfl rfl ?_
         refine WO_ldI (x := QM P M 129) rfl rfl (.tail _ (.tail _ (.head _))) (rfl) ?_
         refine WO_fa (o' := 129) rfl rfl rfl ?_
         refine WO_ldI (x := P 129) rfl rfl (.tail _ (.tail _ (.tail _ (.tail _ (.head _))))) (rfl) ?_
         refine WO_bin rfl rfl bin_andNot ?_
         refine WO_bin rfl rfl (bin_eql (decide_eq_true (few.castle))) ?_
         refine WO_mv (v := .s (.bool _)) rfl ?_
         refine WO_gt rfl ?_
         refine WO_fa (o' := 132) rfl rfl rfl ?_
         refine WO_gt rfl ?_
         refine WO_ldI (x := QM P M 132) rfl rfl (.tail _ (.tail _ (.head _))) (rfl) ?_
         refine WO_gt rfl ?_
         refine WO_mv (v := .s (.int _ _)) rfl ?_
         refine WO_gt rfl ?_
         refine WO_bin rfl rfl (bin_eql (decide_eq_true (by have h1 := few.full1; have h0 := few.full0; omega))) ?_
         refine WO_pick (v := .s (.bool _)) rfl rfl ?_
         refine WO_mv (v := .s (.bool _)) rfl ?_
         refine WO_gt rfl ?_
         refine WO_fa (o' := 131) rfl rfl rfl ?_
         refine WO_gt rfl ?_
         refine WO_ldI (x := QM P M 131) rfl rfl (.tail _ (.tail _ (.head _))) (rfl) ?_
         refine WO_gt rfl ?_
         refine WO_bin (r := .bool _) rfl rfl rfl ?_
         refine WO_gt rfl ?_
         refine WO_mv (v := .s (.int _ _)) rfl ?_
         refine WO_gt rfl ?_
         refine WO_bin rfl rfl (bin_eql (decide_eq_false (by omega))) ?_
         refine WO_gt rfl ?_
         refine WO_mv (v := .s (.bool _)) rfl ?_
         refine WO_gt rfl ?_
         refine WO_fa (o' := 0) rfl rfl rfl ?_
         refine WO_gt rfl ?_
         refine WO_ldI (x := P (sqI (M 0))) rfl rfl (.tail _ (.head _)) (rfl) ?_
         refine WO_gt rfl ?_
         refine WO_bin (r := .bool _) rfl rfl rfl ?_
         refine WO_gt rfl ?_
         refine WO_pick (v := .s (.bool _)) rfl rfl ?_
         refine WO_gt rfl ?_
         refine WO_eqbT rfl rfl (by have h1 := few.half; first | exact eq_true (h1.2 (.inl (by omega))) | exact eq_eq (by omega)) ?_
         refine WO_pick (v := .s (.bool _)) rfl rfl ?_
         refine WO_mv (v := .s (.bool _)) rfl ?_
         refine WO_gt rfl ?_
         refine WO_fa (o' := 130) rfl rfl rfl ?_
         refine WO_gt rfl ?_
         refine WO_ldI (x := QM P M 130) rfl rfl (.tail _ (.tail _ (.head _))) (rfl) ?_
         refine WO_gt rfl ?_
         refine WO_bin (r := .bool _) rfl rfl rfl ?_
         refine WO_gt rfl ?_
         refine WO_mv (v := .s (.bool _)) rfl ?_
         refine WO_case (t := 217) rfl (fun h42 => ?_) (fun h42 => ?_)
         ·try simp only [NM] at h42
          refine WO_gf rfl rfl ?_
          refine WO_gf rfl rfl ?_
          refine WO_gf rfl rfl ?_
          refine WO_gt rfl ?_
          refine WO_pick (v := .s (.bool _)) rfl rfl ?_
          refine WO_pick (v := .s (.bool _)) rfl rfl ?_
          refine WO_mv (v := .s (.bool _)) rfl ?_
          refine WO_nil ?_
          refine WP_ret ?_
          refine ⟨_, RS_tmp (v := .s (.bool _)) rfl (RS_nil), ?_⟩
          rfl
         ·try simp only [NM] at h42
          refine WO_gt rfl ?_
          refine WO_fa (o' := 0) rfl rfl rfl ?_
          refine WO_gt rfl ?_
          refine WO_ldI (x := P (sqI (M 0))) rfl rfl (.tail _ (.head _)) (rfl) ?_
          refine WO_gt rfl ?_
          refine WO_bin rfl rfl (bin_eql (decide_eq_true (by have := few.over; omega))) ?_
          refine WO_gt rfl ?_
          refine WO_pick (v := .s (.bool _)) rfl rfl ?_
          refine WO_pick (v := .s (.bool _)) rfl rfl ?_
          refine WO_mv (v := .s (.bool _)) rfl ?_
          refine WO_nil ?_
          refine WP_ret ?_
          refine ⟨_, RS_tmp (v := .s (.bool _)) rfl (RS_nil), ?_⟩
          rfl
       ·try simp only [NM] at h39
        refine WP_skip ?_
        refine WP_seq ?_
        refine WP_seq ?_
        refine WP_ops ?_
        refine WO_mv (v := .s (.int _ _)) rfl ?_
        refine WO_bin rfl rfl (bin_gtr (decide_eq_false (by have := few.d1; have := few.d3; have := few.dp3; have := few.left; omega))) ?_
        refine WO_mv (v := .s (.bool _)) rfl ?_
        refine WO_gt rfl ?_
        refine WO_mv (v := .s (.int _ _)) rfl ?_
        refine WO_gt rfl ?_
        refine WO_bin (r := .bool _) rfl rfl rfl ?_
        refine WO_gt rfl ?_
        refine WO_mv (v := .s (.bool _)) rfl ?_
        refine WO_case (t := 144) rfl (fun h43 => ?_) (fun h43 => ?_)
        ·try simp only [NM] at h43
         refine WO_gt rfl ?_
         refine WO_fa (o' := 0) rfl rfl rfl ?_
         refine WO_gt rfl ?_
         refine WO_ldI (x := P (sqI (M 0))) rfl rfl (.tail _ (.head _)) (rfl) ?_
         refine WO_gt rfl ?_
         refine WO_bin rfl rfl (bin_neq (decide_eq_false (fun q => q (few.dp3 (by assumption))))) ?_
         refine WO_gt rfl ?_
         refine WO_pick (v := .s (.bool _)) rfl rfl ?_
         refine WO_pick (v := .s (.bool _)) rfl rfl ?_
         refine WO_mv (v := .s (.bool _)) rfl ?_
         refine WO_gt rfl ?_
         refine WO_mv (v := .s (.int _ _)) rfl ?_
         refine WO_gt rfl ?_
         refine WO_bin rfl rfl (bin_lss (decide_eq_false (by have := few.d1; have := few.d3; have := few.dp3; have := few.left; omega))) ?_
         refine WO_pick (v := .s (.bool _)) rfl rfl ?_
         refine WO_mv (v := .s (.bool _)) rfl ?_
         refine WO_gt rfl ?_
         refine WO_mv (v := .s (.int _ _)) rfl ?_
         refine WO_gt rfl ?_
         refine WO_mv (v := .s (.int _ _)) rfl ?_
         refine WO_gt rfl ?_
         refine WO_mv (v := .s (.int _ _)) rfl ?_
         refine WO_gt rfl ?_
         refine WO_sub rfl rfl (by omega) ?_
         refine WO_gt rfl ?_
         refine WO_bin rfl rfl (bin_neq (decide_eq_false (by have := few.left; omega))) ?_
         refine WO_pick (v := .s (.bool _)) rfl rfl ?_
         refine WO_mv (v := .s (.bool _)) rfl ?_
         refine WO_gt rfl ?_
         refine WO_fa (o' := 0) rfl rfl rfl ?_
         refine WO_gt rfl ?_
         refine WO_ldI (x := M 0) rfl rfl (.tail _ (.tail _ (.tail _ (.head _)))) (rfl) ?_
         refine WO_gt rfl ?_
         refine WO_fa (o' := 0) rfl rfl rfl ?_
         refine WO_gt rfl ?_
         refine WO_ixa rfl rfl rfl (by omega) ?_
         refine WO_gt rfl ?_
         first | refine WO_ldA0 rfl rfl (.tail _ (.tail _ (.head _))) ?_ | refine WO_ldAI rfl rfl (.tail _ (.tail _ (.head _))) ?_
         refine WO_gt rfl ?_
         refine WO_buildI rfl .nil ?_
         refine WO_gt rfl ?_
         refine WO_eqaC rfl rfl (eqI_f (fun j hj => few.gone j hj)) ?_
         refine WO_pick (v := .s (.bool _)) rfl rfl ?_
         refine WO_mv (v := .s (.bool _)) rfl ?_
         refine WO_gt rfl ?_
         refine WO_fa (o' := 1) rfl rfl rfl ?_
         refine WO_gt rfl ?_
         refine WO_ldI (x := QM P M (sqI (M 1) + 1)) rfl rfl (.head _) (rfl) ?_
         refine WO_gt rfl ?_
         refine WO_fa (o' := 1) rfl rfl rfl ?_
         refine WO_gt rfl ?_
         refine WO_ldI (x := P (sqI (M 0) + 1)) rfl rfl (.tail _ (.head _)) (rfl) ?_
         refine WO_gt rfl ?_
         refine WO_bin rfl rfl (bin_neq (decide_eq_false (fun q => q few.side))) ?_
         refine WO_pick (v := .s (.bool _)) rfl rfl ?_
         refine WO_mv (v := .s (.bool _)) rfl ?_
         refine WO_gt rfl ?_
         refine WO_fa (o' := 0) rfl rfl rfl ?_
         refine WO_gt rfl ?_
         refine WO_ldI (x := QM P M (sqI (M 1))) rfl rfl (.head _) (rfl) ?_
         refine WO_gt rfl ?_
         refine WO_fa (o' := 0) rfl rfl rfl ?_
         refine WO_gt rfl ?_
         refine WO_ldI (x := P (sqI (M 0))) rfl rfl (.tail _ (.head _)) (rfl) ?_
         refine WO_gt rfl ?_
         refine WO_bin (r := .bool _) rfl rfl rfl ?_
         refine WO_gt rfl ?_
         refine WO_fa (o' := 2) rfl rfl rfl ?_
         refine WO_gt rfl ?_
         refine WO_ldI (x := M 2) rfl rfl (.tail _ (.tail _ (.tail _ (.head _)))) (rfl) ?_
         refine WO_gt rfl ?_
         refine WO_bin (r := .bool _) rfl rfl rfl ?_
         refine WO_gt rfl ?_
         refine WO_eqbF rfl rfl (neq_eq few.kind) ?_
         refine WO_pick (v := .s (.bool _)) rfl rfl ?_
         refine WO_nil ?_
         refine WP_cond rfl (fun h => nomatch h) (fun _ => ?_)
         refine WP_skip ?_
         refine WP_seq ?_
         refine WP_ops ?_
         refine WO_fa (o' := 129) rfl rfl rfl ?_
         refine WO_ldI (x := QM P M 129) rfl rfl (.tail _ (.tail _ (.head _))) (rfl) ?_
         refine WO_fa (o' := 129) rfl rfl rfl ?_
         refine WO_ldI (x := P 129) rfl rfl (.tail _ (.tail _ (.tail _ (.tail _ (.head _))))) (rfl) ?_
         refine WO_bin rfl rfl bin_andNot ?_
         refine WO_bin rfl rfl (bin_eql (decide_eq_true (few.castle))) ?_
         refine WO_mv (v := .s (.bool _)) rfl ?_
         refine WO_gt rfl ?_
         refine WO_fa (o' := 132) rfl rfl rfl ?_
         refine WO_gt rfl ?_
         refine WO_ldI (x := QM P M 132) rfl rfl (.tail _ (.tail _ (.head _))) (rfl) ?_
         refine WO_gt rfl ?_
         refine WO_mv (v := .s (.int _ _)) rfl ?_
         refine WO_gt rfl ?_
         refine WO_bin rfl rfl (bin_eql (decide_eq_true (by have h1 := few.full1; have h0 := few.full0; omega))) ?_
         refine WO_pick (v := .s (.bool _)) rfl rfl ?_
         refine WO_mv (v := .s (.bool _)) rfl ?_
         refine WO_gt rfl ?_
         refine WO_fa (o' := 131) rfl rfl rfl ?_
         refine WO_gt rfl ?_
         refine WO_ldI (x := QM P M 131) rfl rfl (.tail _ (.tail _ (.head _))) (rfl) ?_
         refine WO_gt rfl ?_
         refine WO_bin (r := .bool _) rfl rfl rfl ?_
         refine WO_gt rfl ?_
         refine WO_mv (v := .s (.int _ _)) rfl ?_
         refine WO_gt rfl ?_
         refine WO_bin rfl rfl (bin_eql (decide_eq_false (by omega))) ?_
         refine WO_gt rfl ?_
         refine WO_mv (v := .s (.bool _)) rfl ?_
         refine WO_gt rfl ?_
         refine WO_fa (o' := 0) rfl rfl rfl ?_
         refine WO_gt rfl ?_
         refine WO_ldI (x := P (sqI (M 0))) rfl rfl (.tail _ (.head _)) (rfl) ?_
         refine WO_gt rfl ?_
         refine WO_bin (r := .bool _) rfl rfl rfl ?_
         refine WO_gt rfl ?_
         refine WO_pick (v := .s (.bool _)) rfl rfl ?_
         refine WO_gt rfl ?_
         refine WO_eqbT rfl rfl (by have h1 := few.half; first | exact eq_true (h1.2 (.inl (by omega))) | exact eq_eq (by omega)) ?_
         refine WO_pick (v := .s (.bool _)) rfl rfl ?_
         refine WO_mv (v := .s (.bool _)) rfl ?_
         refine WO_gt rfl ?_
         refine WO_fa (o' := 130) rfl rfl rfl ?_
         refine WO_gt rfl ?_
         refine WO_ldI (x := QM P M 130) rfl rfl (.tail _ (.tail _ (.head _))) (rfl) ?_
         refine WO_gt rfl ?_
         refine WO_bin (r := .bool _) rfl rfl rfl ?_
         refine WO_gt rfl ?_
         refine WO_mv (v := .s (.bool _)) rfl ?_
         refine WO_case (t := 217) rfl (fun h44 => ?_) (fun h44 => ?_)
         ·try simp only [NM] at h44
          refine WO_gf rfl rfl ?_
          refine WO_gf rfl rfl ?_
          refine WO_gf rfl rfl ?_
          refine WO_gt rfl ?_
          refine WO_pick (v := .s (.bool _)) rfl rfl ?_
          refine WO_pick (v := .s (.bool _)) rfl rfl ?_
          refine WO_mv (v := .s (.bool _)) rfl ?_
          refine WO_nil ?_
          refine WP_ret ?_
          refine ⟨_, RS_tmp (v := .s (.bool _)) rfl (RS_nil), ?_⟩
          rfl
         ·try simp only [NM] at h44
          refine WO_gt rfl ?_
          refine WO_fa (o' := 0) rfl rfl rfl ?_
          refine WO_gt rfl ?_
          refine WO_ldI (x := P (sqI (M 0))) rfl rfl (.tail _ (.head _)) (rfl) ?_
          refine WO_gt rfl ?_
          refine WO_bin rfl rfl (bin_eql (decide_eq_true (by have := few.over; omega))) ?_
          refine WO_gt rfl ?_
          refine WO_pick (v := .s (.bool _)) rfl rfl ?_
          refine WO_pick (v := .s (.bool _)) rfl rfl ?_
          refine WO_mv (v := .s (.bool _)) rfl ?_
          refine WO_nil ?_
          refine WP_ret ?_
          refine ⟨_, RS_tmp (v := .s (.bool _)) rfl (RS_nil), ?_⟩
          rfl
        ·try simp only [NM] at h43
         refine WO_gf rfl rfl ?_
         refine WO_gf rfl rfl ?_
         refine WO_gf rfl rfl ?_
         refine WO_gt rfl ?_
         refine WO_pick (v := .s (.bool _)) rfl rfl ?_
         refine WO_pick (v := .s (.bool _)) rfl rfl ?_
         refine WO_mv (v := .s (.bool _)) rfl ?_
         refine WO_gt rfl ?_
         refine WO_mv (v := .s (.int _ _)) rfl ?_
         refine WO_gt rfl ?_
         refine WO_bin rfl rfl (bin_lss (decide_eq_false (by have := few.d1; have := few.d3; have := few.dp3; have := few.left; omega))) ?_
         refine WO_pick (v := .s (.bool _)) rfl rfl ?_
         refine WO_mv (v := .s (.bool _)) rfl ?_
         refine WO_gt rfl ?_
         refine WO_mv (v := .s (.int _ _)) rfl ?_
         refine WO_gt rfl ?_
         refine WO_mv (v := .s (.int _ _)) rfl ?_
         refine WO_gt rfl ?_
         refine WO_mv (v := .s (.int _ _)) rfl ?_
         refine WO_gt rfl ?_
         refine WO_sub rfl rfl (by omega) ?_
         refine WO_gt rfl ?_
         refine WO_bin rfl rfl (bin_neq (decide_eq_false (by have := few.left; omega))) ?_
         refine WO_pick (v := .s (.bool _)) rfl rfl ?_
         refine WO_mv (v := .s (.bool _)) rfl ?_
         refine WO_gt rfl ?_
         refine WO_fa (o' := 0) rfl rfl rfl ?_
         refine WO_gt rfl ?_
         refine WO_ldI (x := M 0) rfl rfl (.tail _ (.tail _ (.tail _ (.head _)))) (rfl) ?_
         refine WO_gt rfl ?_
         refine WO_fa (o' := 0) rfl rfl rfl ?_
         refine WO_gt rfl ?_
         refine WO_ixa rfl rfl rfl (by omega) ?_
         refine WO_gt rfl ?_
         first | refine WO_ldA0 rfl rfl (.tail _ (.tail _ (.head _))) ?_ | refine WO_ldAI rfl rfl (.tail _ (.tail _ (.head _))) ?_
         refine WO_gt rfl ?_
         refine WO_buildI rfl .nil ?_
         refine WO_gt rfl ?_
         refine WO_eqaC rfl rfl (eqI_f (fun j hj => few.gone j hj)) ?_
         refine WO_pick (v := .s (.bool _)) rfl rfl ?_
         refine WO_mv (v := .s (.bool _)) rfl ?_
         refine WO_gt rfl ?_
         refine WO_fa (o' := 1) rfl rfl rfl ?_
         refine WO_gt rfl ?_
         refine WO_ldI (x := QM P M (sqI (M 1) + 1)) rfl rfl (.head _) (rfl) ?_
         refine WO_gt rfl ?_
         refine WO_fa (o' := 1) rfl rfl rfl ?_
         refine WO_gt rfl ?_
         refine WO_ldI (x := P (sqI (M 0) + 1)) rfl rfl (.tail _ (.head _)) (rfl) ?_
         refine WO_gt rfl ?_
         refine WO_bin rfl rfl (bin_neq (decide_eq_false (fun q => q few.side))) ?_
         refine WO_pick (v := .s (.bool _)) rfl rfl ?_
         refine WO_mv (v := .s (.bool _)) rfl ?_
         refine WO_gt rfl ?_
         refine WO_fa (o' := 0) rfl rfl rfl ?_
         refine WO_gt rfl ?_
         refine WO_ldI (x := QM P M (sqI (M 1))) rfl rfl (.head _) (rfl) ?_
         refine WO_gt rfl ?_
         refine WO_fa (o' := 0) rfl rfl rfl ?_
         refine WO_gt rfl ?_
         refine WO_ldI (x := P (sqI (M 0))) rfl rfl (.tail _ (.head _)) (rfl) ?_
         refine WO_gt rfl ?_
         refine WO_bin (r := .bool _) rfl rfl rfl ?_
         refine WO_gt rfl ?_
         refine WO_fa (o' := 2) rfl rfl rfl ?_
         refine WO_gt rfl ?_
         refine WO_ldI (x := M 2) rfl rfl (.tail _ (.tail _ (.tail _ (.head _)))) (rfl) ?_
         refine WO_gt rfl ?_
         refine WO_bin (r := .bool _) rfl rfl rfl ?_
         refine WO_gt rfl ?_
         refine WO_eqbF rfl rfl (neq_eq few.kind) ?_
         refine WO_pick (v := .s (.bool _)) rfl rfl ?_
         refine WO_nil ?_
         refine WP_cond rfl (fun h => nomatch h) (fun _ => ?_)
         refine WP_skip ?_
         refine WP_seq ?_
         refine WP_ops ?_
         refine WO_fa (o' := 129) rfl rfl rfl ?_
         refine WO_ldI (x := QM P M 129) rfl rfl (.tail _ (.tail _ (.head _))) (rfl) ?_
         refine WO_fa (o' := 129) rfl rfl rfl ?_
         refine WO_ldI (x := P 129) rfl rfl (.tail _ (.tail _ (.tail _ (.tail _ (.head _))))) (rfl) ?_
         refine WO_bin rfl rfl bin_andNot ?_
         refine WO_bin rfl rfl (bin_eql (decide_eq_true (few.castle))) ?_
         refine WO_mv (v := .s (.bool _)) rfl ?_
         refine WO_gt rfl ?_
         refine WO_fa (o' := 132) rfl rfl rfl ?_
         refine WO_gt rfl ?_
         refine WO_ldI (x := QM P M 132) rfl rfl (.tail _ (.tail _ (.head _))) (rfl) ?_
         refine WO_gt rfl ?_
         refine WO_mv (v := .s (.int _ _)) rfl ?_
         refine WO_gt rfl ?_
         refine WO_bin rfl rfl (bin_eql (decide_eq_true (by have h1 := few.full1; have h0 := few.full0; omega))) ?_
         refine WO_pick (v := .s (.bool _)) rfl rfl ?_
         refine WO_mv (v := .s (.bool _)) rfl ?_
         refine WO_gt rfl ?_
         refine WO_fa (o' := 131) rfl rfl rfl ?_
         refine WO_gt rfl ?_
         refine WO_ldI (x := QM P M 131) rfl rfl (.tail _ (.tail _ (.head _))) (rfl) ?_
         refine WO_gt rfl ?_
         refine WO_bin (r := .bool _) rfl rfl rfl ?_
         refine WO_gt rfl ?_
         refine WO_mv (v := .s (.int _ _)) rfl ?_
         refine WO_gt rfl ?_
         refine WO_bin rfl rfl (bin_eql (decide_eq_false (by omega))) ?_
         refine WO_gt rfl ?_
         refine WO_mv (v := .s (.bool _)) rfl ?_
         refine WO_gt rfl ?_
         refine WO_fa (o' := 0) rfl rfl rfl ?_
         refine WO_gt rfl ?_
         refine WO_ldI (x := P (sqI (M 0))) rfl rfl (.tail _ (.head _)) (rfl) ?_
         refine WO_gt rfl ?_
         refine WO_bin (r := .bool _) rfl rfl rfl ?_
         refine WO_gt rfl ?_
         refine WO_pick (v := .s (.bool _)) rfl rfl ?_
         refine WO_gt rfl ?_
         refine WO_eqbT rfl rfl (by have h1 := few.half; first | exact eq_true (h1.2 (.inl (by omega))) | exact eq_eq (by omega)) ?_
         refine WO_pick (v := .s (.bool _)) rfl rfl ?_
         refine WO_mv (v := .s (.bool _)) rfl ?_
         refine WO_gt rfl ?_
         refine WO_fa (o' := 130) rfl rfl rfl ?_
         refine WO_gt rfl ?_
         refine WO_ldI (x := QM P M 130) rfl rfl (.tail _ (.tail _ (.head _))) (rfl) ?_
         refine WO_gt rfl ?_
         refine WO_bin (r := .bool _) rfl rfl rfl ?_
         refine WO_gt rfl ?_
         refine WO_mv (v := .s (.bool _)) rfl ?_
         refine WO_case (t := 217) rfl (fun h45 => ?_) (fun h45 => ?_)
         ·try simp only [NM] at h45
          refine WO_gf rfl rfl ?_
          refine WO_gf rfl rfl ?_
          refine WO_gf rfl rfl ?_
          refine WO_gt rfl ?_
          refine WO_pick (v := .s (.bool _)) rfl rfl ?_
          refine WO_pick (v := .s (.bool _)) rfl rfl ?_
          refine WO_mv (v := .s (.bool _)) rfl ?_
          refine WO_nil ?_
          refine WP_ret ?_
          refine ⟨_, RS_tmp (v := .s (.bool _)) rfl (RS_nil), ?_⟩
          rfl
         ·try simp only [NM] at h45
          refine WO_gt rfl ?_
          refine WO_fa (o' := 0) rfl rfl rfl ?_
          refine WO_gt rfl ?_
          refine WO_ldI (x := P (sqI (M 0))) rfl rfl (.tail _ (.head _)) (rfl) ?_
          refine WO_gt rfl ?_
          refine WO_bin rfl rfl (bin_eql (decide_eq_true (by have := few.over; omega))) ?_
          refine WO_gt rfl ?_
          refine WO_pick (v := .s (.bool _)) rfl rfl ?_
          refine WO_pick (v := .s (.bool _)) rfl rfl ?_
          refine WO_mv (v := .s (.bool _)) rfl ?_
          refine WO_nil ?_
          refine WP_ret ?_
          refine ⟨_, RS_tmp (v := .s (.bool _)) rfl (RS_nil), ?_⟩
          rfl
      ·try simp only [NM] at h38
       refine WO_gf rfl rfl ?_
       refine WO_gf rfl rfl ?_
       refine WO_pick (v := .s (.bool _)) rfl rfl ?_
       refine WO_nil ?_
       refine WP_cond rfl (fun h => nomatch h) (fun _ => ?_)
       refine WP_skip ?_
       refine WP_seq ?_
       refine WP_seq ?_
       refine WP_ops ?_
       refine WO_mv (v := .s (.int _ _)) rfl ?_
       refine WO_bin rfl rfl (bin_gtr (decide_eq_false (by have := few.d1; have := few.d3; have := few.dp3; have := few.left; omega))) ?_
       refine WO_mv (v := .s (.bool _)) rfl ?_
       refine WO_gt rfl ?_
       refine WO_mv (v := .s (.int _ _)) rfl ?_
       refine WO_gt rfl ?_
       refine WO_bin (r := .bool _) rfl rfl rfl ?_
       refine WO_gt rfl ?_
       refine WO_mv (v := .s (.bool _)) rfl ?_
       refine WO_case (t := 144) rfl (fun h46 => ?_) (fun h46 => ?_)
       ·try simp only [NM] at h46
        refine WO_gt rfl ?_
        refine WO_fa (o' := 0) rfl rfl rfl ?_
        refine WO_gt rfl ?_
        refine WO_ldI (x := P (sqI (M 0))) rfl rfl (.tail _ (.head _)) (rfl) ?_
        refine WO_gt rfl ?_
        refine WO_bin rfl rfl (bin_neq (decide_eq_false (fun q => q (few.dp3 (by assumption))))) ?_
        refine WO_gt rfl ?_
        refine WO_pick (v := .s (.bool _)) rfl rfl ?_
        refine WO_pick (v := .s (.bool _)) rfl rfl ?_
        refine WO_mv (v := .s (.bool _)) rfl ?_
        refine WO_gt rfl ?_
        refine WO_mv (v := .s (.int _ _)) rfl ?_
        refine WO_gt rfl ?_
        refine WO_bin rfl rfl (bin_lss (decide_eq_false (by have := few.d1; have := few.d3; have := few.dp3; have := few.left; omega))) ?_
        refine WO_pick (v := .s (.bool _)) rfl rfl ?_
        refine WO_mv (v := .s (.bool _)) rfl ?_
        refine WO_gt rfl ?_
        refine WO_mv (v := .s (.int _ _)) rfl ?_
        refine WO_gt rfl ?_
        refine WO_mv (v := .s (.int _ _)) rfl ?_
        refine WO_gt rfl ?_
        refine WO_mv (v := .s (.int _ _)) rfl ?_
        refine WO_gt rfl ?_
        refine WO_sub rfl rfl (by omega) ?_
        refine WO_gt rfl ?_
        refine WO_bin rfl rfl (bin_neq (decide_eq_false (by have := few.left; omega))) ?_
        refine WO_pick (v := .s (.bool _)) rfl rfl ?_
        refine WO_mv (v := .s (.bool _)) rfl ?_
        refine WO_gt rfl ?_
        refine WO_fa (o' := 0) rfl rfl rfl ?_
        refine WO_gt rfl ?_
        refine WO_ldI (x := M 0) rfl rfl (.tail _ (.tail _ (.tail _ (.head _)))) (rfl) ?_
        refine WO_gt rfl ?_
        refine WO_fa (o' := 0) rfl rfl rfl ?_
        refine WO_gt rfl ?_
        refine WO_ixa rfl rfl rfl (by omega) ?_
        refine WO_gt rfl ?_
        first | refine WO_ldA0 rfl rfl (.tail _ (.tail _ (.head _))) ?_ | refine WO_ldAI rfl rfl (.tail _ (.tail _ (.head _))) ?_
        refine WO_gt rfl ?_
        refine WO_buildI rfl .nil ?_
        refine WO_gt rfl ?_
        refine WO_eqaC rfl rfl (eqI_f (fun j hj => few.gone j hj)) ?_
        refine WO_pick (v := .s (.bool _)) rfl rfl ?_
        refine WO_mv (v := .s (.bool _)) rfl ?_
        refine WO_gt rfl ?_
        refine WO_fa (o' := 1) rfl rfl rfl ?_
        refine WO_gt rfl ?_
        refine WO_ldI (x := QM P M (sqI (M 1) + 1)) rfl rfl (.head _) (rfl) ?_
        refine WO_gt rfl ?_
        refine WO_fa (o' := 1) rfl rfl rfl ?_
        refine WO_gt rfl ?_
        refine WO_ldI (x := P (sqI (M 0) + 1)) rfl rfl (.tail _ (.head _)) (rfl) ?_
        refine WO_gt rfl ?_
        refine WO_bin rfl rfl (bin_neq (decide_eq_false (fun q => q few.side))) ?_
        refine WO_pick (v := .s (.bool _)) rfl rfl ?_
        refine WO_mv (v := .s (.bool _)) rfl ?_
        refine WO_gt rfl ?_
        refine WO_fa (o' := 0) rfl rfl rfl ?_
        refine WO_gt rfl ?_
        refine WO_ldI (x := QM P M (sqI (M 1))) rfl rfl (.head _) (rfl) ?_
        refine WO_gt rfl ?_
        refine WO_fa (o' := 0) rfl rfl rfl ?_
        refine WO_gt rfl ?_
        refine WO_ldI (x := P (sqI (M 0))) rfl rfl (.tail _ (.head _)) (rfl) ?_
        refine WO_gt rfl ?_
        refine WO_bin (r := .bool _) rfl rfl rfl ?_
        refine WO_gt rfl ?_
        refine WO_fa (o' := 2) rfl rfl rfl ?_
        refine WO_gt rfl ?_
        refine WO_ldI (x := M 2) rfl rfl (.tail _ (.tail _ (.tail _ (.head _)))) (rfl) ?_
        refine WO_gt rfl ?_
        refine WO_bin (r := .bool _) rfl rfl rfl ?_
        refine WO_gt rfl ?_
        refine WO_eqbF rfl rfl (neq_eq few.kind) ?_
        refine WO_pick (v := .s (.bool _)) rfl rfl ?_
        refine WO_nil ?_
        refine WP_cond rfl (fun h => nomatch h) (fun _ => ?_)
        refine WP_skip ?_
        refine WP_seq ?_
        refine WP_ops ?_
        refine WO_fa (o' := 129) rfl rfl rfl ?_
        refine WO_ldI (x := QM P M 129) rfl rfl (.tail _ (.tail _ (.head _))) (rfl) ?_
        refine WO_fa (o' := 129) rfl rfl rfl ?_
        refine WO_ldI (x := P 129) rfl rfl (.tail _ (.tail _ (.tail _ (.tail _ (.head _))))) (rfl) ?_
        refine WO_bin rfl rfl bin_andNot ?_
        refine WO_bin rfl rfl (bin_eql (decide_eq_true (few.castle))) ?_
        refine WO_mv (v := .s (.bool _)) rfl ?_
        refine WO_gt rfl ?_
        refine WO_fa (o' := 132) rfl rfl rfl ?_
        refine WO_gt rfl ?_
        refine WO_ldI (x := QM P M 132) rfl rfl (.tail _ (.tail _ (.head _))) (rfl) ?_
        refine WO_gt rfl ?_
        refine WO_mv (v := .s (.int _ _)) rfl ?_
        refine WO_gt rfl ?_
        refine WO_bin rfl rfl (bin_eql (decide_eq_true (by have h1 := few.full1; have h0 := few.full0; omega))) ?_
        refine WO_pick (v := .s (.bool _)) rfl rfl ?_
        refine WO_mv (v := .s (.bool _)) rfl ?_
        refine WO_gt rfl ?_
        refine WO_fa (o' := 131) rfl rfl rfl ?_
        refine WO_gt rfl ?_
        refine WO_ldI (x := QM P M 131) rfl rfl (.tail _ (.tail _ (.head _))) (rfl) ?_
        refine WO_gt rfl ?_
        refine WO_bin (r := .bool _) rfl rfl rfl ?_
        refine WO_gt rfl ?_
        refine WO_mv (v := .s (.int _ _)) rfl ?_
        refine WO_gt rfl ?_
        refine WO_bin rfl rfl (bin_eql (decide_eq_false (by omega))) ?_
        refine WO_gt rfl ?_
        refine WO_mv (v := .s (.bool _)) rfl ?_
        refine WO_gt rfl ?_
        refine WO_fa (o' := 0) rfl rfl rfl ?_
        refine WO_gt rfl ?_
        refine WO_ldI (x := P (sqI (M 0))) rfl rfl (.tail _ (.head _)) (rfl) ?_
        refine WO_gt rfl ?_
        refine WO_bin (r := .bool _) rfl rfl rfl ?_
        refine WO_gt rfl ?_
        refine WO_pick (v := .s (.bool _)) rfl rfl ?_
        refine WO_gt rfl ?_
        refine WO_eqbT rfl rfl (by have h1 := few.half; first | exact eq_true (h1.2 (.inl (by omega))) | exact eq_eq (by omega)) ?_
        refine WO_pick (v := .s (.bool _)) rfl rfl ?_
        refine WO_mv (v := .s (.bool _)) rfl ?_
        refine WO_gt rfl ?_
        refine WO_fa (o' := 130) rfl rfl rfl ?_
        refine WO_gt rfl ?_
        refine WO_ldI (x := QM P M 130) rfl rfl (.tail _ (.tail _ (.head _))) (rfl) ?_
        refine WO_gt rfl ?_
        refine WO_bin (r := .bool _) rfl rfl rfl ?_
        refine WO_gt rfl ?_
        refine WO_mv (v := .s (.bool _)) rfl ?_
        refine WO_case (t := 217) rfl (fun h47 => ?_) (fun h47 => ?_)
        ·try simp only [NM] at h47
         refine WO_gf rfl rfl ?_
         refine WO_gf rfl rfl ?_
         refine WO_gf rfl rfl ?_
         refine WO_gt rfl ?_
         refine WO_pick (v := .s (.bool _)) rfl rfl ?_
         refine WO_pick (v := .s (.bool _)) rfl rfl ?_
         refine WO_mv (v := .s (.bool _)) rfl ?_
         refine WO_nil ?_
         refine WP_ret ?_
         refine ⟨_, RS_tmp (v := .s (.bool _)) rfl (RS_nil), ?_⟩
         rfl
        ·try simp only [NM] at h47
         refine WO_gt rfl ?_
         refine WO_fa (o' := 0) rfl rfl rfl ?_
         refine WO_gt rfl ?_
         refine WO_ldI (x := P (sqI (M 0))) rfl rfl (.tail _ (.head _)) (rfl) ?_
         refine WO_gt rfl ?_
         refine WO_bin rfl rfl (bin_eql (decide_eq_true (by have := few.over; omega))) ?_
         refine WO_gt rfl ?_
         refine WO_pick (v := .s (.bool _)) rfl rfl ?_
         refine WO_pick (v := .s (.bool _)) rfl rfl ?_
         refine WO_mv (v := .s (.bool _)) rfl ?_
         refine WO_nil ?_
         refine WP_ret ?_
         refine ⟨_, RS_tmp (v := .s (.bool _)) rfl (RS_nil), ?_⟩
         rfl
       ·try simp only [NM] at h46
        refine WO_gf rfl rfl ?_
        refine WO_gf rfl rfl ?_
        refine WO_gf rfl rfl ?_
        refine WO_gt rfl ?_
        refine WO_pick (v := .s (.bool _)) rfl rfl ?_
        refine WO_pick (v := .s (.bool _)) rfl rfl ?_
        refine WO_mv (v := .s (.bool _)) rfl ?_
        refine WO_gt rfl ?_
        refine WO_mv (v := .s (.int _ _)) rfl ?_
        refine WO_gt rfl ?_
        refine WO_bin rfl rfl (bin_lss (decide_eq_false (by have := few.d1; have := few.d3; have := few.dp3; have := few.left; omega))) ?_
        refine WO_pick (v := .s (.bool _)) rfl rfl ?_
        refine WO_mv (v := .s (.bool _)) rfl ?_
        refine WO_gt rfl ?_
        refine WO_mv (v := .s (.int _ _)) rfl ?_
        refine WO_gt rfl ?_
        refine WO_mv (v := .s (.int _ _)) rfl ?_
        refine WO_gt rfl ?_
        refine WO_mv (v := .s (.int _ _)) rfl ?_
        refine WO_gt rfl ?_
        refine WO_sub rfl rfl (by omega) ?_
        refine WO_gt rfl ?_
        refine WO_bin rfl rfl (bin_neq (decide_eq_false (by have := few.left; omega))) ?_
        refine WO_pick (v := .s (.bool _)) rfl rfl ?_
        refine WO_mv (v := .s (.bool _)) rfl ?_
        refine WO_gt rfl ?_
        refine WO_fa (o' := 0) rfl rfl rfl ?_
        refine WO_gt rfl ?_
        refine WO_ldI (x := M 0) rfl rfl (.tail _ (.tail _ (.tail _ (.head _)))) (rfl) ?_
        refine WO_gt rfl ?_
        refine WO_fa (o' := 0) rfl rfl rfl ?_
        refine WO_gt rfl ?_
        refine WO_ixa rfl rfl rfl (by omega) ?_
        refine WO_gt rfl ?_
        first | refine WO_ldA0 rfl rfl (.tail _ (.tail _ (.head _))) ?_ | refine WO_ldAI rfl rfl (.tail _ (.tail _ (.head _))) ?_
        refine WO_gt rfl ?_
        refine WO_buildI rfl .nil ?_
        refine WO_gt rfl ?_
        refine WO_eqaC rfl rfl (eqI_f (fun j hj => few.gone j hj)) ?_
        refine WO_pick (v := .s (.bool _)) rfl rfl ?_
        refine WO_mv (v := .s (.bool _)) rfl ?_
        refine WO_gt rfl ?_
        refine WO_fa (o' := 1) rfl rfl rfl ?_
        refine WO_gt rfl ?_
        refine WO_ldI (x := QM P M (sqI (M 1) + 1)) rfl rfl (.head _) (rfl) ?_
        refine WO_gt rfl ?_
        refine WO_fa (o' := 1) rfl rfl rfl ?_
        refine WO_gt rfl ?_
        refine WO_ldI (x := P (sqI (M 0) + 1)) rfl rfl (.tail _ (.head _)) (rfl) ?_
        refine WO_gt rfl ?_
        refine WO_bin rfl rfl (bin_neq (decide_eq_false (fun q => q few.side))) ?_
        refine WO_pick (v := .s (.bool _)) rfl rfl ?_
        refine WO_mv (v := .s (.bool _)) rfl ?_
        refine WO_gt rfl ?_
        refine WO_fa (o' := 0) rfl rfl rfl ?_
        refine WO_gt rfl ?_
        refine WO_ldI (x := QM P M (sqI (M 1))) rfl rfl (.head _) (rfl) ?_
        refine WO_gt rfl ?_
        refine WO_fa (o' := 0) rfl rfl rfl ?_
        refine WO_gt rfl ?_
        refine WO_ldI (x := P (sqI (M 0))) rfl rfl (.tail _ (.head _)) (rfl) ?_
        refine WO_gt rfl ?_
        refine WO_bin (r := .bool _) rfl rfl rfl ?_
        refine WO_gt rfl ?_
        refine WO_fa (o' := 2) rfl rfl rfl ?_
        refine WO_gt rfl ?_
        refine WO_ldI (x := M 2) rfl rfl (.tail _ (.tail _ (.tail _ (.head _)))) (rfl) ?_
        refine WO_gt rfl ?_
        refine WO_bin (r := .bool _) rfl rfl rfl ?_
        refine WO_gt rfl ?_
        refine WO_eqbF rfl rfl (neq_eq few.kind) ?_
        refine WO_pick (v := .s (.bool _)) rfl rfl ?_
        refine WO_nil ?_
        refine WP_cond rfl (fun h => nomatch h) (fun _ => ?_)
        refine WP_skip ?_
        refine WP_seq ?_
        refine WP_ops ?_
        refine WO_fa (o' := 129) rfl rfl rfl ?_
        refine WO_ldI (x := QM P M 129) rfl rfl (.tail _ (.tail _ (.head _))) (rfl) ?_
        refine WO_fa (o' := 129) rfl rfl rfl ?_
        refine WO_ldI (x := P 129) rfl rfl (.tail _ (.tail _ (.tail _ (.tail _ (.head _))))) (rfl) ?_
        refine WO_bin rfl rfl bin_andNot ?_
        refine WO_bin rfl rfl (bin_eql (decide_eq_true (few.castle))) ?_
        refine WO_mv (v := .s (.bool _)) rfl ?_
        refine WO_gt rfl ?_
        refine WO_fa (o' := 132) rfl rfl rfl ?_
        refine WO_gt rfl ?_
        refine WO_ldI (x := QM P M 132) rfl rfl (.tail _ (.tail _ (.head _))) (rfl) ?_
        refine WO_gt rfl ?_
        refine WO_mv (v := .s (.int _ _)) rfl ?_
        refine WO_gt rfl ?_
        refine WO_bin rfl rfl (bin_eql (decide_eq_true (by have h1 := few.full1; have h0 := few.full0; omega))) ?_
        refine WO_pick (v := .s (.bool _)) rfl rfl ?_
        refine WO_mv (v := .s (.bool _)) rfl ?_
        refine WO_gt rfl ?_
        refine WO_fa (o' := 131) rfl rfl rfl ?_
        refine WO_gt rfl ?_
        refine WO_ldI (x := QM P M 131) rfl rfl (.tail _ (.tail _ (.head _))) (rfl) ?_
        refine WO_gt rfl ?_
        refine WO_bin (r := .bool _) rfl rfl rfl ?_
        refine WO_gt rfl ?_
        refine WO_mv (v := .s (.int _ _)) rfl ?_
        refine WO_gt rfl ?_
        refine WO_bin rfl rfl (bin_eql (decide_eq_false (by omega))) ?_
        refine WO_gt rfl ?_
        refine WO_mv (v := .s (.bool _)) rfl ?_
        refine WO_gt rfl ?_
        refine WO_fa (o' := 0) rfl rfl rfl ?_
        refine WO_gt rfl ?_
        refine WO_ldI (x := P (sqI (M 0))) rfl rfl (.tail _ (.head _)) (rfl) ?_
        refine WO_gt rfl ?_
        refine WO_bin (r := .bool _) rfl rfl rfl ?_
        refine WO_gt rfl ?_
        refine WO_pick (v := .s (.bool _)) rfl rfl ?_
        refine WO_gt rfl ?_
        refine WO_eqbT rfl rfl (by have h1 := few.half; first | exact eq_true (h1.2 (.inl (by omega))) | exact eq_eq (by omega)) ?_
        refine WO_pick (v := .s (.bool _)) rfl rfl ?_
        refine WO_mv (v := .s (.bool _)) rfl ?_
        refine WO_gt rfl ?_
        refine WO_fa (o' := 130) rfl rfl rfl ?_
        refine WO_gt rfl ?_
        refine WO_ldI (x := QM P M 130) rfl rfl (.tail _ (.tail _ (.head _))) (rfl) ?_
        refine WO_gt rfl ?_
        refine WO_bin (r := .bool _) rfl rfl rfl ?_
        refine WO_gt rfl ?_
        refine WO_mv (v := .s (.bool _)) rfl ?_
        refine WO_case (t := 217) rfl (fun h48 => ?_) (fun h48 => ?_)
        ·try simp only [NM] at h48
         refine WO_gf rfl rfl ?_
         refine WO_gf rfl rfl ?_
         refine WO_gf rfl rfl ?_
         refine WO_gt rfl ?_
         refine WO_pick (v := .s (.bool _)) rfl rfl ?_
         refine WO_pick (v := .s (.bool _)) rfl rfl ?_
         refine WO_mv (v := .s (.bool _)) rfl ?_
         refine WO_nil ?_
         refine WP_ret ?_
         refine ⟨_, RS_tmp (v := .s (.bool _)) rfl (RS_nil), ?_⟩
         rfl
        ·try simp only [NM] at h48
         refine WO_gt rfl ?_
         refine WO_fa (o' := 0) rfl rfl rfl ?_
         refine WO_gt rfl ?_
         refine WO_ldI (x := P (sqI (M 0))) rfl rfl (.tail _ (.head _)) (rfl) ?_
         refine WO_gt rfl ?_
         refine WO_bin rfl rfl (bin_eql (decide_eq_true (by have := few.over; omega))) ?_
         refine WO_gt rfl ?_
         refine WO_pick (v := .s (.bool _)) rfl rfl ?_
         refine WO_pick (v := .s (.bool _)) rfl rfl ?_
         refine WO_mv (v := .s (.bool _)) rfl ?_
         refine WO_nil ?_
         refine WP_ret ?_
         refine ⟨_, RS_tmp (v := .s (.bool _)) rfl (RS_nil), ?_⟩
         rfl
end Go.Proofs.Ytjldefmcnppdoaa
