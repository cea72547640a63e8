/- The walks of the chapter play: the hand. -/
import Derived.Test.YtjldefmcnppdoaaPlayA
namespace Go.Proofs.Ytjldefmcnppdoaa
open Go Go.Am
set_option linter.unusedSimpArgs false
set_option linter.unusedVariables false
theorem turns_run {md : Md} (H : Nat → Int) (ha : 0 ≤ H 133 ∧ H 133 < 64) (ht : 0 ≤ H 134 ∧ H 134 < 64) : WR AM 119 [.ptr 0 0 138] [.sc md 138 (ia H)] (fun v _ L => v = .s (.int .i64 (H 134 % 8 - H 133 % 8)) ∧ (0, Blk.sc md 138 (ia H)) ∈ L) := by
 refine WR_fn (a := a119) rfl rfl (entryF _) (entry_E (Nat.le_of_ble_eq_true rfl)) (m := 1) rfl ?_
 refine WP_seq ?_
 refine WP_ops ?_
 refine WO_mv rfl ?_
 refine WO_nil ?_
 refine WP_seq ?_
 refine WP_ops ?_
 refine WO_mv (v := .ptr _ _ _) rfl ?_
 refine WO_nilckP rfl ?_
 refine WO_fa (o' := 133) rfl rfl rfl ?_
 refine WO_fa (o' := 134) rfl rfl rfl ?_
 refine WO_ldI rfl rfl (.head _) rfl ?_
 refine WO_callq0 rfl (File_sq (by omega)) rfl rfl rfl ?_
 refine WO_mv (v := .ptr _ _ _) rfl ?_
 refine WO_nilckP rfl ?_
 refine WO_fa (o' := 133) rfl rfl rfl ?_
 refine WO_fa (o' := 133) rfl rfl rfl ?_
 refine WO_ldI rfl rfl (.head _) rfl ?_
 refine WO_call0 rfl (File_sq (by omega)) rfl rfl rfl ?_
 refine WO_sub rfl rfl (by omega) ?_
 refine WO_mv (v := .s (.int _ _)) rfl ?_
 refine WO_nil ?_
 refine WP_ret ?_
 refine ⟨_, RS_tmp (v := .s (.int _ _)) rfl (RS_nil), ?_⟩
 exact ⟨rfl, (.head _)⟩
theorem takes_run {md : Md} (H : Nat → Int) (ha : 0 ≤ H 133 ∧ H 133 < 64) (ht : 0 ≤ H 134 ∧ H 134 < 64) : WR AM 104 [.ptr 0 0 138] [.sc md 138 (ia H)] (fun v _ L => v = .s (.int .i64 (takesM H (H 136) (H 133) (H 134))) ∧ (0, Blk.sc md 138 (ia H)) ∈ L) := by
 refine WR_fn (a := a104) rfl rfl (entryF _) (entry_E (Nat.le_of_ble_eq_true rfl)) (m := 1) rfl ?_
 refine WP_seq ?_
 refine WP_ops ?_
 refine WO_mv rfl ?_
 refine WO_nil ?_
 refine WP_seq ?_
 refine WP_ops ?_
 refine WO_mv (v := .ptr _ _ _) rfl ?_
 refine WO_nilckP rfl ?_
 refine WO_fa (o' := 133) rfl rfl rfl ?_
 refine WO_fa (o' := 134) rfl rfl rfl ?_
 refine WO_ldI rfl rfl (.head _) rfl ?_
 refine WO_mv (v := .s (.int _ _)) rfl ?_
 refine WO_nil ?_
 refine WP_cut (fun f n L => (f 0 = .ptr 0 0 138) ∧ (f 3 = .s (.int .i64 (atT H (H 136) (H 133) (H 134)))) ∧ (L = [(0, .sc md 138 (ia H))]) ∧ (n = 1)) ?_ (fun f nb L hI => ?_)
 ·skip
  refine WP_seq ?_
  refine WP_ops ?_
  refine WO_mv (v := .ptr _ _ _) rfl ?_
  refine WO_nilckP rfl ?_
  refine WO_fa (o' := 136) rfl rfl rfl ?_
  refine WO_fa (o' := 136) rfl rfl rfl ?_
  refine WO_ldI rfl rfl (.head _) rfl ?_
  refine WO_bin (r := .bool _) rfl rfl rfl ?_
  refine WO_mv (v := .s (.bool _)) rfl ?_
  refine WO_case (t := 15) rfl (fun h1 => ?_) (fun h1 => ?_)
  ·try simp only [NM] at h1
   try simp only [isM, decide_eq_true_eq, decide_eq_false_iff_not] at h1
   refine WO_gt rfl ?_
   refine WO_mv (v := .ptr _ _ _) rfl ?_
   refine WO_gt rfl ?_
   refine WO_callP rfl (RB_of1 (turns_run H ha ht)) rfl rfl rfl .here ?_
   refine WO_gt rfl ?_
   refine WO_bin (r := .bool _) rfl rfl rfl ?_
   refine WO_pick (v := .s (.bool _)) rfl rfl ?_
   refine WO_mv (v := .s (.bool _)) rfl ?_
   refine WO_case (t := 20) rfl (fun h2 => ?_) (fun h2 => ?_)
   ·try simp only [NM] at h2
    try simp only [isM, decide_eq_true_eq, decide_eq_false_iff_not] at h2
    refine WO_gt rfl ?_
    refine WO_mv (v := .s (.int _ _)) rfl ?_
    refine WO_gt rfl ?_
    refine WO_mv (v := .ptr _ _ _) rfl ?_
    refine WO_gt rfl ?_
    refine WO_nilckP rfl ?_
    refine WO_gt rfl ?_
    refine WO_fa (o' := 0) rfl rfl rfl ?_
    refine WO_gt rfl ?_
    refine WO_fa (o' := 130) rfl rfl rfl ?_
    refine WO_gt rfl ?_
    refine WO_ldI rfl rfl (.head _) rfl ?_
    refine WO_gt rfl ?_
    refine WO_bin (r := .bool _) rfl rfl rfl ?_
    refine WO_pick (v := .s (.bool _)) rfl rfl ?_
    refine WO_mv (v := .s (.bool _)) rfl ?_
    refine WO_case (t := 29) rfl (fun h3 => ?_) (fun h3 => ?_)
    ·try simp only [NM] at h3
     try simp only [isM, decide_eq_true_eq, decide_eq_false_iff_not] at h3
     refine WO_gt rfl ?_
     refine WO_mv (v := .ptr _ _ _) rfl ?_
     refine WO_gt rfl ?_
     refine WO_mv (v := .s (.int _ _)) rfl ?_
     refine WO_gt rfl ?_
     refine WO_nilckP rfl ?_
     refine WO_gt rfl ?_
     refine WO_fa (o' := 0) rfl rfl rfl ?_
     refine WO_gt rfl ?_
     refine WO_fa (o' := 0) rfl rfl rfl ?_
     refine WO_gt rfl ?_
     refine WO_ixa rfl rfl rfl (by omega) ?_
     refine WO_gt rfl ?_
     first | refine WO_ldA0 rfl rfl (.head _) ?_ | refine WO_ldAI rfl rfl (.head _) ?_
     refine WO_gt rfl ?_
     refine WO_buildI rfl .nil ?_
     refine WO_gt rfl ?_
     refine WO_eqa rfl rfl ?_
     refine WO_pick (v := .s (.bool _)) rfl rfl ?_
     refine WO_nil ?_
     refine WP_cond rfl (fun h4 => ?_) (fun h4 => ?_)
     ·try simp only [NM] at h4
      try simp only [isM, decide_eq_true_eq, decide_eq_false_iff_not] at h4
      refine WP_ops ?_
      refine WO_mv (v := .s (.int _ _)) rfl ?_
      refine WO_callq0 rfl (File_sq (by omega)) rfl rfl rfl ?_
      refine WO_mv (v := .ptr _ _ _) rfl ?_
      refine WO_nilckP rfl ?_
      refine WO_fa (o' := 133) rfl rfl rfl ?_
      refine WO_fa (o' := 133) rfl rfl rfl ?_
      refine WO_ldI rfl rfl (.head _) rfl ?_
      refine WO_call0 rfl (Rank_sq (by omega)) rfl rfl rfl ?_
      refine WO_call0 rfl (RF_of (At_run _ _ (by omega) (by omega))) rfl rfl rfl ?_
      refine WO_mv (v := .s (.int _ _)) rfl ?_
      refine WO_nil ?_
      refine ⟨_, (.cons_cons _ .slnil), rfl, ?_, rfl, rfl⟩
      refine congrArg (fun b => V.s (S.int .i64 b)) ?_
      first | (rw [atT, if_pos ⟨by omega, by omega, by omega, by assumption⟩, atM, if_pos (by omega)]; done) | (rw [atT, if_neg (fun q => by omega)]; done) | (rw [atT, if_neg (fun q => Bool.false_ne_true ((show emptyM H (H 134) = false from (by assumption)).symm.trans q.2.2.2))]; done)
     ·try simp only [NM] at h4
      try simp only [isM, decide_eq_true_eq, decide_eq_false_iff_not] at h4
      refine WP_skip ?_
      refine ⟨_, (.cons_cons _ .slnil), rfl, ?_, rfl, rfl⟩
      refine congrArg (fun b => V.s (S.int .i64 b)) ?_
      first | (rw [atT, if_pos ⟨by omega, by omega, by omega, by assumption⟩, atM, if_pos (by omega)]; done) | (rw [atT, if_neg (fun q => by omega)]; done) | (rw [atT, if_neg (fun q => Bool.false_ne_true ((show emptyM H (H 134) = false from (by assumption)).symm.trans q.2.2.2))]; done)
    ·try simp only [NM] at h3
     try simp only [isM, decide_eq_true_eq, decide_eq_false_iff_not] at h3
     refine WO_gf rfl rfl ?_
     refine WO_gf rfl rfl ?_
     refine WO_gf rfl rfl ?_
     refine WO_gf rfl rfl ?_
     refine WO_gf rfl rfl ?_
     refine WO_gf rfl rfl ?_
     refine WO_gf rfl rfl ?_
     refine WO_gf rfl rfl ?_
     refine WO_gf rfl rfl ?_
     refine WO_pick (v := .s (.bool _)) rfl rfl ?_
     refine WO_nil ?_
     refine WP_cond rfl (fun h => nomatch h) (fun _ => ?_)
     refine WP_skip ?_
     refine ⟨_, (.cons_cons _ .slnil), rfl, ?_, rfl, rfl⟩
     refine congrArg (fun b => V.s (S.int .i64 b)) ?_
     first | (rw [atT, if_pos ⟨by omega, by omega, by omega, by assumption⟩, atM, if_pos (by omega)]; done) | (rw [atT, if_neg (fun q => by omega)]; done) | (rw [atT, if_neg (fun q => Bool.false_ne_true ((show emptyM H (H 134) = false from (by assumption)).symm.trans q.2.2.2))]; done)
   ·try simp only [NM] at h2
    try simp only [isM, decide_eq_true_eq, decide_eq_false_iff_not] at h2
    refine WO_gf rfl rfl ?_
    refine WO_gf rfl rfl ?_
    refine WO_gf rfl rfl ?_
    refine WO_gf rfl rfl ?_
    refine WO_gf rfl rfl ?_
    refine WO_gf rfl rfl ?_
    refine WO_gf rfl rfl ?_
    refine WO_pick (v := .s (.bool _)) rfl rfl ?_
    refine WO_mv (v := .s (.bool _)) rfl ?_
    refine WO_gf rfl rfl ?_
    refine WO_gf rfl rfl ?_
    refine WO_gf rfl rfl ?_
    refine WO_gf rfl rfl ?_
    refine WO_gf rfl rfl ?_
    refine WO_gf rfl rfl ?_
    refine WO_gf rfl rfl ?_
    refine WO_gf rfl rfl ?_
    refine WO_gf rfl rfl ?_
    refine WO_pick (v := .s (.bool _)) rfl rfl ?_
    refine WO_nil ?_
    refine WP_cond rfl (fun h => nomatch h) (fun _ => ?_)
    refine WP_skip ?_
    refine ⟨_, (.cons_cons _ .slnil), rfl, ?_, rfl, rfl⟩
    refine congrArg (fun b => V.s (S.int .i64 b)) ?_
    first | (rw [atT, if_pos ⟨by omega, by omega, by omega, by assumption⟩, atM, if_pos (by omega)]; done) | (rw [atT, if_neg (fun q => by omega)]; done) | (rw [atT, if_neg (fun q => Bool.false_ne_true ((show emptyM H (H 134) = false from (by assumption)).symm.trans q.2.2.2))]; done)
  ·try simp only [NM] at h1
   try simp only [isM, decide_eq_true_eq, decide_eq_false_iff_not] at h1
   refine WO_gf rfl rfl ?_
   refine WO_gf rfl rfl ?_
   refine WO_gf rfl rfl ?_
   refine WO_pick (v := .s (.bool _)) rfl rfl ?_
   refine WO_mv (v := .s (.bool _)) rfl ?_
   refine WO_gf rfl rfl ?_
   refine WO_gf rfl rfl ?_
   refine WO_gf rfl rfl ?_
   refine WO_gf rfl rfl ?_
   refine WO_gf rfl rfl ?_
   refine WO_gf rfl rfl ?_
   refine WO_gf rfl rfl ?_
   refine WO_pick (v := .s (.bool _)) rfl rfl ?_
   refine WO_mv (v := .s (.bool _)) rfl ?_
   refine WO_gf rfl rfl ?_
   refine WO_gf rfl rfl ?_
   refine WO_gf rfl rfl ?_
   refine WO_gf rfl rfl ?_
   refine WO_gf rfl rfl ?_
   refine WO_gf rfl rfl ?_
   refine WO_gf rfl rfl ?_
   refine WO_gf rfl rfl ?_
   refine WO_gf rfl rfl ?_
   refine WO_pick (v := .s (.bool _)) rfl rfl ?_
   refine WO_nil ?_
   refine WP_cond rfl (fun h => nomatch h) (fun _ => ?_)
   refine WP_skip ?_
   refine ⟨_, (.cons_cons _ .slnil), rfl, ?_, rfl, rfl⟩
   refine congrArg (fun b => V.s (S.int .i64 b)) ?_
   first | (rw [atT, if_pos ⟨by omega, by omega, by omega, by assumption⟩, atM, if_pos (by omega)]; done) | (rw [atT, if_neg (fun q => by omega)]; done) | (rw [atT, if_neg (fun q => Bool.false_ne_true ((show emptyM H (H 134) = false from (by assumption)).symm.trans q.2.2.2))]; done)
 ·skip
  obtain ⟨k0, k3, rfl, rfl⟩ := hI
  refine WP_know (d := 0) (v := .ptr 0 0 138) k0 ?_
  refine WP_know (d := 3) (v := .s (.int .i64 (atT H (H 136) (H 133) (H 134)))) k3 ?_
  have hat := atT_bd (P := H) (k := H 136) ha ht
  refine WP_seq ?_
  refine WP_seq ?_
  refine WP_ops ?_
  refine WO_mv (v := .ptr _ _ _) rfl ?_
  refine WO_mv (v := .s (.int _ _)) rfl ?_
  refine WO_nilckP rfl ?_
  refine WO_fa (o' := 0) rfl rfl rfl ?_
  refine WO_fa (o' := 0) rfl rfl rfl ?_
  refine WO_ixa rfl rfl rfl (by omega) ?_
  first | refine WO_ldA0 rfl rfl (.head _) ?_ | refine WO_ldAI rfl rfl (.head _) ?_
  refine WO_buildI rfl .nil ?_
  refine WO_eqa rfl rfl ?_
  refine WO_nil ?_
  refine WP_cond rfl (fun h5 => ?_) (fun h5 => ?_)
  ·try simp only [NM] at h5
   try simp only [isM, decide_eq_true_eq, decide_eq_false_iff_not] at h5
   refine WP_seq ?_
   refine WP_ops ?_
   refine WO_mv rfl ?_
   refine WO_nil ?_
   refine WP_ret ?_
   refine ⟨_, RS_tmp (v := .s (.int _ _)) rfl (RS_nil), ?_⟩
   refine ⟨congrArg (fun b => V.s (S.int .i64 b)) ?_, (.head _)⟩
   first | (rw [takesM, show emptyM H (atT H (H 136) (H 133) (H 134)) = true from (by assumption)]; rfl) | (rw [takesM, show emptyM H (atT H (H 136) (H 133) (H 134)) = false from (by assumption)]; rfl)
  ·try simp only [NM] at h5
   try simp only [isM, decide_eq_true_eq, decide_eq_false_iff_not] at h5
   refine WP_skip ?_
   refine WP_seq ?_
   refine WP_ops ?_
   refine WO_mv (v := .s (.int _ _)) rfl ?_
   refine WO_mv (v := .s (.int _ _)) rfl ?_
   refine WO_nil ?_
   refine WP_ret ?_
   refine ⟨_, RS_tmp (v := .s (.int _ _)) rfl (RS_nil), ?_⟩
   refine ⟨congrArg (fun b => V.s (S.int .i64 b)) ?_, (.head _)⟩
   first | (rw [takesM, show emptyM H (atT H (H 136) (H 133) (H 134)) = true from (by assumption)]; rfl) | (rw [takesM, show emptyM H (atT H (H 136) (H 133) (H 134)) = false from (by assumption)]; rfl)
/-- From where and to where a rook goes. -/
def RookOf (k a t c C x y : Int) (z : Bool) : Prop := (castlingM k a t c C = 1 ∧ z = true ∧ x = a + 3 ∧ y = a + 1) ∨ (castlingM k a t c C = -1 ∧ z = true ∧ x = a - 4 ∧ y = a - 1) ∨ (castlingM k a t c C = 0 ∧ z = false)
theorem rook_none {k a t c C x y : Int} (h : ¬ (k = 6 ∧ a = 56 * c + 4 ∧ (t = a + 2 ∨ t = a - 2))) : RookOf k a t c C x y false := by
  refine .inr (.inr ⟨?_, rfl⟩)
  rw [castlingM, if_neg (fun q => h ⟨q.1, q.2.1, .inl q.2.2.1⟩), if_neg (fun q => h ⟨q.1, q.2.1, .inr q.2.2.1⟩)]
theorem shortM_in {c : Int} : shortM c = 1 ∨ shortM c = 4 := by unfold shortM; split <;> omega
theorem bne_and {C s : Int} (h : 0 ≤ C ∧ C ≤ 15) (hs : s = 1 ∨ s = 2 ∨ s = 4 ∨ s = 8) : (andM C s != 0) = decide (C / s % 2 = 1) := by
  rw [Bool.eq_iff_iff, decide_eq_true_eq, ← and_is h hs, bne_iff_ne]
theorem rook_short {k a t c C : Int} (hC : 0 ≤ C ∧ C ≤ 15) (hk : k = 6) (ha : a = 56 * c + 4) (ht : t = a + 2) : RookOf k a t c C (56 * c + 4 + 3) (56 * c + 4 + 1) (andM C (shortM c) != 0) := by
  have hs := shortM_in (c := c)
  rw [bne_and hC (by omega)]
  by_cases h : C / shortM c % 2 = 1
  · refine .inl ⟨?_, decide_eq_true h, by omega, by omega⟩
    rw [castlingM, if_pos ⟨hk, ha, ht, h⟩]
  · refine .inr (.inr ⟨?_, decide_eq_false h⟩)
    rw [castlingM, if_neg (fun q => h q.2.2.2), if_neg (fun q => by omega)]
theorem rook_long {k a t c C : Int} (hC : 0 ≤ C ∧ C ≤ 15) (hk : k = 6) (ha : a = 56 * c + 4) (ht : t = a - 2) : RookOf k a t c C (56 * c + 4 - 4) (56 * c + 4 - 1) (andM C (2 * shortM c) != 0) := by
  have hs := shortM_in (c := c)
  rw [bne_and hC (by omega)]
  by_cases h : C / (2 * shortM c) % 2 = 1
  · refine .inr (.inl ⟨?_, decide_eq_true h, by omega, by omega⟩)
    rw [castlingM, if_neg (fun q => by omega), if_pos ⟨hk, ha, ht, h⟩]
  · refine .inr (.inr ⟨?_, decide_eq_false h⟩)
    rw [castlingM, if_neg (fun q => by omega), if_neg (fun q => h q.2.2.2)]

theorem rook_run {md : Md} (H : Nat → Int) (ha : 0 ≤ H 133 ∧ H 133 < 64) (ht : 0 ≤ H 134 ∧ H 134 < 64) (hc : H 137 = 0 ∨ H 137 = 1) (hC : 0 ≤ H 129 ∧ H 129 ≤ 15) : WR AM 115 [.ptr 0 0 138] [.sc md 138 (ia H)] (fun v _ L => (∃ x y z, v = .tup [.s (.int .i64 x), .s (.int .i64 y), .s (.bool z)] ∧ RookOf (H 136) (H 133) (H 134) (H 137) (H 129) x y z) ∧ (0, Blk.sc md 138 (ia H)) ∈ L) := by
 refine WR_fn (a := a115) rfl rfl (entryF _) (entry_E (Nat.le_of_ble_eq_true rfl)) (m := 1) rfl ?_
 refine WP_seq ?_
 refine WP_ops ?_
 refine WO_mv rfl ?_
 refine WO_mv rfl ?_
 refine WO_mv rfl ?_
 refine WO_nil ?_
 refine WP_seq ?_
 refine WP_ops ?_
 refine WO_mv (v := .ptr _ _ _) rfl ?_
 refine WO_nilckP rfl ?_
 refine WO_fa (o' := 136) rfl rfl rfl ?_
 refine WO_fa (o' := 137) rfl rfl rfl ?_
 refine WO_ldI rfl rfl (.head _) rfl ?_
 refine WO_mul rfl rfl (by omega) ?_
 refine WO_add rfl rfl (by omega) ?_
 refine WO_mv (v := .s (.int _ _)) rfl ?_
 refine WO_nil ?_
 refine WP_seq ?_
 refine WP_ops ?_
 refine WO_mv (v := .ptr _ _ _) rfl ?_
 refine WO_nilckP rfl ?_
 refine WO_fa (o' := 136) rfl rfl rfl ?_
 refine WO_fa (o' := 137) rfl rfl rfl ?_
 refine WO_ldI rfl rfl (.head _) rfl ?_
 refine WO_mul rfl rfl (by omega) ?_
 refine WO_bin rfl rfl (cast_shl1 hc) ?_
 refine WO_mv (v := .s (.int _ _)) rfl ?_
 refine WO_nil ?_
 refine WP_seq ?_
 refine WP_block ?_
 refine WP_seq ?_
 refine WP_ops ?_
 refine WO_mv (v := .ptr _ _ _) rfl ?_
 refine WO_nilckP rfl ?_
 refine WO_fa (o' := 136) rfl rfl rfl ?_
 refine WO_fa (o' := 136) rfl rfl rfl ?_
 refine WO_ldI rfl rfl (.head _) rfl ?_
 refine WO_bin (r := .bool _) rfl rfl rfl ?_
 refine WO_mv (v := .s (.bool _)) rfl ?_
 refine WO_case (t := 28) rfl (fun h6 => ?_) (fun h6 => ?_)
 ·try simp only [NM] at h6
  try simp only [isM, decide_eq_true_eq, decide_eq_false_iff_not] at h6
  refine WO_gf rfl rfl ?_
  refine WO_gf rfl rfl ?_
  refine WO_gf rfl rfl ?_
  refine WO_gf rfl rfl ?_
  refine WO_gf rfl rfl ?_
  refine WO_gf rfl rfl ?_
  refine WO_gf rfl rfl ?_
  refine WO_pick (v := .s (.bool _)) rfl rfl ?_
  refine WO_mv (v := .s (.bool _)) rfl ?_
  refine WO_nil ?_
  refine WP_cond rfl (fun _ => ?_) (fun h => nomatch h)
  refine WP_seq ?_
  refine WP_ops ?_
  refine WO_mv rfl ?_
  refine WO_mv rfl ?_
  refine WO_mv rfl ?_
  refine WO_nil ?_
  refine WP_ret ?_
  refine ⟨_, RS_tmp (v := .s (.int _ _)) rfl (RS_tmp (v := .s (.int _ _)) rfl (RS_tmp (v := .s (.bool _)) rfl (RS_nil))), ?_⟩
  refine ⟨⟨_, _, _, rfl, ?_⟩, (.head _)⟩
  first | exact rook_none (by omega) | exact rook_short hC (by omega) (by omega) (by omega) | exact rook_long hC (by omega) (by omega) (by omega)
 ·try simp only [NM] at h6
  try simp only [isM, decide_eq_true_eq, decide_eq_false_iff_not] at h6
  refine WO_gt rfl ?_
  refine WO_mv (v := .ptr _ _ _) rfl ?_
  refine WO_gt rfl ?_
  refine WO_nilckP rfl ?_
  refine WO_gt rfl ?_
  refine WO_fa (o' := 133) rfl rfl rfl ?_
  refine WO_gt rfl ?_
  refine WO_fa (o' := 133) rfl rfl rfl ?_
  refine WO_gt rfl ?_
  refine WO_ldI rfl rfl (.head _) rfl ?_
  refine WO_gt rfl ?_
  refine WO_mv (v := .s (.int _ _)) rfl ?_
  refine WO_gt rfl ?_
  refine WO_bin (r := .bool _) rfl rfl rfl ?_
  refine WO_pick (v := .s (.bool _)) rfl rfl ?_
  refine WO_mv (v := .s (.bool _)) rfl ?_
  refine WO_nil ?_
  refine WP_cond rfl (fun h7 => ?_) (fun h7 => ?_)
  ·try simp only [NM] at h7
   try simp only [isM, decide_eq_true_eq, decide_eq_false_iff_not] at h7
   refine WP_seq ?_
   refine WP_ops ?_
   refine WO_mv rfl ?_
   refine WO_mv rfl ?_
   refine WO_mv rfl ?_
   refine WO_nil ?_
   refine WP_ret ?_
   refine ⟨_, RS_tmp (v := .s (.int _ _)) rfl (RS_tmp (v := .s (.int _ _)) rfl (RS_tmp (v := .s (.bool _)) rfl (RS_nil))), ?_⟩
   refine ⟨⟨_, _, _, rfl, ?_⟩, (.head _)⟩
   first | exact rook_none (by omega) | exact rook_short hC (by omega) (by omega) (by omega) | exact rook_long hC (by omega) (by omega) (by omega)
  ·try simp only [NM] at h7
   try simp only [isM, decide_eq_true_eq, decide_eq_false_iff_not] at h7
   refine WP_seq ?_
   refine WP_ops ?_
   refine WO_mv (v := .ptr _ _ _) rfl ?_
   refine WO_nilckP rfl ?_
   refine WO_fa (o' := 133) rfl rfl rfl ?_
   refine WO_fa (o' := 134) rfl rfl rfl ?_
   refine WO_ldI rfl rfl (.head _) rfl ?_
   refine WO_mv (v := .s (.int _ _)) rfl ?_
   refine WO_add rfl rfl (by omega) ?_
   refine WO_bin (r := .bool _) rfl rfl rfl ?_
   refine WO_mv (v := .s (.bool _)) rfl ?_
   refine WO_nil ?_
   refine WP_cond rfl (fun h8 => ?_) (fun h8 => ?_)
   ·try simp only [NM] at h8
    try simp only [isM, decide_eq_true_eq, decide_eq_false_iff_not] at h8
    refine WP_seq ?_
    refine WP_ops ?_
    refine WO_mv (v := .s (.int _ _)) rfl ?_
    refine WO_add rfl rfl (by omega) ?_
    refine WO_mv (v := .s (.int _ _)) rfl ?_
    refine WO_add rfl rfl (by omega) ?_
    refine WO_mv (v := .ptr _ _ _) rfl ?_
    refine WO_nilckP rfl ?_
    refine WO_fa (o' := 0) rfl rfl rfl ?_
    refine WO_fa (o' := 129) rfl rfl rfl ?_
    refine WO_ldI rfl rfl (.head _) rfl ?_
    refine WO_mv (v := .s (.int _ _)) rfl ?_
    refine WO_bin (r := .int .i64 (andM (H 129) (shortM (H 137)))) rfl rfl rfl ?_
    refine WO_bin (r := .bool _) rfl rfl rfl ?_
    refine WO_mv (v := .s (.int _ _)) rfl ?_
    refine WO_mv (v := .s (.int _ _)) rfl ?_
    refine WO_mv (v := .s (.bool _)) rfl ?_
    refine WO_nil ?_
    refine WP_ret ?_
    refine ⟨_, RS_tmp (v := .s (.int _ _)) rfl (RS_tmp (v := .s (.int _ _)) rfl (RS_tmp (v := .s (.bool _)) rfl (RS_nil))), ?_⟩
    refine ⟨⟨_, _, _, rfl, ?_⟩, (.head _)⟩
    first | exact rook_none (by omega) | exact rook_short hC (by omega) (by omega) (by omega) | exact rook_long hC (by omega) (by omega) (by omega)
   ·try simp only [NM] at h8
    try simp only [isM, decide_eq_true_eq, decide_eq_false_iff_not] at h8
    refine WP_seq ?_
    refine WP_ops ?_
    refine WO_mv (v := .ptr _ _ _) rfl ?_
    refine WO_nilckP rfl ?_
    refine WO_fa (o' := 133) rfl rfl rfl ?_
    refine WO_fa (o' := 134) rfl rfl rfl ?_
    refine WO_ldI rfl rfl (.head _) rfl ?_
    refine WO_mv (v := .s (.int _ _)) rfl ?_
    refine WO_sub rfl rfl (by omega) ?_
    refine WO_bin (r := .bool _) rfl rfl rfl ?_
    refine WO_mv (v := .s (.bool _)) rfl ?_
    refine WO_nil ?_
    refine WP_cond rfl (fun h9 => ?_) (fun h9 => ?_)
    ·try simp only [NM] at h9
     try simp only [isM, decide_eq_true_eq, decide_eq_false_iff_not] at h9
     refine WP_seq ?_
     refine WP_ops ?_
     refine WO_mv (v := .s (.int _ _)) rfl ?_
     refine WO_sub rfl rfl (by omega) ?_
     refine WO_mv (v := .s (.int _ _)) rfl ?_
     refine WO_sub rfl rfl (by omega) ?_
     refine WO_mv (v := .ptr _ _ _) rfl ?_
     refine WO_nilckP rfl ?_
     refine WO_fa (o' := 0) rfl rfl rfl ?_
     refine WO_fa (o' := 129) rfl rfl rfl ?_
     refine WO_ldI rfl rfl (.head _) rfl ?_
     refine WO_mv (v := .s (.int _ _)) rfl ?_
     refine WO_bin rfl rfl (cast_shl2 hc) ?_
     refine WO_bin (r := .int .i64 (andM (H 129) (2 * shortM (H 137)))) rfl rfl rfl ?_
     refine WO_bin (r := .bool _) rfl rfl rfl ?_
     refine WO_mv (v := .s (.int _ _)) rfl ?_
     refine WO_mv (v := .s (.int _ _)) rfl ?_
     refine WO_mv (v := .s (.bool _)) rfl ?_
     refine WO_nil ?_
     refine WP_ret ?_
     refine ⟨_, RS_tmp (v := .s (.int _ _)) rfl (RS_tmp (v := .s (.int _ _)) rfl (RS_tmp (v := .s (.bool _)) rfl (RS_nil))), ?_⟩
     refine ⟨⟨_, _, _, rfl, ?_⟩, (.head _)⟩
     first | exact rook_none (by omega) | exact rook_short hC (by omega) (by omega) (by omega) | exact rook_long hC (by omega) (by omega) (by omega)
    ·try simp only [NM] at h9
     try simp only [isM, decide_eq_true_eq, decide_eq_false_iff_not] at h9
     refine WP_skip ?_
     refine WP_seq ?_
     refine WP_ops ?_
     refine WO_mv rfl ?_
     refine WO_mv rfl ?_
     refine WO_mv rfl ?_
     refine WO_nil ?_
     refine WP_ret ?_
     refine ⟨_, RS_tmp (v := .s (.int _ _)) rfl (RS_tmp (v := .s (.int _ _)) rfl (RS_tmp (v := .s (.bool _)) rfl (RS_nil))), ?_⟩
     refine ⟨⟨_, _, _, rfl, ?_⟩, (.head _)⟩
     first | exact rook_none (by omega) | exact rook_short hC (by omega) (by omega) (by omega) | exact rook_long hC (by omega) (by omega) (by omega)
theorem long_run {md : Md} (H : Nat → Int) (ha : 0 ≤ H 133 ∧ H 133 < 64) (ht : 0 ≤ H 134 ∧ H 134 < 64) (hc : H 137 = 0 ∨ H 137 = 1) : WR AM 116 [.ptr 0 0 138] [.sc md 138 (ia H)] (fun v _ L => v = .s (.bool (longM (H 136) (H 133) (H 134) (H 137))) ∧ (0, Blk.sc md 138 (ia H)) ∈ L) := by
 refine WR_fn (a := a116) rfl rfl (entryF _) (entry_E (Nat.le_of_ble_eq_true rfl)) (m := 1) rfl ?_
 refine WP_seq ?_
 refine WP_ops ?_
 refine WO_mv rfl ?_
 refine WO_nil ?_
 refine WP_seq ?_
 refine WP_ops ?_
 refine WO_mv (v := .ptr _ _ _) rfl ?_
 refine WO_nilckP rfl ?_
 refine WO_fa (o' := 136) rfl rfl rfl ?_
 refine WO_fa (o' := 137) rfl rfl rfl ?_
 refine WO_ldI rfl rfl (.head _) rfl ?_
 refine WO_mul rfl rfl (by omega) ?_
 refine WO_sub rfl rfl (by omega) ?_
 refine WO_mv (v := .s (.int _ _)) rfl ?_
 refine WO_nil ?_
 refine WP_seq ?_
 refine WP_ops ?_
 refine WO_mv (v := .ptr _ _ _) rfl ?_
 refine WO_nilckP rfl ?_
 refine WO_fa (o' := 133) rfl rfl rfl ?_
 refine WO_fa (o' := 133) rfl rfl rfl ?_
 refine WO_ldI rfl rfl (.head _) rfl ?_
 refine WO_callq0 rfl (Rank_sq (by omega)) rfl rfl rfl ?_
 refine WO_mv (v := .ptr _ _ _) rfl ?_
 refine WO_nilckP rfl ?_
 refine WO_fa (o' := 133) rfl rfl rfl ?_
 refine WO_fa (o' := 134) rfl rfl rfl ?_
 refine WO_ldI rfl rfl (.head _) rfl ?_
 refine WO_call0 rfl (Rank_sq (by omega)) rfl rfl rfl ?_
 refine WO_mv (v := .s (.int _ _)) rfl ?_
 refine WO_mv (v := .s (.int _ _)) rfl ?_
 refine WO_nil ?_
 refine WP_seq ?_
 refine WP_ops ?_
 refine WO_mv (v := .ptr _ _ _) rfl ?_
 refine WO_nilckP rfl ?_
 refine WO_fa (o' := 136) rfl rfl rfl ?_
 refine WO_fa (o' := 136) rfl rfl rfl ?_
 refine WO_ldI rfl rfl (.head _) rfl ?_
 refine WO_bin (r := .bool _) rfl rfl rfl ?_
 refine WO_mv (v := .s (.bool _)) rfl ?_
 refine WO_case (t := 31) rfl (fun h10 => ?_) (fun h10 => ?_)
 ·try simp only [NM] at h10
  try simp only [isM, decide_eq_true_eq, decide_eq_false_iff_not] at h10
  refine WO_gt rfl ?_
  refine WO_mv (v := .ptr _ _ _) rfl ?_
  refine WO_gt rfl ?_
  refine WO_callP rfl (RB_of1 (turns_run H ha ht)) rfl rfl rfl .here ?_
  refine WO_gt rfl ?_
  refine WO_bin (r := .bool _) rfl rfl rfl ?_
  refine WO_pick (v := .s (.bool _)) rfl rfl ?_
  refine WO_mv (v := .s (.bool _)) rfl ?_
  refine WO_case (t := 36) rfl (fun h11 => ?_) (fun h11 => ?_)
  ·try simp only [NM] at h11
   try simp only [isM, decide_eq_true_eq, decide_eq_false_iff_not] at h11
   refine WO_gt rfl ?_
   refine WO_mv (v := .s (.int _ _)) rfl ?_
   refine WO_gt rfl ?_
   refine WO_mv (v := .ptr _ _ _) rfl ?_
   refine WO_gt rfl ?_
   refine WO_nilckP rfl ?_
   refine WO_gt rfl ?_
   refine WO_fa (o' := 136) rfl rfl rfl ?_
   refine WO_gt rfl ?_
   refine WO_fa (o' := 137) rfl rfl rfl ?_
   refine WO_gt rfl ?_
   refine WO_ldI rfl rfl (.head _) rfl ?_
   refine WO_gt rfl ?_
   refine WO_mul rfl rfl (by omega) ?_
   refine WO_gt rfl ?_
   refine WO_add rfl rfl (by omega) ?_
   refine WO_gt rfl ?_
   refine WO_bin (r := .bool _) rfl rfl rfl ?_
   refine WO_pick (v := .s (.bool _)) rfl rfl ?_
   refine WO_mv (v := .s (.bool _)) rfl ?_
   refine WO_case (t := 47) rfl (fun h12 => ?_) (fun h12 => ?_)
   ·try simp only [NM] at h12
    try simp only [isM, decide_eq_true_eq, decide_eq_false_iff_not] at h12
    refine WO_gt rfl ?_
    refine WO_mv (v := .s (.int _ _)) rfl ?_
    refine WO_gt rfl ?_
    refine WO_mv (v := .s (.int _ _)) rfl ?_
    refine WO_gt rfl ?_
    refine WO_mv (v := .s (.int _ _)) rfl ?_
    refine WO_gt rfl ?_
    refine WO_mul rfl rfl (by omega) ?_
    refine WO_gt rfl ?_
    refine WO_add rfl rfl (by omega) ?_
    refine WO_gt rfl ?_
    refine WO_bin (r := .bool _) rfl rfl rfl ?_
    refine WO_pick (v := .s (.bool _)) rfl rfl ?_
    refine WO_mv (v := .s (.bool _)) rfl ?_
    refine WO_nil ?_
    refine WP_ret ?_
    refine ⟨_, RS_tmp (v := .s (.bool _)) rfl (RS_nil), ?_⟩
    refine ⟨congrArg (fun b => V.s (S.bool b)) ?_, (.head _)⟩
    unfold longM
    rw [Bool.eq_iff_iff]
    simp only [beq_iff_eq, decide_eq_true_eq, Bool.false_eq_true, true_iff, false_iff, iff_true, iff_false]
    omega
   ·try simp only [NM] at h12
    try simp only [isM, decide_eq_true_eq, decide_eq_false_iff_not] at h12
    refine WO_gf rfl rfl ?_
    refine WO_gf rfl rfl ?_
    refine WO_gf rfl rfl ?_
    refine WO_gf rfl rfl ?_
    refine WO_gf rfl rfl ?_
    refine WO_gf rfl rfl ?_
    refine WO_pick (v := .s (.bool _)) rfl rfl ?_
    refine WO_mv (v := .s (.bool _)) rfl ?_
    refine WO_nil ?_
    refine WP_ret ?_
    refine ⟨_, RS_tmp (v := .s (.bool _)) rfl (RS_nil), ?_⟩
    refine ⟨congrArg (fun b => V.s (S.bool b)) ?_, (.head _)⟩
    unfold longM
    rw [Bool.eq_iff_iff]
    simp only [beq_iff_eq, decide_eq_true_eq, Bool.false_eq_true, true_iff, false_iff, iff_true, iff_false]
    omega
  ·try simp only [NM] at h11
   try simp only [isM, decide_eq_true_eq, decide_eq_false_iff_not] at h11
   refine WO_gf rfl rfl ?_
   refine WO_gf rfl rfl ?_
   refine WO_gf rfl rfl ?_
   refine WO_gf rfl rfl ?_
   refine WO_gf rfl rfl ?_
   refine WO_gf rfl rfl ?_
   refine WO_gf rfl rfl ?_
   refine WO_gf rfl rfl ?_
   refine WO_gf rfl rfl ?_
   refine WO_pick (v := .s (.bool _)) rfl rfl ?_
   refine WO_mv (v := .s (.bool _)) rfl ?_
   refine WO_gf rfl rfl ?_
   refine WO_gf rfl rfl ?_
   refine WO_gf rfl rfl ?_
   refine WO_gf rfl rfl ?_
   refine WO_gf rfl rfl ?_
   refine WO_gf rfl rfl ?_
   refine WO_pick (v := .s (.bool _)) rfl rfl ?_
   refine WO_mv (v := .s (.bool _)) rfl ?_
   refine WO_nil ?_
   refine WP_ret ?_
   refine ⟨_, RS_tmp (v := .s (.bool _)) rfl (RS_nil), ?_⟩
   refine ⟨congrArg (fun b => V.s (S.bool b)) ?_, (.head _)⟩
   unfold longM
   rw [Bool.eq_iff_iff]
   simp only [beq_iff_eq, decide_eq_true_eq, Bool.false_eq_true, true_iff, false_iff, iff_true, iff_false]
   omega
 ·try simp only [NM] at h10
  try simp only [isM, decide_eq_true_eq, decide_eq_false_iff_not] at h10
  refine WO_gf rfl rfl ?_
  refine WO_gf rfl rfl ?_
  refine WO_gf rfl rfl ?_
  refine WO_pick (v := .s (.bool _)) rfl rfl ?_
  refine WO_mv (v := .s (.bool _)) rfl ?_
  refine WO_gf rfl rfl ?_
  refine WO_gf rfl rfl ?_
  refine WO_gf rfl rfl ?_
  refine WO_gf rfl rfl ?_
  refine WO_gf rfl rfl ?_
  refine WO_gf rfl rfl ?_
  refine WO_gf rfl rfl ?_
  refine WO_gf rfl rfl ?_
  refine WO_gf rfl rfl ?_
  refine WO_pick (v := .s (.bool _)) rfl rfl ?_
  refine WO_mv (v := .s (.bool _)) rfl ?_
  refine WO_gf rfl rfl ?_
  refine WO_gf rfl rfl ?_
  refine WO_gf rfl rfl ?_
  refine WO_gf rfl rfl ?_
  refine WO_gf rfl rfl ?_
  refine WO_gf rfl rfl ?_
  refine WO_pick (v := .s (.bool _)) rfl rfl ?_
  refine WO_mv (v := .s (.bool _)) rfl ?_
  refine WO_nil ?_
  refine WP_ret ?_
  refine ⟨_, RS_tmp (v := .s (.bool _)) rfl (RS_nil), ?_⟩
  refine ⟨congrArg (fun b => V.s (S.bool b)) ?_, (.head _)⟩
  unfold longM
  rw [Bool.eq_iff_iff]
  simp only [beq_iff_eq, decide_eq_true_eq, Bool.false_eq_true, true_iff, false_iff, iff_true, iff_false]
  omega
/-- Pieces set on squares, one by one. -/
def setM (H X K : Nat → Int) : Nat → Nat → Int
  | 0 => H
  | n + 1 => if isM (K (0 + (n : Int).toNat * 1)) = true then ovA (setM H X K n) (0 + (K (0 + (n : Int).toNat * 1)).toNat * 2) 2 X else setM H X K n
theorem setM_out {H X K : Nat → Int} : ∀ (n : Nat) (i : Nat), 128 ≤ i → setM H X K n i = H i
  | 0, _, _ => rfl
  | n + 1, i, hi => by
    have ih := setM_out (H := H) (X := X) (K := K) n i hi
    unfold setM
    split
    · rename_i hs
      simp only [isM, decide_eq_true_eq] at hs
      rw [ovA_out (by omega)]
      exact ih
    · exact ih
theorem setM_of {H X K : Nat → Int} {n : Nat} {s : Int} (hs : K (0 + (n : Int).toNat * 1) = s) (h : 0 ≤ s ∧ s < 64) : setM H X K (n + 1) = ovA (setM H X K n) (sqI s) 2 X := by
  rw [setM, hs, if_pos (show isM s = true from decide_eq_true h)]
theorem setM_no {H X K : Nat → Int} {n : Nat} {s : Int} (hs : K (0 + (n : Int).toNat * 1) = s) (h : ¬ (0 ≤ s ∧ s < 64)) : setM H X K (n + 1) = setM H X K n := by
  rw [setM, hs, if_neg (by rw [isM, decide_eq_false h]; decide)]

theorem set_run {md md2 : Md} (hmd : md.mut = true) {q : Nat} {c : Cp} (H X K : Nat → Int) (n : Nat) (hn : n ≤ 1000) : WR AM 117 [.ptr 0 0 138, .agg 2 (ia X), .sl 1 0 n 1 c] [.sc md 138 (ia H), .sc md2 q (ia K)] (fun v _ L => v = .tup [] ∧ (0, Blk.sc md 138 (ia (setM H X K n))) ∈ L ∧ (1, Blk.sc md2 q (ia K)) ∈ L) := by
 refine WR_fn (a := a117) rfl rfl (entryF _) (entry_E (Nat.le_of_ble_eq_true rfl)) (m := 2) rfl ?_
 refine WP_seq ?_
 refine WP_ops ?_
 refine WO_boxA rfl ?_
 refine WO_nil ?_
 refine WP_seq ?_
 refine WP_ops ?_
 refine WO_mv (v := .sl _ _ _ _ _) rfl ?_
 refine WO_len rfl ?_
 refine WO_mv rfl ?_
 refine WO_nil ?_
 refine WP_block ?_
 refine WP_sub (L' := [_, _, _]) (.cons_cons _ (.cons_cons _ (.cons_cons _ .slnil))) ?_
 refine WP_loop (fun m f _ L => ∃ (i : Nat), (i ≤ n) ∧ (m = n - i) ∧ (f 0 = .ptr 0 0 138) ∧ (f 4 = .ptr 2 0 2) ∧ (f 8 = .sl 1 0 n 1 c) ∧ (f 9 = .s (.int .i64 n)) ∧ (f 10 = .s (.int .i64 i)) ∧ (L = [(2, .sc .var 2 (ia X)), (0, .sc md 138 (ia (setM H X K i))), (1, .sc md2 q (ia K))])) (fun m f nb L hI => ?_) (n) ⟨0, by omega, rfl, rfl, rfl, rfl, rfl, rfl, rfl⟩
 obtain ⟨i, hi, hm, k0, k4, k8, k9, k10, rfl⟩ := hI
 refine WP_know (d := 0) (v := .ptr 0 0 138) k0 ?_
 refine WP_know (d := 4) (v := .ptr 2 0 2) k4 ?_
 refine WP_know (d := 8) (v := .sl 1 0 n 1 c) k8 ?_
 refine WP_know (d := 9) (v := .s (.int .i64 n)) k9 ?_
 refine WP_know (d := 10) (v := .s (.int .i64 i)) k10 ?_
 refine WP_seq ?_
 refine WP_ops ?_
 refine WO_bin (r := .bool _) rfl rfl rfl ?_
 refine WO_nil ?_
 refine WP_seq ?_
 refine WP_cond rfl (fun h13 => ?_) (fun h13 => ?_)
 ·try simp only [NM] at h13
  try simp only [isM, decide_eq_true_eq, decide_eq_false_iff_not] at h13
  refine WP_skip ?_
  refine WP_seq ?_
  refine WP_block ?_
  refine WP_seq ?_
  refine WP_ops ?_
  refine WO_ixs rfl rfl (by omega) ?_
  refine WO_ldI (x := K (0 + (i : Int).toNat * 1)) rfl rfl (.tail _ (.tail _ (.head _))) (rfl) ?_
  refine WO_mv (v := .s (.int _ _)) rfl ?_
  refine WO_nil ?_
  refine WP_seq ?_
  refine WP_ops ?_
  refine WO_mv (v := .s (.int _ _)) rfl ?_
  refine WO_call0 rfl (SqIs_run _) rfl rfl rfl ?_
  refine WO_nil ?_
  refine WP_cond rfl (fun h14 => ?_) (fun h14 => ?_)
  ·try simp only [NM] at h14
   try simp only [isM, decide_eq_true_eq, decide_eq_false_iff_not] at h14
   refine WP_ops ?_
   refine WO_mv (v := .ptr _ _ _) rfl ?_
   refine WO_mv (v := .s (.int _ _)) rfl ?_
   first | refine WO_ldA0 rfl rfl (.head _) ?_ | refine WO_ldAI rfl rfl (.head _) ?_
   refine WO_nilckP rfl ?_
   refine WO_fa (o' := 0) rfl rfl rfl ?_
   refine WO_fa (o' := 0) rfl rfl rfl ?_
   refine WO_ixa rfl rfl rfl (by omega) ?_
   refine WO_stA rfl rfl rfl hmd (.there .here) ?_
   refine WO_nil ?_
   refine WP_ops ?_
   refine WO_add rfl rfl (by omega) ?_
   refine WO_mv (v := .s (.int _ _)) rfl ?_
   refine WO_nil ?_
   refine ⟨n - (i + 1), _, by omega, (.cons_cons _ (.cons_cons _ (.cons_cons _ .slnil))), i + 1, by omega, rfl, rfl, rfl, rfl, rfl, rfl, ?_⟩
   first | (rw [setM_of (n := i) (s := K (0 + (i : Int).toNat * 1)) rfl (by assumption)]; done) | (rw [setM_no (n := i) (s := K (0 + (i : Int).toNat * 1)) rfl (by assumption)]; done)
  ·try simp only [NM] at h14
   try simp only [isM, decide_eq_true_eq, decide_eq_false_iff_not] at h14
   refine WP_skip ?_
   refine WP_ops ?_
   refine WO_add rfl rfl (by omega) ?_
   refine WO_mv (v := .s (.int _ _)) rfl ?_
   refine WO_nil ?_
   refine ⟨n - (i + 1), _, by omega, (.cons_cons _ (.cons_cons _ (.cons_cons _ .slnil))), i + 1, by omega, rfl, rfl, rfl, rfl, rfl, rfl, ?_⟩
   first | (rw [setM_of (n := i) (s := K (0 + (i : Int).toNat * 1)) rfl (by assumption)]; done) | (rw [setM_no (n := i) (s := K (0 + (i : Int).toNat * 1)) rfl (by assumption)]; done)
 ·try simp only [NM] at h13
  try simp only [isM, decide_eq_true_eq, decide_eq_false_iff_not] at h13
  refine WP_exit ?_
  refine xhere ?_
  refine ⟨_, RS_nil, ?_⟩
  obtain rfl : i = n := by omega
  exact ⟨rfl, (.tail _ (.head _)), (.tail _ (.tail _ (.head _)))⟩
def lostL : List (S × V) := [(.int .i64 4, .s (.int .i64 3)), (.int .i64 7, .s (.int .i64 1)), (.int .i64 0, .s (.int .i64 2)), (.int .i64 60, .s (.int .i64 12)), (.int .i64 63, .s (.int .i64 4)), (.int .i64 56, .s (.int .i64 8))]
theorem find_lost (s : Int) : (mfind (.int .i64 s) lostL).getD (Z.v (.one (.s (.int .i64 0)))) = .s (.int .i64 (lostM s)) := by
  simp only [lostL, mfind, S.eqB, lostM]
  by_cases h4 : 4 = s
  · simp [h4]
  by_cases h7 : 7 = s
  · simp [h4, h7]
  by_cases h0 : 0 = s
  · simp [h4, h7, h0]
  by_cases h60 : 60 = s
  · simp [h4, h7, h0, h60]
  by_cases h63 : 63 = s
  · simp [h4, h7, h0, h60, h63]
  by_cases h56 : 56 = s
  · simp [h4, h7, h0, h60, h63, h56]
  simp [h4, h7, h0, h60, h63, h56, Z.v]
/-- The castlings that are lost by squares. -/
def lostsM (K : Nat → Int) : Nat → Int
  | 0 => 0
  | n + 1 => orM (lostsM K n) (lostM (K (0 + (n : Int).toNat * 1)))

theorem losts_run {md : Md} {q : Nat} {c : Cp} (K : Nat → Int) (n : Nat) (hn : n ≤ 1000) : WR AM 118 [.sl 0 0 n 1 c] [.sc md q (ia K)] (fun v _ L => v = .s (.int .i64 (lostsM K n)) ∧ (0, Blk.sc md q (ia K)) ∈ L) := by
 refine WR_fn (a := a118) rfl rfl (entryF _) (entry_E (Nat.le_of_ble_eq_true rfl)) (m := 1) rfl ?_
 refine WP_seq ?_
 refine WP_ops ?_
 refine WO_mv rfl ?_
 refine WO_nil ?_
 refine WP_seq ?_
 refine WP_ops ?_
 refine WO_mkmap ?_
 refine WO_mput rfl rfl rfl rfl rfl rfl .here ?_
 refine WO_mput rfl rfl rfl rfl rfl rfl .here ?_
 refine WO_mput rfl rfl rfl rfl rfl rfl .here ?_
 refine WO_mput rfl rfl rfl rfl rfl rfl .here ?_
 refine WO_mput rfl rfl rfl rfl rfl rfl .here ?_
 refine WO_mput rfl rfl rfl rfl rfl rfl .here ?_
 refine WO_mv (v := .map _) rfl ?_
 refine WO_mv (v := .map _) rfl ?_
 refine WO_nil ?_
 refine WP_seq ?_
 refine WP_seq ?_
 refine WP_ops ?_
 refine WO_mv (v := .sl _ _ _ _ _) rfl ?_
 refine WO_len rfl ?_
 refine WO_mv rfl ?_
 refine WO_nil ?_
 refine WP_block ?_
 refine WP_sub (L' := [_, _]) (.cons_cons _ (.cons_cons _ .slnil)) ?_
 refine WP_loop (fun m f _ L => ∃ (i : Nat), (i ≤ n) ∧ (m = n - i) ∧ (f 2 = .s (.int .i64 (lostsM K i))) ∧ (f 3 = .map 1) ∧ (f 8 = .sl 0 0 n 1 c) ∧ (f 9 = .s (.int .i64 n)) ∧ (f 10 = .s (.int .i64 i)) ∧ (L = [(1, .mp .var lostL), (0, .sc md q (ia K))])) (fun m f nb L hI => ?_) (n) ⟨0, by omega, rfl, rfl, rfl, rfl, rfl, rfl, rfl⟩
 obtain ⟨i, hi, hm, k2, k3, k8, k9, k10, rfl⟩ := hI
 refine WP_know (d := 2) (v := .s (.int .i64 (lostsM K i))) k2 ?_
 refine WP_know (d := 3) (v := .map 1) k3 ?_
 refine WP_know (d := 8) (v := .sl 0 0 n 1 c) k8 ?_
 refine WP_know (d := 9) (v := .s (.int .i64 n)) k9 ?_
 refine WP_know (d := 10) (v := .s (.int .i64 i)) k10 ?_
 refine WP_seq ?_
 refine WP_ops ?_
 refine WO_bin (r := .bool _) rfl rfl rfl ?_
 refine WO_nil ?_
 refine WP_seq ?_
 refine WP_cond rfl (fun h15 => ?_) (fun h15 => ?_)
 ·try simp only [NM] at h15
  try simp only [isM, decide_eq_true_eq, decide_eq_false_iff_not] at h15
  refine WP_skip ?_
  refine WP_seq ?_
  refine WP_block ?_
  refine WP_seq ?_
  refine WP_ops ?_
  refine WO_ixs rfl rfl (by omega) ?_
  refine WO_ldI (x := K (0 + (i : Int).toNat * 1)) rfl rfl (.tail _ (.head _)) (rfl) ?_
  refine WO_mv (v := .s (.int _ _)) rfl ?_
  refine WO_nil ?_
  refine WP_ops ?_
  refine WO_mv (v := .s (.int _ _)) rfl ?_
  refine WO_mv (v := .map _) rfl ?_
  refine WO_mv (v := .s (.int _ _)) rfl ?_
  refine WO_mget rfl rfl (.head _) rfl (find_lost _) ?_
  refine WO_bin (r := .int .i64 (orM _ _)) rfl rfl rfl ?_
  refine WO_mv (v := .s (.int _ _)) rfl ?_
  refine WO_nil ?_
  refine WP_ops ?_
  refine WO_add rfl rfl (by omega) ?_
  refine WO_mv (v := .s (.int _ _)) rfl ?_
  refine WO_nil ?_
  exact ⟨n - (i + 1), _, by omega, (.cons_cons _ (.cons_cons _ .slnil)), i + 1, by omega, rfl, rfl, rfl, rfl, rfl, rfl, rfl⟩
 ·try simp only [NM] at h15
  try simp only [isM, decide_eq_true_eq, decide_eq_false_iff_not] at h15
  refine WP_exit ?_
  refine xhere ?_
  refine WP_seq ?_
  refine WP_ops ?_
  refine WO_mv (v := .s (.int _ _)) rfl ?_
  refine WO_mv (v := .s (.int _ _)) rfl ?_
  refine WO_nil ?_
  refine WP_ret ?_
  refine ⟨_, RS_tmp (v := .s (.int _ _)) rfl (RS_nil), ?_⟩
  obtain rfl : i = n := by omega
  exact ⟨rfl, (.tail _ (.head _))⟩
end Go.Proofs.Ytjldefmcnppdoaa
