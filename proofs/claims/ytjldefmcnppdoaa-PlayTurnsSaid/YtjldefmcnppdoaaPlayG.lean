/- PlayTurns: the walk. -/
import Derived.Test.YtjldefmcnppdoaaPlayE
import Derived.Test.YtjldefmcnppdoaaBoardB
namespace Go.Proofs.Ytjldefmcnppdoaa
open Go Go.Am
set_option linter.unusedSimpArgs false
set_option linter.unusedVariables false
theorem grow_at {G R : Nat → Int} {c : Nat} {j : Nat} (h : j < c + 1) : (bif Nat.blt j (c * 1) then G (0 + j) else R (0 + (j - c * 1))) = if j < c then G j else R 0 := by
  by_cases k : j < c
  · rw [show Nat.blt j (c * 1) = true from Nat.ble_eq_true_of_le (by omega), if_pos k, Nat.zero_add]; rfl
  · have : Nat.blt j (c * 1) = false := by
      cases hb : Nat.blt j (c * 1) with
      | false => rfl
      | true => have := Nat.le_of_ble_eq_true hb; omega
    rw [this, if_neg k, show 0 + (j - c * 1) = 0 by omega]; rfl
theorem grow_all {G R : Nat → Int} {c : Nat} (h : ∀ j : Nat, j < c → 0 ≤ G j ∧ G j < 64) (hr : 0 ≤ R 0 ∧ R 0 < 64) : ∀ j : Nat, j < c + 1 → 0 ≤ (bif Nat.blt j (c * 1) then G (0 + j) else R (0 + (j - c * 1))) ∧ (bif Nat.blt j (c * 1) then G (0 + j) else R (0 + (j - c * 1))) < 64 := by
  intro j hj
  rw [grow_at hj]
  split
  · exact h j (by assumption)
  · exact hr

theorem lmade_run (P : Nat → Int) (x y z : Int) : WR AM 79 [.agg 133 (ia P), .s (.int .i64 x), .s (.int .i64 y), .s (.int .i64 z)] [] (fun v _ _ => ∃ M, v = .agg 3 (ia M) ∧ (0 ≤ M 0 ∧ M 0 < 64) ∧ (0 ≤ M 1 ∧ M 1 < 64)) := by
 refine WR_fn (a := a79) rfl rfl (entryF _) (entry_E (Nat.le_of_ble_eq_true rfl)) (m := 0) rfl ?_
 refine WP_seq ?_
 refine WP_ops ?_
 refine WO_boxA rfl ?_
 refine WO_allocI ?_
 refine WO_nil ?_
 refine WP_seq ?_
 refine WP_ops ?_
 refine WO_mv rfl ?_
 refine WO_nil ?_
 refine WP_seq ?_
 refine WP_seq ?_
 refine WP_ops ?_
 refine WO_mv rfl ?_
 refine WO_nil ?_
 refine WP_block ?_
 refine WP_sub (L' := [_, _]) (.cons_cons _ (.cons_cons _ .slnil)) ?_
 refine WP_loop (fun m f _ L => ∃ (i : Nat), (i ≤ 64) ∧ (m = 64 - i) ∧ (f 1 = .s (.int .i64 x)) ∧ (f 2 = .s (.int .i64 y)) ∧ (f 3 = .s (.int .i64 z)) ∧ (f 4 = .ptr 0 0 133) ∧ (f 8 = .ptr 1 0 3) ∧ (f 10 = .s (.int .i64 i)) ∧ (((f 9 = .snil) ∧ (L = [(1, .sc .var 3 (ia fun _ => 0)), (0, .sc .var 133 (ia P))])) ∨ (∃ (b cnt q : Nat) (F : Nat → Int), (0 < cnt ∧ cnt ≤ i) ∧ (∀ j : Nat, j < cnt → 0 ≤ F j ∧ F j < 64) ∧ (f 9 = .sl b 0 cnt 1 .whole) ∧ (L = (b, Blk.sc .grow q (ia F)) :: [(1, .sc .var 3 (ia fun _ => 0)), (0, .sc .var 133 (ia P))])))) (fun m f nb L hI => ?_) (64) ⟨0, by omega, rfl, rfl, rfl, rfl, rfl, rfl, rfl, .inl ⟨rfl, rfl⟩⟩
 obtain ⟨i, hi, hm, k1, k2, k3, k4, k8, k10, hI2⟩ := hI
 rcases hI2 with ⟨kS, rfl⟩ | ⟨b, cnt, q, F, hc, hF, kS, rfl⟩
 ·skip
  refine WP_know (d := 1) (v := .s (.int .i64 x)) k1 ?_
  refine WP_know (d := 2) (v := .s (.int .i64 y)) k2 ?_
  refine WP_know (d := 3) (v := .s (.int .i64 z)) k3 ?_
  refine WP_know (d := 4) (v := .ptr 0 0 133) k4 ?_
  refine WP_know (d := 8) (v := .ptr 1 0 3) k8 ?_
  refine WP_know (d := 10) (v := .s (.int .i64 i)) k10 ?_
  refine WP_know (d := 9) (v := .snil) kS ?_
  refine WP_seq ?_
  refine WP_seq ?_
  refine WP_ops ?_
  refine WO_mv (v := .s (.int _ _)) rfl ?_
  refine WO_bin (r := .bool _) rfl rfl rfl ?_
  refine WO_nil ?_
  refine WP_cond rfl (fun h1 => ?_) (fun h1 => ?_)
  ·try simp only [NM] at h1
   refine WP_skip ?_
   refine WP_seq ?_
   refine WP_block ?_
   refine WP_seq ?_
   refine WP_ops ?_
   refine WO_mv (v := .s (.int _ _)) rfl ?_
   refine WO_fa (o' := 0) rfl rfl rfl ?_
   refine WO_ixa rfl rfl rfl (by omega) ?_
   refine WO_fa rfl rfl rfl ?_
   refine WO_ldI (x := _) rfl rfl (.tail _ (.head _)) (rfl) ?_
   refine WO_bin (r := .bool _) rfl rfl rfl ?_
   refine WO_mv (v := .s (.bool _)) rfl ?_
   refine WO_case (t := 22) rfl (fun h2 => ?_) (fun h2 => ?_)
   ·try simp only [NM] at h2
    refine WO_gt rfl ?_
    refine WO_mv (v := .s (.int _ _)) rfl ?_
    refine WO_gt rfl ?_
    refine WO_fa (o' := 0) rfl rfl rfl ?_
    refine WO_gt rfl ?_
    refine WO_ixa rfl rfl rfl (by omega) ?_
    refine WO_gt rfl ?_
    refine WO_fa rfl rfl rfl ?_
    refine WO_gt rfl ?_
    refine WO_ldI (x := _) rfl rfl (.tail _ (.head _)) (rfl) ?_
    refine WO_gt rfl ?_
    refine WO_fa (o' := 128) rfl rfl rfl ?_
    refine WO_gt rfl ?_
    refine WO_ldI (x := _) rfl rfl (.tail _ (.head _)) (rfl) ?_
    refine WO_gt rfl ?_
    refine WO_bin (r := .bool _) rfl rfl rfl ?_
    refine WO_pick (v := .s (.bool _)) rfl rfl ?_
    refine WO_nil ?_
    refine WP_cond rfl (fun h3 => ?_) (fun h3 => ?_)
    ·try simp only [NM] at h3
     refine WP_ops ?_
     refine WO_mv (v := .snil) rfl ?_
     refine WO_mv (v := .s (.int _ _)) rfl ?_
     refine WO_mkslS rfl (.one rfl .nil) ?_
     refine WO_appendNil rfl rfl (.head _) (by decide) rfl ?_
     refine WO_mv (v := .sl _ _ _ _ _) rfl ?_
     refine WO_nil ?_
     refine WP_ops ?_
     refine WO_mv (v := .s (.int _ _)) rfl ?_
     refine WO_add rfl rfl (by omega) ?_
     refine WO_mv (v := .s (.int _ _)) rfl ?_
     refine WO_nil ?_
     refine ⟨64 - (i + 1), _, by omega, (.cons_cons _ (.cons _ (.cons_cons _ (.cons_cons _ .slnil)))), i + 1, by omega, rfl, rfl, rfl, rfl, rfl, rfl, rfl, .inr ⟨_, 1, _, _, by omega, ?_, rfl, rfl⟩⟩
     intro j hj
     obtain rfl : j = 0 := by omega
     exact ⟨(by omega : 0 ≤ (i : Int)), (by omega : (i : Int) < 64)⟩
    ·try simp only [NM] at h3
     refine WP_skip ?_
     refine WP_ops ?_
     refine WO_mv (v := .s (.int _ _)) rfl ?_
     refine WO_add rfl rfl (by omega) ?_
     refine WO_mv (v := .s (.int _ _)) rfl ?_
     refine WO_nil ?_
     refine ⟨64 - (i + 1), _, by omega, (.cons_cons _ (.cons_cons _ .slnil)), i + 1, by omega, rfl, rfl, rfl, rfl, rfl, rfl, rfl, .inl ⟨rfl, rfl⟩⟩
   ·try simp only [NM] at h2
    refine WO_gf rfl rfl ?_
    refine WO_gf rfl rfl ?_
    refine WO_gf rfl rfl ?_
    refine WO_gf rfl rfl ?_
    refine WO_gf rfl rfl ?_
    refine WO_gf rfl rfl ?_
    refine WO_gf rfl rfl ?_
    refine WO_gf rfl rfl ?_
    refine WO_pick (v := .s (.bool _)) rfl rfl ?_
    refine WO_nil ?_
    refine WP_cond rfl (fun h => nomatch h) (fun _ => ?_)
    refine WP_skip ?_
    refine WP_ops ?_
    refine WO_mv (v := .s (.int _ _)) rfl ?_
    refine WO_add rfl rfl (by omega) ?_
    refine WO_mv (v := .s (.int _ _)) rfl ?_
    refine WO_nil ?_
    refine ⟨64 - (i + 1), _, by omega, (.cons_cons _ (.cons_cons _ .slnil)), i + 1, by omega, rfl, rfl, rfl, rfl, rfl, rfl, rfl, .inl ⟨rfl, rfl⟩⟩
  ·try simp only [NM] at h1
   refine WP_exit ?_
   refine xhere ?_
   refine WP_seq ?_
   refine WP_seq ?_
   refine WP_ops ?_
   refine WO_mv (v := .snil) rfl ?_
   refine WO_lenN rfl ?_
   refine WO_bin (r := .bool _) rfl rfl rfl ?_
   refine WO_nil ?_
   refine WP_cond rfl (fun h4 => ?_) (fun h4 => ?_)
   ·try simp only [NM] at h4
    refine WP_seq ?_
    refine WP_ops ?_
    refine WO_buildI rfl .nil ?_
    refine WO_stA rfl rfl rfl rfl .here ?_
    refine WO_nil ?_
    refine WP_ret ?_
    refine ⟨_, RS_cell rfl rfl (.head _) (RS_nil), ?_⟩
    exact ⟨_, rfl, ⟨by decide, by decide⟩, ⟨by decide, by decide⟩⟩
   ·try simp only [NM] at h4
    exfalso; first | omega | (simp at h4)
 ·skip
  refine WP_know (d := 1) (v := .s (.int .i64 x)) k1 ?_
  refine WP_know (d := 2) (v := .s (.int .i64 y)) k2 ?_
  refine WP_know (d := 3) (v := .s (.int .i64 z)) k3 ?_
  refine WP_know (d := 4) (v := .ptr 0 0 133) k4 ?_
  refine WP_know (d := 8) (v := .ptr 1 0 3) k8 ?_
  refine WP_know (d := 10) (v := .s (.int .i64 i)) k10 ?_
  refine WP_know (d := 9) (v := .sl b 0 cnt 1 .whole) kS ?_
  refine WP_seq ?_
  refine WP_seq ?_
  refine WP_ops ?_
  refine WO_mv (v := .s (.int _ _)) rfl ?_
  refine WO_bin (r := .bool _) rfl rfl rfl ?_
  refine WO_nil ?_
  refine WP_cond rfl (fun h5 => ?_) (fun h5 => ?_)
  ·try simp only [NM] at h5
   refine WP_skip ?_
   refine WP_seq ?_
   refine WP_block ?_
   refine WP_seq ?_
   refine WP_ops ?_
   refine WO_mv (v := .s (.int _ _)) rfl ?_
   refine WO_fa (o' := 0) rfl rfl rfl ?_
   refine WO_ixa rfl rfl rfl (by omega) ?_
   refine WO_fa rfl rfl rfl ?_
   refine WO_ldI (x := _) rfl rfl (.tail _ (.tail _ (.head _))) (rfl) ?_
   refine WO_bin (r := .bool _) rfl rfl rfl ?_
   refine WO_mv (v := .s (.bool _)) rfl ?_
   refine WO_case (t := 22) rfl (fun h6 => ?_) (fun h6 => ?_)
   ·try simp only [NM] at h6
    refine WO_gt rfl ?_
    refine WO_mv (v := .s (.int _ _)) rfl ?_
    refine WO_gt rfl ?_
    refine WO_fa (o' := 0) rfl rfl rfl ?_
    refine WO_gt rfl ?_
    refine WO_ixa rfl rfl rfl (by omega) ?_
    refine WO_gt rfl ?_
    refine WO_fa rfl rfl rfl ?_
    refine WO_gt rfl ?_
    refine WO_ldI (x := _) rfl rfl (.tail _ (.tail _ (.head _))) (rfl) ?_
    refine WO_gt rfl ?_
    refine WO_fa (o' := 128) rfl rfl rfl ?_
    refine WO_gt rfl ?_
    refine WO_ldI (x := _) rfl rfl (.tail _ (.tail _ (.head _))) (rfl) ?_
    refine WO_gt rfl ?_
    refine WO_bin (r := .bool _) rfl rfl rfl ?_
    refine WO_pick (v := .s (.bool _)) rfl rfl ?_
    refine WO_nil ?_
    refine WP_cond rfl (fun h7 => ?_) (fun h7 => ?_)
    ·try simp only [NM] at h7
     refine WP_ops ?_
     refine WO_mv (v := .sl _ _ _ _ _) rfl ?_
     refine WO_mv (v := .s (.int _ _)) rfl ?_
     refine WO_mkslS rfl (.one rfl .nil) ?_
     refine WO_appendW rfl rfl (.head _) (.there .here) (by simp [roomy]; omega) ?_
     refine WO_mv (v := .sl _ _ _ _ _) rfl ?_
     refine WO_nil ?_
     refine WP_ops ?_
     refine WO_mv (v := .s (.int _ _)) rfl ?_
     refine WO_add rfl rfl (by omega) ?_
     refine WO_mv (v := .s (.int _ _)) rfl ?_
     refine WO_nil ?_
     refine ⟨64 - (i + 1), _, by omega, (.cons_cons _ (.cons _ (.cons _ (.cons_cons _ (.cons_cons _ .slnil))))), i + 1, by omega, rfl, rfl, rfl, rfl, rfl, rfl, rfl, .inr ⟨_, cnt + 1, _, _, by omega, ?_, rfl, rfl⟩⟩
     exact grow_all hF (show 0 ≤ (i : Int) ∧ (i : Int) < 64 from ⟨by omega, by omega⟩)
    ·try simp only [NM] at h7
     refine WP_skip ?_
     refine WP_ops ?_
     refine WO_mv (v := .s (.int _ _)) rfl ?_
     refine WO_add rfl rfl (by omega) ?_
     refine WO_mv (v := .s (.int _ _)) rfl ?_
     refine WO_nil ?_
     refine ⟨64 - (i + 1), _, by omega, (.cons_cons _ (.cons_cons _ (.cons_cons _ .slnil))), i + 1, by omega, rfl, rfl, rfl, rfl, rfl, rfl, rfl, .inr ⟨_, cnt, _, _, by omega, hF, rfl, rfl⟩⟩
   ·try simp only [NM] at h6
    refine WO_gf rfl rfl ?_
    refine WO_gf rfl rfl ?_
    refine WO_gf rfl rfl ?_
    refine WO_gf rfl rfl ?_
    refine WO_gf rfl rfl ?_
    refine WO_gf rfl rfl ?_
    refine WO_gf rfl rfl ?_
    refine WO_gf rfl rfl ?_
    refine WO_pick (v := .s (.bool _)) rfl rfl ?_
    refine WO_nil ?_
    refine WP_cond rfl (fun h => nomatch h) (fun _ => ?_)
    refine WP_skip ?_
    refine WP_ops ?_
    refine WO_mv (v := .s (.int _ _)) rfl ?_
    refine WO_add rfl rfl (by omega) ?_
    refine WO_mv (v := .s (.int _ _)) rfl ?_
    refine WO_nil ?_
    refine ⟨64 - (i + 1), _, by omega, (.cons_cons _ (.cons_cons _ (.cons_cons _ .slnil))), i + 1, by omega, rfl, rfl, rfl, rfl, rfl, rfl, rfl, .inr ⟨_, cnt, _, _, by omega, hF, rfl, rfl⟩⟩
  ·try simp only [NM] at h5
   refine WP_exit ?_
   refine xhere ?_
   refine WP_seq ?_
   refine WP_seq ?_
   refine WP_ops ?_
   refine WO_mv (v := .sl _ _ _ _ _) rfl ?_
   refine WO_len rfl ?_
   refine WO_bin (r := .bool _) rfl rfl rfl ?_
   refine WO_nil ?_
   refine WP_cond rfl (fun h8 => ?_) (fun h8 => ?_)
   ·try simp only [NM] at h8
    exfalso; first | omega | (simp at h8)
   ·try simp only [NM] at h8
    refine WP_skip ?_
    refine WP_seq ?_
    refine WP_ops ?_
    refine WO_mv (v := .sl _ _ _ _ _) rfl ?_
    refine WO_mv (v := .s (.int _ _)) rfl ?_
    refine WO_mv (v := .sl _ _ _ _ _) rfl ?_
    refine WO_len rfl ?_
    have hk := pickM_bd x (n := (cnt : Int)) (by omega)
    refine WO_callq0 rfl (RF_of (Pick_run x (cnt : Int) (by omega) (by omega))) rfl rfl rfl ?_
    obtain ⟨a, ha⟩ : ∃ a : Nat, pickM x (cnt : Int) = a := ⟨(pickM x (cnt : Int)).toNat, by omega⟩
    rw [ha] at hk ⊢
    have hfa := hF a (by omega)
    have hy := pickM_bd y (n := 64) (by omega)
    have hz := pickM_bd z (n := 4) (by omega)
    refine WO_ixs rfl rfl (by omega) ?_
    refine WO_ldI (x := F a) rfl rfl (.head _) (congrArg F (by omega)) ?_
    refine WO_mv (v := .s (.int _ _)) rfl ?_
    refine WO_callq0 rfl (RF_of (Pick_run y 64 (by omega) (by omega))) rfl rfl rfl ?_
    refine WO_buildI rfl (.one rfl (.one rfl .nil)) ?_
    refine WO_allocI ?_
    refine WO_stA rfl rfl rfl rfl .here ?_
    refine WO_nil ?_
    refine WP_seq ?_
    refine WP_seq ?_
    refine WP_ops ?_
    refine WO_fa (o' := 0) rfl rfl rfl ?_
    refine WO_ldI (x := F a) rfl rfl (.head _) (rfl) ?_
    refine WO_fa (o' := 0) rfl rfl rfl ?_
    refine WO_ixa rfl rfl rfl (by omega) ?_
    refine WO_fa rfl rfl rfl ?_
    refine WO_ldI (x := _) rfl rfl (.tail _ (.tail _ (.tail _ (.head _)))) (rfl) ?_
    refine WO_bin (r := .bool _) rfl rfl rfl ?_
    refine WO_mv (v := .s (.bool _)) rfl ?_
    refine WO_case (t := 57) rfl (fun h9 => ?_) (fun h9 => ?_)
    ·try simp only [NM] at h9
     refine WO_gt rfl ?_
     refine WO_fa (o' := 1) rfl rfl rfl ?_
     refine WO_gt rfl ?_
     refine WO_ldI (x := pickM y 64) rfl rfl (.head _) (rfl) ?_
     refine WO_gt rfl ?_
     refine WO_bin (r := .bool _) rfl rfl rfl ?_
     refine WO_gt rfl ?_
     refine WO_mv (v := .s (.bool _)) rfl ?_
     refine WO_case (t := 61) rfl (fun h10 => ?_) (fun h10 => ?_)
     ·try simp only [NM] at h10
      refine WO_gf rfl rfl ?_
      refine WO_gf rfl rfl ?_
      refine WO_gf rfl rfl ?_
      refine WO_gt rfl ?_
      refine WO_pick (v := .s (.bool _)) rfl rfl ?_
      refine WO_pick (v := .s (.bool _)) rfl rfl ?_
      refine WO_nil ?_
      refine WP_cond rfl (fun _ => ?_) (fun h => nomatch h)
      refine WP_ops ?_
      refine WO_mv (v := .s (.int _ _)) rfl ?_
      refine WO_call0 rfl (RF_of (Pick_run z 4 (by omega) (by omega))) rfl rfl rfl ?_
      refine WO_add rfl rfl (by omega) ?_
      refine WO_fa (o' := 2) rfl rfl rfl ?_
      refine WO_stI rfl rfl rfl rfl .here ?_
      refine WO_nil ?_
      refine WP_seq ?_
      refine WP_ops ?_
      first | refine WO_ldA0 rfl rfl (.head _) ?_ | refine WO_ldAI rfl rfl (.head _) ?_
      refine WO_stA rfl rfl rfl rfl (.there (.there .here)) ?_
      refine WO_nil ?_
      refine WP_ret ?_
      refine ⟨_, RS_cell rfl rfl (.tail _ (.tail _ (.head _))) (RS_nil), ?_⟩
      exact ⟨_, rfl, hfa, hy⟩
     ·try simp only [NM] at h10
      refine WO_gt rfl ?_
      refine WO_fa (o' := 1) rfl rfl rfl ?_
      refine WO_gt rfl ?_
      refine WO_ldI (x := pickM y 64) rfl rfl (.head _) (rfl) ?_
      refine WO_gt rfl ?_
      refine WO_bin (r := .bool _) rfl rfl rfl ?_
      refine WO_gt rfl ?_
      refine WO_pick (v := .s (.bool _)) rfl rfl ?_
      refine WO_pick (v := .s (.bool _)) rfl rfl ?_
      refine WO_nil ?_
      refine WP_cond rfl (fun h11 => ?_) (fun h11 => ?_)
      ·try simp only [NM] at h11
       refine WP_ops ?_
       refine WO_mv (v := .s (.int _ _)) rfl ?_
       refine WO_call0 rfl (RF_of (Pick_run z 4 (by omega) (by omega))) rfl rfl rfl ?_
       refine WO_add rfl rfl (by omega) ?_
       refine WO_fa (o' := 2) rfl rfl rfl ?_
       refine WO_stI rfl rfl rfl rfl .here ?_
       refine WO_nil ?_
       refine WP_seq ?_
       refine WP_ops ?_
       first | refine WO_ldA0 rfl rfl (.head _) ?_ | refine WO_ldAI rfl rfl (.head _) ?_
       refine WO_stA rfl rfl rfl rfl (.there (.there .here)) ?_
       refine WO_nil ?_
       refine WP_ret ?_
       refine ⟨_, RS_cell rfl rfl (.tail _ (.tail _ (.head _))) (RS_nil), ?_⟩
       exact ⟨_, rfl, hfa, hy⟩
      ·try simp only [NM] at h11
       refine WP_skip ?_
       refine WP_seq ?_
       refine WP_ops ?_
       first | refine WO_ldA0 rfl rfl (.head _) ?_ | refine WO_ldAI rfl rfl (.head _) ?_
       refine WO_stA rfl rfl rfl rfl (.there (.there .here)) ?_
       refine WO_nil ?_
       refine WP_ret ?_
       refine ⟨_, RS_cell rfl rfl (.tail _ (.tail _ (.head _))) (RS_nil), ?_⟩
       exact ⟨_, rfl, hfa, hy⟩
    ·try simp only [NM] at h9
     refine WO_gf rfl rfl ?_
     refine WO_gf rfl rfl ?_
     refine WO_gf rfl rfl ?_
     refine WO_gf rfl rfl ?_
     refine WO_gu rfl ?_
     refine WO_gu rfl ?_
     refine WO_gu rfl ?_
     refine WO_gf rfl rfl ?_
     refine WO_pick (v := .s (.bool _)) rfl rfl ?_
     refine WO_nil ?_
     refine WP_cond rfl (fun h => nomatch h) (fun _ => ?_)
     refine WP_skip ?_
     refine WP_seq ?_
     refine WP_ops ?_
     first | refine WO_ldA0 rfl rfl (.head _) ?_ | refine WO_ldAI rfl rfl (.head _) ?_
     refine WO_stA rfl rfl rfl rfl (.there (.there .here)) ?_
     refine WO_nil ?_
     refine WP_ret ?_
     refine ⟨_, RS_cell rfl rfl (.tail _ (.tail _ (.head _))) (RS_nil), ?_⟩
     exact ⟨_, rfl, hfa, hy⟩
theorem across_run (x : Int) (h : 0 ≤ x ∧ x < 64) : WR AM 80 [.s (.int .i64 x)] [] (fun v _ _ => v = .s (.int .i64 (acrossM x))) := by
 refine WR_fn (a := a80) rfl rfl (entryF _) (entry_E (Nat.le_of_ble_eq_true rfl)) (m := 0) rfl ?_
 refine WP_seq ?_
 refine WP_ops ?_
 refine WO_mv rfl ?_
 refine WO_nil ?_
 refine WP_seq ?_
 refine WP_ops ?_
 refine WO_mv (v := .s (.int _ _)) rfl ?_
 refine WO_quo rfl rfl (by omega) ?_
 refine WO_sub rfl rfl (by omega) ?_
 refine WO_mul rfl rfl (by omega) ?_
 refine WO_mv (v := .s (.int _ _)) rfl ?_
 refine WO_rem rfl rfl (by omega) ?_
 refine WO_add rfl rfl (by omega) ?_
 refine WO_mv (v := .s (.int _ _)) rfl ?_
 refine WO_nil ?_
 refine WP_ret ?_
 refine ⟨_, RS_tmp (v := .s (.int _ _)) rfl (RS_nil), ?_⟩
 refine congrArg (fun b => V.s (S.int .i64 b)) ?_
 unfold acrossM; omega
theorem turn_k {P Q : Nat → Int} (h : Turned P Q 64) {x : Int} (hx : 0 ≤ x ∧ x < 64) : Q (sqI (acrossM x)) = P (sqI x) ∧ Q (sqI (acrossM x) + 1) = sideT (P (sqI x)) (P (sqI x + 1)) := by
  obtain ⟨s, rfl⟩ : ∃ s : Nat, x = s := ⟨x.toNat, by omega⟩
  have h1 := h s (by omega)
  have e1 : sqI (s : Int) = s * 2 := by show 0 + (s : Int).toNat * 2 = s * 2; omega
  have e2 : sqI (acrossM (s : Int)) = acr s * 2 := by show 0 + (acrossM (s : Int)).toNat * 2 = acr s * 2; rw [acr_across (by omega)]; omega
  rw [e1, e2]
  exact h1
theorem acr_acr {s : Nat} (h : s < 64) : acr (acr s) = s := by unfold acr; omega
theorem turned_uniq {P Q R : Nat → Int} (h : Turned P Q 64) (k : Turned P R 64) : ∀ i, i < 128 → Q i = R i := by
  intro i hi
  have hl := acr_lt (s := i / 2) (by omega)
  have h1 := h (acr (i / 2)) hl
  have k1 := k (acr (i / 2)) hl
  rw [acr_acr (by omega)] at h1 k1
  by_cases e : i % 2 = 0
  · rw [show i = i / 2 * 2 by omega, h1.1, k1.1]
  · rw [show i = i / 2 * 2 + 1 by omega, h1.2, k1.2]
theorem across_bd {x : Int} (h : 0 ≤ x ∧ x < 64) : 0 ≤ acrossM x ∧ acrossM x < 64 := by unfold acrossM; omega
theorem sqI_acr {x : Int} (h : 0 ≤ x ∧ x < 64) : sqI (acrossM x) = acr x.toNat * 2 := by
  show 0 + (acrossM x).toNat * 2 = acr x.toNat * 2
  unfold acrossM acr; omega
theorem turned_put {B C X Y : Nat → Int} {x : Int} (h : Turned B C 64) (hx : 0 ≤ x ∧ x < 64) (h0 : Y 0 = X 0) (h1 : Y 1 = sideT (X 0) (X 1)) : Turned (ovA B (sqI x) 2 X) (ovA C (sqI (acrossM x)) 2 Y) 64 := by
  intro s hs
  have e1 : sqI x = x.toNat * 2 := by show 0 + x.toNat * 2 = x.toNat * 2; omega
  rw [sqI_acr hx, e1]
  by_cases q : s = x.toNat
  · subst q
    rw [ovA_at (by omega), ovA_at (by omega), ovA_at (by omega), ovA_at (by omega)]
    rw [show acr x.toNat * 2 - acr x.toNat * 2 = 0 by omega, show acr x.toNat * 2 + 1 - acr x.toNat * 2 = 1 by omega, show x.toNat * 2 - x.toNat * 2 = 0 by omega, show x.toNat * 2 + 1 - x.toNat * 2 = 1 by omega]
    exact ⟨h0, h1⟩
  · have hne : acr s ≠ acr x.toNat := fun e => q (acr_inj hs (by omega) e)
    rw [ovA_out (by omega), ovA_out (by omega), ovA_out (by omega), ovA_out (by omega)]
    exact h s hs
theorem sideT_may {k c : Int} (hk : 1 ≤ k ∧ k ≤ 6) (hc : c = 0 ∨ c = 1) : sideT k c = 1 - c := by
  unfold sideT
  rw [if_pos (show mayM k c = true from decide_eq_true ⟨hk.1, hk.2, hc⟩), other0 hc]
theorem sideT_not {k c : Int} (h : ¬ (1 ≤ k ∧ k ≤ 6 ∧ (c = 0 ∨ c = 1))) : sideT k c = c := by
  unfold sideT
  rw [if_neg (by rw [mayM, decide_eq_false h]; decide)]
theorem can_turn {P Q : Nat → Int} (T : TurnOf P Q) (hs : P 128 = 0 ∨ P 128 = 1) {a t b : Int} (ha : 0 ≤ a ∧ a < 64) (ht : 0 ≤ t ∧ t < 64) : canM Q (acrossM a) (acrossM t) b = canM P a t b := by
  have ⟨hk, hc⟩ := turn_k T.sq ha
  have h8 : acrossM t / 8 = 7 - t / 8 := by unfold acrossM; omega
  have hd := T.side
  rw [other0 hs] at hd
  unfold canM
  rw [hk, hc, hd, h8]
  by_cases m : 1 ≤ P (sqI a) ∧ P (sqI a) ≤ 6 ∧ (P (sqI a + 1) = 0 ∨ P (sqI a + 1) = 1)
  · rw [sideT_may ⟨m.1, m.2.1⟩ m.2.2, Bool.eq_iff_iff, decide_eq_true_eq, decide_eq_true_eq]
    by_cases e : P (sqI a) = 1 ∧ t / 8 = 7 * (1 - P (sqI a + 1))
    · rw [if_pos e, if_pos (by omega)]; omega
    · rw [if_neg e, if_neg (by omega)]; omega
  · rw [sideT_not m, Bool.eq_iff_iff, decide_eq_true_eq, decide_eq_true_eq]
    constructor
    · intro q; exact absurd ⟨q.1, q.2.1, q.2.2.2.1⟩ m
    · intro q; exact absurd ⟨q.1, q.2.1, q.2.2.2.1⟩ m
theorem err_turn {P Q : Nat → Int} (T : TurnOf P Q) (hs : P 128 = 0 ∨ P 128 = 1) {a t b : Int} (ha : 0 ≤ a ∧ a < 64) (ht : 0 ≤ t ∧ t < 64) : errM Q (acrossM a) (acrossM t) b = errM P a t b := by
  have h1 := across_bd ha
  have h2 := across_bd ht
  unfold errM
  rw [can_turn T hs ha ht]
  by_cases e : a = t
  · rw [if_neg (fun q => q.2.2 (by rw [e])), if_neg (fun q => q.2.2 e)]
  · have c1 : (0 ≤ acrossM a ∧ acrossM a < 64) ∧ (0 ≤ acrossM t ∧ acrossM t < 64) ∧ acrossM a ≠ acrossM t := ⟨h1, h2, fun q => e (by unfold acrossM at q; omega)⟩
    have c2 : (0 ≤ a ∧ a < 64) ∧ (0 ≤ t ∧ t < 64) ∧ a ≠ t := ⟨ha, ht, e⟩
    rw [if_pos c1, if_pos c2]
theorem empty_turn {P Q : Nat → Int} (T : TurnOf P Q) {x : Int} (hx : 0 ≤ x ∧ x < 64) : emptyM Q (acrossM x) = emptyM P x := by
  have ⟨hk, hc⟩ := turn_k T.sq hx
  rw [Bool.eq_iff_iff, emptyM_iff, emptyM_iff, hk, hc]
  constructor
  · rintro ⟨e0, e1⟩
    rw [sideT_not (by omega)] at e1
    exact ⟨e0, e1⟩
  · rintro ⟨e0, e1⟩
    rw [sideT_not (by omega)]
    exact ⟨e0, e1⟩
theorem at_turn {P Q : Nat → Int} (T : TurnOf P Q) {k a t : Int} (ha : 0 ≤ a ∧ a < 64) (ht : 0 ≤ t ∧ t < 64) : atT Q k (acrossM a) (acrossM t) = acrossM (atT P k a t) := by
  unfold atT
  rw [empty_turn T ht, T.over]
  have ho : acrossM t = overT (P 130) ↔ t = P 130 := by
    unfold overT isM
    by_cases q : 0 ≤ P 130 ∧ P 130 < 64
    · rw [if_pos (decide_eq_true q)]; unfold acrossM; omega
    · rw [if_neg (by rw [decide_eq_false q]; decide)]; unfold acrossM; omega
  have hf : acrossM t % 8 ≠ acrossM a % 8 ↔ t % 8 ≠ a % 8 := by unfold acrossM; omega
  by_cases c : k = 1 ∧ t % 8 ≠ a % 8 ∧ t = P 130 ∧ emptyM P t = true
  · rw [if_pos c, if_pos ⟨c.1, hf.2 c.2.1, ho.2 c.2.2.1, c.2.2.2⟩]; unfold acrossM; omega
  · rw [if_neg c, if_neg (fun q => c ⟨q.1, hf.1 q.2.1, ho.1 q.2.2.1, q.2.2.2⟩)]
theorem takes_turn {P Q : Nat → Int} (T : TurnOf P Q) {k a t : Int} (ha : 0 ≤ a ∧ a < 64) (ht : 0 ≤ t ∧ t < 64) : (takesM P k a t = -1 ∧ takesM Q k (acrossM a) (acrossM t) = -1) ∨ ((0 ≤ takesM P k a t ∧ takesM P k a t < 64) ∧ takesM Q k (acrossM a) (acrossM t) = acrossM (takesM P k a t)) := by
  have hb := atT_bd (P := P) (k := k) ha ht
  unfold takesM
  rw [at_turn T ha ht, empty_turn T hb]
  by_cases e : emptyM P (atT P k a t) = true
  · rw [if_pos e, if_pos e]; exact .inl ⟨rfl, rfl⟩
  · rw [if_neg e, if_neg e]; exact .inr ⟨hb, rfl⟩
theorem cast_bits : ∀ C : Fin 16, castT (C.val : Int) / 4 % 2 = (C.val : Int) / 1 % 2 ∧ castT (C.val : Int) / (2 * 4) % 2 = (C.val : Int) / (2 * 1) % 2 ∧ castT (C.val : Int) / 1 % 2 = (C.val : Int) / 4 % 2 ∧ castT (C.val : Int) / (2 * 1) % 2 = (C.val : Int) / (2 * 4) % 2 := by decide +kernel
theorem castling_turn {k a t c C : Int} (hc : c = 0 ∨ c = 1) (hC : 0 ≤ C ∧ C ≤ 15) (ha : 0 ≤ a ∧ a < 64) (ht : 0 ≤ t ∧ t < 64) : castlingM k (acrossM a) (acrossM t) (1 - c) (castT C) = castlingM k a t c C := by
  obtain ⟨n, rfl⟩ : ∃ n : Nat, C = n := ⟨C.toNat, by omega⟩
  have ⟨b1, b2, b3, b4⟩ := cast_bits ⟨n, by omega⟩
  simp only at b1 b2 b3 b4
  rcases hc with rfl | rfl
  · have e1 : shortM (1 - 0) = 4 := rfl
    have e2 : shortM 0 = 1 := rfl
    unfold castlingM acrossM
    rw [e1, e2]
    have q1 : (k = 6 ∧ (7 - a / 8) * 8 + a % 8 = 56 * (1 - 0) + 4 ∧ (7 - t / 8) * 8 + t % 8 = (7 - a / 8) * 8 + a % 8 + 2 ∧ castT (n : Int) / 4 % 2 = 1) ↔ (k = 6 ∧ a = 56 * 0 + 4 ∧ t = a + 2 ∧ (n : Int) / 1 % 2 = 1) := by rw [b1]; omega
    have q2 : (k = 6 ∧ (7 - a / 8) * 8 + a % 8 = 56 * (1 - 0) + 4 ∧ (7 - t / 8) * 8 + t % 8 = (7 - a / 8) * 8 + a % 8 - 2 ∧ castT (n : Int) / (2 * 4) % 2 = 1) ↔ (k = 6 ∧ a = 56 * 0 + 4 ∧ t = a - 2 ∧ (n : Int) / (2 * 1) % 2 = 1) := by rw [b2]; omega
    simp only [q1, q2]
  · have e1 : shortM (1 - 1) = 1 := rfl
    have e2 : shortM 1 = 4 := rfl
    unfold castlingM acrossM
    rw [e1, e2]
    have q1 : (k = 6 ∧ (7 - a / 8) * 8 + a % 8 = 56 * (1 - 1) + 4 ∧ (7 - t / 8) * 8 + t % 8 = (7 - a / 8) * 8 + a % 8 + 2 ∧ castT (n : Int) / 1 % 2 = 1) ↔ (k = 6 ∧ a = 56 * 1 + 4 ∧ t = a + 2 ∧ (n : Int) / 4 % 2 = 1) := by rw [b3]; omega
    have q2 : (k = 6 ∧ (7 - a / 8) * 8 + a % 8 = 56 * (1 - 1) + 4 ∧ (7 - t / 8) * 8 + t % 8 = (7 - a / 8) * 8 + a % 8 - 2 ∧ castT (n : Int) / (2 * 1) % 2 = 1) ↔ (k = 6 ∧ a = 56 * 1 + 4 ∧ t = a - 2 ∧ (n : Int) / (2 * 4) % 2 = 1) := by rw [b4]; omega
    simp only [q1, q2]
theorem turned_if {B C X Y : Nat → Int} {w w' : Int} (h : Turned B C 64) (hw : (w = -1 ∧ w' = -1) ∨ ((0 ≤ w ∧ w < 64) ∧ w' = acrossM w)) : Turned (brd1 B w) (brd1 C w') 64 := by
  unfold brd1
  rcases hw with ⟨rfl, rfl⟩ | ⟨hw, rfl⟩
  · rw [if_neg (by decide), if_neg (by decide)]; exact h
  · have := across_bd hw
    rw [if_pos hw.1, if_pos this.1]
    exact turned_put h hw rfl rfl
theorem brd_turn {P Q : Nat → Int} {w w' a t k c b g : Int} (h : Turned P Q 64) (hw : (w = -1 ∧ w' = -1) ∨ ((0 ≤ w ∧ w < 64) ∧ w' = acrossM w)) (ha : 0 ≤ a ∧ a < 64) (ht : 0 ≤ t ∧ t < 64) (hk : 1 ≤ k ∧ k ≤ 6) (hc : c = 0 ∨ c = 1) (hb : b = 0 ∨ (2 ≤ b ∧ b ≤ 5)) (hg : g ≠ 0 → a = 56 * c + 4) :
    Turned (brd4 P w a t k c b g) (brd4 Q w' (acrossM a) (acrossM t) k (1 - c) b g) 64 := by
  have h3 : Turned (brd3 P w a t k c b) (brd3 Q w' (acrossM a) (acrossM t) k (1 - c) b) 64 := by
    unfold brd3 brd2
    refine turned_put (turned_put (turned_if (X := nopc) (Y := nopc) h hw) ha rfl rfl) ht rfl ?_
    show 1 - c = sideT (if b = 0 then k else b) c
    rw [sideT_may (by split <;> omega) hc]
  unfold brd4
  by_cases g1 : g = 1
  · have hh := hg (by omega)
    rw [if_pos g1, if_pos g1, show acrossM a + 3 = acrossM (a + 3) by unfold acrossM; omega, show acrossM a + 1 = acrossM (a + 1) by unfold acrossM; omega]
    exact turned_put (turned_put h3 (by omega) rfl rfl) (by omega) rfl (sideT_may (k := 4) (by omega) hc).symm
  · rw [if_neg g1, if_neg g1]
    by_cases g2 : g = -1
    · have hh := hg (by omega)
      rw [if_pos g2, if_pos g2, show acrossM a - 4 = acrossM (a - 4) by unfold acrossM; omega, show acrossM a - 1 = acrossM (a - 1) by unfold acrossM; omega]
      exact turned_put (turned_put h3 (by omega) rfl rfl) (by omega) rfl (sideT_may (k := 4) (by omega) hc).symm
    · rw [if_neg g2, if_neg g2]; exact h3
theorem lost_acr : ∀ s : Fin 64, lostM (acrossM (s.val : Int)) = castT (lostM (s.val : Int)) := by decide +kernel
theorem lost_turn {s : Int} (h : 0 ≤ s ∧ s < 64) : lostM (acrossM s) = castT (lostM s) := by
  obtain ⟨n, rfl⟩ : ∃ n : Nat, s = n := ⟨s.toNat, by omega⟩
  exact lost_acr ⟨n, by omega⟩
theorem andNot_bits : ∀ C : Fin 16, ∀ x ∈ [0, 1, 2, 3, 4, 8, 12], ∀ y ∈ [0, 1, 2, 3, 4, 8, 12], andNotM (castT (C.val : Int)) (orM (orM 0 (castT x)) (castT y)) = castT (andNotM (C.val : Int) (orM (orM 0 x) y)) := by decide +kernel
theorem andNot_turn {C a t : Int} (hC : 0 ≤ C ∧ C ≤ 15) (ha : 0 ≤ a ∧ a < 64) (ht : 0 ≤ t ∧ t < 64) : andNotM (castT C) (orM (orM 0 (lostM (acrossM a))) (lostM (acrossM t))) = castT (andNotM C (orM (orM 0 (lostM a)) (lostM t))) := by
  rw [lost_turn ha, lost_turn ht]
  obtain ⟨n, rfl⟩ : ∃ n : Nat, C = n := ⟨C.toNat, by omega⟩
  exact andNot_bits ⟨n, by omega⟩ _ (lost_in a) _ (lost_in t)
theorem cast_turn {P Q : Nat → Int} (T : TurnOf P Q) : castM Q = castT (castM P) := by
  by_cases h : 0 ≤ P 129 ∧ P 129 ≤ 15
  · have e : castT (P 129) = P 129 / 4 + P 129 % 4 * 4 := if_pos h
    have f : castM P = P 129 := if_neg (by omega)
    rw [f]
    show (if Q 129 < 0 ∨ 15 < Q 129 then 0 else Q 129) = _
    rw [T.castle, if_neg (by rw [e]; omega)]
  · have e : castT (P 129) = P 129 := if_neg h
    have f : castM P = 0 := if_pos (by omega)
    rw [f]
    show (if Q 129 < 0 ∨ 15 < Q 129 then 0 else Q 129) = _
    rw [T.castle, e, if_pos (by omega)]; rfl
theorem over_turn {k a t c : Int} (hc : c = 0 ∨ c = 1) (ha : 0 ≤ a ∧ a < 64) (ht : 0 ≤ t ∧ t < 64) : overM k (acrossM a) (acrossM t) (1 - c) = overT (overM k a t c) := by
  have hl : longM k (acrossM a) (acrossM t) (1 - c) = longM k a t c := by
    unfold longM acrossM
    rw [Bool.eq_iff_iff, decide_eq_true_eq, decide_eq_true_eq]
    omega
  unfold overM
  rw [hl]
  by_cases h : longM k a t c = true
  · have h2 := of_decide_eq_true h
    rw [if_pos h, if_pos h, overT, if_pos (show isM ((a + t) / 2) = true from decide_eq_true (by omega))]
    unfold acrossM
    omega
  · rw [if_neg h, if_neg h]; rfl
theorem move_turn {P Q S : Nat → Int} (T : TurnOf P Q) (hs : P 128 = 0 ∨ P 128 = 1) {a t b : Int} (he : errM P a t b = 0) (ha : 0 ≤ a ∧ a < 64) (ht : 0 ≤ t ∧ t < 64) (U : TurnOf (ovA (fun _ => 0) 0 133 (moveM P a t b)) S) :
    ∀ i, i < 133 → i ≠ 132 → S i = moveM Q (acrossM a) (acrossM t) b i := by
  have hcan := (errM_zero he).2
  have hk := canM_kind hcan
  have hc := canM_side hcan
  have hb : b = 0 ∨ (2 ≤ b ∧ b ≤ 5) := by
    have := (of_decide_eq_true hcan).2.2.2.2
    split at this
    · exact .inr this
    · exact .inl this
  have ⟨tk, tc⟩ := turn_k T.sq ha
  rw [sideT_may hk hc] at tc
  have e0 : ovA (fun _ => 0) 0 133 (moveM P a t b) = moveM P a t b := ovA_id fun i hi => moveM_out hi
  rw [e0] at U
  have hP : moveM P a t b = afterM P (P (sqI a)) (P (sqI a + 1)) a t b (castM P) := by unfold moveM; rw [if_pos he]
  have hQ : moveM Q (acrossM a) (acrossM t) b = afterM Q (P (sqI a)) (1 - P (sqI a + 1)) (acrossM a) (acrossM t) b (castT (castM P)) := by
    unfold moveM; rw [if_pos (by rw [err_turn T hs ha ht]; exact he), tk, tc, cast_turn T]
  have hw := takes_turn T (k := P (sqI a)) ha ht
  rw [hP] at U
  rw [hQ]
  have hbr := brd_turn (b := b) T.sq hw ha ht hk hc hb (castling_a (k := P (sqI a)) (a := a) (t := t) (c := P (sqI a + 1)) (C := castM P))
  have hcg := castling_turn (k := P (sqI a)) (t := t) hc (castM_bd P) ha ht
  intro i hi hn
  have lo : ∀ i, i < 128 → S i = brd4 Q (takesM Q (P (sqI a)) (acrossM a) (acrossM t)) (acrossM a) (acrossM t) (P (sqI a)) (1 - P (sqI a + 1)) b (castlingM (P (sqI a)) a t (P (sqI a + 1)) (castM P)) i := by
    refine turned_uniq (P := brd4 P (takesM P (P (sqI a)) a t) a t (P (sqI a)) (P (sqI a + 1)) b (castlingM (P (sqI a)) a t (P (sqI a + 1)) (castM P))) ?_ hbr
    intro s hs2
    have := U.sq s hs2
    unfold afterM at this
    rw [if_pos (by omega), if_pos (by omega)] at this
    exact this
  unfold afterM
  by_cases h1 : i < 128
  · rw [if_pos h1, hcg]; exact lo i h1
  · rw [if_neg h1]
    have hcs : i = 128 ∨ i = 129 ∨ i = 130 ∨ i = 131 := by omega
    rcases hcs with rfl | rfl | rfl | rfl
    · rw [if_pos rfl, U.side, T.side]; rfl
    · rw [if_neg (by decide), if_pos rfl, U.castle, andNot_turn (castM_bd P) ha ht]; rfl
    · rw [if_neg (by decide), if_neg (by decide), if_pos rfl, U.over, over_turn hc ha ht]; rfl
    · rw [if_neg (by decide), if_neg (by decide), if_neg (by decide), if_pos rfl, U.half]
      show halfM P (P (sqI a)) (takesM P (P (sqI a)) a t) = _
      unfold halfM
      rw [T.half]
      rcases hw with ⟨x, y⟩ | ⟨x, y⟩
      · rw [x, y]
      · have := across_bd x
        by_cases q : P (sqI a) = 1
        · rw [if_pos (.inl q), if_pos (.inl q)]
        · rw [if_pos (.inr x.1), if_pos (.inr (by rw [y]; exact this.1))]
theorem eqI_t {n : Nat} {P Q : Nat → Int} (h : ∀ i, i < n → P i = Q i) : (bif false then !(eqI n P Q) else eqI n P Q) = true := by
  rw [eqI_iff.2 h]; rfl
theorem eql_of {a b : Int} (h : a = b) : binS .eql (.int .i64 a) (.int .i64 b) = some (.bool true) := by
  subst h
  show (if IntKind.i64 = IntKind.i64 then some (S.bool (a == a)) else none) = _
  simp
theorem neq_of {a b : Int} (h : a = b) : binS .neq (.int .i64 a) (.int .i64 b) = some (.bool false) := by
  subst h; exact neq_self a
theorem TurnX_ex (P : Nat → Int) : ∃ Q, TurnOf P Q ∧ RF AM 53 [.agg 133 (ia P)] (.agg 133 (ia Q)) := by
  obtain ⟨v, σ, _, _, h, _, Q, hQ, rfl⟩ := Turn_run P
  exact ⟨Q, hQ, σ, h⟩
theorem lmade_ex (P : Nat → Int) (x y z : Int) : ∃ M, (0 ≤ M 0 ∧ M 0 < 64) ∧ (0 ≤ M 1 ∧ M 1 < 64) ∧ RF AM 79 [.agg 133 (ia P), .s (.int .i64 x), .s (.int .i64 y), .s (.int .i64 z)] (.agg 3 (ia M)) := by
  obtain ⟨v, σ, _, _, h, _, M, rfl, h0, h1⟩ := lmade_run P x y z
  exact ⟨M, h0, h1, σ, h⟩
theorem Takes_ok {P m : Nat → Int} (he : errM P (m 0) (m 1) (m 2) = 0) : RF AM 66 [.agg 133 (ia P), .agg 3 (ia m)] (.s (.int .i64 (takesM P (P (sqI (m 0))) (m 0) (m 1)))) := by
  have h := RF_of (Takes_walk P m)
  rw [if_pos he] at h
  exact h
theorem right_side {P : Nat → Int} (h : rightM P = true) : P 128 = 0 ∨ P 128 = 1 := by
  unfold rightM at h
  simp only [Bool.and_eq_true] at h
  exact (pieces_is h.1.1.1).2.2.2

theorem turns_eq {S R : Nat → Int} (h : ∀ i, i < 133 → i ≠ 132 → S i = R i) (i : Nat) (hi : i < 133) : ov (ovA (fun _ => 0) 0 133 S) 132 (R 132) i = ovA (fun _ => 0) 0 133 R i := by
  rw [ovA_at (o := 0) (m := 133) (by omega), Nat.sub_zero]
  by_cases e : i = 132
  · subst e; rfl
  · rw [ov_out e, ovA_at (by omega), Nat.sub_zero]; exact h i hi e

theorem PlayTurns_run (P : Nat → Int) (x y z : Int) : WR AM 18 [.agg 133 (ia P), .s (.int .i64 x), .s (.int .i64 y), .s (.int .i64 z)] [] (fun v _ _ => v = .s (.bool true)) := by
 refine WR_fn (a := a18) rfl rfl (entryF _) (entry_E (Nat.le_of_ble_eq_true rfl)) (m := 0) rfl ?_
 refine WP_seq ?_
 refine WP_ops ?_
 refine WO_boxA rfl ?_
 refine WO_mv rfl ?_
 refine WO_nil ?_
 refine WP_seq ?_
 refine WP_seq ?_
 refine WP_ops ?_
 refine WO_call0 rfl (playAwake_run) rfl rfl rfl ?_
 refine WO_un (r := .bool _) rfl rfl ?_
 refine WO_nil ?_
 refine WP_cond rfl (fun h => nomatch h) (fun _ => ?_)
 refine WP_skip ?_
 refine WP_seq ?_
 refine WP_seq ?_
 refine WP_ops ?_
 first | refine WO_ldA0 rfl rfl (.head _) ?_ | refine WO_ldAI rfl rfl (.head _) ?_
 refine WO_call0 rfl (RF_of (Right_run P)) rfl rfl rfl ?_
 refine WO_un (r := .bool _) rfl rfl ?_
 refine WO_nil ?_
 refine WP_cond rfl (fun h12 => ?_) (fun h12 => ?_)
 ·try simp only [NM] at h12
  refine WP_seq ?_
  refine WP_ops ?_
  refine WO_mv rfl ?_
  refine WO_nil ?_
  refine WP_ret ?_
  refine ⟨_, RS_tmp (v := .s (.bool _)) rfl (RS_nil), ?_⟩
  rfl
 ·try simp only [NM] at h12
  refine WP_skip ?_
  refine WP_seq ?_
  refine WP_ops ?_
  first | refine WO_ldA0 rfl rfl (.head _) ?_ | refine WO_ldAI rfl rfl (.head _) ?_
  refine WO_mv (v := .s (.int _ _)) rfl ?_
  refine WO_mv (v := .s (.int _ _)) rfl ?_
  refine WO_mv (v := .s (.int _ _)) rfl ?_
  have hs := right_side (P := P) (by assumption)
  obtain ⟨M, ha, ht, hM⟩ := lmade_ex P x y z
  refine WO_call0 rfl (hM) rfl rfl rfl ?_
  refine WO_allocI ?_
  refine WO_stA rfl rfl rfl rfl .here ?_
  refine WO_nil ?_
  refine WP_seq ?_
  refine WP_ops ?_
  first | refine WO_ldA0 rfl rfl (.tail _ (.head _)) ?_ | refine WO_ldAI rfl rfl (.tail _ (.head _)) ?_
  first | refine WO_ldA0 rfl rfl (.head _) ?_ | refine WO_ldAI rfl rfl (.head _) ?_
  refine WO_call0 rfl (show RF AM 64 [.agg 133 (ia P), .agg 3 (ia (ovA (fun _ => 0) 0 3 M))] (.tup [.agg 133 (ia (moveM P (M 0) (M 1) (M 2))), .s (.int .i64 (errM P (M 0) (M 1) (M 2)))]) from Move_is) rfl rfl rfl ?_
  refine WO_mv (v := .tup _) rfl ?_
  refine WO_ext (v := .agg _ _) rfl rfl ?_
  refine WO_ext (v := .s (.int _ _)) rfl rfl ?_
  refine WO_allocI ?_
  refine WO_stA rfl rfl rfl rfl .here ?_
  refine WO_mv (v := .s (.int _ _)) rfl ?_
  refine WO_nil ?_
  refine WP_seq ?_
  refine WP_ops ?_
  first | refine WO_ldA0 rfl rfl (.tail _ (.head _)) ?_ | refine WO_ldAI rfl rfl (.tail _ (.head _)) ?_
  refine WO_allocI ?_
  refine WO_stA rfl rfl rfl rfl .here ?_
  refine WO_nil ?_
  refine WP_seq ?_
  refine WP_ops ?_
  refine WO_fa (o' := 0) rfl rfl rfl ?_
  refine WO_ldI (x := M 0) rfl rfl (.tail _ (.tail _ (.head _))) (rfl) ?_
  refine WO_call0 rfl (RF_of (across_run _ ha)) rfl rfl rfl ?_
  refine WO_fa (o' := 0) rfl rfl rfl ?_
  refine WO_stI rfl rfl rfl rfl .here ?_
  refine WO_nil ?_
  refine WP_seq ?_
  refine WP_ops ?_
  refine WO_fa (o' := 1) rfl rfl rfl ?_
  refine WO_ldI (x := M 1) rfl rfl (.tail _ (.tail _ (.head _))) (rfl) ?_
  refine WO_call0 rfl (RF_of (across_run _ ht)) rfl rfl rfl ?_
  refine WO_fa (o' := 1) rfl rfl rfl ?_
  refine WO_stI rfl rfl rfl rfl .here ?_
  refine WO_nil ?_
  refine WP_seq ?_
  refine WP_ops ?_
  first | refine WO_ldA0 rfl rfl (.tail _ (.tail _ (.tail _ (.head _)))) ?_ | refine WO_ldAI rfl rfl (.tail _ (.tail _ (.tail _ (.head _)))) ?_
  obtain ⟨Q, T, hQ⟩ := TurnX_ex P
  have herr := err_turn T hs (b := M 2) ha ht
  refine WO_callq0 rfl (hQ) rfl rfl rfl ?_
  first | refine WO_ldA0 rfl rfl (.head _) ?_ | refine WO_ldAI rfl rfl (.head _) ?_
  refine WO_callq0 rfl (show RF AM 64 [.agg 133 (ia Q), .agg 3 (ia (ov (ov (ovA (fun _ => 0) 0 3 (ovA (fun _ => 0) 0 3 M)) 0 (acrossM (M 0))) 1 (acrossM (M 1))))] (.tup [.agg 133 (ia (moveM Q (acrossM (M 0)) (acrossM (M 1)) (M 2))), .s (.int .i64 (errM Q (acrossM (M 0)) (acrossM (M 1)) (M 2)))]) from Move_is) rfl rfl rfl ?_
  refine WO_mv (v := .tup _) rfl ?_
  refine WO_ext (v := .agg _ _) rfl rfl ?_
  refine WO_ext (v := .s (.int _ _)) rfl rfl ?_
  refine WO_allocI ?_
  refine WO_stA rfl rfl rfl rfl .here ?_
  refine WO_mv (v := .s (.int _ _)) rfl ?_
  refine WO_nil ?_
  refine WP_seq ?_
  refine WP_seq ?_
  refine WP_ops ?_
  refine WO_mv (v := .s (.int _ _)) rfl ?_
  refine WO_mv (v := .s (.int _ _)) rfl ?_
  refine WO_bin rfl rfl (neq_of herr.symm) ?_
  refine WO_nil ?_
  refine WP_cond rfl (fun h => nomatch h) (fun _ => ?_)
  refine WP_skip ?_
  refine WP_seq ?_
  refine WP_seq ?_
  refine WP_ops ?_
  refine WO_mv (v := .s (.int _ _)) rfl ?_
  refine WO_bin (r := .bool _) rfl rfl rfl ?_
  refine WO_nil ?_
  refine WP_cond rfl (fun h13 => ?_) (fun h13 => ?_)
  ·try simp only [NM] at h13
   refine WP_seq ?_
   refine WP_ops ?_
   first | refine WO_ldA0 rfl rfl (.tail _ (.tail _ (.head _))) ?_ | refine WO_ldAI rfl rfl (.tail _ (.tail _ (.head _))) ?_
   refine WO_buildI rfl .nil ?_
   refine WO_eqaC rfl rfl (eqI_t (fun i hi => by rw [ovA_at (by omega), moveM, if_neg (by assumption)])) ?_
   refine WO_mv (v := .s (.bool _)) rfl ?_
   refine WO_nil ?_
   refine WP_ret ?_
   refine ⟨_, RS_tmp (v := .s (.bool _)) rfl (RS_nil), ?_⟩
   rfl
  ·try simp only [NM] at h13
   refine WP_skip ?_
   refine WP_seq ?_
   refine WP_ops ?_
   first | refine WO_ldA0 rfl rfl (.tail _ (.tail _ (.head _))) ?_ | refine WO_ldAI rfl rfl (.tail _ (.tail _ (.head _))) ?_
   have he : errM P (M 0) (M 1) (M 2) = 0 := by assumption
   obtain ⟨S1, U, hS⟩ := TurnX_ex (ovA (fun _ => 0) 0 133 (moveM P (M 0) (M 1) (M 2)))
   have hmv := move_turn T hs he ha ht U
   refine WO_call0 rfl (hS) rfl rfl rfl ?_
   refine WO_allocI ?_
   refine WO_stA rfl rfl rfl rfl .here ?_
   refine WO_nil ?_
   refine WP_seq ?_
   refine WP_ops ?_
   refine WO_fa (o' := 132) rfl rfl rfl ?_
   refine WO_ldI (x := moveM Q (acrossM (M 0)) (acrossM (M 1)) (M 2) 132) rfl rfl (.tail _ (.head _)) (rfl) ?_
   refine WO_fa (o' := 132) rfl rfl rfl ?_
   refine WO_stI rfl rfl rfl rfl .here ?_
   refine WO_nil ?_
   refine WP_seq ?_
   refine WP_ops ?_
   first | refine WO_ldA0 rfl rfl (.tail _ (.tail _ (.tail _ (.tail _ (.tail _ (.head _)))))) ?_ | refine WO_ldAI rfl rfl (.tail _ (.tail _ (.tail _ (.tail _ (.tail _ (.head _)))))) ?_
   first | refine WO_ldA0 rfl rfl (.tail _ (.tail _ (.tail _ (.tail _ (.head _))))) ?_ | refine WO_ldAI rfl rfl (.tail _ (.tail _ (.tail _ (.tail _ (.head _))))) ?_
   have hw := takes_turn T (k := P (sqI (M 0))) ha ht
   have htk := (turn_k T.sq ha).1
   refine WO_callq0 rfl (show RF AM 66 [.agg 133 (ia P), .agg 3 (ia (ovA (fun _ => 0) 0 3 M))] (.s (.int .i64 (takesM P (P (sqI (M 0))) (M 0) (M 1)))) from Takes_ok he) rfl rfl rfl ?_
   first | refine WO_ldA0 rfl rfl (.tail _ (.tail _ (.tail _ (.tail _ (.tail _ (.head _)))))) ?_ | refine WO_ldAI rfl rfl (.tail _ (.tail _ (.tail _ (.tail _ (.tail _ (.head _)))))) ?_
   refine WO_callq0 rfl (hQ) rfl rfl rfl ?_
   first | refine WO_ldA0 rfl rfl (.tail _ (.tail _ (.head _))) ?_ | refine WO_ldAI rfl rfl (.tail _ (.tail _ (.head _))) ?_
   have hT2 : RF AM 66 [.agg 133 (ia Q), .agg 3 (ia (ov (ov (ovA (fun _ => 0) 0 3 (ovA (fun _ => 0) 0 3 M)) 0 (acrossM (M 0))) 1 (acrossM (M 1))))] (.s (.int .i64 (takesM Q (Q (sqI (acrossM (M 0)))) (acrossM (M 0)) (acrossM (M 1))))) := Takes_ok (m := (ov (ov (ovA (fun _ => 0) 0 3 (ovA (fun _ => 0) 0 3 M)) 0 (acrossM (M 0))) 1 (acrossM (M 1)))) (herr.trans he)
   rw [htk] at hT2
   refine WO_call0 rfl (hT2) rfl rfl rfl ?_
   refine WO_mv (v := .s (.int _ _)) rfl ?_
   refine WO_mv (v := .s (.int _ _)) rfl ?_
   refine WO_nil ?_
   refine WP_seq ?_
   refine WP_ops ?_
   first | refine WO_ldA0 rfl rfl (.head _) ?_ | refine WO_ldAI rfl rfl (.head _) ?_
   first | refine WO_ldA0 rfl rfl (.tail _ (.head _)) ?_ | refine WO_ldAI rfl rfl (.tail _ (.head _)) ?_
   refine WO_eqaC rfl rfl (eqI_t (fun i hi => turns_eq hmv i hi)) ?_
   refine WO_mv (v := .s (.bool _)) rfl ?_
   refine WO_gt rfl ?_
   refine WO_fa (o' := 128) rfl rfl rfl ?_
   refine WO_gt rfl ?_
   refine WO_ldI (x := otherM (P 128)) rfl rfl (.tail _ (.tail _ (.tail _ (.head _)))) (by show moveM P (M 0) (M 1) (M 2) 128 = _; rw [moveM, if_pos he]; rfl) ?_
   refine WO_gt rfl ?_
   refine WO_fa (o' := 128) rfl rfl rfl ?_
   refine WO_gt rfl ?_
   refine WO_ldI (x := P 128) rfl rfl (.tail _ (.tail _ (.tail _ (.tail _ (.tail _ (.head _)))))) (rfl) ?_
   refine WO_gt rfl ?_
   refine WO_callq0 rfl (RF_of (Other_run _)) rfl rfl rfl ?_
   refine WO_gt rfl ?_
   refine WO_bin rfl rfl (eql_of rfl) ?_
   refine WO_pick (v := .s (.bool _)) rfl rfl ?_
   refine WO_mv (v := .s (.bool _)) rfl ?_
   refine WO_gt rfl ?_
   refine WO_mv (v := .s (.int _ _)) rfl ?_
   refine WO_gt rfl ?_
   refine WO_bin (r := .bool _) rfl rfl rfl ?_
   refine WO_gt rfl ?_
   refine WO_mv (v := .s (.bool _)) rfl ?_
   refine WO_case (t := 84) rfl (fun h14 => ?_) (fun h14 => ?_)
   ·try simp only [NM] at h14
    refine WO_gt rfl ?_
    refine WO_mv (v := .s (.int _ _)) rfl ?_
    refine WO_gt rfl ?_
    refine WO_bin (r := .bool _) rfl rfl rfl ?_
    refine WO_gt rfl ?_
    refine WO_pick (v := .s (.bool _)) rfl rfl ?_
    refine WO_gt rfl ?_
    refine WO_mv (v := .s (.bool _)) rfl ?_
    refine WO_case (t := 88) rfl (fun h15 => ?_) (fun h15 => ?_)
    ·try simp only [NM] at h15
     refine WO_gf rfl rfl ?_
     refine WO_gf rfl rfl ?_
     refine WO_gf rfl rfl ?_
     refine WO_gu rfl ?_
     refine WO_gu rfl ?_
     refine WO_gu rfl ?_
     refine WO_gu rfl ?_
     refine WO_gf rfl rfl ?_
     refine WO_gt rfl ?_
     refine WO_pick (v := .s (.bool _)) rfl rfl ?_
     refine WO_pick (v := .s (.bool _)) rfl rfl ?_
     refine WO_mv (v := .s (.bool _)) rfl ?_
     refine WO_nil ?_
     refine WP_ret ?_
     refine ⟨_, RS_tmp (v := .s (.bool _)) rfl (RS_nil), ?_⟩
     refine congrArg (fun b => V.s (S.bool b)) ?_
     first | rfl | (simp only [beq_iff_eq, decide_eq_true_eq]; omega) | (exfalso; omega)
    ·try simp only [NM] at h15
     refine WO_gt rfl ?_
     refine WO_mv (v := .s (.int _ _)) rfl ?_
     refine WO_gt rfl ?_
     refine WO_bin (r := .bool _) rfl rfl rfl ?_
     refine WO_gt rfl ?_
     refine WO_mv (v := .s (.bool _)) rfl ?_
     refine WO_case (t := 91) rfl (fun h16 => ?_) (fun h16 => ?_)
     ·try simp only [NM] at h16
      refine WO_gt rfl ?_
      refine WO_mv (v := .s (.int _ _)) rfl ?_
      refine WO_gt rfl ?_
      refine WO_mv (v := .s (.int _ _)) rfl ?_
      refine WO_gt rfl ?_
      refine WO_call0 rfl (RF_of (across_run _ (by omega))) rfl rfl rfl ?_
      refine WO_gt rfl ?_
      refine WO_bin (r := .bool _) rfl rfl rfl ?_
      refine WO_gt rfl ?_
      refine WO_pick (v := .s (.bool _)) rfl rfl ?_
      refine WO_gt rfl ?_
      refine WO_pick (v := .s (.bool _)) rfl rfl ?_
      refine WO_pick (v := .s (.bool _)) rfl rfl ?_
      refine WO_mv (v := .s (.bool _)) rfl ?_
      refine WO_nil ?_
      refine WP_ret ?_
      refine ⟨_, RS_tmp (v := .s (.bool _)) rfl (RS_nil), ?_⟩
      refine congrArg (fun b => V.s (S.bool b)) ?_
      first | rfl | (simp only [beq_iff_eq, decide_eq_true_eq]; omega) | (exfalso; omega)
     ·try simp only [NM] at h16
      refine WO_gf rfl rfl ?_
      refine WO_gf rfl rfl ?_
      refine WO_gf rfl rfl ?_
      refine WO_gf rfl rfl ?_
      refine WO_gt rfl ?_
      refine WO_pick (v := .s (.bool _)) rfl rfl ?_
      refine WO_gt rfl ?_
      refine WO_pick (v := .s (.bool _)) rfl rfl ?_
      refine WO_pick (v := .s (.bool _)) rfl rfl ?_
      refine WO_mv (v := .s (.bool _)) rfl ?_
      refine WO_nil ?_
      refine WP_ret ?_
      refine ⟨_, RS_tmp (v := .s (.bool _)) rfl (RS_nil), ?_⟩
      refine congrArg (fun b => V.s (S.bool b)) ?_
      first | rfl | (simp only [beq_iff_eq, decide_eq_true_eq]; omega) | (exfalso; omega)
   ·try simp only [NM] at h14
    refine WO_gf rfl rfl ?_
    refine WO_gf rfl rfl ?_
    refine WO_gt rfl ?_
    refine WO_pick (v := .s (.bool _)) rfl rfl ?_
    refine WO_gt rfl ?_
    refine WO_mv (v := .s (.bool _)) rfl ?_
    refine WO_gt rfl ?_
    refine WO_mv (v := .s (.int _ _)) rfl ?_
    refine WO_gt rfl ?_
    refine WO_bin (r := .bool _) rfl rfl rfl ?_
    refine WO_gt rfl ?_
    refine WO_mv (v := .s (.bool _)) rfl ?_
    refine WO_case (t := 91) rfl (fun h17 => ?_) (fun h17 => ?_)
    ·try simp only [NM] at h17
     refine WO_gt rfl ?_
     refine WO_mv (v := .s (.int _ _)) rfl ?_
     refine WO_gt rfl ?_
     refine WO_mv (v := .s (.int _ _)) rfl ?_
     refine WO_gt rfl ?_
     refine WO_call0 rfl (RF_of (across_run _ (by omega))) rfl rfl rfl ?_
     refine WO_gt rfl ?_
     refine WO_bin (r := .bool _) rfl rfl rfl ?_
     refine WO_gt rfl ?_
     refine WO_pick (v := .s (.bool _)) rfl rfl ?_
     refine WO_gt rfl ?_
     refine WO_pick (v := .s (.bool _)) rfl rfl ?_
     refine WO_pick (v := .s (.bool _)) rfl rfl ?_
     refine WO_mv (v := .s (.bool _)) rfl ?_
     refine WO_nil ?_
     refine WP_ret ?_
     refine ⟨_, RS_tmp (v := .s (.bool _)) rfl (RS_nil), ?_⟩
     refine congrArg (fun b => V.s (S.bool b)) ?_
     first | rfl | (simp only [beq_iff_eq, decide_eq_true_eq]; omega) | (exfalso; omega)
    ·try simp only [NM] at h17
     refine WO_gf rfl rfl ?_
     refine WO_gf rfl rfl ?_
     refine WO_gf rfl rfl ?_
     refine WO_gf rfl rfl ?_
     refine WO_gt rfl ?_
     refine WO_pick (v := .s (.bool _)) rfl rfl ?_
     refine WO_gt rfl ?_
     refine WO_pick (v := .s (.bool _)) rfl rfl ?_
     refine WO_pick (v := .s (.bool _)) rfl rfl ?_
     refine WO_mv (v := .s (.bool _)) rfl ?_
     refine WO_nil ?_
     refine WP_ret ?_
     refine ⟨_, RS_tmp (v := .s (.bool _)) rfl (RS_nil), ?_⟩
     refine congrArg (fun b => V.s (S.bool b)) ?_
     first | rfl | (simp only [beq_iff_eq, decide_eq_true_eq]; omega) | (exfalso; omega)
end Go.Proofs.Ytjldefmcnppdoaa
