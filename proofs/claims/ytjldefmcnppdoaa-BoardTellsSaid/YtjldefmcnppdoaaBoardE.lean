/- The walk of BoardTells. -/
import Derived.Test.YtjldefmcnppdoaaBoardD
import Derived.Test.YtjldefmcnppdoaaSquareD
import Derived.Test.YtjldefmcnppdoaaBoK
namespace Go.Proofs.Ytjldefmcnppdoaa
open Go Go.Am
set_option linter.unusedSimpArgs false
set_option linter.unusedVariables false
theorem Lent_ex {md : Md} {q : Nat} {c : Cp} (K : Nat → Int) (nn : Nat) (hnn : nn ≤ 1000) : ∃ G : Nat → Int, (∀ j : Nat, j < nn → G j = K j) ∧ (∀ j : Nat, j < 12 → G (nn + j) = 1000003 * (1 + 7) + (j : Int)) ∧ RN AM 69 [.sl 0 0 nn 1 c] [.sc md q (ia K)] (fun b => .sl b 0 nn 1 (.ex (nn + 12))) (.sc .var (nn + 12) (ia G)) [.sc md q (ia K)] := by
  obtain ⟨v, σ', n', L', h1, h2, b, G, rfl, hb, hm, h0, hG, hM⟩ := Lent_walk (md := md) (q := q) (c := c) K nn hnn
  exact ⟨G, hG, hM, b, σ', h1, hb, (h2.2.mem hm).2, (h2.2.mem h0).2, ⟨_, _, _, rfl⟩, trivial⟩
theorem Lent_exN  : ∃ G : Nat → Int, (∀ j : Nat, j < 0 → G j = (fun _ => 0) j) ∧ (∀ j : Nat, j < 12 → G (0 + j) = 1000003 * (1 + 7) + (j : Int)) ∧ RN AM 69 [.snil] [] (fun b => .sl b 0 0 1 (.ex (0 + 12))) (.sc .var (0 + 12) (ia G)) [] := by
  obtain ⟨v, σ', n', L', h1, h2, b, G, rfl, hm, hG, hM⟩ := Lent_walkN 
  exact ⟨G, hG, hM, b, σ', h1, Nat.zero_le _, (h2.2.mem hm).2, trivial⟩
theorem Lent_exZ  : ∃ G : Nat → Int, (∀ j : Nat, j < 0 → G j = (fun _ => 0) j) ∧ (∀ j : Nat, j < 12 → G (0 + j) = 1000003 * (1 + 7) + (j : Int)) ∧ RN AM 69 [.slz] [] (fun b => .sl b 0 0 1 (.ex (0 + 12))) (.sc .var (0 + 12) (ia G)) [] := by
  obtain ⟨v, σ', n', L', h1, h2, b, G, rfl, hm, hG, hM⟩ := Lent_walkZ 
  exact ⟨G, hG, hM, b, σ', h1, Nat.zero_le _, (h2.2.mem hm).2, trivial⟩
theorem eqI_t1 {n : Nat} {P Q : Nat → Int} (h : ∀ i, i < n → P i = Q i) : (bif false then !(eqI n P Q) else eqI n P Q) = true := by
  rw [eqI_iff.2 h]; rfl
theorem sq_uniq {P Q R : Nat → Int} (h : Turned P Q 64) (k : Turned P R 64) : ∀ i, i < 128 → Q i = R i := by
  intro i hi
  have hl := acr_lt (s := i / 2) (by omega)
  have h1 := h (acr (i / 2)) hl
  have k1 := k (acr (i / 2)) hl
  rw [show acr (acr (i / 2)) = i / 2 from by unfold acr; omega] at h1 k1
  by_cases e : i % 2 = 0
  · rw [show i = i / 2 * 2 by omega, h1.1, k1.1]
  · rw [show i = i / 2 * 2 + 1 by omega, h1.2, k1.2]
theorem turn_uniq {P Q R : Nat → Int} (h : TurnOf P Q) (k : TurnOf P R) : ∀ i, i < 133 → Q i = R i := by
  intro i hi
  by_cases a : i < 128
  · exact sq_uniq h.sq k.sq i a
  · have : i = 128 ∨ i = 129 ∨ i = 130 ∨ i = 131 ∨ i = 132 := by omega
    rcases this with rfl | rfl | rfl | rfl | rfl
    · rw [h.side, k.side]
    · rw [h.castle, k.castle]
    · rw [h.over, k.over]
    · rw [h.half, k.half]
    · rw [h.full, k.full]
theorem Turns_ex (P : Nat → Int) : ∃ Q R, TurnOf P Q ∧ TurnOf P R ∧ RF AM 53 [.agg 133 (ia P)] (.agg 133 (ia Q)) ∧ RF AM 73 [.agg 133 (ia P)] (.agg 133 (ia R)) := by
  obtain ⟨v, σ, _, _, h, _, Q, hQ, rfl⟩ := Turn_run P
  obtain ⟨v2, σ2, _, _, h2, _, R, hR, rfl⟩ := dTurn_run P
  exact ⟨Q, R, hQ, hR, ⟨σ, h⟩, ⟨σ2, h2⟩⟩

theorem BoardTells_run {md : Md} {q : Nat} {c : Cp} (P X : Nat → Int) (K : Nat → Int) (nn : Nat) : WR AM 15 [.agg 133 (ia P), .agg 2 (ia X), .sl 0 0 nn 1 c] [.sc md q (ia K)] (fun v _ L => v = .s (.bool true) ∧ (0, Blk.sc md q (ia K)) ∈ L) := by
 refine WR_fn (a := a15) rfl rfl (entryF _) (entry_E (Nat.le_of_ble_eq_true rfl)) (m := 1) rfl ?_
 refine WP_seq ?_
 refine WP_ops ?_
 refine WO_boxA rfl ?_
 refine WO_boxA rfl ?_
 refine WO_mv rfl ?_
 refine WO_nil ?_
 refine WP_seq ?_
 refine WP_seq ?_
 refine WP_ops ?_
 refine WO_mv (v := .sl _ _ _ _ _) rfl ?_
 refine WO_len rfl ?_
 refine WO_bin (r := .bool _) rfl rfl rfl ?_
 refine WO_nil ?_
 refine WP_cond rfl (fun h1 => ?_) (fun h1 => ?_)
 ·try simp only [NM] at h1
  refine WP_seq ?_
  refine WP_ops ?_
  refine WO_call0 rfl (boAwake_run) rfl rfl rfl ?_
  refine WO_mv (v := .s (.bool _)) rfl ?_
  refine WO_nil ?_
  refine WP_ret ?_
  refine ⟨_, RS_tmp (v := .s (.bool _)) rfl (RS_nil), ?_⟩
  exact ⟨rfl, (.tail _ (.tail _ (.head _)))⟩
 ·try simp only [NM] at h1
  refine WP_skip ?_
  refine WP_seq ?_
  refine WP_ops ?_
  refine WO_mv (v := .sl _ _ _ _ _) rfl ?_
  obtain ⟨G, hG, hM, hLn⟩ := Lent_ex (md := md) (q := q) (c := c) K nn (by omega)
  refine WO_callN (mk := fun b => .sl b 0 nn 1 (.ex (nn + 12))) (rs := [0]) (Bs := [_]) One_sl rfl hLn rfl rfl (Nat.le_of_ble_eq_true rfl) (fun _ h => h) rfl ⟨(.tail _ (.tail _ (.head _))), ⟨_, _, _, rfl⟩, trivial⟩ rfl rfl (.cons (At_self (.tail _ (.tail _ (.head _)))) .nil) ?_
  refine WO_mv (v := .sl _ _ _ _ _) rfl ?_
  refine WO_nil ?_
  refine WP_seq ?_
  refine WP_ops ?_
  first | refine WO_ldA0 rfl rfl (.tail _ (.tail _ (.head _))) ?_ | refine WO_ldAI rfl rfl (.tail _ (.tail _ (.head _))) ?_
  first | refine WO_ldA0 rfl rfl (.tail _ (.head _)) ?_ | refine WO_ldAI rfl rfl (.tail _ (.head _)) ?_
  refine WO_mv (v := .sl _ _ _ _ _) rfl ?_
  refine WO_call (rs := [3]) (Bs := [_]) rfl (RB_of1 (Put_walk (md := .var) (q := nn + 12) (c := .ex (nn + 12)) P X G nn (by omega))) rfl rfl (Nat.le_of_ble_eq_true rfl) (fun _ h => h) rfl ⟨(.head _), ⟨_, _, _, rfl⟩, trivial⟩ rfl rfl rfl (.cons .here .nil) ?_
  refine WO_mv (v := .tup _) rfl ?_
  refine WO_ext (v := .agg _ _) rfl rfl ?_
  refine WO_ext (v := .s (.int _ _)) rfl rfl ?_
  refine WO_allocI ?_
  refine WO_stA rfl rfl rfl rfl .here ?_
  refine WO_mv (v := .s (.int _ _)) rfl ?_
  refine WO_nil ?_
  refine WP_seq ?_
  refine WP_ops ?_
  first | refine WO_ldA0 rfl rfl (.tail _ (.tail _ (.tail _ (.head _)))) ?_ | refine WO_ldAI rfl rfl (.tail _ (.tail _ (.tail _ (.head _)))) ?_
  first | refine WO_ldA0 rfl rfl (.tail _ (.tail _ (.head _))) ?_ | refine WO_ldAI rfl rfl (.tail _ (.tail _ (.head _))) ?_
  refine WO_mv (v := .sl _ _ _ _ _) rfl ?_
  refine WO_call (rs := [0]) (Bs := [_]) rfl (RB_of1 (dPut_walk P X K nn (by omega))) rfl rfl (Nat.le_of_ble_eq_true rfl) (fun _ h => h) rfl ⟨(.tail _ (.tail _ (.tail _ (.tail _ (.head _))))), ⟨_, _, _, rfl⟩, trivial⟩ rfl rfl rfl (.cons (.there (.there (.there (.there .here)))) .nil) ?_
  refine WO_mv (v := .tup _) rfl ?_
  refine WO_ext (v := .agg _ _) rfl rfl ?_
  refine WO_ext (v := .s (.int _ _)) rfl rfl ?_
  refine WO_allocI ?_
  refine WO_stA rfl rfl rfl rfl .here ?_
  refine WO_mv (v := .s (.int _ _)) rfl ?_
  refine WO_nil ?_
  refine WP_seq ?_
  refine WP_ops ?_
  first | refine WO_ldA0 rfl rfl (.tail _ (.head _)) ?_ | refine WO_ldAI rfl rfl (.tail _ (.head _)) ?_
  first | refine WO_ldA0 rfl rfl (.head _) ?_ | refine WO_ldAI rfl rfl (.head _) ?_
  refine WO_eqaC rfl rfl (eqI_t1 (fun i hi => by rw [putQ_same hG])) ?_
  refine WO_mv (v := .s (.bool _)) rfl ?_
  refine WO_gt rfl ?_
  refine WO_mv (v := .s (.int _ _)) rfl ?_
  refine WO_gt rfl ?_
  refine WO_mv (v := .s (.int _ _)) rfl ?_
  refine WO_gt rfl ?_
  refine WO_bin rfl rfl (eql_eq (putE_same hG)) ?_
  refine WO_pick (v := .s (.bool _)) rfl rfl ?_
  refine WO_mv (v := .s (.bool _)) rfl ?_
  refine WO_gt rfl ?_
  refine WO_mv (v := .sl _ _ _ _ _) rfl ?_
  refine WO_gt rfl ?_
  refine WO_mv (v := .sl _ _ _ _ _) rfl ?_
  refine WO_gt rfl ?_
  refine WO_call (rs := [3, 0]) (Bs := [_, _]) rfl (RB_of2 (Kept_walk K G nn (by omega) hG hM)) rfl rfl (Nat.le_of_ble_eq_true rfl) (fun _ h => h) rfl ⟨(.tail _ (.tail _ (.head _))), ⟨_, _, _, rfl⟩, ⟨(.tail _ (.tail _ (.tail _ (.tail _ (.tail _ (.head _)))))), ⟨_, _, _, rfl⟩, trivial⟩⟩ rfl rfl rfl (.cons (.there (.there .here)) (.cons (.there (.there (.there (.there (.there .here))))) .nil)) ?_
  refine WO_pick (v := .s (.bool _)) rfl rfl ?_
  refine WO_mv (v := .s (.bool _)) rfl ?_
  refine WO_gt rfl ?_
  first | refine WO_ldA0 rfl rfl (.tail _ (.tail _ (.tail _ (.tail _ (.head _))))) ?_ | refine WO_ldAI rfl rfl (.tail _ (.tail _ (.tail _ (.tail _ (.head _))))) ?_
  refine WO_gt rfl ?_
  refine WO_callq0 rfl (RF_of (Right_run P)) rfl rfl rfl ?_
  refine WO_gt rfl ?_
  first | refine WO_ldA0 rfl rfl (.tail _ (.tail _ (.tail _ (.tail _ (.head _))))) ?_ | refine WO_ldAI rfl rfl (.tail _ (.tail _ (.tail _ (.tail _ (.head _))))) ?_
  refine WO_gt rfl ?_
  refine WO_call0 rfl (RF_of (rRight_run P)) rfl rfl rfl ?_
  refine WO_gt rfl ?_
  refine WO_eqbT rfl rfl (rfl) ?_
  refine WO_pick (v := .s (.bool _)) rfl rfl ?_
  refine WO_mv (v := .s (.bool _)) rfl ?_
  refine WO_gt rfl ?_
  first | refine WO_ldA0 rfl rfl (.tail _ (.tail _ (.tail _ (.tail _ (.head _))))) ?_ | refine WO_ldAI rfl rfl (.tail _ (.tail _ (.tail _ (.tail _ (.head _))))) ?_
  refine WO_gt rfl ?_
  obtain ⟨Q, Q2, hTQ, hTR, hE1, hE2⟩ := Turns_ex P
  refine WO_callq0 rfl (hE1) rfl rfl rfl ?_
  refine WO_gt rfl ?_
  first | refine WO_ldA0 rfl rfl (.tail _ (.tail _ (.tail _ (.tail _ (.head _))))) ?_ | refine WO_ldAI rfl rfl (.tail _ (.tail _ (.tail _ (.tail _ (.head _))))) ?_
  refine WO_gt rfl ?_
  refine WO_call0 rfl (hE2) rfl rfl rfl ?_
  refine WO_gt rfl ?_
  refine WO_eqaC rfl rfl (eqI_t1 (turn_uniq hTQ hTR)) ?_
  refine WO_pick (v := .s (.bool _)) rfl rfl ?_
  refine WO_mv (v := .s (.bool _)) rfl ?_
  refine WO_gt rfl ?_
  first | refine WO_ldA0 rfl rfl (.tail _ (.tail _ (.tail _ (.tail _ (.head _))))) ?_ | refine WO_ldAI rfl rfl (.tail _ (.tail _ (.tail _ (.tail _ (.head _))))) ?_
  refine WO_gt rfl ?_
  first | refine WO_ldA0 rfl rfl (.tail _ (.tail _ (.tail _ (.head _)))) ?_ | refine WO_ldAI rfl rfl (.tail _ (.tail _ (.tail _ (.head _)))) ?_
  refine WO_gt rfl ?_
  rcases Find_ex P X with ⟨hc63, hT63⟩ | ⟨hc63, q63, F63, hF63, hT63⟩
  ·skip
   refine WO_callq0 rfl (hT63) rfl rfl rfl ?_
   refine WO_gt rfl ?_
   first | refine WO_ldA0 rfl rfl (.tail _ (.tail _ (.tail _ (.tail _ (.head _))))) ?_ | refine WO_ldAI rfl rfl (.tail _ (.tail _ (.tail _ (.tail _ (.head _))))) ?_
   refine WO_gt rfl ?_
   first | refine WO_ldA0 rfl rfl (.tail _ (.tail _ (.tail _ (.head _)))) ?_ | refine WO_ldAI rfl rfl (.tail _ (.tail _ (.tail _ (.head _)))) ?_
   refine WO_gt rfl ?_
   rcases dFind_ex P X with ⟨hc66, hT66⟩ | ⟨hc66, q66, F66, hF66, hT66⟩
   ·skip
    refine WO_call0 rfl (hT66) rfl rfl rfl ?_
    refine WO_gt rfl ?_
    refine WO_call0 rfl (RF_of SameInts_nil) rfl rfl rfl ?_
    refine WO_pick (v := .s (.bool _)) rfl rfl ?_
    refine WO_mv (v := .s (.bool _)) rfl ?_
    refine WO_nil ?_
    refine WP_seq ?_
    refine WP_ops ?_
    refine WO_mv (v := .s (.bool _)) rfl ?_
    refine WO_mv (v := .s (.bool _)) rfl ?_
    refine WO_gt rfl ?_
    first | refine WO_ldA0 rfl rfl (.tail _ (.tail _ (.tail _ (.tail _ (.head _))))) ?_ | refine WO_ldAI rfl rfl (.tail _ (.tail _ (.tail _ (.tail _ (.head _))))) ?_
    refine WO_gt rfl ?_
    refine WO_fa (o' := 128) rfl rfl rfl ?_
    refine WO_gt rfl ?_
    refine WO_ldI (x := P 128) rfl rfl (.tail _ (.tail _ (.tail _ (.tail _ (.head _))))) (rfl) ?_
    refine WO_gt rfl ?_
    obtain ⟨x1, _, hk1, hk2⟩ := King_both P (P 128)
    refine WO_callq0 rfl (hk1) rfl rfl rfl ?_
    refine WO_gt rfl ?_
    first | refine WO_ldA0 rfl rfl (.tail _ (.tail _ (.tail _ (.tail _ (.head _))))) ?_ | refine WO_ldAI rfl rfl (.tail _ (.tail _ (.tail _ (.tail _ (.head _))))) ?_
    refine WO_gt rfl ?_
    refine WO_fa (o' := 128) rfl rfl rfl ?_
    refine WO_gt rfl ?_
    refine WO_ldI (x := P 128) rfl rfl (.tail _ (.tail _ (.tail _ (.tail _ (.head _))))) (rfl) ?_
    refine WO_gt rfl ?_
    refine WO_call0 rfl (hk2) rfl rfl rfl ?_
    refine WO_gt rfl ?_
    refine WO_bin rfl rfl (eql_eq rfl) ?_
    refine WO_pick (v := .s (.bool _)) rfl rfl ?_
    refine WO_mv (v := .s (.bool _)) rfl ?_
    refine WO_gt rfl ?_
    first | refine WO_ldA0 rfl rfl (.tail _ (.tail _ (.tail _ (.tail _ (.head _))))) ?_ | refine WO_ldAI rfl rfl (.tail _ (.tail _ (.tail _ (.tail _ (.head _))))) ?_
    refine WO_gt rfl ?_
    refine WO_fa (o' := 128) rfl rfl rfl ?_
    refine WO_gt rfl ?_
    refine WO_ldI (x := P 128) rfl rfl (.tail _ (.tail _ (.tail _ (.tail _ (.head _))))) (rfl) ?_
    refine WO_gt rfl ?_
    refine WO_callq0 rfl (RF_of (Other_run _)) rfl rfl rfl ?_
    refine WO_gt rfl ?_
    obtain ⟨x2, _, hk3, hk4⟩ := King_both P (otherM (P 128))
    refine WO_callq0 rfl (hk3) rfl rfl rfl ?_
    refine WO_gt rfl ?_
    first | refine WO_ldA0 rfl rfl (.tail _ (.tail _ (.tail _ (.tail _ (.head _))))) ?_ | refine WO_ldAI rfl rfl (.tail _ (.tail _ (.tail _ (.tail _ (.head _))))) ?_
    refine WO_gt rfl ?_
    refine WO_fa (o' := 128) rfl rfl rfl ?_
    refine WO_gt rfl ?_
    refine WO_ldI (x := P 128) rfl rfl (.tail _ (.tail _ (.tail _ (.tail _ (.head _))))) (rfl) ?_
    refine WO_gt rfl ?_
    refine WO_callq0 rfl (RF_of (rOther_run _)) rfl rfl rfl ?_
    refine WO_gt rfl ?_
    refine WO_call0 rfl (hk4) rfl rfl rfl ?_
    refine WO_gt rfl ?_
    refine WO_bin rfl rfl (eql_eq rfl) ?_
    refine WO_pick (v := .s (.bool _)) rfl rfl ?_
    refine WO_mv (v := .s (.bool _)) rfl ?_
    refine WO_gt rfl ?_
    refine WO_call0 rfl (boAwake_run) rfl rfl rfl ?_
    refine WO_pick (v := .s (.bool _)) rfl rfl ?_
    refine WO_mv (v := .s (.bool _)) rfl ?_
    refine WO_nil ?_
    refine WP_ret ?_
    refine ⟨_, RS_tmp (v := .s (.bool _)) rfl (RS_nil), ?_⟩
    exact ⟨rfl, (.tail _ (.tail _ (.tail _ (.tail _ (.tail _ (.head _))))))⟩
   ·skip
    exfalso; omega
  ·skip
   refine WO_callqN (mk := fun b => .sl b 0 (lstM (stB P X) 64).1 1 .whole) (rs := []) (Bs := []) One_sl rfl hT63 rfl rfl (Nat.le_of_ble_eq_true rfl) (fun _ h => h) rfl trivial rfl rfl ?_
   refine WO_gt rfl ?_
   first | refine WO_ldA0 rfl rfl (.tail _ (.tail _ (.tail _ (.tail _ (.tail _ (.head _)))))) ?_ | refine WO_ldAI rfl rfl (.tail _ (.tail _ (.tail _ (.tail _ (.tail _ (.head _)))))) ?_
   refine WO_gt rfl ?_
   first | refine WO_ldA0 rfl rfl (.tail _ (.tail _ (.tail _ (.tail _ (.head _))))) ?_ | refine WO_ldAI rfl rfl (.tail _ (.tail _ (.tail _ (.tail _ (.head _))))) ?_
   refine WO_gt rfl ?_
   rcases dFind_ex P X with ⟨hc66, hT66⟩ | ⟨hc66, q66, F66, hF66, hT66⟩
   ·skip
    exfalso; omega
   ·skip
    refine WO_callN (mk := fun b => .sl b 0 (lstM (stB P X) 64).1 1 .whole) (rs := []) (Bs := []) One_sl rfl hT66 rfl rfl (Nat.le_of_ble_eq_true rfl) (fun _ h => h) rfl trivial rfl rfl .nil ?_
    refine WO_gt rfl ?_
    refine WO_call (rs := [6, 7]) (Bs := [_, _]) rfl (RB_of2 (SameInts_run (md := .grow) (md2 := .grow) (c := .whole) (c2 := .whole) F63 F66 (lstM (stB P X) 64).1 (by have := lstM_le (stB P X) 64; omega) (fun j hj => (hF63 j hj).trans (hF66 j hj).symm))) rfl rfl (Nat.le_of_ble_eq_true rfl) (fun _ h => h) rfl ⟨(.tail _ (.head _)), ⟨_, _, _, rfl⟩, ⟨(.head _), ⟨_, _, _, rfl⟩, trivial⟩⟩ rfl rfl rfl (.cons (.there .here) (.cons .here .nil)) ?_
    refine WO_pick (v := .s (.bool _)) rfl rfl ?_
    refine WO_mv (v := .s (.bool _)) rfl ?_
    refine WO_nil ?_
    refine WP_seq ?_
    refine WP_ops ?_
    refine WO_mv (v := .s (.bool _)) rfl ?_
    refine WO_mv (v := .s (.bool _)) rfl ?_
    refine WO_gt rfl ?_
    first | refine WO_ldA0 rfl rfl (.tail _ (.tail _ (.tail _ (.tail _ (.tail _ (.tail _ (.head _))))))) ?_ | refine WO_ldAI rfl rfl (.tail _ (.tail _ (.tail _ (.tail _ (.tail _ (.tail _ (.head _))))))) ?_
    refine WO_gt rfl ?_
    refine WO_fa (o' := 128) rfl rfl rfl ?_
    refine WO_gt rfl ?_
    refine WO_ldI (x := P 128) rfl rfl (.tail _ (.tail _ (.tail _ (.tail _ (.tail _ (.tail _ (.head _))))))) (rfl) ?_
    refine WO_gt rfl ?_
    obtain ⟨x1, _, hk1, hk2⟩ := King_both P (P 128)
    refine WO_callq0 rfl (hk1) rfl rfl rfl ?_
    refine WO_gt rfl ?_
    first | refine WO_ldA0 rfl rfl (.tail _ (.tail _ (.tail _ (.tail _ (.tail _ (.tail _ (.head _))))))) ?_ | refine WO_ldAI rfl rfl (.tail _ (.tail _ (.tail _ (.tail _ (.tail _ (.tail _ (.head _))))))) ?_
    refine WO_gt rfl ?_
    refine WO_fa (o' := 128) rfl rfl rfl ?_
    refine WO_gt rfl ?_
    refine WO_ldI (x := P 128) rfl rfl (.tail _ (.tail _ (.tail _ (.tail _ (.tail _ (.tail _ (.head _))))))) (rfl) ?_
    refine WO_gt rfl ?_
    refine WO_call0 rfl (hk2) rfl rfl rfl ?_
    refine WO_gt rfl ?_
    refine WO_bin rfl rfl (eql_eq rfl) ?_
    refine WO_pick (v := .s (.bool _)) rfl rfl ?_
    refine WO_mv (v := .s (.bool _)) rfl ?_
    refine WO_gt rfl ?_
    first | refine WO_ldA0 rfl rfl (.tail _ (.tail _ (.tail _ (.tail _ (.tail _ (.tail _ (.head _))))))) ?_ | refine WO_ldAI rfl rfl (.tail _ (.tail _ (.tail _ (.tail _ (.tail _ (.tail _ (.head _))))))) ?_
    refine WO_gt rfl ?_
    refine WO_fa (o' := 128) rfl rfl rfl ?_
    refine WO_gt rfl ?_
    refine WO_ldI (x := P 128) rfl rfl (.tail _ (.tail _ (.tail _ (.tail _ (.tail _ (.tail _ (.head _))))))) (rfl) ?_
    refine WO_gt rfl ?_
    refine WO_callq0 rfl (RF_of (Other_run _)) rfl rfl rfl ?_
    refine WO_gt rfl ?_
    obtain ⟨x2, _, hk3, hk4⟩ := King_both P (otherM (P 128))
    refine WO_callq0 rfl (hk3) rfl rfl rfl ?_
    refine WO_gt rfl ?_
    first | refine WO_ldA0 rfl rfl (.tail _ (.tail _ (.tail _ (.tail _ (.tail _ (.tail _ (.head _))))))) ?_ | refine WO_ldAI rfl rfl (.tail _ (.tail _ (.tail _ (.tail _ (.tail _ (.tail _ (.head _))))))) ?_
    refine WO_gt rfl ?_
    refine WO_fa (o' := 128) rfl rfl rfl ?_
    refine WO_gt rfl ?_
    refine WO_ldI (x := P 128) rfl rfl (.tail _ (.tail _ (.tail _ (.tail _ (.tail _ (.tail _ (.head _))))))) (rfl) ?_
    refine WO_gt rfl ?_
    refine WO_callq0 rfl (RF_of (rOther_run _)) rfl rfl rfl ?_
    refine WO_gt rfl ?_
    refine WO_call0 rfl (hk4) rfl rfl rfl ?_
    refine WO_gt rfl ?_
    refine WO_bin rfl rfl (eql_eq rfl) ?_
    refine WO_pick (v := .s (.bool _)) rfl rfl ?_
    refine WO_mv (v := .s (.bool _)) rfl ?_
    refine WO_gt rfl ?_
    refine WO_call0 rfl (boAwake_run) rfl rfl rfl ?_
    refine WO_pick (v := .s (.bool _)) rfl rfl ?_
    refine WO_mv (v := .s (.bool _)) rfl ?_
    refine WO_nil ?_
    refine WP_ret ?_
    refine ⟨_, RS_tmp (v := .s (.bool _)) rfl (RS_nil), ?_⟩
    exact ⟨rfl, (.tail _ (.tail _ (.tail _ (.tail _ (.tail _ (.tail _ (.tail _ (.head _))))))))⟩
theorem BoardTells_runN (P X : Nat → Int) : WR AM 15 [.agg 133 (ia P), .agg 2 (ia X), .snil] [] (fun v _ L => v = .s (.bool true)) := by
 refine WR_fn (a := a15) rfl rfl (entryF _) (entry_E (Nat.le_of_ble_eq_true rfl)) (m := 0) rfl ?_
 refine WP_seq ?_
 refine WP_ops ?_
 refine WO_boxA rfl ?_
 refine WO_boxA rfl ?_
 refine WO_mv rfl ?_
 refine WO_nil ?_
 refine WP_seq ?_
 refine WP_seq ?_
 refine WP_ops ?_
 refine WO_mv (v := .snil) rfl ?_
 refine WO_lenN rfl ?_
 refine WO_bin (r := .bool _) rfl rfl rfl ?_
 refine WO_nil ?_
 refine WP_cond rfl (fun h2 => ?_) (fun h2 => ?_)
 ·try simp only [NM] at h2
  exfalso; first | omega | (simp at h2)
 ·try simp only [NM] at h2
  refine WP_skip ?_
  refine WP_seq ?_
  refine WP_ops ?_
  refine WO_mv (v := .snil) rfl ?_
  obtain ⟨G, hG, hM, hLn⟩ := Lent_exN 
  refine WO_callN (mk := fun b => .sl b 0 0 1 (.ex (0 + 12))) (rs := []) (Bs := []) One_sl rfl hLn rfl rfl (Nat.le_of_ble_eq_true rfl) (fun _ h => h) rfl trivial rfl rfl .nil ?_
  refine WO_mv (v := .sl _ _ _ _ _) rfl ?_
  refine WO_nil ?_
  refine WP_seq ?_
  refine WP_ops ?_
  first | refine WO_ldA0 rfl rfl (.tail _ (.tail _ (.head _))) ?_ | refine WO_ldAI rfl rfl (.tail _ (.tail _ (.head _))) ?_
  first | refine WO_ldA0 rfl rfl (.tail _ (.head _)) ?_ | refine WO_ldAI rfl rfl (.tail _ (.head _)) ?_
  refine WO_mv (v := .sl _ _ _ _ _) rfl ?_
  refine WO_call (rs := [2]) (Bs := [_]) rfl (RB_of1 (Put_walk (md := .var) (q := 0 + 12) (c := .ex (0 + 12)) P X G 0 (by omega))) rfl rfl (Nat.le_of_ble_eq_true rfl) (fun _ h => h) rfl ⟨(.head _), ⟨_, _, _, rfl⟩, trivial⟩ rfl rfl rfl (.cons .here .nil) ?_
  refine WO_mv (v := .tup _) rfl ?_
  refine WO_ext (v := .agg _ _) rfl rfl ?_
  refine WO_ext (v := .s (.int _ _)) rfl rfl ?_
  refine WO_allocI ?_
  refine WO_stA rfl rfl rfl rfl .here ?_
  refine WO_mv (v := .s (.int _ _)) rfl ?_
  refine WO_nil ?_
  refine WP_seq ?_
  refine WP_ops ?_
  first | refine WO_ldA0 rfl rfl (.tail _ (.tail _ (.tail _ (.head _)))) ?_ | refine WO_ldAI rfl rfl (.tail _ (.tail _ (.tail _ (.head _)))) ?_
  first | refine WO_ldA0 rfl rfl (.tail _ (.tail _ (.head _))) ?_ | refine WO_ldAI rfl rfl (.tail _ (.tail _ (.head _))) ?_
  refine WO_mv (v := .snil) rfl ?_
  refine WO_call0 rfl (RF_of (dPut_walkN P X)) rfl rfl rfl ?_
  refine WO_mv (v := .tup _) rfl ?_
  refine WO_ext (v := .agg _ _) rfl rfl ?_
  refine WO_ext (v := .s (.int _ _)) rfl rfl ?_
  refine WO_allocI ?_
  refine WO_stA rfl rfl rfl rfl .here ?_
  refine WO_mv (v := .s (.int _ _)) rfl ?_
  refine WO_nil ?_
  refine WP_seq ?_
  refine WP_ops ?_
  first | refine WO_ldA0 rfl rfl (.tail _ (.head _)) ?_ | refine WO_ldAI rfl rfl (.tail _ (.head _)) ?_
  first | refine WO_ldA0 rfl rfl (.head _) ?_ | refine WO_ldAI rfl rfl (.head _) ?_
  refine WO_eqaC rfl rfl (eqI_t1 (fun i hi => by rw [putQ_same (K := fun _ => 0) hG])) ?_
  refine WO_mv (v := .s (.bool _)) rfl ?_
  refine WO_gt rfl ?_
  refine WO_mv (v := .s (.int _ _)) rfl ?_
  refine WO_gt rfl ?_
  refine WO_mv (v := .s (.int _ _)) rfl ?_
  refine WO_gt rfl ?_
  refine WO_bin rfl rfl (eql_eq (putE_same hG)) ?_
  refine WO_pick (v := .s (.bool _)) rfl rfl ?_
  refine WO_mv (v := .s (.bool _)) rfl ?_
  refine WO_gt rfl ?_
  refine WO_mv (v := .sl _ _ _ _ _) rfl ?_
  refine WO_gt rfl ?_
  refine WO_mv (v := .snil) rfl ?_
  refine WO_gt rfl ?_
  refine WO_call (rs := [2]) (Bs := [_]) rfl (RB_of1 (Kept_walkN G hM)) rfl rfl (Nat.le_of_ble_eq_true rfl) (fun _ h => h) rfl ⟨(.tail _ (.tail _ (.head _))), ⟨_, _, _, rfl⟩, trivial⟩ rfl rfl rfl (.cons (.there (.there .here)) .nil) ?_
  refine WO_pick (v := .s (.bool _)) rfl rfl ?_
  refine WO_mv (v := .s (.bool _)) rfl ?_
  refine WO_gt rfl ?_
  first | refine WO_ldA0 rfl rfl (.tail _ (.tail _ (.tail _ (.tail _ (.head _))))) ?_ | refine WO_ldAI rfl rfl (.tail _ (.tail _ (.tail _ (.tail _ (.head _))))) ?_
  refine WO_gt rfl ?_
  refine WO_callq0 rfl (RF_of (Right_run P)) rfl rfl rfl ?_
  refine WO_gt rfl ?_
  first | refine WO_ldA0 rfl rfl (.tail _ (.tail _ (.tail _ (.tail _ (.head _))))) ?_ | refine WO_ldAI rfl rfl (.tail _ (.tail _ (.tail _ (.tail _ (.head _))))) ?_
  refine WO_gt rfl ?_
  refine WO_call0 rfl (RF_of (rRight_run P)) rfl rfl rfl ?_
  refine WO_gt rfl ?_
  refine WO_eqbT rfl rfl (rfl) ?_
  refine WO_pick (v := .s (.bool _)) rfl rfl ?_
  refine WO_mv (v := .s (.bool _)) rfl ?_
  refine WO_gt rfl ?_
  first | refine WO_ldA0 rfl rfl (.tail _ (.tail _ (.tail _ (.tail _ (.head _))))) ?_ | refine WO_ldAI rfl rfl (.tail _ (.tail _ (.tail _ (.tail _ (.head _))))) ?_
  refine WO_gt rfl ?_
  obtain ⟨Q, Q2, hTQ, hTR, hE1, hE2⟩ := Turns_ex P
  refine WO_callq0 rfl (hE1) rfl rfl rfl ?_
  refine WO_gt rfl ?_
  first | refine WO_ldA0 rfl rfl (.tail _ (.tail _ (.tail _ (.tail _ (.head _))))) ?_ | refine WO_ldAI rfl rfl (.tail _ (.tail _ (.tail _ (.tail _ (.head _))))) ?_
  refine WO_gt rfl ?_
  refine WO_call0 rfl (hE2) rfl rfl rfl ?_
  refine WO_gt rfl ?_
  refine WO_eqaC rfl rfl (eqI_t1 (turn_uniq hTQ hTR)) ?_
  refine WO_pick (v := .s (.bool _)) rfl rfl ?_
  refine WO_mv (v := .s (.bool _)) rfl ?_
  refine WO_gt rfl ?_
  first | refine WO_ldA0 rfl rfl (.tail _ (.tail _ (.tail _ (.tail _ (.head _))))) ?_ | refine WO_ldAI rfl rfl (.tail _ (.tail _ (.tail _ (.tail _ (.head _))))) ?_
  refine WO_gt rfl ?_
  first | refine WO_ldA0 rfl rfl (.tail _ (.tail _ (.tail _ (.head _)))) ?_ | refine WO_ldAI rfl rfl (.tail _ (.tail _ (.tail _ (.head _)))) ?_
  refine WO_gt rfl ?_
  rcases Find_ex P X with ⟨hc63, hT63⟩ | ⟨hc63, q63, F63, hF63, hT63⟩
  ·skip
   refine WO_callq0 rfl (hT63) rfl rfl rfl ?_
   refine WO_gt rfl ?_
   first | refine WO_ldA0 rfl rfl (.tail _ (.tail _ (.tail _ (.tail _ (.head _))))) ?_ | refine WO_ldAI rfl rfl (.tail _ (.tail _ (.tail _ (.tail _ (.head _))))) ?_
   refine WO_gt rfl ?_
   first | refine WO_ldA0 rfl rfl (.tail _ (.tail _ (.tail _ (.head _)))) ?_ | refine WO_ldAI rfl rfl (.tail _ (.tail _ (.tail _ (.head _)))) ?_
   refine WO_gt rfl ?_
   rcases dFind_ex P X with ⟨hc66, hT66⟩ | ⟨hc66, q66, F66, hF66, hT66⟩
   ·skip
    refine WO_call0 rfl (hT66) rfl rfl rfl ?_
    refine WO_gt rfl ?_
    refine WO_call0 rfl (RF_of SameInts_nil) rfl rfl rfl ?_
    refine WO_pick (v := .s (.bool _)) rfl rfl ?_
    refine WO_mv (v := .s (.bool _)) rfl ?_
    refine WO_nil ?_
    refine WP_seq ?_
    refine WP_ops ?_
    refine WO_mv (v := .s (.bool _)) rfl ?_
    refine WO_mv (v := .s (.bool _)) rfl ?_
    refine WO_gt rfl ?_
    first | refine WO_ldA0 rfl rfl (.tail _ (.tail _ (.tail _ (.tail _ (.head _))))) ?_ | refine WO_ldAI rfl rfl (.tail _ (.tail _ (.tail _ (.tail _ (.head _))))) ?_
    refine WO_gt rfl ?_
    refine WO_fa (o' := 128) rfl rfl rfl ?_
    refine WO_gt rfl ?_
    refine WO_ldI (x := P 128) rfl rfl (.tail _ (.tail _ (.tail _ (.tail _ (.head _))))) (rfl) ?_
    refine WO_gt rfl ?_
    obtain ⟨x1, _, hk1, hk2⟩ := King_both P (P 128)
    refine WO_callq0 rfl (hk1) rfl rfl rfl ?_
    refine WO_gt rfl ?_
    first | refine WO_ldA0 rfl rfl (.tail _ (.tail _ (.tail _ (.tail _ (.head _))))) ?_ | refine WO_ldAI rfl rfl (.tail _ (.tail _ (.tail _ (.tail _ (.head _))))) ?_
    refine WO_gt rfl ?_
    refine WO_fa (o' := 128) rfl rfl rfl ?_
    refine WO_gt rfl ?_
    refine WO_ldI (x := P 128) rfl rfl (.tail _ (.tail _ (.tail _ (.tail _ (.head _))))) (rfl) ?_
    refine WO_gt rfl ?_
    refine WO_call0 rfl (hk2) rfl rfl rfl ?_
    refine WO_gt rfl ?_
    refine WO_bin rfl rfl (eql_eq rfl) ?_
    refine WO_pick (v := .s (.bool _)) rfl rfl ?_
    refine WO_mv (v := .s (.bool _)) rfl ?_
    refine WO_gt rfl ?_
    first | refine WO_ldA0 rfl rfl (.tail _ (.tail _ (.tail _ (.tail _ (.head _))))) ?_ | refine WO_ldAI rfl rfl (.tail _ (.tail _ (.tail _ (.tail _ (.head _))))) ?_
    refine WO_gt rfl ?_
    refine WO_fa (o' := 128) rfl rfl rfl ?_
    refine WO_gt rfl ?_
    refine WO_ldI (x := P 128) rfl rfl (.tail _ (.tail _ (.tail _ (.tail _ (.head _))))) (rfl) ?_
    refine WO_gt rfl ?_
    refine WO_callq0 rfl (RF_of (Other_run _)) rfl rfl rfl ?_
    refine WO_gt rfl ?_
    obtain ⟨x2, _, hk3, hk4⟩ := King_both P (otherM (P 128))
    refine WO_callq0 rfl (hk3) rfl rfl rfl ?_
    refine WO_gt rfl ?_
    first | refine WO_ldA0 rfl rfl (.tail _ (.tail _ (.tail _ (.tail _ (.head _))))) ?_ | refine WO_ldAI rfl rfl (.tail _ (.tail _ (.tail _ (.tail _ (.head _))))) ?_
    refine WO_gt rfl ?_
    refine WO_fa (o' := 128) rfl rfl rfl ?_
    refine WO_gt rfl ?_
    refine WO_ldI (x := P 128) rfl rfl (.tail _ (.tail _ (.tail _ (.tail _ (.head _))))) (rfl) ?_
    refine WO_gt rfl ?_
    refine WO_callq0 rfl (RF_of (rOther_run _)) rfl rfl rfl ?_
    refine WO_gt rfl ?_
    refine WO_call0 rfl (hk4) rfl rfl rfl ?_
    refine WO_gt rfl ?_
    refine WO_bin rfl rfl (eql_eq rfl) ?_
    refine WO_pick (v := .s (.bool _)) rfl rfl ?_
    refine WO_mv (v := .s (.bool _)) rfl ?_
    refine WO_gt rfl ?_
    refine WO_call0 rfl (boAwake_run) rfl rfl rfl ?_
    refine WO_pick (v := .s (.bool _)) rfl rfl ?_
    refine WO_mv (v := .s (.bool _)) rfl ?_
    refine WO_nil ?_
    refine WP_ret ?_
    refine ⟨_, RS_tmp (v := .s (.bool _)) rfl (RS_nil), ?_⟩
    rfl
   ·skip
    exfalso; omega
  ·skip
   refine WO_callqN (mk := fun b => .sl b 0 (lstM (stB P X) 64).1 1 .whole) (rs := []) (Bs := []) One_sl rfl hT63 rfl rfl (Nat.le_of_ble_eq_true rfl) (fun _ h => h) rfl trivial rfl rfl ?_
   refine WO_gt rfl ?_
   first | refine WO_ldA0 rfl rfl (.tail _ (.tail _ (.tail _ (.tail _ (.tail _ (.head _)))))) ?_ | refine WO_ldAI rfl rfl (.tail _ (.tail _ (.tail _ (.tail _ (.tail _ (.head _)))))) ?_
   refine WO_gt rfl ?_
   first | refine WO_ldA0 rfl rfl (.tail _ (.tail _ (.tail _ (.tail _ (.head _))))) ?_ | refine WO_ldAI rfl rfl (.tail _ (.tail _ (.tail _ (.tail _ (.head _))))) ?_
   refine WO_gt rfl ?_
   rcases dFind_ex P X with ⟨hc66, hT66⟩ | ⟨hc66, q66, F66, hF66, hT66⟩
   ·skip
    exfalso; omega
   ·skip
    refine WO_callN (mk := fun b => .sl b 0 (lstM (stB P X) 64).1 1 .whole) (rs := []) (Bs := []) One_sl rfl hT66 rfl rfl (Nat.le_of_ble_eq_true rfl) (fun _ h => h) rfl trivial rfl rfl .nil ?_
    refine WO_gt rfl ?_
    refine WO_call (rs := [5, 6]) (Bs := [_, _]) rfl (RB_of2 (SameInts_run (md := .grow) (md2 := .grow) (c := .whole) (c2 := .whole) F63 F66 (lstM (stB P X) 64).1 (by have := lstM_le (stB P X) 64; omega) (fun j hj => (hF63 j hj).trans (hF66 j hj).symm))) rfl rfl (Nat.le_of_ble_eq_true rfl) (fun _ h => h) rfl ⟨(.tail _ (.head _)), ⟨_, _, _, rfl⟩, ⟨(.head _), ⟨_, _, _, rfl⟩, trivial⟩⟩ rfl rfl rfl (.cons (.there .here) (.cons .here .nil)) ?_
    refine WO_pick (v := .s (.bool _)) rfl rfl ?_
    refine WO_mv (v := .s (.bool _)) rfl ?_
    refine WO_nil ?_
    refine WP_seq ?_
    refine WP_ops ?_
    refine WO_mv (v := .s (.bool _)) rfl ?_
    refine WO_mv (v := .s (.bool _)) rfl ?_
    refine WO_gt rfl ?_
    first | refine WO_ldA0 rfl rfl (.tail _ (.tail _ (.tail _ (.tail _ (.tail _ (.tail _ (.head _))))))) ?_ | refine WO_ldAI rfl rfl (.tail _ (.tail _ (.tail _ (.tail _ (.tail _ (.tail _ (.head _))))))) ?_
    refine WO_gt rfl ?_
    refine WO_fa (o' := 128) rfl rfl rfl ?_
    refine WO_gt rfl ?_
    refine WO_ldI (x := P 128) rfl rfl (.tail _ (.tail _ (.tail _ (.tail _ (.tail _ (.tail _ (.head _))))))) (rfl) ?_
    refine WO_gt rfl ?_
    obtain ⟨x1, _, hk1, hk2⟩ := King_both P (P 128)
    refine WO_callq0 rfl (hk1) rfl rfl rfl ?_
    refine WO_gt rfl ?_
    first | refine WO_ldA0 rfl rfl (.tail _ (.tail _ (.tail _ (.tail _ (.tail _ (.tail _ (.head _))))))) ?_ | refine WO_ldAI rfl rfl (.tail _ (.tail _ (.tail _ (.tail _ (.tail _ (.tail _ (.head _))))))) ?_
    refine WO_gt rfl ?_
    refine WO_fa (o' := 128) rfl rfl rfl ?_
    refine WO_gt rfl ?_
    refine WO_ldI (x := P 128) rfl rfl (.tail _ (.tail _ (.tail _ (.tail _ (.tail _ (.tail _ (.head _))))))) (rfl) ?_
    refine WO_gt rfl ?_
    refine WO_call0 rfl (hk2) rfl rfl rfl ?_
    refine WO_gt rfl ?_
    refine WO_bin rfl rfl (eql_eq rfl) ?_
    refine WO_pick (v := .s (.bool _)) rfl rfl ?_
    refine WO_mv (v := .s (.bool _)) rfl ?_
    refine WO_gt rfl ?_
    first | refine WO_ldA0 rfl rfl (.tail _ (.tail _ (.tail _ (.tail _ (.tail _ (.tail _ (.head _))))))) ?_ | refine WO_ldAI rfl rfl (.tail _ (.tail _ (.tail _ (.tail _ (.tail _ (.tail _ (.head _))))))) ?_
    refine WO_gt rfl ?_
    refine WO_fa (o' := 128) rfl rfl rfl ?_
    refine WO_gt rfl ?_
    refine WO_ldI (x := P 128) rfl rfl (.tail _ (.tail _ (.tail _ (.tail _ (.tail _ (.tail _ (.head _))))))) (rfl) ?_
    refine WO_gt rfl ?_
    refine WO_callq0 rfl (RF_of (Other_run _)) rfl rfl rfl ?_
    refine WO_gt rfl ?_
    obtain ⟨x2, _, hk3, hk4⟩ := King_both P (otherM (P 128))
    refine WO_callq0 rfl (hk3) rfl rfl rfl ?_
    refine WO_gt rfl ?_
    first | refine WO_ldA0 rfl rfl (.tail _ (.tail _ (.tail _ (.tail _ (.tail _ (.tail _ (.head _))))))) ?_ | refine WO_ldAI rfl rfl (.tail _ (.tail _ (.tail _ (.tail _ (.tail _ (.tail _ (.head _))))))) ?_
    refine WO_gt rfl ?_
    refine WO_fa (o' := 128) rfl rfl rfl ?_
    refine WO_gt rfl ?_
    refine WO_ldI (x := P 128) rfl rfl (.tail _ (.tail _ (.tail _ (.tail _ (.tail _ (.tail _ (.head _))))))) (rfl) ?_
    refine WO_gt rfl ?_
    refine WO_callq0 rfl (RF_of (rOther_run _)) rfl rfl rfl ?_
    refine WO_gt rfl ?_
    refine WO_call0 rfl (hk4) rfl rfl rfl ?_
    refine WO_gt rfl ?_
    refine WO_bin rfl rfl (eql_eq rfl) ?_
    refine WO_pick (v := .s (.bool _)) rfl rfl ?_
    refine WO_mv (v := .s (.bool _)) rfl ?_
    refine WO_gt rfl ?_
    refine WO_call0 rfl (boAwake_run) rfl rfl rfl ?_
    refine WO_pick (v := .s (.bool _)) rfl rfl ?_
    refine WO_mv (v := .s (.bool _)) rfl ?_
    refine WO_nil ?_
    refine WP_ret ?_
    refine ⟨_, RS_tmp (v := .s (.bool _)) rfl (RS_nil), ?_⟩
    rfl
theorem BoardTells_runZ (P X : Nat → Int) : WR AM 15 [.agg 133 (ia P), .agg 2 (ia X), .slz] [] (fun v _ L => v = .s (.bool true)) := by
 refine WR_fn (a := a15) rfl rfl (entryF _) (entry_E (Nat.le_of_ble_eq_true rfl)) (m := 0) rfl ?_
 refine WP_seq ?_
 refine WP_ops ?_
 refine WO_boxA rfl ?_
 refine WO_boxA rfl ?_
 refine WO_mv rfl ?_
 refine WO_nil ?_
 refine WP_seq ?_
 refine WP_seq ?_
 refine WP_ops ?_
 refine WO_mv (v := .slz) rfl ?_
 refine WO_lenZ rfl ?_
 refine WO_bin (r := .bool _) rfl rfl rfl ?_
 refine WO_nil ?_
 refine WP_cond rfl (fun h3 => ?_) (fun h3 => ?_)
 ·try simp only [NM] at h3
  exfalso; first | omega | (simp at h3)
 ·try simp only [NM] at h3
  refine WP_skip ?_
  refine WP_seq ?_
  refine WP_ops ?_
  refine WO_mv (v := .slz) rfl ?_
  obtain ⟨G, hG, hM, hLn⟩ := Lent_exZ 
  refine WO_callN (mk := fun b => .sl b 0 0 1 (.ex (0 + 12))) (rs := []) (Bs := []) One_sl rfl hLn rfl rfl (Nat.le_of_ble_eq_true rfl) (fun _ h => h) rfl trivial rfl rfl .nil ?_
  refine WO_mv (v := .sl _ _ _ _ _) rfl ?_
  refine WO_nil ?_
  refine WP_seq ?_
  refine WP_ops ?_
  first | refine WO_ldA0 rfl rfl (.tail _ (.tail _ (.head _))) ?_ | refine WO_ldAI rfl rfl (.tail _ (.tail _ (.head _))) ?_
  first | refine WO_ldA0 rfl rfl (.tail _ (.head _)) ?_ | refine WO_ldAI rfl rfl (.tail _ (.head _)) ?_
  refine WO_mv (v := .sl _ _ _ _ _) rfl ?_
  refine WO_call (rs := [2]) (Bs := [_]) rfl (RB_of1 (Put_walk (md := .var) (q := 0 + 12) (c := .ex (0 + 12)) P X G 0 (by omega))) rfl rfl (Nat.le_of_ble_eq_true rfl) (fun _ h => h) rfl ⟨(.head _), ⟨_, _, _, rfl⟩, trivial⟩ rfl rfl rfl (.cons .here .nil) ?_
  refine WO_mv (v := .tup _) rfl ?_
  refine WO_ext (v := .agg _ _) rfl rfl ?_
  refine WO_ext (v := .s (.int _ _)) rfl rfl ?_
  refine WO_allocI ?_
  refine WO_stA rfl rfl rfl rfl .here ?_
  refine WO_mv (v := .s (.int _ _)) rfl ?_
  refine WO_nil ?_
  refine WP_seq ?_
  refine WP_ops ?_
  first | refine WO_ldA0 rfl rfl (.tail _ (.tail _ (.tail _ (.head _)))) ?_ | refine WO_ldAI rfl rfl (.tail _ (.tail _ (.tail _ (.head _)))) ?_
  first | refine WO_ldA0 rfl rfl (.tail _ (.tail _ (.head _))) ?_ | refine WO_ldAI rfl rfl (.tail _ (.tail _ (.head _))) ?_
  refine WO_mv (v := .slz) rfl ?_
  refine WO_call0 rfl (RF_of (dPut_walkZ P X)) rfl rfl rfl ?_
  refine WO_mv (v := .tup _) rfl ?_
  refine WO_ext (v := .agg _ _) rfl rfl ?_
  refine WO_ext (v := .s (.int _ _)) rfl rfl ?_
  refine WO_allocI ?_
  refine WO_stA rfl rfl rfl rfl .here ?_
  refine WO_mv (v := .s (.int _ _)) rfl ?_
  refine WO_nil ?_
  refine WP_seq ?_
  refine WP_ops ?_
  first | refine WO_ldA0 rfl rfl (.tail _ (.head _)) ?_ | refine WO_ldAI rfl rfl (.tail _ (.head _)) ?_
  first | refine WO_ldA0 rfl rfl (.head _) ?_ | refine WO_ldAI rfl rfl (.head _) ?_
  refine WO_eqaC rfl rfl (eqI_t1 (fun i hi => by rw [putQ_same (K := fun _ => 0) hG])) ?_
  refine WO_mv (v := .s (.bool _)) rfl ?_
  refine WO_gt rfl ?_
  refine WO_mv (v := .s (.int _ _)) rfl ?_
  refine WO_gt rfl ?_
  refine WO_mv (v := .s (.int _ _)) rfl ?_
  refine WO_gt rfl ?_
  refine WO_bin rfl rfl (eql_eq (putE_same hG)) ?_
  refine WO_pick (v := .s (.bool _)) rfl rfl ?_
  refine WO_mv (v := .s (.bool _)) rfl ?_
  refine WO_gt rfl ?_
  refine WO_mv (v := .sl _ _ _ _ _) rfl ?_
  refine WO_gt rfl ?_
  refine WO_mv (v := .slz) rfl ?_
  refine WO_gt rfl ?_
  refine WO_call (rs := [2]) (Bs := [_]) rfl (RB_of1 (Kept_walkZ G hM)) rfl rfl (Nat.le_of_ble_eq_true rfl) (fun _ h => h) rfl ⟨(.tail _ (.tail _ (.head _))), ⟨_, _, _, rfl⟩, trivial⟩ rfl rfl rfl (.cons (.there (.there .here)) .nil) ?_
  refine WO_pick (v := .s (.bool _)) rfl rfl ?_
  refine WO_mv (v := .s (.bool _)) rfl ?_
  refine WO_gt rfl ?_
  first | refine WO_ldA0 rfl rfl (.tail _ (.tail _ (.tail _ (.tail _ (.head _))))) ?_ | refine WO_ldAI rfl rfl (.tail _ (.tail _ (.tail _ (.tail _ (.head _))))) ?_
  refine WO_gt rfl ?_
  refine WO_callq0 rfl (RF_of (Right_run P)) rfl rfl rfl ?_
  refine WO_gt rfl ?_
  first | refine WO_ldA0 rfl rfl (.tail _ (.tail _ (.tail _ (.tail _ (.head _))))) ?_ | refine WO_ldAI rfl rfl (.tail _ (.tail _ (.tail _ (.tail _ (.head _))))) ?_
  refine WO_gt rfl ?_
  refine WO_call0 rfl (RF_of (rRight_run P)) rfl rfl rfl ?_
  refine WO_gt rfl ?_
  refine WO_eqbT rfl rfl (rfl) ?_
  refine WO_pick (v := .s (.bool _)) rfl rfl ?_
  refine WO_mv (v := .s (.bool _)) rfl ?_
  refine WO_gt rfl ?_
  first | refine WO_ldA0 rfl rfl (.tail _ (.tail _ (.tail _ (.tail _ (.head _))))) ?_ | refine WO_ldAI rfl rfl (.tail _ (.tail _ (.tail _ (.tail _ (.head _))))) ?_
  refine WO_gt rfl ?_
  obtain ⟨Q, Q2, hTQ, hTR, hE1, hE2⟩ := Turns_ex P
  refine WO_callq0 rfl (hE1) rfl rfl rfl ?_
  refine WO_gt rfl ?_
  first | refine WO_ldA0 rfl rfl (.tail _ (.tail _ (.tail _ (.tail _ (.head _))))) ?_ | refine WO_ldAI rfl rfl (.tail _ (.tail _ (.tail _ (.tail _ (.head _))))) ?_
  refine WO_gt rfl ?_
  refine WO_call0 rfl (hE2) rfl rfl rfl ?_
  refine WO_gt rfl ?_
  refine WO_eqaC rfl rfl (eqI_t1 (turn_uniq hTQ hTR)) ?_
  refine WO_pick (v := .s (.bool _)) rfl rfl ?_
  refine WO_mv (v := .s (.bool _)) rfl ?_
  refine WO_gt rfl ?_
  first | refine WO_ldA0 rfl rfl (.tail _ (.tail _ (.tail _ (.tail _ (.head _))))) ?_ | refine WO_ldAI rfl rfl (.tail _ (.tail _ (.tail _ (.tail _ (.head _))))) ?_
  refine WO_gt rfl ?_
  first | refine WO_ldA0 rfl rfl (.tail _ (.tail _ (.tail _ (.head _)))) ?_ | refine WO_ldAI rfl rfl (.tail _ (.tail _ (.tail _ (.head _)))) ?_
  refine WO_gt rfl ?_
  rcases Find_ex P X with ⟨hc63, hT63⟩ | ⟨hc63, q63, F63, hF63, hT63⟩
  ·skip
   refine WO_callq0 rfl (hT63) rfl rfl rfl ?_
   refine WO_gt rfl ?_
   first | refine WO_ldA0 rfl rfl (.tail _ (.tail _ (.tail _ (.tail _ (.head _))))) ?_ | refine WO_ldAI rfl rfl (.tail _ (.tail _ (.tail _ (.tail _ (.head _))))) ?_
   refine WO_gt rfl ?_
   first | refine WO_ldA0 rfl rfl (.tail _ (.tail _ (.tail _ (.head _)))) ?_ | refine WO_ldAI rfl rfl (.tail _ (.tail _ (.tail _ (.head _)))) ?_
   refine WO_gt rfl ?_
   rcases dFind_ex P X with ⟨hc66, hT66⟩ | ⟨hc66, q66, F66, hF66, hT66⟩
   ·skip
    refine WO_call0 rfl (hT66) rfl rfl rfl ?_
    refine WO_gt rfl ?_
    refine WO_call0 rfl (RF_of SameInts_nil) rfl rfl rfl ?_
    refine WO_pick (v := .s (.bool _)) rfl rfl ?_
    refine WO_mv (v := .s (.bool _)) rfl ?_
    refine WO_nil ?_
    refine WP_seq ?_
    refine WP_ops ?_
    refine WO_mv (v := .s (.bool _)) rfl ?_
    refine WO_mv (v := .s (.bool _)) rfl ?_
    refine WO_gt rfl ?_
    first | refine WO_ldA0 rfl rfl (.tail _ (.tail _ (.tail _ (.tail _ (.head _))))) ?_ | refine WO_ldAI rfl rfl (.tail _ (.tail _ (.tail _ (.tail _ (.head _))))) ?_
    refine WO_gt rfl ?_
    refine WO_fa (o' := 128) rfl rfl rfl ?_
    refine WO_gt rfl ?_
    refine WO_ldI (x := P 128) rfl rfl (.tail _ (.tail _ (.tail _ (.tail _ (.head _))))) (rfl) ?_
    refine WO_gt rfl ?_
    obtain ⟨x1, _, hk1, hk2⟩ := King_both P (P 128)
    refine WO_callq0 rfl (hk1) rfl rfl rfl ?_
    refine WO_gt rfl ?_
    first | refine WO_ldA0 rfl rfl (.tail _ (.tail _ (.tail _ (.tail _ (.head _))))) ?_ | refine WO_ldAI rfl rfl (.tail _ (.tail _ (.tail _ (.tail _ (.head _))))) ?_
    refine WO_gt rfl ?_
    refine WO_fa (o' := 128) rfl rfl rfl ?_
    refine WO_gt rfl ?_
    refine WO_ldI (x := P 128) rfl rfl (.tail _ (.tail _ (.tail _ (.tail _ (.head _))))) (rfl) ?_
    refine WO_gt rfl ?_
    refine WO_call0 rfl (hk2) rfl rfl rfl ?_
    refine WO_gt rfl ?_
    refine WO_bin rfl rfl (eql_eq rfl) ?_
    refine WO_pick (v := .s (.bool _)) rfl rfl ?_
    refine WO_mv (v := .s (.bool _)) rfl ?_
    refine WO_gt rfl ?_
    first | refine WO_ldA0 rfl rfl (.tail _ (.tail _ (.tail _ (.tail _ (.head _))))) ?_ | refine WO_ldAI rfl rfl (.tail _ (.tail _ (.tail _ (.tail _ (.head _))))) ?_
    refine WO_gt rfl ?_
    refine WO_fa (o' := 128) rfl rfl rfl ?_
    refine WO_gt rfl ?_
    refine WO_ldI (x := P 128) rfl rfl (.tail _ (.tail _ (.tail _ (.tail _ (.head _))))) (rfl) ?_
    refine WO_gt rfl ?_
    refine WO_callq0 rfl (RF_of (Other_run _)) rfl rfl rfl ?_
    refine WO_gt rfl ?_
    obtain ⟨x2, _, hk3, hk4⟩ := King_both P (otherM (P 128))
    refine WO_callq0 rfl (hk3) rfl rfl rfl ?_
    refine WO_gt rfl ?_
    first | refine WO_ldA0 rfl rfl (.tail _ (.tail _ (.tail _ (.tail _ (.head _))))) ?_ | refine WO_ldAI rfl rfl (.tail _ (.tail _ (.tail _ (.tail _ (.head _))))) ?_
    refine WO_gt rfl ?_
    refine WO_fa (o' := 128) rfl rfl rfl ?_
    refine WO_gt rfl ?_
    refine WO_ldI (x := P 128) rfl rfl (.tail _ (.tail _ (.tail _ (.tail _ (.head _))))) (rfl) ?_
    refine WO_gt rfl ?_
    refine WO_callq0 rfl (RF_of (rOther_run _)) rfl rfl rfl ?_
    refine WO_gt rfl ?_
    refine WO_call0 rfl (hk4) rfl rfl rfl ?_
    refine WO_gt rfl ?_
    refine WO_bin rfl rfl (eql_eq rfl) ?_
    refine WO_pick (v := .s (.bool _)) rfl rfl ?_
    refine WO_mv (v := .s (.bool _)) rfl ?_
    refine WO_gt rfl ?_
    refine WO_call0 rfl (boAwake_run) rfl rfl rfl ?_
    refine WO_pick (v := .s (.bool _)) rfl rfl ?_
    refine WO_mv (v := .s (.bool _)) rfl ?_
    refine WO_nil ?_
    refine WP_ret ?_
    refine ⟨_, RS_tmp (v := .s (.bool _)) rfl (RS_nil), ?_⟩
    rfl
   ·skip
    exfalso; omega
  ·skip
   refine WO_callqN (mk := fun b => .sl b 0 (lstM (stB P X) 64).1 1 .whole) (rs := []) (Bs := []) One_sl rfl hT63 rfl rfl (Nat.le_of_ble_eq_true rfl) (fun _ h => h) rfl trivial rfl rfl ?_
   refine WO_gt rfl ?_
   first | refine WO_ldA0 rfl rfl (.tail _ (.tail _ (.tail _ (.tail _ (.tail _ (.head _)))))) ?_ | refine WO_ldAI rfl rfl (.tail _ (.tail _ (.tail _ (.tail _ (.tail _ (.head _)))))) ?_
   refine WO_gt rfl ?_
   first | refine WO_ldA0 rfl rfl (.tail _ (.tail _ (.tail _ (.tail _ (.head _))))) ?_ | refine WO_ldAI rfl rfl (.tail _ (.tail _ (.tail _ (.tail _ (.head _))))) ?_
   refine WO_gt rfl ?_
   rcases dFind_ex P X with ⟨hc66, hT66⟩ | ⟨hc66, q66, F66, hF66, hT66⟩
   ·skip
    exfalso; omega
   ·skip
    refine WO_callN (mk := fun b => .sl b 0 (lstM (stB P X) 64).1 1 .whole) (rs := []) (Bs := []) One_sl rfl hT66 rfl rfl (Nat.le_of_ble_eq_true rfl) (fun _ h => h) rfl trivial rfl rfl .nil ?_
    refine WO_gt rfl ?_
    refine WO_call (rs := [5, 6]) (Bs := [_, _]) rfl (RB_of2 (SameInts_run (md := .grow) (md2 := .grow) (c := .whole) (c2 := .whole) F63 F66 (lstM (stB P X) 64).1 (by have := lstM_le (stB P X) 64; omega) (fun j hj => (hF63 j hj).trans (hF66 j hj).symm))) rfl rfl (Nat.le_of_ble_eq_true rfl) (fun _ h => h) rfl ⟨(.tail _ (.head _)), ⟨_, _, _, rfl⟩, ⟨(.head _), ⟨_, _, _, rfl⟩, trivial⟩⟩ rfl rfl rfl (.cons (.there .here) (.cons .here .nil)) ?_
    refine WO_pick (v := .s (.bool _)) rfl rfl ?_
    refine WO_mv (v := .s (.bool _)) rfl ?_
    refine WO_nil ?_
    refine WP_seq ?_
    refine WP_ops ?_
    refine WO_mv (v := .s (.bool _)) rfl ?_
    refine WO_mv (v := .s (.bool _)) rfl ?_
    refine WO_gt rfl ?_
    first | refine WO_ldA0 rfl rfl (.tail _ (.tail _ (.tail _ (.tail _ (.tail _ (.tail _ (.head _))))))) ?_ | refine WO_ldAI rfl rfl (.tail _ (.tail _ (.tail _ (.tail _ (.tail _ (.tail _ (.head _))))))) ?_
    refine WO_gt rfl ?_
    refine WO_fa (o' := 128) rfl rfl rfl ?_
    refine WO_gt rfl ?_
    refine WO_ldI (x := P 128) rfl rfl (.tail _ (.tail _ (.tail _ (.tail _ (.tail _ (.tail _ (.head _))))))) (rfl) ?_
    refine WO_gt rfl ?_
    obtain ⟨x1, _, hk1, hk2⟩ := King_both P (P 128)
    refine WO_callq0 rfl (hk1) rfl rfl rfl ?_
    refine WO_gt rfl ?_
    first | refine WO_ldA0 rfl rfl (.tail _ (.tail _ (.tail _ (.tail _ (.tail _ (.tail _ (.head _))))))) ?_ | refine WO_ldAI rfl rfl (.tail _ (.tail _ (.tail _ (.tail _ (.tail _ (.tail _ (.head _))))))) ?_
    refine WO_gt rfl ?_
    refine WO_fa (o' := 128) rfl rfl rfl ?_
    refine WO_gt rfl ?_
    refine WO_ldI (x := P 128) rfl rfl (.tail _ (.tail _ (.tail _ (.tail _ (.tail _ (.tail _ (.head _))))))) (rfl) ?_
    refine WO_gt rfl ?_
    refine WO_call0 rfl (hk2) rfl rfl rfl ?_
    refine WO_gt rfl ?_
    refine WO_bin rfl rfl (eql_eq rfl) ?_
    refine WO_pick (v := .s (.bool _)) rfl rfl ?_
    refine WO_mv (v := .s (.bool _)) rfl ?_
    refine WO_gt rfl ?_
    first | refine WO_ldA0 rfl rfl (.tail _ (.tail _ (.tail _ (.tail _ (.tail _ (.tail _ (.head _))))))) ?_ | refine WO_ldAI rfl rfl (.tail _ (.tail _ (.tail _ (.tail _ (.tail _ (.tail _ (.head _))))))) ?_
    refine WO_gt rfl ?_
    refine WO_fa (o' := 128) rfl rfl rfl ?_
    refine WO_gt rfl ?_
    refine WO_ldI (x := P 128) rfl rfl (.tail _ (.tail _ (.tail _ (.tail _ (.tail _ (.tail _ (.head _))))))) (rfl) ?_
    refine WO_gt rfl ?_
    refine WO_callq0 rfl (RF_of (Other_run _)) rfl rfl rfl ?_
    refine WO_gt rfl ?_
    obtain ⟨x2, _, hk3, hk4⟩ := King_both P (otherM (P 128))
    refine WO_callq0 rfl (hk3) rfl rfl rfl ?_
    refine WO_gt rfl ?_
    first | refine WO_ldA0 rfl rfl (.tail _ (.tail _ (.tail _ (.tail _ (.tail _ (.tail _ (.head _))))))) ?_ | refine WO_ldAI rfl rfl (.tail _ (.tail _ (.tail _ (.tail _ (.tail _ (.tail _ (.head _))))))) ?_
    refine WO_gt rfl ?_
    refine WO_fa (o' := 128) rfl rfl rfl ?_
    refine WO_gt rfl ?_
    refine WO_ldI (x := P 128) rfl rfl (.tail _ (.tail _ (.tail _ (.tail _ (.tail _ (.tail _ (.head _))))))) (rfl) ?_
    refine WO_gt rfl ?_
    refine WO_callq0 rfl (RF_of (rOther_run _)) rfl rfl rfl ?_
    refine WO_gt rfl ?_
    refine WO_call0 rfl (hk4) rfl rfl rfl ?_
    refine WO_gt rfl ?_
    refine WO_bin rfl rfl (eql_eq rfl) ?_
    refine WO_pick (v := .s (.bool _)) rfl rfl ?_
    refine WO_mv (v := .s (.bool _)) rfl ?_
    refine WO_gt rfl ?_
    refine WO_call0 rfl (boAwake_run) rfl rfl rfl ?_
    refine WO_pick (v := .s (.bool _)) rfl rfl ?_
    refine WO_mv (v := .s (.bool _)) rfl ?_
    refine WO_nil ?_
    refine WP_ret ?_
    refine ⟨_, RS_tmp (v := .s (.bool _)) rfl (RS_nil), ?_⟩
    rfl
end Go.Proofs.Ytjldefmcnppdoaa
