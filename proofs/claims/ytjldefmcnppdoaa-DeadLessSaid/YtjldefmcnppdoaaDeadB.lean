/- The walks of the chapter dead, more. -/
import Derived.Test.YtjldefmcnppdoaaDeadA
namespace Go.Proofs.Ytjldefmcnppdoaa
open Go Go.Am
set_option linter.unusedSimpArgs false
set_option linter.unusedVariables false
theorem Empty_run  : WR AM 68 [] [] (fun v _ _ => ∃ P, v = .agg 133 (ia P)) := by
  refine WR_fn (a := a68) rfl rfl (entryF _) (entry_E (Nat.le_of_ble_eq_true rfl)) (m := 0) rfl ?_
  refine WP_seq ?_
  refine WP_ops ?_
  refine WO_allocI ?_
  refine WO_nil ?_
  refine WP_seq ?_
  refine WP_ops ?_
  refine WO_buildI rfl (.one rfl (.one rfl .nil)) ?_
  refine WO_stA rfl rfl rfl rfl .here ?_
  refine WO_nil ?_
  refine WP_ret ?_
  refine ⟨_, RS_cell rfl rfl (.head _) (RS_nil), ?_⟩
  exact ⟨_, rfl⟩
theorem Empty_ex : ∃ P, RF AM 68 [] (.agg 133 (ia P)) := by
  obtain ⟨v, σ, _, _, h, _, P, rfl⟩ := Empty_run
  exact ⟨P, σ, h⟩

theorem kings_run {md md2 : Md} {q q2 : Nat} {c c2 : Cp} (K S : Nat → Int) (n : Nat) (hn : n ≤ 1000000) (hS : ∀ j : Nat, j < n → 0 ≤ S (0 + (j : Int).toNat * 1) ∧ S (0 + (j : Int).toNat * 1) < 64) : WR AM 28 [.sl 0 0 n 1 c, .sl 1 0 n 1 c2] [.sc md q (ia K), .sc md2 q2 (ia S)] (fun v _ L => (∃ P, v = .agg 133 (ia P)) ∧ (0, Blk.sc md q (ia K)) ∈ L ∧ (1, Blk.sc md2 q2 (ia S)) ∈ L) := by
  refine WR_fn (a := a28) rfl rfl (entryF _) (entry_E (Nat.le_of_ble_eq_true rfl)) (m := 2) rfl ?_
  refine WP_seq ?_
  refine WP_ops ?_
  refine WO_allocI ?_
  refine WO_nil ?_
  refine WP_seq ?_
  refine WP_ops ?_
  obtain ⟨E0, hE0⟩ := Empty_ex
  refine WO_call0 rfl (hE0) rfl rfl rfl ?_
  refine WO_allocI ?_
  refine WO_stA rfl rfl rfl rfl .here ?_
  refine WO_nil ?_
  refine WP_seq ?_
  refine WP_ops ?_
  refine WO_buildI rfl (.one rfl .nil) ?_
  refine WO_fa (o' := 0) rfl rfl rfl ?_
  refine WO_ixa rfl rfl rfl (by first | omega | (have := hS i (by omega); omega)) ?_
  refine WO_stA rfl rfl rfl rfl .here ?_
  refine WO_nil ?_
  refine WP_seq ?_
  refine WP_ops ?_
  refine WO_buildI rfl (.one rfl (.one rfl .nil)) ?_
  refine WO_fa (o' := 0) rfl rfl rfl ?_
  refine WO_ixa rfl rfl rfl (by first | omega | (have := hS i (by omega); omega)) ?_
  refine WO_stA rfl rfl rfl rfl .here ?_
  refine WO_nil ?_
  refine WP_seq ?_
  refine WP_seq ?_
  refine WP_ops ?_
  refine WO_mv rfl ?_
  refine WO_nil ?_
  refine WP_block ?_
  refine WP_sub (L' := [_, _, _, _]) (.cons_cons _ (.cons_cons _ (.cons_cons _ (.cons_cons _ .slnil)))) ?_
  refine WP_loop (fun m f _ L => ∃ (i : Nat) (P : Nat → Int), (i ≤ n) ∧ (m = n - i) ∧ (f 0 = .sl 0 0 n 1 c) ∧ (f 1 = .sl 1 0 n 1 c2) ∧ (f 4 = .ptr 2 0 133) ∧ (f 5 = .ptr 3 0 133) ∧ (f 6 = .s (.int .i64 i)) ∧ (L = [(3, .sc .var 133 (ia P)), (2, .sc .var 133 (ia fun _ => 0)), (0, .sc md q (ia K)), (1, .sc md2 q2 (ia S))])) (fun m f nb L hI => ?_) (n) ⟨0, _, by omega, rfl, rfl, rfl, rfl, rfl, rfl, rfl⟩
  obtain ⟨i, P, hi, hm, k0, k1, k4, k5, k6, rfl⟩ := hI
  refine WP_know (d := 0) (v := .sl 0 0 n 1 c) k0 ?_
  refine WP_know (d := 1) (v := .sl 1 0 n 1 c2) k1 ?_
  refine WP_know (d := 4) (v := .ptr 2 0 133) k4 ?_
  refine WP_know (d := 5) (v := .ptr 3 0 133) k5 ?_
  refine WP_know (d := 6) (v := .s (.int .i64 i)) k6 ?_
  refine WP_seq ?_
  refine WP_seq ?_
  refine WP_ops ?_
  refine WO_mv (v := .s (.int _ _)) rfl ?_
  refine WO_mv (v := .sl _ _ _ _ _) rfl ?_
  refine WO_len rfl ?_
  refine WO_bin (r := .bool _) rfl rfl rfl ?_
  refine WO_nil ?_
  refine WP_cond rfl (fun h1 => ?_) (fun h1 => ?_)
  · try simp only [beq_iff_eq, bne_iff_ne, ne_eq, decide_eq_true_eq, decide_eq_false_iff_not, beq_eq_false_iff_ne, bne_eq_false_iff_eq, Decidable.not_not, Int.not_lt, Int.not_le, gt_iff_lt, ge_iff_le, Bool.not_eq_true, Bool.not_eq_false, Bool.not_eq_true', Bool.not_eq_false', cond_true, cond_false] at h1
    refine WP_skip ?_
    refine WP_seq ?_
    refine WP_block ?_
    refine WP_ops ?_
    refine WO_mv (v := .sl _ _ _ _ _) rfl ?_
    refine WO_mv (v := .s (.int _ _)) rfl ?_
    refine WO_ixs rfl rfl (by first | omega | (have := hS i (by omega); omega)) ?_
    refine WO_ldI rfl rfl (.tail _ (.tail _ (.tail _ (.head _)))) rfl ?_
    refine WO_mv (v := .sl _ _ _ _ _) rfl ?_
    refine WO_mv (v := .s (.int _ _)) rfl ?_
    refine WO_ixs rfl rfl (by first | omega | (have := hS i (by omega); omega)) ?_
    refine WO_ldI rfl rfl (.tail _ (.tail _ (.head _))) rfl ?_
    refine WO_mv (v := .s (.int _ _)) rfl ?_
    refine WO_rem rfl rfl (by omega) ?_
    refine WO_buildI rfl (.one rfl (.one rfl .nil)) ?_
    refine WO_fa (o' := 0) rfl rfl rfl ?_
    refine WO_ixa rfl rfl rfl (by first | omega | (have := hS i (by omega); omega)) ?_
    refine WO_stA rfl rfl rfl rfl .here ?_
    refine WO_nil ?_
    refine WP_ops ?_
    refine WO_mv (v := .s (.int _ _)) rfl ?_
    refine WO_add rfl rfl (by omega) ?_
    refine WO_mv (v := .s (.int _ _)) rfl ?_
    refine WO_nil ?_
    exact ⟨n - (i + 1), _, by omega, (.cons_cons _ (.cons_cons _ (.cons_cons _ (.cons_cons _ .slnil)))), i + 1, _, by omega, rfl, rfl, rfl, rfl, rfl, rfl, rfl⟩
  · try simp only [beq_iff_eq, bne_iff_ne, ne_eq, decide_eq_true_eq, decide_eq_false_iff_not, beq_eq_false_iff_ne, bne_eq_false_iff_eq, Decidable.not_not, Int.not_lt, Int.not_le, gt_iff_lt, ge_iff_le, Bool.not_eq_true, Bool.not_eq_false, Bool.not_eq_true', Bool.not_eq_false', cond_true, cond_false] at h1
    refine WP_exit ?_
    refine xhere ?_
    refine WP_seq ?_
    refine WP_ops ?_
    first | refine WO_ldA0 rfl rfl (.head _) ?_ | refine WO_ldAI rfl rfl (.head _) ?_
    refine WO_stA rfl rfl rfl rfl (.there .here) ?_
    refine WO_nil ?_
    refine WP_ret ?_
    refine ⟨_, RS_cell rfl rfl (.tail _ (.head _)) (RS_nil), ?_⟩
    exact ⟨⟨_, rfl⟩, (.tail _ (.tail _ (.head _))), (.tail _ (.tail _ (.tail _ (.head _))))⟩
theorem kings_runN  : WR AM 28 [.snil, .snil] [] (fun v _ L => (∃ P, v = .agg 133 (ia P))) := by
  refine WR_fn (a := a28) rfl rfl (entryF _) (entry_E (Nat.le_of_ble_eq_true rfl)) (m := 0) rfl ?_
  refine WP_seq ?_
  refine WP_ops ?_
  refine WO_allocI ?_
  refine WO_nil ?_
  refine WP_seq ?_
  refine WP_ops ?_
  obtain ⟨E0, hE0⟩ := Empty_ex
  refine WO_call0 rfl (hE0) rfl rfl rfl ?_
  refine WO_allocI ?_
  refine WO_stA rfl rfl rfl rfl .here ?_
  refine WO_nil ?_
  refine WP_seq ?_
  refine WP_ops ?_
  refine WO_buildI rfl (.one rfl .nil) ?_
  refine WO_fa (o' := 0) rfl rfl rfl ?_
  refine WO_ixa rfl rfl rfl (by first | omega | (have := hS i (by omega); omega)) ?_
  refine WO_stA rfl rfl rfl rfl .here ?_
  refine WO_nil ?_
  refine WP_seq ?_
  refine WP_ops ?_
  refine WO_buildI rfl (.one rfl (.one rfl .nil)) ?_
  refine WO_fa (o' := 0) rfl rfl rfl ?_
  refine WO_ixa rfl rfl rfl (by first | omega | (have := hS i (by omega); omega)) ?_
  refine WO_stA rfl rfl rfl rfl .here ?_
  refine WO_nil ?_
  refine WP_seq ?_
  refine WP_seq ?_
  refine WP_ops ?_
  refine WO_mv rfl ?_
  refine WO_nil ?_
  refine WP_block ?_
  refine WP_loop (fun m f _ L => ∃ P : Nat → Int, f 0 = .snil ∧ f 4 = .ptr 0 0 133 ∧ f 5 = .ptr 1 0 133 ∧ f 6 = .s (.int .i64 0) ∧ L = [(1, .sc .var 133 (ia P)), (0, .sc .var 133 (ia fun _ => 0))]) (fun m f nb L hI => ?_) 0 ⟨_, rfl, rfl, rfl, rfl, rfl⟩
  obtain ⟨P, k0, k4, k5, k6, rfl⟩ := hI
  refine WP_know (d := 0) (v := .snil) k0 ?_
  refine WP_know (d := 4) (v := .ptr 0 0 133) k4 ?_
  refine WP_know (d := 5) (v := .ptr 1 0 133) k5 ?_
  refine WP_know (d := 6) (v := .s (.int .i64 0)) k6 ?_
  refine WP_seq ?_
  refine WP_seq ?_
  refine WP_ops ?_
  refine WO_mv (v := .s (.int _ _)) rfl ?_
  refine WO_mv (v := .snil) rfl ?_
  refine WO_lenN rfl ?_
  refine WO_bin (r := .bool _) rfl rfl rfl ?_
  refine WO_nil ?_
  refine WP_cond rfl (fun h2 => ?_) (fun h2 => ?_)
  · try simp only [beq_iff_eq, bne_iff_ne, ne_eq, decide_eq_true_eq, decide_eq_false_iff_not, beq_eq_false_iff_ne, bne_eq_false_iff_eq, Decidable.not_not, Int.not_lt, Int.not_le, gt_iff_lt, ge_iff_le, Bool.not_eq_true, Bool.not_eq_false, Bool.not_eq_true', Bool.not_eq_false', cond_true, cond_false] at h2
    exfalso; omega
  · try simp only [beq_iff_eq, bne_iff_ne, ne_eq, decide_eq_true_eq, decide_eq_false_iff_not, beq_eq_false_iff_ne, bne_eq_false_iff_eq, Decidable.not_not, Int.not_lt, Int.not_le, gt_iff_lt, ge_iff_le, Bool.not_eq_true, Bool.not_eq_false, Bool.not_eq_true', Bool.not_eq_false', cond_true, cond_false] at h2
    refine WP_exit ?_
    refine xhere ?_
    refine WP_seq ?_
    refine WP_ops ?_
    first | refine WO_ldA0 rfl rfl (.head _) ?_ | refine WO_ldAI rfl rfl (.head _) ?_
    refine WO_stA rfl rfl rfl rfl (.there .here) ?_
    refine WO_nil ?_
    refine WP_ret ?_
    refine ⟨_, RS_cell rfl rfl (.tail _ (.head _)) (RS_nil), ?_⟩
    exact ⟨_, rfl⟩
theorem kings_ex {md md2 : Md} {q q2 : Nat} {c c2 : Cp} (K S : Nat → Int) (n : Nat) (hn : n ≤ 1000000) (hS : ∀ j : Nat, j < n → 0 ≤ S (0 + (j : Int).toNat * 1) ∧ S (0 + (j : Int).toNat * 1) < 64) :
    ∃ P, RB AM 28 [.sl 0 0 n 1 c, .sl 1 0 n 1 c2] [.sc md q (ia K), .sc md2 q2 (ia S)] (.agg 133 (ia P)) [.sc md q (ia K), .sc md2 q2 (ia S)] := by
  obtain ⟨v, σ, _, _, h1, h2, ⟨P, rfl⟩, h3, h4⟩ := kings_run (md := md) (md2 := md2) (q := q) (q2 := q2) (c := c) (c2 := c2) K S n hn hS
  exact ⟨P, σ, h1, (h2.2.mem h3).2, ⟨_, _, _, rfl⟩, (h2.2.mem h4).2, ⟨_, _, _, rfl⟩, trivial⟩

theorem Start_run  : WR AM 29 [] [] (fun v _ _ => ∃ P, v = .agg 133 (ia P)) := by
  refine WR_fn (a := a29) rfl rfl (entryF _) (entry_E (Nat.le_of_ble_eq_true rfl)) (m := 0) rfl ?_
  refine WP_seq ?_
  refine WP_ops ?_
  refine WO_allocI ?_
  refine WO_nil ?_
  refine WP_seq ?_
  refine WP_ops ?_
  obtain ⟨E0, hE0⟩ := Empty_ex
  refine WO_call0 rfl (hE0) rfl rfl rfl ?_
  refine WO_allocI ?_
  refine WO_stA rfl rfl rfl rfl .here ?_
  refine WO_nil ?_
  refine WP_seq ?_
  refine WP_ops ?_
  refine WO_mkslS rfl (.one rfl (.one rfl (.one rfl (.one rfl (.one rfl (.one rfl (.one rfl (.one rfl .nil)))))))) ?_
  refine WO_mv (v := .sl _ _ _ _ _) rfl ?_
  refine WO_nil ?_
  refine WP_seq ?_
  refine WP_seq ?_
  refine WP_ops ?_
  refine WO_mv rfl ?_
  refine WO_nil ?_
  refine WP_block ?_
  refine WP_sub (L' := [_, _, _]) (.cons_cons _ (.cons_cons _ (.cons_cons _ .slnil))) ?_
  refine WP_loop (fun m f _ L => ∃ (i : Nat) (P B : Nat → Int), (i ≤ 8) ∧ (m = 8 - i) ∧ (f 0 = .ptr 0 0 133) ∧ (f 1 = .ptr 1 0 133) ∧ (f 2 = .sl 2 0 8 1 (.ex 8)) ∧ (f 3 = .s (.int .i64 i)) ∧ (L = [(2, .sc .var 8 (ia B)), (1, .sc .var 133 (ia P)), (0, .sc .var 133 (ia fun _ => 0))])) (fun m f nb L hI => ?_) (8) ⟨0, _, _, by omega, rfl, rfl, rfl, rfl, rfl, rfl⟩
  obtain ⟨i, P, B, hi, hm, k0, k1, k2, k3, rfl⟩ := hI
  refine WP_know (d := 0) (v := .ptr 0 0 133) k0 ?_
  refine WP_know (d := 1) (v := .ptr 1 0 133) k1 ?_
  refine WP_know (d := 2) (v := .sl 2 0 8 1 (.ex 8)) k2 ?_
  refine WP_know (d := 3) (v := .s (.int .i64 i)) k3 ?_
  refine WP_seq ?_
  refine WP_seq ?_
  refine WP_ops ?_
  refine WO_mv (v := .s (.int _ _)) rfl ?_
  refine WO_bin (r := .bool _) rfl rfl rfl ?_
  refine WO_nil ?_
  refine WP_cond rfl (fun h3 => ?_) (fun h3 => ?_)
  · try simp only [beq_iff_eq, bne_iff_ne, ne_eq, decide_eq_true_eq, decide_eq_false_iff_not, beq_eq_false_iff_ne, bne_eq_false_iff_eq, Decidable.not_not, Int.not_lt, Int.not_le, gt_iff_lt, ge_iff_le, Bool.not_eq_true, Bool.not_eq_false, Bool.not_eq_true', Bool.not_eq_false', cond_true, cond_false] at h3
    refine WP_skip ?_
    refine WP_seq ?_
    refine WP_block ?_
    refine WP_seq ?_
    refine WP_ops ?_
    refine WO_mv (v := .s (.int _ _)) rfl ?_
    refine WO_mv (v := .sl _ _ _ _ _) rfl ?_
    refine WO_mv (v := .s (.int _ _)) rfl ?_
    refine WO_ixs rfl rfl (by omega) ?_
    refine WO_ldI rfl rfl (.head _) rfl ?_
    refine WO_buildI rfl (.one rfl (.one rfl .nil)) ?_
    refine WO_fa (o' := 0) rfl rfl rfl ?_
    refine WO_ixa rfl rfl rfl (by omega) ?_
    refine WO_stA rfl rfl rfl rfl (.there .here) ?_
    refine WO_nil ?_
    refine WP_seq ?_
    refine WP_ops ?_
    refine WO_mv (v := .s (.int _ _)) rfl ?_
    refine WO_add rfl rfl (by omega) ?_
    refine WO_buildI rfl (.one rfl (.one rfl .nil)) ?_
    refine WO_fa (o' := 0) rfl rfl rfl ?_
    refine WO_ixa rfl rfl rfl (by omega) ?_
    refine WO_stA rfl rfl rfl rfl (.there .here) ?_
    refine WO_nil ?_
    refine WP_seq ?_
    refine WP_ops ?_
    refine WO_mv (v := .s (.int _ _)) rfl ?_
    refine WO_add rfl rfl (by omega) ?_
    refine WO_buildI rfl (.one rfl (.one rfl .nil)) ?_
    refine WO_fa (o' := 0) rfl rfl rfl ?_
    refine WO_ixa rfl rfl rfl (by omega) ?_
    refine WO_stA rfl rfl rfl rfl (.there .here) ?_
    refine WO_nil ?_
    refine WP_ops ?_
    refine WO_mv (v := .s (.int _ _)) rfl ?_
    refine WO_add rfl rfl (by omega) ?_
    refine WO_mv (v := .sl _ _ _ _ _) rfl ?_
    refine WO_mv (v := .s (.int _ _)) rfl ?_
    refine WO_ixs rfl rfl (by omega) ?_
    refine WO_ldI rfl rfl (.head _) rfl ?_
    refine WO_buildI rfl (.one rfl (.one rfl .nil)) ?_
    refine WO_fa (o' := 0) rfl rfl rfl ?_
    refine WO_ixa rfl rfl rfl (by omega) ?_
    refine WO_stA rfl rfl rfl rfl (.there .here) ?_
    refine WO_nil ?_
    refine WP_ops ?_
    refine WO_mv (v := .s (.int _ _)) rfl ?_
    refine WO_add rfl rfl (by omega) ?_
    refine WO_mv (v := .s (.int _ _)) rfl ?_
    refine WO_nil ?_
    exact ⟨8 - (i + 1), _, by omega, (.cons_cons _ (.cons_cons _ (.cons_cons _ .slnil))), i + 1, _, _, by omega, rfl, rfl, rfl, rfl, rfl, rfl⟩
  · try simp only [beq_iff_eq, bne_iff_ne, ne_eq, decide_eq_true_eq, decide_eq_false_iff_not, beq_eq_false_iff_ne, bne_eq_false_iff_eq, Decidable.not_not, Int.not_lt, Int.not_le, gt_iff_lt, ge_iff_le, Bool.not_eq_true, Bool.not_eq_false, Bool.not_eq_true', Bool.not_eq_false', cond_true, cond_false] at h3
    refine WP_exit ?_
    refine xhere ?_
    refine WP_seq ?_
    refine WP_ops ?_
    refine WO_fa (o' := 129) rfl rfl rfl ?_
    refine WO_stI rfl rfl rfl rfl (.there .here) ?_
    refine WO_nil ?_
    refine WP_seq ?_
    refine WP_ops ?_
    first | refine WO_ldA0 rfl rfl (.tail _ (.head _)) ?_ | refine WO_ldAI rfl rfl (.tail _ (.head _)) ?_
    refine WO_stA rfl rfl rfl rfl (.there (.there .here)) ?_
    refine WO_nil ?_
    refine WP_ret ?_
    refine ⟨_, RS_cell rfl rfl (.tail _ (.tail _ (.head _))) (RS_nil), ?_⟩
    exact ⟨_, rfl⟩
theorem Start_ex : ∃ P, RF AM 29 [] (.agg 133 (ia P)) := by
  obtain ⟨v, σ, _, _, h, _, P, rfl⟩ := Start_run
  exact ⟨P, σ, h⟩

/-- Some number below n. -/
def pickM (x n : Int) : Int := if x.tmod n < 0 then x.tmod n + n else x.tmod n

theorem tmod_bd (x : Int) {n : Int} (h : 1 ≤ n) : -n < x.tmod n ∧ x.tmod n < n :=
  ⟨by have h1 := Int.tmod_lt_of_pos (-x) (by omega : (0 : Int) < n); have h2 := Int.neg_tmod x n; omega, Int.tmod_lt_of_pos x (by omega)⟩

theorem pickM_bd (x : Int) {n : Int} (h : 1 ≤ n) : 0 ≤ pickM x n ∧ pickM x n < n := by
  have := tmod_bd x h
  unfold pickM
  split <;> omega

theorem Pick_run (x n : Int) (h1 : 1 ≤ n) (h2 : n ≤ 4611686018427387904) : WR AM 30 [.s (.int .i64 x), .s (.int .i64 n)] [] (fun v _ _ => v = .s (.int .i64 (pickM x n))) := by
  have hb := tmod_bd x h1
  refine WR_fn (a := a30) rfl rfl (entryF _) (entry_E (Nat.le_of_ble_eq_true rfl)) (m := 0) rfl ?_
  refine WP_seq ?_
  refine WP_ops ?_
  refine WO_mv rfl ?_
  refine WO_nil ?_
  refine WP_seq ?_
  refine WP_seq ?_
  refine WP_ops ?_
  refine WO_mv (v := .s (.int _ _)) rfl ?_
  refine WO_bin (r := .bool _) rfl rfl rfl ?_
  refine WO_nil ?_
  refine WP_cond rfl (fun h4 => ?_) (fun h4 => ?_)
  · try simp only [beq_iff_eq, bne_iff_ne, ne_eq, decide_eq_true_eq, decide_eq_false_iff_not, beq_eq_false_iff_ne, bne_eq_false_iff_eq, Decidable.not_not, Int.not_lt, Int.not_le, gt_iff_lt, ge_iff_le, Bool.not_eq_true, Bool.not_eq_false, Bool.not_eq_true', Bool.not_eq_false', cond_true, cond_false] at h4
    exfalso; omega
  · try simp only [beq_iff_eq, bne_iff_ne, ne_eq, decide_eq_true_eq, decide_eq_false_iff_not, beq_eq_false_iff_ne, bne_eq_false_iff_eq, Decidable.not_not, Int.not_lt, Int.not_le, gt_iff_lt, ge_iff_le, Bool.not_eq_true, Bool.not_eq_false, Bool.not_eq_true', Bool.not_eq_false', cond_true, cond_false] at h4
    refine WP_skip ?_
    refine WP_seq ?_
    refine WP_ops ?_
    refine WO_mv (v := .s (.int _ _)) rfl ?_
    refine WO_mv (v := .s (.int _ _)) rfl ?_
    refine WO_remT rfl rfl (by omega) ?_
    refine WO_mv (v := .s (.int _ _)) rfl ?_
    refine WO_nil ?_
    refine WP_seq ?_
    refine WP_seq ?_
    refine WP_ops ?_
    refine WO_mv (v := .s (.int _ _)) rfl ?_
    refine WO_bin (r := .bool _) rfl rfl rfl ?_
    refine WO_nil ?_
    refine WP_cond rfl (fun h5 => ?_) (fun h5 => ?_)
    · try simp only [beq_iff_eq, bne_iff_ne, ne_eq, decide_eq_true_eq, decide_eq_false_iff_not, beq_eq_false_iff_ne, bne_eq_false_iff_eq, Decidable.not_not, Int.not_lt, Int.not_le, gt_iff_lt, ge_iff_le, Bool.not_eq_true, Bool.not_eq_false, Bool.not_eq_true', Bool.not_eq_false', cond_true, cond_false] at h5
      refine WP_ops ?_
      refine WO_mv (v := .s (.int _ _)) rfl ?_
      refine WO_mv (v := .s (.int _ _)) rfl ?_
      refine WO_add rfl rfl (by omega) ?_
      refine WO_mv (v := .s (.int _ _)) rfl ?_
      refine WO_nil ?_
      refine WP_seq ?_
      refine WP_ops ?_
      refine WO_mv (v := .s (.int _ _)) rfl ?_
      refine WO_mv (v := .s (.int _ _)) rfl ?_
      refine WO_nil ?_
      refine WP_ret ?_
      refine ⟨_, RS_tmp (v := .s (.int _ _)) rfl (RS_nil), ?_⟩
      exact congrArg (fun b => V.s (S.int .i64 b)) (by unfold pickM; split <;> first | rfl | (exfalso; omega))
    · try simp only [beq_iff_eq, bne_iff_ne, ne_eq, decide_eq_true_eq, decide_eq_false_iff_not, beq_eq_false_iff_ne, bne_eq_false_iff_eq, Decidable.not_not, Int.not_lt, Int.not_le, gt_iff_lt, ge_iff_le, Bool.not_eq_true, Bool.not_eq_false, Bool.not_eq_true', Bool.not_eq_false', cond_true, cond_false] at h5
      refine WP_skip ?_
      refine WP_seq ?_
      refine WP_ops ?_
      refine WO_mv (v := .s (.int _ _)) rfl ?_
      refine WO_mv (v := .s (.int _ _)) rfl ?_
      refine WO_nil ?_
      refine WP_ret ?_
      refine ⟨_, RS_tmp (v := .s (.int _ _)) rfl (RS_nil), ?_⟩
      exact congrArg (fun b => V.s (S.int .i64 b)) (by unfold pickM; split <;> first | rfl | (exfalso; omega))
theorem ov_bd {P : Nat → Int} {o : Nat} {x lo hi : Int} (hx : lo ≤ x ∧ x ≤ hi) (h : ∀ i, lo ≤ P i ∧ P i ≤ hi) (i : Nat) : lo ≤ ov P o x i ∧ ov P o x i ≤ hi := by
  show lo ≤ (bif Nat.beq i o then x else P i) ∧ (bif Nat.beq i o then x else P i) ≤ hi
  cases Nat.beq i o
  · exact h i
  · exact hx

/-- The squares that are tried. -/
abbrev spotsM : Nat → Int := ov (ov (ov (ov (ov (ov (fun _ => 0) (0 * 1) 0) (1 * 1) 1) (2 * 1) 9) (3 * 1) 10) (4 * 1) 63) (5 * 1) 62

theorem spotsM_bd : ∀ i, 0 ≤ spotsM i ∧ spotsM i ≤ 63 :=
  ov_bd (by omega) (ov_bd (by omega) (ov_bd (by omega) (ov_bd (by omega) (ov_bd (by omega) (ov_bd (by omega) fun _ => by omega)))))

theorem nbeq1 (n : Nat) : (n == n + 1) = false := by simp

theorem DeadEnds_run  : WR AM 4 [] [] (fun v _ _ => v = .s (.bool true)) := by
  refine WR_fn (a := a4) rfl rfl (entryF _) (entry_E (Nat.le_of_ble_eq_true rfl)) (m := 0) rfl ?_
  refine WP_seq ?_
  refine WP_ops ?_
  refine WO_mv rfl ?_
  refine WO_nil ?_
  refine WP_seq ?_
  refine WP_ops ?_
  refine WO_mkslS rfl (.one rfl (.one rfl (.one rfl (.one rfl (.one rfl (.one rfl .nil)))))) ?_
  refine WO_mv (v := .sl _ _ _ _ _) rfl ?_
  refine WO_nil ?_
  refine WP_seq ?_
  refine WP_seq ?_
  refine WP_ops ?_
  refine WO_mv rfl ?_
  refine WO_nil ?_
  refine WP_block ?_
  refine WP_sub (L' := [_]) (.cons_cons _ .slnil) ?_
  refine WP_loop (fun m f _ L => ∃ (i : Nat), (i ≤ 3600) ∧ (m = 3600 - i) ∧ (f 1 = .sl 0 0 6 1 (.ex 6)) ∧ (f 2 = .s (.int .i64 i)) ∧ (L = [(0, .sc .var 6 (ia spotsM))])) (fun m f nb L hI => ?_) (3600) ⟨0, by omega, rfl, rfl, rfl, rfl⟩
  obtain ⟨i, hi, hm, k1, k2, rfl⟩ := hI
  refine WP_know (d := 1) (v := .sl 0 0 6 1 (.ex 6)) k1 ?_
  refine WP_know (d := 2) (v := .s (.int .i64 i)) k2 ?_
  refine WP_seq ?_
  refine WP_seq ?_
  refine WP_ops ?_
  refine WO_mv (v := .s (.int _ _)) rfl ?_
  refine WO_bin (r := .bool _) rfl rfl rfl ?_
  refine WO_nil ?_
  refine WP_cond rfl (fun h6 => ?_) (fun h6 => ?_)
  · try simp only [beq_iff_eq, bne_iff_ne, ne_eq, decide_eq_true_eq, decide_eq_false_iff_not, beq_eq_false_iff_ne, bne_eq_false_iff_eq, Decidable.not_not, Int.not_lt, Int.not_le, gt_iff_lt, ge_iff_le, Bool.not_eq_true, Bool.not_eq_false, Bool.not_eq_true', Bool.not_eq_false', cond_true, cond_false] at h6
    refine WP_skip ?_
    refine WP_seq ?_
    refine WP_block ?_
    refine WP_seq ?_
    refine WP_ops ?_
    refine WO_mv (v := .s (.int _ _)) rfl ?_
    refine WO_rem rfl rfl (by omega) ?_
    refine WO_sub rfl rfl (by omega) ?_
    refine WO_mv (v := .s (.int _ _)) rfl ?_
    refine WO_quo rfl rfl (by omega) ?_
    refine WO_rem rfl rfl (by omega) ?_
    refine WO_sub rfl rfl (by omega) ?_
    refine WO_mkslS rfl (.one rfl (.one rfl .nil)) ?_
    refine WO_mv (v := .sl _ _ _ _ _) rfl ?_
    refine WO_nil ?_
    refine WP_seq ?_
    refine WP_ops ?_
    refine WO_mv (v := .sl _ _ _ _ _) rfl ?_
    refine WO_mv (v := .s (.int _ _)) rfl ?_
    refine WO_quo rfl rfl (by omega) ?_
    refine WO_rem rfl rfl (by omega) ?_
    refine WO_ixs rfl rfl (by omega) ?_
    refine WO_ldI rfl rfl (.tail _ (.head _)) rfl ?_
    refine WO_mv (v := .sl _ _ _ _ _) rfl ?_
    refine WO_mv (v := .s (.int _ _)) rfl ?_
    refine WO_quo rfl rfl (by omega) ?_
    refine WO_ixs rfl rfl (by omega) ?_
    refine WO_ldI rfl rfl (.tail _ (.head _)) rfl ?_
    refine WO_mkslS rfl (.one rfl (.one rfl .nil)) ?_
    refine WO_mv (v := .sl _ _ _ _ _) rfl ?_
    refine WO_nil ?_
    refine WP_seq ?_
    refine WP_ops ?_
    refine WO_mv (v := .sl _ _ _ _ _) rfl ?_
    refine WO_mv (v := .sl _ _ _ _ _) rfl ?_
    obtain ⟨P, hP⟩ := kings_ex (md := .var) (md2 := .var) (q := 2) (q2 := 2) (c := .ex 2) (c2 := .ex 2) (ov (ov (fun _ => 0) (0 * 1) ((i : Int) % 10 - 1)) (1 * 1) ((i : Int) / 10 % 10 - 1)) (ov (ov (fun _ => 0) (0 * 1) (spotsM (0 + ((i : Int) / 100 % 6).toNat * 1))) (1 * 1) (spotsM (0 + ((i : Int) / 600).toNat * 1))) 2 (by omega) (fun j _ => by have := ov_bd (P := ov (fun _ => 0) (0 * 1) (spotsM (0 + ((i : Int) / 100 % 6).toNat * 1))) (o := 1 * 1) (spotsM_bd (0 + ((i : Int) / 600).toNat * 1)) (ov_bd (spotsM_bd (0 + ((i : Int) / 100 % 6).toNat * 1)) fun _ => by omega) (0 + (j : Int).toNat * 1); omega)
    refine WO_call (rs := [nb, nb + 1]) (Bs := [_, _]) (av := [.sl nb 0 2 1 (.ex 2), .sl (nb + 1) 0 2 1 (.ex 2)]) rfl (hP) rfl (by simp [dedup, V.refsL, V.refs, rnL, V.renL, V.ren, pos, nbeq1]) (by simp [dedup, V.refsL, V.refs, rnL, V.renL, V.ren, pos, nbeq1]) (by simp [dedup, V.refsL, V.refs, rnL, V.renL, V.ren, pos, nbeq1]) (by simp [dedup, V.refsL, V.refs, rnL, V.renL, V.ren, pos, nbeq1]) ⟨(.tail _ (.head _)), ⟨_, _, _, rfl⟩, ⟨(.head _), ⟨_, _, _, rfl⟩, trivial⟩⟩ rfl rfl rfl (.cons (.there .here) (.cons .here .nil)) ?_
    refine WO_allocI ?_
    refine WO_stA rfl rfl rfl rfl .here ?_
    refine WO_nil ?_
    refine WP_seq ?_
    refine WP_ops ?_
    first | refine WO_ldA0 rfl rfl (.head _) ?_ | refine WO_ldAI rfl rfl (.head _) ?_
    refine WO_callq0 rfl (RF_of (Of_run _)) rfl rfl rfl ?_
    first | refine WO_ldA0 rfl rfl (.head _) ?_ | refine WO_ldAI rfl rfl (.head _) ?_
    refine WO_call0 rfl (RF_of (refOf_run _)) rfl rfl rfl ?_
    refine WO_call0 rfl (RF_of (same_run _ _ rfl rfl rfl rfl)) rfl rfl rfl ?_
    refine WO_un (r := .bool _) rfl rfl ?_
    refine WO_mv (v := .s (.bool _)) rfl ?_
    refine WO_gt rfl ?_
    first | refine WO_ldA0 rfl rfl (.head _) ?_ | refine WO_ldAI rfl rfl (.head _) ?_
    refine WO_gt rfl ?_
    refine WO_callq0 rfl (RF_of (Is_run _)) rfl rfl rfl ?_
    refine WO_gt rfl ?_
    first | refine WO_ldA0 rfl rfl (.head _) ?_ | refine WO_ldAI rfl rfl (.head _) ?_
    refine WO_gt rfl ?_
    refine WO_call0 rfl (RF_of (refOf_run _)) rfl rfl rfl ?_
    refine WO_gt rfl ?_
    refine WO_call0 rfl (RF_of (refDead_run _)) rfl rfl rfl ?_
    refine WO_gt rfl ?_
    refine WO_eqbF rfl rfl (rfl) ?_
    refine WO_pick (v := .s (.bool _)) rfl rfl ?_
    refine WO_mv (v := .s (.bool _)) rfl ?_
    refine WO_gt rfl ?_
    refine WO_mv (v := .s (.int _ _)) rfl ?_
    refine WO_gt rfl ?_
    refine WO_rem rfl rfl (by omega) ?_
    refine WO_gt rfl ?_
    refine WO_bin (r := .bool _) rfl rfl rfl ?_
    refine WO_gt rfl ?_
    refine WO_mv (v := .s (.bool _)) rfl ?_
    refine WO_case (t := 55) rfl (fun h7 => ?_) (fun h7 => ?_)
    · try simp only [beq_iff_eq, bne_iff_ne, ne_eq, decide_eq_true_eq, decide_eq_false_iff_not, beq_eq_false_iff_ne, bne_eq_false_iff_eq, Decidable.not_not, Int.not_lt, Int.not_le, gt_iff_lt, ge_iff_le, Bool.not_eq_true, Bool.not_eq_false, Bool.not_eq_true', Bool.not_eq_false', cond_true, cond_false] at h7
      refine WO_gt rfl ?_
      first | refine WO_ldA0 rfl rfl (.head _) ?_ | refine WO_ldAI rfl rfl (.head _) ?_
      refine WO_gt rfl ?_
      refine WO_buildI rfl .nil ?_
      refine WO_gt rfl ?_
      refine WO_mv (v := .sl _ _ _ _ _) rfl ?_
      refine WO_gt rfl ?_
      refine WO_call (rs := [nb]) (Bs := [_]) (av := [.agg 133 (ia (cut 133 P)), .agg 4 (ia fun _ => 0), .sl nb 0 2 1 (.ex 2)]) rfl (RB_of1 (DeadTells_run (md := .var) (q := 2) (c := .ex 2) (ov (ov (fun _ => 0) (0 * 1) ((i : Int) % 10 - 1)) (1 * 1) ((i : Int) / 10 % 10 - 1)) 2 (by omega) (cut 133 P) (fun _ => 0))) rfl (by simp [dedup, V.refsL, V.refs, rnL, V.renL, V.ren, pos, nbeq1]) (by simp [dedup, V.refsL, V.refs, rnL, V.renL, V.ren, pos, nbeq1]) (by simp [dedup, V.refsL, V.refs, rnL, V.renL, V.ren, pos, nbeq1]) (by simp [dedup, V.refsL, V.refs, rnL, V.renL, V.ren, pos, nbeq1]) ⟨(.tail _ (.tail _ (.head _))), ⟨_, _, _, rfl⟩, trivial⟩ rfl rfl rfl (.cons (.there (.there .here)) .nil) ?_
      refine WO_gt rfl ?_
      refine WO_un (r := .bool _) rfl rfl ?_
      refine WO_gt rfl ?_
      refine WO_pick (v := .s (.bool _)) rfl rfl ?_
      refine WO_pick (v := .s (.bool _)) rfl rfl ?_
      refine WO_nil ?_
      refine WP_cond rfl (fun h => nomatch h) (fun _ => ?_)
      refine WP_skip ?_
      refine WP_ops ?_
      refine WO_mv (v := .s (.int _ _)) rfl ?_
      refine WO_add rfl rfl (by omega) ?_
      refine WO_mv (v := .s (.int _ _)) rfl ?_
      refine WO_nil ?_
      exact ⟨3600 - (i + 1), _, by omega, (.cons _ (.cons _ (.cons _ (.cons_cons _ .slnil)))), i + 1, by omega, rfl, rfl, rfl, rfl⟩
    · try simp only [beq_iff_eq, bne_iff_ne, ne_eq, decide_eq_true_eq, decide_eq_false_iff_not, beq_eq_false_iff_ne, bne_eq_false_iff_eq, Decidable.not_not, Int.not_lt, Int.not_le, gt_iff_lt, ge_iff_le, Bool.not_eq_true, Bool.not_eq_false, Bool.not_eq_true', Bool.not_eq_false', cond_true, cond_false] at h7
      refine WO_gf rfl rfl ?_
      refine WO_gf rfl rfl ?_
      refine WO_gf rfl rfl ?_
      refine WO_gf rfl rfl ?_
      refine WO_gf rfl rfl ?_
      refine WO_gt rfl ?_
      refine WO_pick (v := .s (.bool _)) rfl rfl ?_
      refine WO_pick (v := .s (.bool _)) rfl rfl ?_
      refine WO_nil ?_
      refine WP_cond rfl (fun h => nomatch h) (fun _ => ?_)
      refine WP_skip ?_
      refine WP_ops ?_
      refine WO_mv (v := .s (.int _ _)) rfl ?_
      refine WO_add rfl rfl (by omega) ?_
      refine WO_mv (v := .s (.int _ _)) rfl ?_
      refine WO_nil ?_
      exact ⟨3600 - (i + 1), _, by omega, (.cons _ (.cons _ (.cons _ (.cons_cons _ .slnil)))), i + 1, by omega, rfl, rfl, rfl, rfl⟩
  · try simp only [beq_iff_eq, bne_iff_ne, ne_eq, decide_eq_true_eq, decide_eq_false_iff_not, beq_eq_false_iff_ne, bne_eq_false_iff_eq, Decidable.not_not, Int.not_lt, Int.not_le, gt_iff_lt, ge_iff_le, Bool.not_eq_true, Bool.not_eq_false, Bool.not_eq_true', Bool.not_eq_false', cond_true, cond_false] at h6
    refine WP_exit ?_
    refine xhere ?_
    refine WP_seq ?_
    refine WP_seq ?_
    refine WP_ops ?_
    refine WO_mv rfl ?_
    refine WO_nil ?_
    refine WP_block ?_
    refine WP_sub (L' := []) (.cons _ .slnil) ?_
    refine WP_loop (fun m f _ L => ∃ (i : Nat), (i ≤ 625) ∧ (m = 625 - i) ∧ (f 6 = .s (.int .i64 i)) ∧ (L = [])) (fun m f nb L hI => ?_) (625) ⟨0, by omega, rfl, rfl, rfl⟩
    obtain ⟨i, hi, hm, k6, rfl⟩ := hI
    refine WP_know (d := 6) (v := .s (.int .i64 i)) k6 ?_
    refine WP_seq ?_
    refine WP_seq ?_
    refine WP_ops ?_
    refine WO_mv (v := .s (.int _ _)) rfl ?_
    refine WO_bin (r := .bool _) rfl rfl rfl ?_
    refine WO_nil ?_
    refine WP_cond rfl (fun h8 => ?_) (fun h8 => ?_)
    · try simp only [beq_iff_eq, bne_iff_ne, ne_eq, decide_eq_true_eq, decide_eq_false_iff_not, beq_eq_false_iff_ne, bne_eq_false_iff_eq, Decidable.not_not, Int.not_lt, Int.not_le, gt_iff_lt, ge_iff_le, Bool.not_eq_true, Bool.not_eq_false, Bool.not_eq_true', Bool.not_eq_false', cond_true, cond_false] at h8
      refine WP_skip ?_
      refine WP_seq ?_
      refine WP_block ?_
      refine WP_seq ?_
      refine WP_ops ?_
      refine WO_mv (v := .s (.int _ _)) rfl ?_
      refine WO_rem rfl rfl (by omega) ?_
      refine WO_sub rfl rfl (by omega) ?_
      refine WO_mv (v := .s (.int _ _)) rfl ?_
      refine WO_quo rfl rfl (by omega) ?_
      refine WO_rem rfl rfl (by omega) ?_
      refine WO_sub rfl rfl (by omega) ?_
      refine WO_mv (v := .s (.int _ _)) rfl ?_
      refine WO_quo rfl rfl (by omega) ?_
      refine WO_rem rfl rfl (by omega) ?_
      refine WO_sub rfl rfl (by omega) ?_
      refine WO_mv (v := .s (.int _ _)) rfl ?_
      refine WO_quo rfl rfl (by omega) ?_
      refine WO_sub rfl rfl (by omega) ?_
      refine WO_buildI rfl (.one rfl (.one rfl (.one rfl (.one rfl .nil)))) ?_
      refine WO_allocI ?_
      refine WO_stA rfl rfl rfl rfl .here ?_
      refine WO_nil ?_
      refine WP_seq ?_
      refine WP_ops ?_
      refine WO_fa (o' := 0) rfl rfl rfl ?_
      refine WO_ldI rfl rfl (.head _) (by simp only [ov, ovA, dp, Nat.beq, Nat.ble, Nat.blt, Bool.and_true, Bool.and_false, Bool.false_and, Bool.true_and, cond_true, cond_false]; rfl) ?_
      refine WO_fa (o' := 1) rfl rfl rfl ?_
      refine WO_ldI rfl rfl (.head _) (by simp only [ov, ovA, dp, Nat.beq, Nat.ble, Nat.blt, Bool.and_true, Bool.and_false, Bool.false_and, Bool.true_and, cond_true, cond_false]; rfl) ?_
      refine WO_fa (o' := 2) rfl rfl rfl ?_
      refine WO_ldI rfl rfl (.head _) (by simp only [ov, ovA, dp, Nat.beq, Nat.ble, Nat.blt, Bool.and_true, Bool.and_false, Bool.false_and, Bool.true_and, cond_true, cond_false]; rfl) ?_
      refine WO_fa (o' := 3) rfl rfl rfl ?_
      refine WO_ldI rfl rfl (.head _) (by simp only [ov, ovA, dp, Nat.beq, Nat.ble, Nat.blt, Bool.and_true, Bool.and_false, Bool.false_and, Bool.true_and, cond_true, cond_false]; rfl) ?_
      refine WO_buildI rfl (.one rfl (.one rfl (.one rfl (.one rfl .nil)))) ?_
      refine WO_allocI ?_
      refine WO_stA rfl rfl rfl rfl .here ?_
      refine WO_nil ?_
      refine WP_seq ?_
      refine WP_ops ?_
      first | refine WO_ldA0 rfl rfl (.tail _ (.head _)) ?_ | refine WO_ldAI rfl rfl (.tail _ (.head _)) ?_
      refine WO_callq0 rfl (RF_of (Dead_run (cut 4 (ov (ov (ov (ov (fun _ => 0) 0 ((i : Int) % 5 - 1)) 1 ((i : Int) / 5 % 5 - 1)) 2 ((i : Int) / 25 % 5 - 1)) 3 ((i : Int) / 125 - 1))) (cut_bd (by omega) (fun j _ => ov_bd (by omega) (ov_bd (by omega) (ov_bd (by omega) (ov_bd (by omega) fun _ => by omega))) j)))) rfl rfl rfl ?_
      first | refine WO_ldA0 rfl rfl (.head _) ?_ | refine WO_ldAI rfl rfl (.head _) ?_
      refine WO_call0 rfl (RF_of (refDead_run _)) rfl rfl rfl ?_
      refine WO_eqbF rfl rfl (rfl) ?_
      refine WO_mv (v := .s (.bool _)) rfl ?_
      refine WO_gt rfl ?_
      first | refine WO_ldA0 rfl rfl (.tail _ (.head _)) ?_ | refine WO_ldAI rfl rfl (.tail _ (.head _)) ?_
      refine WO_gt rfl ?_
      refine WO_mkslS rfl (.one rfl (.one rfl (.one rfl .nil))) ?_
      refine WO_gt rfl ?_
      refine WO_callq (rs := [nb + 1 + 1]) (Bs := [_]) (av := [.agg 4 (ia (cut 4 (ov (ov (ov (ov (fun _ => 0) 0 ((i : Int) % 5 - 1)) 1 ((i : Int) / 5 % 5 - 1)) 2 ((i : Int) / 25 % 5 - 1)) 3 ((i : Int) / 125 - 1)))), .sl (nb + 1 + 1) 0 3 1 (.ex 3)]) rfl (RB_of1 (Add_run (md := .ro) (q := 3) (c := .ex 3) (ov (ov (ov (fun _ => 0) (0 * 1) 3) (1 * 1) 3) (2 * 1) 2) 0 3 (by omega) (cut 4 (ov (ov (ov (ov (fun _ => 0) 0 ((i : Int) % 5 - 1)) 1 ((i : Int) / 5 % 5 - 1)) 2 ((i : Int) / 25 % 5 - 1)) 3 ((i : Int) / 125 - 1))) (cut_bd (by omega) (fun j _ => ov_bd (by omega) (ov_bd (by omega) (ov_bd (by omega) (ov_bd (by omega) fun _ => by omega))) j)))) rfl (by simp [dedup, V.refsL, V.refs, rnL, V.renL, V.ren, pos, nbeq1]) (by simp [dedup, V.refsL, V.refs, rnL, V.renL, V.ren, pos, nbeq1]) (by simp [dedup, V.refsL, V.refs, rnL, V.renL, V.ren, pos, nbeq1]) (by simp [dedup, V.refsL, V.refs, rnL, V.renL, V.ren, pos, nbeq1]) ⟨(.head _), ⟨_, _, _, rfl⟩, trivial⟩ rfl rfl rfl ?_
      refine WO_gt rfl ?_
      first | refine WO_ldA0 rfl rfl (.tail _ (.head _)) ?_ | refine WO_ldAI rfl rfl (.tail _ (.head _)) ?_
      refine WO_gt rfl ?_
      refine WO_mkslS rfl (.one rfl (.one rfl (.one rfl .nil))) ?_
      refine WO_gt rfl ?_
      refine WO_call (rs := [nb + 1 + 1 + 1]) (Bs := [_]) (av := [.agg 4 (ia (cut 4 (ov (ov (ov (ov (fun _ => 0) 0 ((i : Int) % 5 - 1)) 1 ((i : Int) / 5 % 5 - 1)) 2 ((i : Int) / 25 % 5 - 1)) 3 ((i : Int) / 125 - 1)))), .sl (nb + 1 + 1 + 1) 0 3 1 (.ex 3)]) rfl (RB_of1 (refAdd_run (md := .var) (q := 3) (c := .ex 3) (ov (ov (ov (fun _ => 0) (0 * 1) 3) (1 * 1) 3) (2 * 1) 2) 0 3 (by omega) (cut 4 (ov (ov (ov (ov (fun _ => 0) 0 ((i : Int) % 5 - 1)) 1 ((i : Int) / 5 % 5 - 1)) 2 ((i : Int) / 25 % 5 - 1)) 3 ((i : Int) / 125 - 1))) (cut_bd (by omega) (fun j _ => ov_bd (by omega) (ov_bd (by omega) (ov_bd (by omega) (ov_bd (by omega) fun _ => by omega))) j)))) rfl (by simp [dedup, V.refsL, V.refs, rnL, V.renL, V.ren, pos, nbeq1]) (by simp [dedup, V.refsL, V.refs, rnL, V.renL, V.ren, pos, nbeq1]) (by simp [dedup, V.refsL, V.refs, rnL, V.renL, V.ren, pos, nbeq1]) (by simp [dedup, V.refsL, V.refs, rnL, V.renL, V.ren, pos, nbeq1]) ⟨(.head _), ⟨_, _, _, rfl⟩, trivial⟩ rfl rfl rfl (.cons .here .nil) ?_
      refine WO_gt rfl ?_
      refine WO_call0 rfl (RF_of (same_run (cut 4 (addM (ov (ov (ov (fun _ => 0) (0 * 1) 3) (1 * 1) 3) (2 * 1) 2) 0 (cut 4 (cut 4 (cut 4 (ov (ov (ov (ov (fun _ => 0) 0 ((i : Int) % 5 - 1)) 1 ((i : Int) / 5 % 5 - 1)) 2 ((i : Int) / 25 % 5 - 1)) 3 ((i : Int) / 125 - 1))))) 3)) (cut 4 (addM (ov (ov (ov (fun _ => 0) (0 * 1) 3) (1 * 1) 3) (2 * 1) 2) 0 (cut 4 (ov (ov (ov (ov (fun _ => 0) 0 ((i : Int) % 5 - 1)) 1 ((i : Int) / 5 % 5 - 1)) 2 ((i : Int) / 25 % 5 - 1)) 3 ((i : Int) / 125 - 1))) 3)) (addM_same (K := ov (ov (ov (fun _ => 0) (0 * 1) 3) (1 * 1) 3) (2 * 1) 2) (K' := ov (ov (ov (fun _ => 0) (0 * 1) 3) (1 * 1) 3) (2 * 1) 2) (o := 0) (o' := 0) (P := cut 4 (cut 4 (cut 4 (ov (ov (ov (ov (fun _ => 0) 0 ((i : Int) % 5 - 1)) 1 ((i : Int) / 5 % 5 - 1)) 2 ((i : Int) / 25 % 5 - 1)) 3 ((i : Int) / 125 - 1))))) (Q := cut 4 (ov (ov (ov (ov (fun _ => 0) 0 ((i : Int) % 5 - 1)) 1 ((i : Int) / 5 % 5 - 1)) 2 ((i : Int) / 25 % 5 - 1)) 3 ((i : Int) / 125 - 1))) (four4 rfl rfl rfl rfl) 3 (fun j _ => rfl) 0 (by omega)) (addM_same (K := ov (ov (ov (fun _ => 0) (0 * 1) 3) (1 * 1) 3) (2 * 1) 2) (K' := ov (ov (ov (fun _ => 0) (0 * 1) 3) (1 * 1) 3) (2 * 1) 2) (o := 0) (o' := 0) (P := cut 4 (cut 4 (cut 4 (ov (ov (ov (ov (fun _ => 0) 0 ((i : Int) % 5 - 1)) 1 ((i : Int) / 5 % 5 - 1)) 2 ((i : Int) / 25 % 5 - 1)) 3 ((i : Int) / 125 - 1))))) (Q := cut 4 (ov (ov (ov (ov (fun _ => 0) 0 ((i : Int) % 5 - 1)) 1 ((i : Int) / 5 % 5 - 1)) 2 ((i : Int) / 25 % 5 - 1)) 3 ((i : Int) / 125 - 1))) (four4 rfl rfl rfl rfl) 3 (fun j _ => rfl) 1 (by omega)) (addM_same (K := ov (ov (ov (fun _ => 0) (0 * 1) 3) (1 * 1) 3) (2 * 1) 2) (K' := ov (ov (ov (fun _ => 0) (0 * 1) 3) (1 * 1) 3) (2 * 1) 2) (o := 0) (o' := 0) (P := cut 4 (cut 4 (cut 4 (ov (ov (ov (ov (fun _ => 0) 0 ((i : Int) % 5 - 1)) 1 ((i : Int) / 5 % 5 - 1)) 2 ((i : Int) / 25 % 5 - 1)) 3 ((i : Int) / 125 - 1))))) (Q := cut 4 (ov (ov (ov (ov (fun _ => 0) 0 ((i : Int) % 5 - 1)) 1 ((i : Int) / 5 % 5 - 1)) 2 ((i : Int) / 25 % 5 - 1)) 3 ((i : Int) / 125 - 1))) (four4 rfl rfl rfl rfl) 3 (fun j _ => rfl) 2 (by omega)) (addM_same (K := ov (ov (ov (fun _ => 0) (0 * 1) 3) (1 * 1) 3) (2 * 1) 2) (K' := ov (ov (ov (fun _ => 0) (0 * 1) 3) (1 * 1) 3) (2 * 1) 2) (o := 0) (o' := 0) (P := cut 4 (cut 4 (cut 4 (ov (ov (ov (ov (fun _ => 0) 0 ((i : Int) % 5 - 1)) 1 ((i : Int) / 5 % 5 - 1)) 2 ((i : Int) / 25 % 5 - 1)) 3 ((i : Int) / 125 - 1))))) (Q := cut 4 (ov (ov (ov (ov (fun _ => 0) 0 ((i : Int) % 5 - 1)) 1 ((i : Int) / 5 % 5 - 1)) 2 ((i : Int) / 25 % 5 - 1)) 3 ((i : Int) / 125 - 1))) (four4 rfl rfl rfl rfl) 3 (fun j _ => rfl) 3 (by omega)))) rfl rfl rfl ?_
      refine WO_gt rfl ?_
      refine WO_un (r := .bool _) rfl rfl ?_
      refine WO_pick (v := .s (.bool _)) rfl rfl ?_
      refine WO_nil ?_
      refine WP_cond rfl (fun h => nomatch h) (fun _ => ?_)
      refine WP_skip ?_
      refine WP_ops ?_
      refine WO_mv (v := .s (.int _ _)) rfl ?_
      refine WO_add rfl rfl (by omega) ?_
      refine WO_mv (v := .s (.int _ _)) rfl ?_
      refine WO_nil ?_
      exact ⟨625 - (i + 1), _, by omega, (.cons _ (.cons _ (.cons _ (.cons _ .slnil)))), i + 1, by omega, rfl, rfl, rfl⟩
    · try simp only [beq_iff_eq, bne_iff_ne, ne_eq, decide_eq_true_eq, decide_eq_false_iff_not, beq_eq_false_iff_ne, bne_eq_false_iff_eq, Decidable.not_not, Int.not_lt, Int.not_le, gt_iff_lt, ge_iff_le, Bool.not_eq_true, Bool.not_eq_false, Bool.not_eq_true', Bool.not_eq_false', cond_true, cond_false] at h8
      refine WP_exit ?_
      refine xhere ?_
      refine WP_seq ?_
      refine WP_ops ?_
      obtain ⟨P0, hP0⟩ := Start_ex
      refine WO_call0 rfl (hP0) rfl rfl rfl ?_
      refine WO_buildI rfl .nil ?_
      refine WO_call0 rfl (RF_of (DeadTells_runN _ _)) rfl rfl rfl ?_
      refine WO_mv (v := .s (.bool _)) rfl ?_
      refine WO_gt rfl ?_
      refine WO_call0 rfl (awake_run) rfl rfl rfl ?_
      refine WO_pick (v := .s (.bool _)) rfl rfl ?_
      refine WO_mv (v := .s (.bool _)) rfl ?_
      refine WO_nil ?_
      refine WP_ret ?_
      refine ⟨_, RS_tmp (v := .s (.bool _)) rfl (RS_nil), ?_⟩
      rfl
end Go.Proofs.Ytjldefmcnppdoaa
