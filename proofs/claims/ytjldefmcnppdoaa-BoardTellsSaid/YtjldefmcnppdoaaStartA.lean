/- board.Start: its parts, as the machine has them. -/
import Derived.Test.YtjldefmcnppdoaaSquareA
import Derived.Test.YtjldefmcnppdoaaAmRange
namespace Go.Proofs.Ytjldefmcnppdoaa
open Go Go.Am
set_option linter.unusedSimpArgs false
set_option linter.unusedVariables false
/-- The machine without a word on board.Start. -/
def AM0 : AP := { fns := AM.fns, prims := fun f => bif Nat.beq f 85 then some idxPrim else none }
def emptyF (i : Nat) : Int := bif Nat.beq i 130 then -1 else bif Nat.beq i 132 then 1 else 0
/-- The position when the files below j are laid, and of file j the ranks in S. -/
def curF (j : Nat) (S : Nat → Bool) (i : Nat) : Int := if i < 128 ∧ ((i / 2) % 8 < j ∨ ((i / 2) % 8 = j ∧ S (i / 16) = true)) then startF i else emptyF i
theorem ovA_whole {P Q : Nat → Int} {m : Nat} (h : ∀ i, m ≤ i → P i = Q i) : ovA P 0 m Q = Q := by
  funext i
  unfold ovA
  cases hb : Nat.blt i (0 + m) with
  | true => rw [show Nat.ble 0 i = true from Nat.ble_eq_true_of_le (Nat.zero_le i)]; simp
  | false =>
    simp only [Bool.and_false, cond_false]
    refine h i (Nat.le_of_not_lt fun hi => ?_)
    rw [show Nat.blt i (0 + m) = true from Nat.ble_eq_true_of_le (by omega)] at hb
    cases hb
theorem emptyF_hi (i : Nat) (h : 133 ≤ i) : emptyF i = 0 := by
  unfold emptyF
  rw [show Nat.beq i 130 = false from Bool.eq_false_iff.2 fun e => by have := Nat.eq_of_beq_eq_true e; omega, show Nat.beq i 132 = false from Bool.eq_false_iff.2 fun e => by have := Nat.eq_of_beq_eq_true e; omega]
  rfl

theorem within_run0 (P : Nat → Int) (ha : -9223372036854775808 ≤ P 0 ∧ P 0 ≤ 9223372036854775807) (hb : -9223372036854775808 ≤ P 1 ∧ P 1 ≤ 9223372036854775807) : WR AM0 86 [.agg 2 (ia P)] [] (fun v _ _ => v = .s (.bool (decide (0 ≤ P 0 ∧ P 0 < 8 ∧ 0 ≤ P 1 ∧ P 1 < 8)))) := by
 refine WR_fn (a := a86) rfl rfl (entryF _) (entry_E (Nat.le_of_ble_eq_true rfl)) (m := 0) rfl ?_
 refine WP_seq ?_
 refine WP_ops ?_
 refine WO_boxA rfl ?_
 refine WO_mv rfl ?_
 refine WO_nil ?_
 refine WP_seq ?_
 refine WP_ops ?_
 refine WO_fa (o' := 0) rfl rfl rfl ?_
 refine WO_ldI rfl rfl (.head _) rfl ?_
 refine WO_convW rfl ?_
 refine WO_bin (r := .bool _) rfl rfl rfl ?_
 refine WO_mv (v := .s (.bool _)) rfl ?_
 refine WO_case (t := 7) rfl (fun h1 => ?_) (fun h1 => ?_)
 ·try simp only [NM] at h1
  refine WO_gt rfl ?_
  refine WO_fa (o' := 1) rfl rfl rfl ?_
  refine WO_gt rfl ?_
  refine WO_ldI rfl rfl (.head _) rfl ?_
  refine WO_gt rfl ?_
  refine WO_convW rfl ?_
  refine WO_gt rfl ?_
  refine WO_bin (r := .bool _) rfl rfl rfl ?_
  refine WO_pick (v := .s (.bool _)) rfl rfl ?_
  refine WO_mv (v := .s (.bool _)) rfl ?_
  refine WO_nil ?_
  refine WP_ret ?_
  refine ⟨_, RS_tmp (v := .s (.bool _)) rfl (RS_nil), ?_⟩
  refine congrArg (fun b => V.s (S.bool b)) ?_
  have e0 := u64_lt8 ha
  have e1 := u64_lt8 hb
  rw [Bool.eq_iff_iff]
  simp only [decide_eq_true_eq, Bool.false_eq_true, false_iff]
  omega
 ·try simp only [NM] at h1
  refine WO_gf rfl rfl ?_
  refine WO_gf rfl rfl ?_
  refine WO_gf rfl rfl ?_
  refine WO_gf rfl rfl ?_
  refine WO_pick (v := .s (.bool _)) rfl rfl ?_
  refine WO_mv (v := .s (.bool _)) rfl ?_
  refine WO_nil ?_
  refine WP_ret ?_
  refine ⟨_, RS_tmp (v := .s (.bool _)) rfl (RS_nil), ?_⟩
  refine congrArg (fun b => V.s (S.bool b)) ?_
  have e0 := u64_lt8 ha
  have e1 := u64_lt8 hb
  rw [Bool.eq_iff_iff]
  simp only [decide_eq_true_eq, Bool.false_eq_true, false_iff]
  omega
theorem number_run0 (P : Nat → Int) (ha : -9223372036854775808 ≤ P 0 ∧ P 0 ≤ 9223372036854775807) (hb : -9223372036854775808 ≤ P 1 ∧ P 1 ≤ 9223372036854775807) : WR AM0 84 [.agg 2 (ia P)] [] (fun v _ _ => v = .s (.int .i64 (atM (P 0) (P 1)))) := by
 refine WR_fn (a := a84) rfl rfl (entryF _) (entry_E (Nat.le_of_ble_eq_true rfl)) (m := 0) rfl ?_
 refine WP_seq ?_
 refine WP_ops ?_
 refine WO_boxA rfl ?_
 refine WO_mv rfl ?_
 refine WO_nil ?_
 refine WP_seq ?_
 refine WP_seq ?_
 refine WP_ops ?_
 first | refine WO_ldA0 rfl rfl (.head _) ?_ | refine WO_ldAI rfl rfl (.head _) ?_
 refine WO_call0 rfl (RF_of (within_run0 _ ha hb)) rfl rfl rfl ?_
 refine WO_un (r := .bool _) rfl rfl ?_
 refine WO_nil ?_
 refine WP_cond rfl (fun h2 => ?_) (fun h2 => ?_)
 ·try simp only [NM] at h2
  refine WP_seq ?_
  refine WP_ops ?_
  refine WO_mv rfl ?_
  refine WO_nil ?_
  refine WP_ret ?_
  refine ⟨_, RS_tmp (v := .s (.int _ _)) rfl (RS_nil), ?_⟩
  refine congrArg (fun b => V.s (S.int .i64 b)) ?_
  unfold atM
  split <;> omega
 ·try simp only [NM] at h2
  refine WP_skip ?_
  refine WP_seq ?_
  refine WP_ops ?_
  refine WO_fa (o' := 1) rfl rfl rfl ?_
  refine WO_ldI rfl rfl (.head _) rfl ?_
  refine WO_mul rfl rfl (by omega) ?_
  refine WO_fa (o' := 0) rfl rfl rfl ?_
  refine WO_ldI rfl rfl (.head _) rfl ?_
  refine WO_add rfl rfl (by omega) ?_
  refine WO_mv (v := .s (.int _ _)) rfl ?_
  refine WO_nil ?_
  refine WP_ret ?_
  refine ⟨_, RS_tmp (v := .s (.int _ _)) rfl (RS_nil), ?_⟩
  refine congrArg (fun b => V.s (S.int .i64 b)) ?_
  unfold atM
  split <;> omega
theorem At_run0 (a b : Int) (ha : -9223372036854775808 ≤ a ∧ a ≤ 9223372036854775807) (hb : -9223372036854775808 ≤ b ∧ b ≤ 9223372036854775807) : WR AM0 36 [.s (.int .i64 a), .s (.int .i64 b)] [] (fun v _ _ => v = .s (.int .i64 (atM a b))) := by
 refine WR_fn (a := a36) rfl rfl (entryF _) (entry_E (Nat.le_of_ble_eq_true rfl)) (m := 0) rfl ?_
 refine WP_seq ?_
 refine WP_ops ?_
 refine WO_mv rfl ?_
 refine WO_nil ?_
 refine WP_seq ?_
 refine WP_ops ?_
 refine WO_mv (v := .s (.int _ _)) rfl ?_
 refine WO_mv (v := .s (.int _ _)) rfl ?_
 refine WO_buildI rfl (.one rfl (.one rfl .nil)) ?_
 refine WO_call0 rfl (RF_of (number_run0 _ ha hb)) rfl rfl rfl ?_
 refine WO_mv (v := .s (.int _ _)) rfl ?_
 refine WO_nil ?_
 refine WP_ret ?_
 refine ⟨_, RS_tmp (v := .s (.int _ _)) rfl (RS_nil), ?_⟩
 rfl
theorem At_in0 (a b : Nat) (ha : a < 8) (hb : b < 8) : RF AM0 36 [.s (.int .i64 (a : Int)), .s (.int .i64 (b : Int))] (.s (.int .i64 ((8 * b + a : Nat) : Int))) := by
  have h := RF_of (At_run0 (a : Int) (b : Int) (by omega) (by omega))
  rw [show atM (a : Int) (b : Int) = ((8 * b + a : Nat) : Int) by unfold atM; split <;> omega] at h
  exact h

theorem Empty_run0  : WR AM0 78 [] [] (fun v _ _ => v = .agg 133 (ia emptyF)) := by
 refine WR_fn (a := a78) rfl rfl (entryF _) (entry_E (Nat.le_of_ble_eq_true rfl)) (m := 0) rfl ?_
 refine WP_seq ?_
 refine WP_ops ?_
 refine WO_allocI ?_
 refine WO_nil ?_
 refine WP_seq ?_
 refine WP_ops ?_
 refine WO_buildI rfl (.one rfl (.one rfl .nil)) ?_
 refine WO_stA rfl rfl rfl rfl .here ?_
 refine WO_nil ?_
 refine WP_ret ?_
 refine ⟨_, RS_cell rfl rfl (.head _) (RS_nil), ?_⟩
 refine congrArg (fun P => V.agg 133 (ia P)) ?_
 have e : (ov (ov (fun _ => 0) 130 (-1)) 132 1) = emptyF := by
  funext i
  unfold emptyF ov
  cases h1 : Nat.beq i 130 with
  | true => rw [Nat.eq_of_beq_eq_true h1]; rfl
  | false => cases Nat.beq i 132 <;> rfl
 first | exact e | (rw [e]; exact ovA_whole fun i hi => (emptyF_hi i hi).symm)
theorem st_r0  (f : FE)   : WP AM0 35 (.ops [⟨some 0, none, .h (.alloc (.ints 133))⟩]) f 0 [] (fun f n L => f 0 = .ptr 0 0 133 ∧ n = 1 ∧ L = [(0, .sc .var 133 (ia fun _ => 0))]) (fun _ _ _ _ => False) (fun _ _ _ => False) := by
 refine WP_ops ?_
 refine WO_allocI ?_
 refine WO_nil ?_
 exact ⟨rfl, rfl, rfl⟩
theorem st_r1  (f : FE)  (k0 : f 0 = .ptr 0 0 133) : WP AM0 35 (.ops [⟨some 6, none, .h (.call (.k (.fn 78 [])) [])⟩, ⟨some 1, none, .h (.alloc (.ints 133))⟩, ⟨none, none, .h (.store 133 (.t 1) (.t 6))⟩]) f 1 [(0, .sc .var 133 (ia fun _ => 0))] (fun f n L => f 0 = .ptr 0 0 133 ∧ f 1 = .ptr 1 0 133 ∧ L = [(1, .sc .var 133 (ia emptyF)), (0, .sc .var 133 (ia fun _ => 0))]) (fun _ _ _ _ => False) (fun _ _ _ => False) := by
 refine WP_know (d := 0) (v := .ptr 0 0 133) k0 ?_
 refine WP_ops ?_
 refine WO_call0 rfl (RF_of Empty_run0) rfl rfl rfl ?_
 refine WO_allocI ?_
 refine WO_stA rfl rfl rfl rfl .here ?_
 refine WO_nil ?_
 refine ⟨rfl, rfl, ?_⟩
 rw [ovA_whole fun i hi => (emptyF_hi i hi).symm]
theorem st_r2 (F : Nat → Int) (f : FE) (nb : Nat) (k0 : f 0 = .ptr 0 0 133) (k1 : f 1 = .ptr 1 0 133) : WP AM0 35 (.ops [⟨some 7, none, .p (.build (.ints 8) [(0, 1, (.k (.s (.int .i64 4)))), (1, 1, (.k (.s (.int .i64 2)))), (2, 1, (.k (.s (.int .i64 3)))), (3, 1, (.k (.s (.int .i64 5)))), (4, 1, (.k (.s (.int .i64 6)))), (5, 1, (.k (.s (.int .i64 3)))), (6, 1, (.k (.s (.int .i64 2)))), (7, 1, (.k (.s (.int .i64 4))))])⟩, ⟨some 8, none, .p (.mv (.k (.s (.int .i64 0))))⟩]) f nb [(1, .sc .var 133 (ia F)), (0, .sc .var 133 (ia fun _ => 0))] (fun f n L => ∃ P, (∀ i, i < 8 → P i = backK i) ∧ f 0 = .ptr 0 0 133 ∧ f 1 = .ptr 1 0 133 ∧ f 7 = .agg 8 (ia P) ∧ f 8 = .s (.int .i64 0) ∧ L = [(1, .sc .var 133 (ia F)), (0, .sc .var 133 (ia fun _ => 0))]) (fun _ _ _ _ => False) (fun _ _ _ => False) := by
 refine WP_know (d := 0) (v := .ptr 0 0 133) k0 ?_
 refine WP_know (d := 1) (v := .ptr 1 0 133) k1 ?_
 refine WP_ops ?_
 refine WO_buildI rfl (.one rfl (.one rfl (.one rfl (.one rfl (.one rfl (.one rfl (.one rfl (.one rfl .nil)))))))) ?_
 refine WO_mv rfl ?_
 refine WO_nil ?_
 exact ⟨_, by decide, rfl, rfl, rfl, rfl, rfl⟩
theorem st_r3 (F P : Nat → Int) (j : Nat)  (f : FE) (nb : Nat) (k0 : f 0 = .ptr 0 0 133) (k1 : f 1 = .ptr 1 0 133) (k7 : f 7 = .agg 8 (ia P)) (k8 : f 8 = .s (.int .i64 (j : Int))) : WP AM0 35 (.ops [⟨some 9, none, .p (.bin .lss (.t 8) (.k (.s (.int .i64 8))))⟩]) f nb [(1, .sc .var 133 (ia F)), (0, .sc .var 133 (ia fun _ => 0))] (fun f n L => f 0 = .ptr 0 0 133 ∧ f 1 = .ptr 1 0 133 ∧ f 7 = .agg 8 (ia P) ∧ f 8 = .s (.int .i64 (j : Int)) ∧ f 9 = .s (.bool (decide ((j : Int) < 8))) ∧ L = [(1, .sc .var 133 (ia F)), (0, .sc .var 133 (ia fun _ => 0))]) (fun _ _ _ _ => False) (fun _ _ _ => False) := by
 refine WP_know (d := 0) (v := .ptr 0 0 133) k0 ?_
 refine WP_know (d := 1) (v := .ptr 1 0 133) k1 ?_
 refine WP_know (d := 7) (v := .agg 8 (ia P)) k7 ?_
 refine WP_know (d := 8) (v := .s (.int .i64 (j : Int))) k8 ?_
 refine WP_ops ?_
 refine WO_bin (r := .bool _) rfl rfl rfl ?_
 refine WO_nil ?_
 exact ⟨rfl, rfl, rfl, rfl, rfl, rfl⟩
theorem st_r4 (F P : Nat → Int) (j : Nat) (hj : j < 8) (c : Int) (hc : P j = c) (f : FE) (nb : Nat) (k0 : f 0 = .ptr 0 0 133) (k1 : f 1 = .ptr 1 0 133) (k7 : f 7 = .agg 8 (ia P)) (k8 : f 8 = .s (.int .i64 (j : Int))) : WP AM0 35 (.ops [⟨some 10, none, .p (.mv (.t 8))⟩, ⟨some 11, none, .p (.ix 8 1 false (.t 7) (.t 8))⟩, ⟨some 2, none, .p (.mv (.t 10))⟩, ⟨some 3, none, .p (.mv (.t 11))⟩]) f nb [(1, .sc .var 133 (ia F)), (0, .sc .var 133 (ia fun _ => 0))] (fun f n L => f 0 = .ptr 0 0 133 ∧ f 1 = .ptr 1 0 133 ∧ f 7 = .agg 8 (ia P) ∧ f 8 = .s (.int .i64 (j : Int)) ∧ f 2 = .s (.int .i64 (j : Int)) ∧ f 3 = .s (.int .i64 c) ∧ L = [(1, .sc .var 133 (ia F)), (0, .sc .var 133 (ia fun _ => 0))]) (fun _ _ _ _ => False) (fun _ _ _ => False) := by
 refine WP_know (d := 0) (v := .ptr 0 0 133) k0 ?_
 refine WP_know (d := 1) (v := .ptr 1 0 133) k1 ?_
 refine WP_know (d := 7) (v := .agg 8 (ia P)) k7 ?_
 refine WP_know (d := 8) (v := .s (.int .i64 (j : Int))) k8 ?_
 refine WP_ops ?_
 refine WO_mv (v := .s (.int _ _)) rfl ?_
 refine WO_ixS (a := .int .i64 c) rfl rfl rfl (by omega) (by rw [show (j : Int).toNat = j from rfl]; simp [hc]) ?_
 refine WO_mv (v := .s (.int _ _)) rfl ?_
 refine WO_mv (v := .s (.int _ _)) rfl ?_
 refine WO_nil ?_
 exact ⟨rfl, rfl, rfl, rfl, rfl, rfl, rfl⟩
theorem st_r5 (F P : Nat → Int) (j : Nat) (c : Int) (f : FE) (nb : Nat) (k0 : f 0 = .ptr 0 0 133) (k1 : f 1 = .ptr 1 0 133) (k7 : f 7 = .agg 8 (ia P)) (k8 : f 8 = .s (.int .i64 (j : Int))) (k2 : f 2 = .s (.int .i64 (j : Int))) (k3 : f 3 = .s (.int .i64 c)) : WO AM0 35 [⟨some 12, none, .h .mkmap⟩, ⟨some 13, none, .p (.mv (.t 3))⟩, ⟨some 14, none, .p (.build (.ints 2) [(0, 1, (.t 13))])⟩, ⟨none, none, .h (.mput (.t 12) (.k (.s (.int .i64 0))) (.t 14))⟩,
  ⟨some 15, none, .p (.build (.ints 2) [(0, 1, (.k (.s (.int .i64 1))))])⟩, ⟨none, none, .h (.mput (.t 12) (.k (.s (.int .i64 1))) (.t 15))⟩,
  ⟨some 16, none, .p (.build (.ints 2) [(0, 1, (.k (.s (.int .i64 1)))), (1, 1, (.k (.s (.int .i64 1))))])⟩, ⟨none, none, .h (.mput (.t 12) (.k (.s (.int .i64 6))) (.t 16))⟩,
  ⟨some 17, none, .p (.mv (.t 3))⟩, ⟨some 18, none, .p (.build (.ints 2) [(0, 1, (.t 17)), (1, 1, (.k (.s (.int .i64 1))))])⟩, ⟨none, none, .h (.mput (.t 12) (.k (.s (.int .i64 7))) (.t 18))⟩, ⟨some 19, none, .p (.mv (.t 12))⟩] f nb [(1, .sc .var 133 (ia F)), (0, .sc .var 133 (ia fun _ => 0))] (fun f n L => f 0 = .ptr 0 0 133 ∧ f 1 = .ptr 1 0 133 ∧ f 7 = .agg 8 (ia P) ∧ f 8 = .s (.int .i64 (j : Int)) ∧ f 2 = .s (.int .i64 (j : Int)) ∧ f 3 = .s (.int .i64 c) ∧ f 19 = .map nb ∧ L = (nb, .mp .var [(.int .i64 0, .agg 2 (ia (ov (fun _ => 0) 0 c))), (.int .i64 1, .agg 2 (ia (ov (fun _ => 0) 0 1))), (.int .i64 6, .agg 2 (ia (ov (ov (fun _ => 0) 0 1) 1 1))), (.int .i64 7, .agg 2 (ia (ov (ov (fun _ => 0) 0 c) 1 1)))]) :: [(1, .sc .var 133 (ia F)), (0, .sc .var 133 (ia fun _ => 0))]) := by
 refine WO_know (d := 0) (v := .ptr 0 0 133) k0 ?_
 refine WO_know (d := 1) (v := .ptr 1 0 133) k1 ?_
 refine WO_know (d := 7) (v := .agg 8 (ia P)) k7 ?_
 refine WO_know (d := 8) (v := .s (.int .i64 (j : Int))) k8 ?_
 refine WO_know (d := 2) (v := .s (.int .i64 (j : Int))) k2 ?_
 refine WO_know (d := 3) (v := .s (.int .i64 c)) k3 ?_
 refine WO_mkmap ?_
 refine WO_mv (v := .s (.int _ _)) rfl ?_
 refine WO_buildI rfl (.one rfl .nil) ?_
 refine WO_mput rfl rfl rfl rfl rfl rfl .here ?_
 refine WO_buildI rfl (.one rfl .nil) ?_
 refine WO_mput rfl rfl rfl rfl rfl rfl .here ?_
 refine WO_buildI rfl (.one rfl (.one rfl .nil)) ?_
 refine WO_mput rfl rfl rfl rfl rfl rfl .here ?_
 refine WO_mv (v := .s (.int _ _)) rfl ?_
 refine WO_buildI rfl (.one rfl (.one rfl .nil)) ?_
 refine WO_mput rfl rfl rfl rfl rfl rfl .here ?_
 refine WO_mv (v := .map _) rfl ?_
 refine WO_nil ?_
 exact ⟨rfl, rfl, rfl, rfl, rfl, rfl, rfl, rfl⟩
theorem st_r7 (F P : Nat → Int) (j : Nat) (bi k : Nat) (Q : Nat → Int) (f : FE) (nb : Nat) (k0 : f 0 = .ptr 0 0 133) (k1 : f 1 = .ptr 1 0 133) (k7 : f 7 = .agg 8 (ia P)) (k8 : f 8 = .s (.int .i64 (j : Int))) (k2 : f 2 = .s (.int .i64 (j : Int))) (k20 : f 20 = .ptr bi 0 0) (k23 : f 23 = .tup [.s (.int .i64 (k : Int)), .agg 2 (ia Q)]) : WO AM0 35 [⟨some 24, none, .p (.ext (.t 23) 0)⟩, ⟨some 25, none, .p (.ext (.t 23) 1)⟩, ⟨some 5, none, .h (.alloc (.ints 2))⟩, ⟨some 4, none, .p (.mv (.t 24))⟩, ⟨none, none, .h (.store 2 (.t 5) (.t 25))⟩] f nb [(1, .sc .var 133 (ia F)), (0, .sc .var 133 (ia fun _ => 0))] (fun f n L => f 0 = .ptr 0 0 133 ∧ f 1 = .ptr 1 0 133 ∧ f 7 = .agg 8 (ia P) ∧ f 8 = .s (.int .i64 (j : Int)) ∧ f 2 = .s (.int .i64 (j : Int)) ∧ f 20 = .ptr bi 0 0 ∧ f 4 = .s (.int .i64 (k : Int)) ∧ f 5 = .ptr nb 0 2 ∧ L = (nb, .sc .var 2 (ia (ovA (fun _ => 0) 0 2 Q))) :: [(1, .sc .var 133 (ia F)), (0, .sc .var 133 (ia fun _ => 0))]) := by
 refine WO_know (d := 0) (v := .ptr 0 0 133) k0 ?_
 refine WO_know (d := 1) (v := .ptr 1 0 133) k1 ?_
 refine WO_know (d := 7) (v := .agg 8 (ia P)) k7 ?_
 refine WO_know (d := 8) (v := .s (.int .i64 (j : Int))) k8 ?_
 refine WO_know (d := 2) (v := .s (.int .i64 (j : Int))) k2 ?_
 refine WO_know (d := 20) (v := .ptr bi 0 0) k20 ?_
 refine WO_know (d := 23) (v := .tup [.s (.int .i64 (k : Int)), .agg 2 (ia Q)]) k23 ?_
 refine WO_ext (v := .s (.int _ _)) rfl rfl ?_
 refine WO_ext (v := .agg _ _) rfl rfl ?_
 refine WO_allocI ?_
 refine WO_mv (v := .s (.int _ _)) rfl ?_
 refine WO_stA rfl rfl rfl rfl .here ?_
 refine WO_nil ?_
 exact ⟨rfl, rfl, rfl, rfl, rfl, rfl, rfl, rfl, rfl⟩
theorem st_r8 (F P : Nat → Int) (j : Nat) (bi k b5 : Nat) (Q : Nat → Int) (hj : j < 8) (hk : k < 8) (f : FE) (nb : Nat) (k0 : f 0 = .ptr 0 0 133) (k1 : f 1 = .ptr 1 0 133) (k7 : f 7 = .agg 8 (ia P)) (k8 : f 8 = .s (.int .i64 (j : Int))) (k2 : f 2 = .s (.int .i64 (j : Int))) (k20 : f 20 = .ptr bi 0 0) (k4 : f 4 = .s (.int .i64 (k : Int))) (k5 : f 5 = .ptr b5 0 2) : WP AM0 35 (.ops [⟨some 26, none, .p (.mv (.t 2))⟩, ⟨some 27, none, .p (.mv (.t 4))⟩, ⟨some 28, none, .h (.callq (.k (.fn 36 [])) [(.t 26), (.t 27)])⟩, ⟨some 29, none, .h (.load true 2 (.t 5))⟩, ⟨some 30, none, .p (.fa 0 128 (.t 1))⟩, ⟨some 31, none, .p (.ixa 64 2 (.t 30) (.t 28))⟩, ⟨none, none, .h (.store 2 (.t 31) (.t 29))⟩]) f nb [(b5, .sc .var 2 (ia Q)), (1, .sc .var 133 (ia F)), (0, .sc .var 133 (ia fun _ => 0))] (fun f n L => f 0 = .ptr 0 0 133 ∧ f 1 = .ptr 1 0 133 ∧ f 7 = .agg 8 (ia P) ∧ f 8 = .s (.int .i64 (j : Int)) ∧ f 2 = .s (.int .i64 (j : Int)) ∧ f 20 = .ptr bi 0 0 ∧ L = (b5, .sc .var 2 (ia Q)) :: [(1, .sc .var 133 (ia (ovA F (0 + ((8 * k + j : Nat) : Int).toNat * 2) 2 Q))), (0, .sc .var 133 (ia fun _ => 0))]) (fun _ _ _ _ => False) (fun _ _ _ => False) := by
 refine WP_know (d := 0) (v := .ptr 0 0 133) k0 ?_
 refine WP_know (d := 1) (v := .ptr 1 0 133) k1 ?_
 refine WP_know (d := 7) (v := .agg 8 (ia P)) k7 ?_
 refine WP_know (d := 8) (v := .s (.int .i64 (j : Int))) k8 ?_
 refine WP_know (d := 2) (v := .s (.int .i64 (j : Int))) k2 ?_
 refine WP_know (d := 20) (v := .ptr bi 0 0) k20 ?_
 refine WP_know (d := 4) (v := .s (.int .i64 (k : Int))) k4 ?_
 refine WP_know (d := 5) (v := .ptr b5 0 2) k5 ?_
 refine WP_ops ?_
 refine WO_mv (v := .s (.int _ _)) rfl ?_
 refine WO_mv (v := .s (.int _ _)) rfl ?_
 refine WO_callq0 rfl (At_in0 j k hj hk) rfl rfl rfl ?_
 first | refine WO_ldA0 rfl rfl (.head _) ?_ | refine WO_ldAI rfl rfl (.head _) ?_
 refine WO_fa (o' := 0) rfl rfl rfl ?_
 refine WO_ixa rfl rfl rfl (by omega) ?_
 refine WO_stA rfl rfl rfl rfl (.there .here) ?_
 refine WO_nil ?_
 exact ⟨rfl, rfl, rfl, rfl, rfl, rfl, rfl⟩
theorem st_r9 (F P : Nat → Int) (j : Nat) (hj : j < 8) (f : FE) (nb : Nat) (k0 : f 0 = .ptr 0 0 133) (k1 : f 1 = .ptr 1 0 133) (k7 : f 7 = .agg 8 (ia P)) (k8 : f 8 = .s (.int .i64 (j : Int))) : WP AM0 35 (.ops [⟨some 32, none, .p (.bin .add (.t 8) (.k (.s (.int .i64 1))))⟩, ⟨some 8, none, .p (.mv (.t 32))⟩]) f nb [(1, .sc .var 133 (ia F)), (0, .sc .var 133 (ia fun _ => 0))] (fun f n L => f 0 = .ptr 0 0 133 ∧ f 1 = .ptr 1 0 133 ∧ f 7 = .agg 8 (ia P) ∧ f 8 = .s (.int .i64 ((j : Int) + 1)) ∧ L = [(1, .sc .var 133 (ia F)), (0, .sc .var 133 (ia fun _ => 0))]) (fun _ _ _ _ => False) (fun _ _ _ => False) := by
 refine WP_know (d := 0) (v := .ptr 0 0 133) k0 ?_
 refine WP_know (d := 1) (v := .ptr 1 0 133) k1 ?_
 refine WP_know (d := 7) (v := .agg 8 (ia P)) k7 ?_
 refine WP_know (d := 8) (v := .s (.int .i64 (j : Int))) k8 ?_
 refine WP_ops ?_
 refine WO_add rfl rfl (by omega) ?_
 refine WO_mv (v := .s (.int _ _)) rfl ?_
 refine WO_nil ?_
 exact ⟨rfl, rfl, rfl, rfl, rfl⟩
theorem st_r10 (F : Nat → Int) (f : FE) (nb : Nat) (k0 : f 0 = .ptr 0 0 133) (k1 : f 1 = .ptr 1 0 133) : WP AM0 35 (.ops [⟨some 33, none, .p (.fa 129 1 (.t 1))⟩, ⟨none, none, .h (.store 1 (.t 33) (.k (.s (.int .i64 15))))⟩]) f nb [(1, .sc .var 133 (ia F)), (0, .sc .var 133 (ia fun _ => 0))] (fun f n L => f 0 = .ptr 0 0 133 ∧ f 1 = .ptr 1 0 133 ∧ L = [(1, .sc .var 133 (ia (ov F 129 15))), (0, .sc .var 133 (ia fun _ => 0))]) (fun _ _ _ _ => False) (fun _ _ _ => False) := by
 refine WP_know (d := 0) (v := .ptr 0 0 133) k0 ?_
 refine WP_know (d := 1) (v := .ptr 1 0 133) k1 ?_
 refine WP_ops ?_
 refine WO_fa (o' := 129) rfl rfl rfl ?_
 refine WO_stI rfl rfl rfl rfl .here ?_
 refine WO_nil ?_
 exact ⟨rfl, rfl, rfl⟩
theorem st_r11 (F : Nat → Int) (f : FE) (nb : Nat) (k0 : f 0 = .ptr 0 0 133) (k1 : f 1 = .ptr 1 0 133) : WP AM0 35 (.ops [⟨some 34, none, .h (.load true 133 (.t 1))⟩, ⟨none, none, .h (.store 133 (.t 0) (.t 34))⟩]) f nb [(1, .sc .var 133 (ia F)), (0, .sc .var 133 (ia fun _ => 0))] (fun f n L => f 0 = .ptr 0 0 133 ∧ L = [(1, .sc .var 133 (ia F)), (0, .sc .var 133 (ia (ovA (fun _ => 0) 0 133 F)))]) (fun _ _ _ _ => False) (fun _ _ _ => False) := by
 refine WP_know (d := 0) (v := .ptr 0 0 133) k0 ?_
 refine WP_know (d := 1) (v := .ptr 1 0 133) k1 ?_
 refine WP_ops ?_
 first | refine WO_ldA0 rfl rfl (.head _) ?_ | refine WO_ldAI rfl rfl (.head _) ?_
 refine WO_stA rfl rfl rfl rfl (.there .here) ?_
 refine WO_nil ?_
 exact ⟨rfl, rfl⟩
end Go.Proofs.Ytjldefmcnppdoaa
