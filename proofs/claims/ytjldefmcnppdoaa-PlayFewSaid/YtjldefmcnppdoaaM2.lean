/- Texts of this seat, joined. -/
import Derived.Test.YtjldefmcnppdoaaAmRange
import Derived.Test.YtjldefmcnppdoaaChecked
import Derived.Lib.Strings
import Derived.Lib.Slices
import Derived.Lib.Walk
import Derived.Lib.Bytealg
import Derived.Test.YtjldefmcnppdoaaM0
import Derived.Test.YtjldefmcnppdoaaM1
/- board.Start: its parts, as the machine has them. -/
namespace Go.Proofs.Ytjldefmcnppdoaa
open Go Go.Am
set_option linter.unusedSimpArgs false
set_option linter.unusedVariables false
/-- The machine without a word on board.Start. -/
def AM0 : AP := { fns := AM.fns, prims := fun f => bif Nat.beq f 85 then some idxPrim else none }
def emptyF (i : Nat) : Int := bif Nat.beq i 130 then -1 else bif Nat.beq i 132 then 1 else 0
/-- The position when the files below j are laid, and of file j the ranks in S. -/
def curF (j : Nat) (S : Nat → Bool) (i : Nat) : Int := if i < 128 ∧ ((i / 2) % 8 < j ∨ ((i / 2) % 8 = j ∧ S (i / 16) = true)) then startF i else emptyF i
theorem ovA_whole {P Q : Nat → Int} {m : Nat} (h : ∀ i, m ≤ i → P i = Q i) : ovA P 0 m Q = Q := by
  funext i
  unfold ovA
  cases hb : Nat.blt i (0 + m) with
  | true => rw [show Nat.ble 0 i = true from Nat.ble_eq_true_of_le (Nat.zero_le i)]; simp
  | false =>
    simp only [Bool.and_false, cond_false]
    refine h i (Nat.le_of_not_lt fun hi => ?_)
    rw [show Nat.blt i (0 + m) = true from Nat.ble_eq_true_of_le (by omega)] at hb
    cases hb
theorem emptyF_hi (i : Nat) (h : 133 ≤ i) : emptyF i = 0 := by
  unfold emptyF
  rw [show Nat.beq i 130 = false from Bool.eq_false_iff.2 fun e => by have := Nat.eq_of_beq_eq_true e; omega, show Nat.beq i 132 = false from Bool.eq_false_iff.2 fun e => by have := Nat.eq_of_beq_eq_true e; omega]
  rfl

theorem within_run0 (P : Nat → Int) (ha : -9223372036854775808 ≤ P 0 ∧ P 0 ≤ 9223372036854775807) (hb : -9223372036854775808 ≤ P 1 ∧ P 1 ≤ 9223372036854775807) : WR AM0 86 [.agg 2 (ia P)] [] (fun v _ _ => v = .s (.bool (decide (0 ≤ P 0 ∧ P 0 < 8 ∧ 0 ≤ P 1 ∧ P 1 < 8)))) := by
 refine WR_fn (a := a86) rfl rfl (entryF _) (entry_E (Nat.le_of_ble_eq_true rfl)) (m := 0) rfl ?_
 refine WP_seq ?_
 refine WP_ops ?_
 refine WO_boxA rfl ?_
 refine WO_mv rfl ?_
 refine WO_nil ?_
 refine WP_seq ?_
 refine WP_ops ?_
 refine WO_fa (o' := 0) rfl rfl rfl ?_
 refine WO_ldI rfl rfl (.head _) rfl ?_
 refine WO_convW rfl ?_
 refine WO_bin (r := .bool _) rfl rfl rfl ?_
 refine WO_mv (v := .s (.bool _)) rfl ?_
 refine WO_case (t := 7) rfl (fun h1 => ?_) (fun h1 => ?_)
 ·try simp only [NM] at h1
  refine WO_gt rfl ?_
  refine WO_fa (o' := 1) rfl rfl rfl ?_
  refine WO_gt rfl ?_
  refine WO_ldI rfl rfl (.head _) rfl ?_
  refine WO_gt rfl ?_
  refine WO_convW rfl ?_
  refine WO_gt rfl ?_
  refine WO_bin (r := .bool _) rfl rfl rfl ?_
  refine WO_pick (v := .s (.bool _)) rfl rfl ?_
  refine WO_mv (v := .s (.bool _)) rfl ?_
  refine WO_nil ?_
  refine WP_ret ?_
  refine ⟨_, RS_tmp (v := .s (.bool _)) rfl (RS_nil), ?_⟩
  refine congrArg (fun b => V.s (S.bool b)) ?_
  have e0 := u64_lt8 ha
  have e1 := u64_lt8 hb
  rw [Bool.eq_iff_iff]
  simp only [decide_eq_true_eq, Bool.false_eq_true, false_iff]
  omega
 ·try simp only [NM] at h1
  refine WO_gf rfl rfl ?_
  refine WO_gf rfl rfl ?_
  refine WO_gf rfl rfl ?_
  refine WO_gf rfl rfl ?_
  refine WO_pick (v := .s (.bool _)) rfl rfl ?_
  refine WO_mv (v := .s (.bool _)) rfl ?_
  refine WO_nil ?_
  refine WP_ret ?_
  refine ⟨_, RS_tmp (v := .s (.bool _)) rfl (RS_nil), ?_⟩
  refine congrArg (fun b => V.s (S.bool b)) ?_
  have e0 := u64_lt8 ha
  have e1 := u64_lt8 hb
  rw [Bool.eq_iff_iff]
  simp only [decide_eq_true_eq, Bool.false_eq_true, false_iff]
  omega
theorem number_run0 (P : Nat → Int) (ha : -9223372036854775808 ≤ P 0 ∧ P 0 ≤ 9223372036854775807) (hb : -9223372036854775808 ≤ P 1 ∧ P 1 ≤ 9223372036854775807) : WR AM0 84 [.agg 2 (ia P)] [] (fun v _ _ => v = .s (.int .i64 (atM (P 0) (P 1)))) := by
 refine WR_fn (a := a84) rfl rfl (entryF _) (entry_E (Nat.le_of_ble_eq_true rfl)) (m := 0) rfl ?_
 refine WP_seq ?_
 refine WP_ops ?_
 refine WO_boxA rfl ?_
 refine WO_mv rfl ?_
 refine WO_nil ?_
 refine WP_seq ?_
 refine WP_seq ?_
 refine WP_ops ?_
 first | refine WO_ldA0 rfl rfl (.head _) ?_ | refine WO_ldAI rfl rfl (.head _) ?_
 refine WO_call0 rfl (RF_of (within_run0 _ ha hb)) rfl rfl rfl ?_
 refine WO_un (r := .bool _) rfl rfl ?_
 refine WO_nil ?_
 refine WP_cond rfl (fun h2 => ?_) (fun h2 => ?_)
 ·try simp only [NM] at h2
  refine WP_seq ?_
  refine WP_ops ?_
  refine WO_mv rfl ?_
  refine WO_nil ?_
  refine WP_ret ?_
  refine ⟨_, RS_tmp (v := .s (.int _ _)) rfl (RS_nil), ?_⟩
  refine congrArg (fun b => V.s (S.int .i64 b)) ?_
  unfold atM
  split <;> omega
 ·try simp only [NM] at h2
  refine WP_skip ?_
  refine WP_seq ?_
  refine WP_ops ?_
  refine WO_fa (o' := 1) rfl rfl rfl ?_
  refine WO_ldI rfl rfl (.head _) rfl ?_
  refine WO_mul rfl rfl (by omega) ?_
  refine WO_fa (o' := 0) rfl rfl rfl ?_
  refine WO_ldI rfl rfl (.head _) rfl ?_
  refine WO_add rfl rfl (by omega) ?_
  refine WO_mv (v := .s (.int _ _)) rfl ?_
  refine WO_nil ?_
  refine WP_ret ?_
  refine ⟨_, RS_tmp (v := .s (.int _ _)) rfl (RS_nil), ?_⟩
  refine congrArg (fun b => V.s (S.int .i64 b)) ?_
  unfold atM
  split <;> omega
theorem At_run0 (a b : Int) (ha : -9223372036854775808 ≤ a ∧ a ≤ 9223372036854775807) (hb : -9223372036854775808 ≤ b ∧ b ≤ 9223372036854775807) : WR AM0 36 [.s (.int .i64 a), .s (.int .i64 b)] [] (fun v _ _ => v = .s (.int .i64 (atM a b))) := by
 refine WR_fn (a := a36) rfl rfl (entryF _) (entry_E (Nat.le_of_ble_eq_true rfl)) (m := 0) rfl ?_
 refine WP_seq ?_
 refine WP_ops ?_
 refine WO_mv rfl ?_
 refine WO_nil ?_
 refine WP_seq ?_
 refine WP_ops ?_
 refine WO_mv (v := .s (.int _ _)) rfl ?_
 refine WO_mv (v := .s (.int _ _)) rfl ?_
 refine WO_buildI rfl (.one rfl (.one rfl .nil)) ?_
 refine WO_call0 rfl (RF_of (number_run0 _ ha hb)) rfl rfl rfl ?_
 refine WO_mv (v := .s (.int _ _)) rfl ?_
 refine WO_nil ?_
 refine WP_ret ?_
 refine ⟨_, RS_tmp (v := .s (.int _ _)) rfl (RS_nil), ?_⟩
 rfl
theorem At_in0 (a b : Nat) (ha : a < 8) (hb : b < 8) : RF AM0 36 [.s (.int .i64 (a : Int)), .s (.int .i64 (b : Int))] (.s (.int .i64 ((8 * b + a : Nat) : Int))) := by
  have h := RF_of (At_run0 (a : Int) (b : Int) (by omega) (by omega))
  rw [show atM (a : Int) (b : Int) = ((8 * b + a : Nat) : Int) by unfold atM; split <;> omega] at h
  exact h

theorem Empty_run0  : WR AM0 78 [] [] (fun v _ _ => v = .agg 133 (ia emptyF)) := by
 refine WR_fn (a := a78) rfl rfl (entryF _) (entry_E (Nat.le_of_ble_eq_true rfl)) (m := 0) rfl ?_
 refine WP_seq ?_
 refine WP_ops ?_
 refine WO_allocI ?_
 refine WO_nil ?_
 refine WP_seq ?_
 refine WP_ops ?_
 refine WO_buildI rfl (.one rfl (.one rfl .nil)) ?_
 refine WO_stA rfl rfl rfl rfl .here ?_
 refine WO_nil ?_
 refine WP_ret ?_
 refine ⟨_, RS_cell rfl rfl (.head _) (RS_nil), ?_⟩
 refine congrArg (fun P => V.agg 133 (ia P)) ?_
 have e : (ov (ov (fun _ => 0) 130 (-1)) 132 1) = emptyF := by
  funext i
  unfold emptyF ov
  cases h1 : Nat.beq i 130 with
  | true => rw [Nat.eq_of_beq_eq_true h1]; rfl
  | false => cases Nat.beq i 132 <;> rfl
 first | exact e | (rw [e]; exact ovA_whole fun i hi => (emptyF_hi i hi).symm)
theorem st_r0  (f : FE)   : WP AM0 35 (.ops [⟨some 0, none, .h (.alloc (.ints 133))⟩]) f 0 [] (fun f n L => f 0 = .ptr 0 0 133 ∧ n = 1 ∧ L = [(0, .sc .var 133 (ia fun _ => 0))]) (fun _ _ _ _ => False) (fun _ _ _ => False) := by
 refine WP_ops ?_
 refine WO_allocI ?_
 refine WO_nil ?_
 exact ⟨rfl, rfl, rfl⟩
theorem st_r1  (f : FE)  (k0 : f 0 = .ptr 0 0 133) : WP AM0 35 (.ops [⟨some 6, none, .h (.call (.k (.fn 78 [])) [])⟩, ⟨some 1, none, .h (.alloc (.ints 133))⟩, ⟨none, none, .h (.store 133 (.t 1) (.t 6))⟩]) f 1 [(0, .sc .var 133 (ia fun _ => 0))] (fun f n L => f 0 = .ptr 0 0 133 ∧ f 1 = .ptr 1 0 133 ∧ L = [(1, .sc .var 133 (ia emptyF)), (0, .sc .var 133 (ia fun _ => 0))]) (fun _ _ _ _ => False) (fun _ _ _ => False) := by
 refine WP_know (d := 0) (v := .ptr 0 0 133) k0 ?_
 refine WP_ops ?_
 refine WO_call0 rfl (RF_of Empty_run0) rfl rfl rfl ?_
 refine WO_allocI ?_
 refine WO_stA rfl rfl rfl rfl .here ?_
 refine WO_nil ?_
 refine ⟨rfl, rfl, ?_⟩
 rw [ovA_whole fun i hi => (emptyF_hi i hi).symm]
theorem st_r2 (F : Nat → Int) (f : FE) (nb : Nat) (k0 : f 0 = .ptr 0 0 133) (k1 : f 1 = .ptr 1 0 133) : WP AM0 35 (.ops [⟨some 7, none, .p (.build (.ints 8) [(0, 1, (.k (.s (.int .i64 4)))), (1, 1, (.k (.s (.int .i64 2)))), (2, 1, (.k (.s (.int .i64 3)))), (3, 1, (.k (.s (.int .i64 5)))), (4, 1, (.k (.s (.int .i64 6)))), (5, 1, (.k (.s (.int .i64 3)))), (6, 1, (.k (.s (.int .i64 2)))), (7, 1, (.k (.s (.int .i64 4))))])⟩, ⟨some 8, none, .p (.mv (.k (.s (.int .i64 0))))⟩]) f nb [(1, .sc .var 133 (ia F)), (0, .sc .var 133 (ia fun _ => 0))] (fun f n L => ∃ P, (∀ i, i < 8 → P i = backK i) ∧ f 0 = .ptr 0 0 133 ∧ f 1 = .ptr 1 0 133 ∧ f 7 = .agg 8 (ia P) ∧ f 8 = .s (.int .i64 0) ∧ L = [(1, .sc .var 133 (ia F)), (0, .sc .var 133 (ia fun _ => 0))]) (fun _ _ _ _ => False) (fun _ _ _ => False) := by
 refine WP_know (d := 0) (v := .ptr 0 0 133) k0 ?_
 refine WP_know (d := 1) (v := .ptr 1 0 133) k1 ?_
 refine WP_ops ?_
 refine WO_buildI rfl (.one rfl (.one rfl (.one rfl (.one rfl (.one rfl (.one rfl (.one rfl (.one rfl .nil)))))))) ?_
 refine WO_mv rfl ?_
 refine WO_nil ?_
 exact ⟨_, by decide, rfl, rfl, rfl, rfl, rfl⟩
theorem st_r3 (F P : Nat → Int) (j : Nat)  (f : FE) (nb : Nat) (k0 : f 0 = .ptr 0 0 133) (k1 : f 1 = .ptr 1 0 133) (k7 : f 7 = .agg 8 (ia P)) (k8 : f 8 = .s (.int .i64 (j : Int))) : WP AM0 35 (.ops [⟨some 9, none, .p (.bin .lss (.t 8) (.k (.s (.int .i64 8))))⟩]) f nb [(1, .sc .var 133 (ia F)), (0, .sc .var 133 (ia fun _ => 0))] (fun f n L => f 0 = .ptr 0 0 133 ∧ f 1 = .ptr 1 0 133 ∧ f 7 = .agg 8 (ia P) ∧ f 8 = .s (.int .i64 (j : Int)) ∧ f 9 = .s (.bool (decide ((j : Int) < 8))) ∧ L = [(1, .sc .var 133 (ia F)), (0, .sc .var 133 (ia fun _ => 0))]) (fun _ _ _ _ => False) (fun _ _ _ => False) := by
 refine WP_know (d := 0) (v := .ptr 0 0 133) k0 ?_
 refine WP_know (d := 1) (v := .ptr 1 0 133) k1 ?_
 refine WP_know (d := 7) (v := .agg 8 (ia P)) k7 ?_
 refine WP_know (d := 8) (v := .s (.int .i64 (j : Int))) k8 ?_
 refine WP_ops ?_
 refine WO_bin (r := .bool _) rfl rfl rfl ?_
 refine WO_nil ?_
 exact ⟨rfl, rfl, rfl, rfl, rfl, rfl⟩
theorem st_r4 (F P : Nat → Int) (j : Nat) (hj : j < 8) (c : Int) (hc : P j = c) (f : FE) (nb : Nat) (k0 : f 0 = .ptr 0 0 133) (k1 : f 1 = .ptr 1 0 133) (k7 : f 7 = .agg 8 (ia P)) (k8 : f 8 = .s (.int .i64 (j : Int))) : WP AM0 35 (.ops [⟨some 10, none, .p (.mv (.t 8))⟩, ⟨some 11, none, .p (.ix 8 1 false (.t 7) (.t 8))⟩, ⟨some 2, none, .p (.mv (.t 10))⟩, ⟨some 3, none, .p (.mv (.t 11))⟩]) f nb [(1, .sc .var 133 (ia F)), (0, .sc .var 133 (ia fun _ => 0))] (fun f n L => f 0 = .ptr 0 0 133 ∧ f 1 = .ptr 1 0 133 ∧ f 7 = .agg 8 (ia P) ∧ f 8 = .s (.int .i64 (j : Int)) ∧ f 2 = .s (.int .i64 (j : Int)) ∧ f 3 = .s (.int .i64 c) ∧ L = [(1, .sc .var 133 (ia F)), (0, .sc .var 133 (ia fun _ => 0))]) (fun _ _ _ _ => False) (fun _ _ _ => False) := by
 refine WP_know (d := 0) (v := .ptr 0 0 133) k0 ?_
 refine WP_know (d := 1) (v := .ptr 1 0 133) k1 ?_
 refine WP_know (d := 7) (v := .agg 8 (ia P)) k7 ?_
 refine WP_know (d := 8) (v := .s (.int .i64 (j : Int))) k8 ?_
 refine WP_ops ?_
 refine WO_mv (v := .s (.int _ _)) rfl ?_
 refine WO_ixS (a := .int .i64 c) rfl rfl rfl (by omega) (by rw [show (j : Int).toNat = j from rfl]; simp [hc]) ?_
 refine WO_mv (v := .s (.int _ _)) rfl ?_
 refine WO_mv (v := .s (.int _ _)) rfl ?_
 refine WO_nil ?_
 exact ⟨rfl, rfl, rfl, rfl, rfl, rfl, rfl⟩
theorem st_r5 (F P : Nat → Int) (j : Nat) (c : Int) (f : FE) (nb : Nat) (k0 : f 0 = .ptr 0 0 133) (k1 : f 1 = .ptr 1 0 133) (k7 : f 7 = .agg 8 (ia P)) (k8 : f 8 = .s (.int .i64 (j : Int))) (k2 : f 2 = .s (.int .i64 (j : Int))) (k3 : f 3 = .s (.int .i64 c)) : WO AM0 35 [⟨some 12, none, .h .mkmap⟩, ⟨some 13, none, .p (.mv (.t 3))⟩, ⟨some 14, none, .p (.build (.ints 2) [(0, 1, (.t 13))])⟩, ⟨none, none, .h (.mput (.t 12) (.k (.s (.int .i64 0))) (.t 14))⟩,
  ⟨some 15, none, .p (.build (.ints 2) [(0, 1, (.k (.s (.int .i64 1))))])⟩, ⟨none, none, .h (.mput (.t 12) (.k (.s (.int .i64 1))) (.t 15))⟩,
  ⟨some 16, none, .p (.build (.ints 2) [(0, 1, (.k (.s (.int .i64 1)))), (1, 1, (.k (.s (.int .i64 1))))])⟩, ⟨none, none, .h (.mput (.t 12) (.k (.s (.int .i64 6))) (.t 16))⟩,
  ⟨some 17, none, .p (.mv (.t 3))⟩, ⟨some 18, none, .p (.build (.ints 2) [(0, 1, (.t 17)), (1, 1, (.k (.s (.int .i64 1))))])⟩, ⟨none, none, .h (.mput (.t 12) (.k (.s (.int .i64 7))) (.t 18))⟩, ⟨some 19, none, .p (.mv (.t 12))⟩] f nb [(1, .sc .var 133 (ia F)), (0, .sc .var 133 (ia fun _ => 0))] (fun f n L => f 0 = .ptr 0 0 133 ∧ f 1 = .ptr 1 0 133 ∧ f 7 = .agg 8 (ia P) ∧ f 8 = .s (.int .i64 (j : Int)) ∧ f 2 = .s (.int .i64 (j : Int)) ∧ f 3 = .s (.int .i64 c) ∧ f 19 = .map nb ∧ L = (nb, .mp .var [(.int .i64 0, .agg 2 (ia (ov (fun _ => 0) 0 c))), (.int .i64 1, .agg 2 (ia (ov (fun _ => 0) 0 1))), (.int .i64 6, .agg 2 (ia (ov (ov (fun _ => 0) 0 1) 1 1))), (.int .i64 7, .agg 2 (ia (ov (ov (fun _ => 0) 0 c) 1 1)))]) :: [(1, .sc .var 133 (ia F)), (0, .sc .var 133 (ia fun _ => 0))]) := by
 refine WO_know (d := 0) (v := .ptr 0 0 133) k0 ?_
 refine WO_know (d := 1) (v := .ptr 1 0 133) k1 ?_
 refine WO_know (d := 7) (v := .agg 8 (ia P)) k7 ?_
 refine WO_know (d := 8) (v := .s (.int .i64 (j : Int))) k8 ?_
 refine WO_know (d := 2) (v := .s (.int .i64 (j : Int))) k2 ?_
 refine WO_know (d := 3) (v := .s (.int .i64 c)) k3 ?_
 refine WO_mkmap ?_
 refine WO_mv (v := .s (.int _ _)) rfl ?_
 refine WO_buildI rfl (.one rfl .nil) ?_
 refine WO_mput rfl rfl rfl rfl rfl rfl .here ?_
 refine WO_buildI rfl (.one rfl .nil) ?_
 refine WO_mput rfl rfl rfl rfl rfl rfl .here ?_
 refine WO_buildI rfl (.one rfl (.one rfl .nil)) ?_
 refine WO_mput rfl rfl rfl rfl rfl rfl .here ?_
 refine WO_mv (v := .s (.int _ _)) rfl ?_
 refine WO_buildI rfl (.one rfl (.one rfl .nil)) ?_
 refine WO_mput rfl rfl rfl rfl rfl rfl .here ?_
 refine WO_mv (v := .map _) rfl ?_
 refine WO_nil ?_
 exact ⟨rfl, rfl, rfl, rfl, rfl, rfl, rfl, rfl⟩
theorem st_r7 (F P : Nat → Int) (j : Nat) (bi k : Nat) (Q : Nat → Int) (f : FE) (nb : Nat) (k0 : f 0 = .ptr 0 0 133) (k1 : f 1 = .ptr 1 0 133) (k7 : f 7 = .agg 8 (ia P)) (k8 : f 8 = .s (.int .i64 (j : Int))) (k2 : f 2 = .s (.int .i64 (j : Int))) (k20 : f 20 = .ptr bi 0 0) (k23 : f 23 = .tup [.s (.int .i64 (k : Int)), .agg 2 (ia Q)]) : WO AM0 35 [⟨some 24, none, .p (.ext (.t 23) 0)⟩, ⟨some 25, none, .p (.ext (.t 23) 1)⟩, ⟨some 5, none, .h (.alloc (.ints 2))⟩, ⟨some 4, none, .p (.mv (.t 24))⟩, ⟨none, none, .h (.store 2 (.t 5) (.t 25))⟩] f nb [(1, .sc .var 133 (ia F)), (0, .sc .var 133 (ia fun _ => 0))] (fun f n L => f 0 = .ptr 0 0 133 ∧ f 1 = .ptr 1 0 133 ∧ f 7 = .agg 8 (ia P) ∧ f 8 = .s (.int .i64 (j : Int)) ∧ f 2 = .s (.int .i64 (j : Int)) ∧ f 20 = .ptr bi 0 0 ∧ f 4 = .s (.int .i64 (k : Int)) ∧ f 5 = .ptr nb 0 2 ∧ L = (nb, .sc .var 2 (ia (ovA (fun _ => 0) 0 2 Q))) :: [(1, .sc .var 133 (ia F)), (0, .sc .var 133 (ia fun _ => 0))]) := by
 refine WO_know (d := 0) (v := .ptr 0 0 133) k0 ?_
 refine WO_know (d := 1) (v := .ptr 1 0 133) k1 ?_
 refine WO_know (d := 7) (v := .agg 8 (ia P)) k7 ?_
 refine WO_know (d := 8) (v := .s (.int .i64 (j : Int))) k8 ?_
 refine WO_know (d := 2) (v := .s (.int .i64 (j : Int))) k2 ?_
 refine WO_know (d := 20) (v := .ptr bi 0 0) k20 ?_
 refine WO_know (d := 23) (v := .tup [.s (.int .i64 (k : Int)), .agg 2 (ia Q)]) k23 ?_
 refine WO_ext (v := .s (.int _ _)) rfl rfl ?_
 refine WO_ext (v := .agg _ _) rfl rfl ?_
 refine WO_allocI ?_
 refine WO_mv (v := .s (.int _ _)) rfl ?_
 refine WO_stA rfl rfl rfl rfl .here ?_
 refine WO_nil ?_
 exact ⟨rfl, rfl, rfl, rfl, rfl, rfl, rfl, rfl, rfl⟩
theorem st_r8 (F P : Nat → Int) (j : Nat) (bi k b5 : Nat) (Q : Nat → Int) (hj : j < 8) (hk : k < 8) (f : FE) (nb : Nat) (k0 : f 0 = .ptr 0 0 133) (k1 : f 1 = .ptr 1 0 133) (k7 : f 7 = .agg 8 (ia P)) (k8 : f 8 = .s (.int .i64 (j : Int))) (k2 : f 2 = .s (.int .i64 (j : Int))) (k20 : f 20 = .ptr bi 0 0) (k4 : f 4 = .s (.int .i64 (k : Int))) (k5 : f 5 = .ptr b5 0 2) : WP AM0 35 (.ops [⟨some 26, none, .p (.mv (.t 2))⟩, ⟨some 27, none, .p (.mv (.t 4))⟩, ⟨some 28, none, .h (.callq (.k (.fn 36 [])) [(.t 26), (.t 27)])⟩, ⟨some 29, none, .h (.load true 2 (.t 5))⟩, ⟨some 30, none, .p (.fa 0 128 (.t 1))⟩, ⟨some 31, none, .p (.ixa 64 2 (.t 30) (.t 28))⟩, ⟨none, none, .h (.store 2 (.t 31) (.t 29))⟩]) f nb [(b5, .sc .var 2 (ia Q)), (1, .sc .var 133 (ia F)), (0, .sc .var 133 (ia fun _ => 0))] (fun f n L => f 0 = .ptr 0 0 133 ∧ f 1 = .ptr 1 0 133 ∧ f 7 = .agg 8 (ia P) ∧ f 8 = .s (.int .i64 (j : Int)) ∧ f 2 = .s (.int .i64 (j : Int)) ∧ f 20 = .ptr bi 0 0 ∧ L = (b5, .sc .var 2 (ia Q)) :: [(1, .sc .var 133 (ia (ovA F (0 + ((8 * k + j : Nat) : Int).toNat * 2) 2 Q))), (0, .sc .var 133 (ia fun _ => 0))]) (fun _ _ _ _ => False) (fun _ _ _ => False) := by
 refine WP_know (d := 0) (v := .ptr 0 0 133) k0 ?_
 refine WP_know (d := 1) (v := .ptr 1 0 133) k1 ?_
 refine WP_know (d := 7) (v := .agg 8 (ia P)) k7 ?_
 refine WP_know (d := 8) (v := .s (.int .i64 (j : Int))) k8 ?_
 refine WP_know (d := 2) (v := .s (.int .i64 (j : Int))) k2 ?_
 refine WP_know (d := 20) (v := .ptr bi 0 0) k20 ?_
 refine WP_know (d := 4) (v := .s (.int .i64 (k : Int))) k4 ?_
 refine WP_know (d := 5) (v := .ptr b5 0 2) k5 ?_
 refine WP_ops ?_
 refine WO_mv (v := .s (.int _ _)) rfl ?_
 refine WO_mv (v := .s (.int _ _)) rfl ?_
 refine WO_callq0 rfl (At_in0 j k hj hk) rfl rfl rfl ?_
 first | refine WO_ldA0 rfl rfl (.head _) ?_ | refine WO_ldAI rfl rfl (.head _) ?_
 refine WO_fa (o' := 0) rfl rfl rfl ?_
 refine WO_ixa rfl rfl rfl (by omega) ?_
 refine WO_stA rfl rfl rfl rfl (.there .here) ?_
 refine WO_nil ?_
 exact ⟨rfl, rfl, rfl, rfl, rfl, rfl, rfl⟩
theorem st_r9 (F P : Nat → Int) (j : Nat) (hj : j < 8) (f : FE) (nb : Nat) (k0 : f 0 = .ptr 0 0 133) (k1 : f 1 = .ptr 1 0 133) (k7 : f 7 = .agg 8 (ia P)) (k8 : f 8 = .s (.int .i64 (j : Int))) : WP AM0 35 (.ops [⟨some 32, none, .p (.bin .add (.t 8) (.k (.s (.int .i64 1))))⟩, ⟨some 8, none, .p (.mv (.t 32))⟩]) f nb [(1, .sc .var 133 (ia F)), (0, .sc .var 133 (ia fun _ => 0))] (fun f n L => f 0 = .ptr 0 0 133 ∧ f 1 = .ptr 1 0 133 ∧ f 7 = .agg 8 (ia P) ∧ f 8 = .s (.int .i64 ((j : Int) + 1)) ∧ L = [(1, .sc .var 133 (ia F)), (0, .sc .var 133 (ia fun _ => 0))]) (fun _ _ _ _ => False) (fun _ _ _ => False) := by
 refine WP_know (d := 0) (v := .ptr 0 0 133) k0 ?_
 refine WP_know (d := 1) (v := .ptr 1 0 133) k1 ?_
 refine WP_know (d := 7) (v := .agg 8 (ia P)) k7 ?_
 refine WP_know (d := 8) (v := .s (.int .i64 (j : Int))) k8 ?_
 refine WP_ops ?_
 refine WO_add rfl rfl (by omega) ?_
 refine WO_mv (v := .s (.int _ _)) rfl ?_
 refine WO_nil ?_
 exact ⟨rfl, rfl, rfl, rfl, rfl⟩
theorem st_r10 (F : Nat → Int) (f : FE) (nb : Nat) (k0 : f 0 = .ptr 0 0 133) (k1 : f 1 = .ptr 1 0 133) : WP AM0 35 (.ops [⟨some 33, none, .p (.fa 129 1 (.t 1))⟩, ⟨none, none, .h (.store 1 (.t 33) (.k (.s (.int .i64 15))))⟩]) f nb [(1, .sc .var 133 (ia F)), (0, .sc .var 133 (ia fun _ => 0))] (fun f n L => f 0 = .ptr 0 0 133 ∧ f 1 = .ptr 1 0 133 ∧ L = [(1, .sc .var 133 (ia (ov F 129 15))), (0, .sc .var 133 (ia fun _ => 0))]) (fun _ _ _ _ => False) (fun _ _ _ => False) := by
 refine WP_know (d := 0) (v := .ptr 0 0 133) k0 ?_
 refine WP_know (d := 1) (v := .ptr 1 0 133) k1 ?_
 refine WP_ops ?_
 refine WO_fa (o' := 129) rfl rfl rfl ?_
 refine WO_stI rfl rfl rfl rfl .here ?_
 refine WO_nil ?_
 exact ⟨rfl, rfl, rfl⟩
theorem st_r11 (F : Nat → Int) (f : FE) (nb : Nat) (k0 : f 0 = .ptr 0 0 133) (k1 : f 1 = .ptr 1 0 133) : WP AM0 35 (.ops [⟨some 34, none, .h (.load true 133 (.t 1))⟩, ⟨none, none, .h (.store 133 (.t 0) (.t 34))⟩]) f nb [(1, .sc .var 133 (ia F)), (0, .sc .var 133 (ia fun _ => 0))] (fun f n L => f 0 = .ptr 0 0 133 ∧ L = [(1, .sc .var 133 (ia F)), (0, .sc .var 133 (ia (ovA (fun _ => 0) 0 133 F)))]) (fun _ _ _ _ => False) (fun _ _ _ => False) := by
 refine WP_know (d := 0) (v := .ptr 0 0 133) k0 ?_
 refine WP_know (d := 1) (v := .ptr 1 0 133) k1 ?_
 refine WP_ops ?_
 first | refine WO_ldA0 rfl rfl (.head _) ?_ | refine WO_ldAI rfl rfl (.head _) ?_
 refine WO_stA rfl rfl rfl rfl (.there .here) ?_
 refine WO_nil ?_
 exact ⟨rfl, rfl⟩
end Go.Proofs.Ytjldefmcnppdoaa
/-
  DERIVED: LAID BY THE SHELF's contract.sh OFF ITS TEMPLATE 'internal/stringslite.IndexByte' FOR THE PROGRAM 'Try' (the function's number there: 111). THE LIBRARY's OWN TEXT IS WALKED: nothing is assumed of it; where it calls a function without a Go body (internal/bytealg), THE MODEL's OWN ENTRY stands in, by its law (Derived/Lib/Bytealg.lean). Behind the contract: ONE FALSE NEIGHBOUR, a contract that says a little too much, REFUTED. (The template: the authors, an AI agent; Sun.)
-/
namespace Go.Proofs

set_option maxHeartbeats 1000000 in
set_option maxRecDepth 100000 in
/-- internal/stringslite.IndexByte (what strings.IndexByte calls): IT RETURNS 'Lib.indexByte s c'; the world is as it was. -/
theorem Try.stringslite_IndexByte (s : ByteArray) (c : Int) (w : World) :
    Calls Try.prog 111 #[.string s, .int .u8 c] w fun e w' => e = .returned (.int .i64 (Lib.indexByte s.data.toList c.toNat.toUInt8)) ∧ w' = w := by
  go_enter Try.func111, Try.ntmps111
  go_wp2
  rw [run_callFunc_extern Try.func121 (by kernel_rfl) (by kernel_rfl) (by kernel_rfl) (e := Extern.BytealgIndexByte.indexByte) (by kernel_rfl), Lib.run_indexByteString]
  simp only [Result.andThen]
  rw [Oper.upon_value]
  go_wp2
  go_ret
  exact ⟨rfl, rfl⟩

#print axioms Try.stringslite_IndexByte

set_option maxHeartbeats 1000000 in
/-- strings.IndexByte: "IndexByte returns the index of the first instance of c in s, or -1 if c is not present in s.": IT RETURNS 'Lib.indexByte s c'; the world is as it was. -/
theorem Try.strings_IndexByte (s : ByteArray) (c : Int) (w : World) :
    Calls Try.prog 85 #[.string s, .int .u8 c] w fun e w' => e = .returned (.int .i64 (Lib.indexByte s.data.toList c.toNat.toUInt8)) ∧ w' = w := by
  go_enter Try.func85, Try.ntmps85
  go_wp2_with (go_at_call 111; refine (Try.stringslite_IndexByte _ _ _).mono ?_; rintro e w' ⟨rfl, rfl⟩)
  go_ret
  exact ⟨rfl, rfl⟩

/-- A LITTLE TOO MUCH: 'the index of the LAST instance': falls at "aa", 'a'. -/
theorem Try.strings_IndexByte_not : ¬ ∀ (s : ByteArray) (c : Int) (w : World),
    Calls Try.prog 85 #[.string s, .int .u8 c] w fun e w' => e = .returned (.int .i64 ((s.size : Int) - 1 - Lib.indexByte s.data.toList.reverse c.toNat.toUInt8)) ∧ w' = w := by
  intro h
  have e := Lib.agree (by kernel_rfl) (Try.strings_IndexByte ⟨#[97, 97]⟩ 97 default) (h ⟨#[97, 97]⟩ 97 default)
  injection e with _ e
  revert e
  decide

#print axioms Try.strings_IndexByte
#print axioms Try.strings_IndexByte_not
end Go.Proofs
/- board.Start: the plain facts of its cells. -/
namespace Go.Proofs.Ytjldefmcnppdoaa
open Go Go.Am
theorem emptyF_lo (i : Nat) (h : i < 128) : emptyF i = 0 := by
  unfold emptyF
  rw [show Nat.beq i 130 = false from Bool.eq_false_iff.2 fun e => by have := Nat.eq_of_beq_eq_true e; omega, show Nat.beq i 132 = false from Bool.eq_false_iff.2 fun e => by have := Nat.eq_of_beq_eq_true e; omega]
  rfl
theorem cur0 : curF 0 (fun _ => false) = emptyF := by
  funext i
  unfold curF
  rw [if_neg (by simp)]
theorem start_mid : ∀ i, i < 128 → i / 16 ≠ 0 → i / 16 ≠ 1 → i / 16 ≠ 6 → i / 16 ≠ 7 → startF i = 0 := by decide
theorem cur_next (j : Nat) (S : Nat → Bool) (h0 : S 0 = true) (h1 : S 1 = true) (h6 : S 6 = true) (h7 : S 7 = true) : curF j S = curF (j + 1) (fun _ => false) := by
  funext i
  unfold curF
  by_cases hi : i < 128
  · by_cases hj : i / 2 % 8 < j
    · rw [if_pos ⟨hi, .inl hj⟩, if_pos ⟨hi, .inl (by omega)⟩]
    · by_cases hj2 : i / 2 % 8 = j
      · rw [if_pos (c := i < 128 ∧ (i / 2 % 8 < j + 1 ∨ i / 2 % 8 = j + 1 ∧ false = true)) ⟨hi, .inl (by omega)⟩]
        by_cases hs : S (i / 16) = true
        · rw [if_pos ⟨hi, .inr ⟨hj2, hs⟩⟩]
        · rw [if_neg (by simp [hj, hs]), emptyF_lo i hi]
          exact (start_mid i hi (fun e => hs (by rw [e]; exact h0)) (fun e => hs (by rw [e]; exact h1)) (fun e => hs (by rw [e]; exact h6)) (fun e => hs (by rw [e]; exact h7))).symm
      · rw [if_neg (by simp [hj, hj2]), if_neg (by simp; omega)]
  · rw [if_neg (by simp [hi]), if_neg (by simp [hi])]
theorem cur_step (j k : Nat) (S : Nat → Bool) (Q : Nat → Int) (hj : j < 8) (hk : k < 8) (hQ : ∀ i, i < 2 → Q i = startF (2 * (8 * k + j) + i)) :
    ovA (curF j S) (0 + ((8 * k + j : Nat) : Int).toNat * 2) 2 Q = curF j (fun r => S r || Nat.beq r k) := by
  have e : ((8 * k + j : Nat) : Int).toNat = 8 * k + j := Int.toNat_natCast _
  rw [e]
  funext i
  unfold ovA
  cases hb : Nat.ble (0 + (8 * k + j) * 2) i && Nat.blt i (0 + (8 * k + j) * 2 + 2) with
  | true =>
    simp only [Bool.and_eq_true] at hb
    have h1 := Nat.le_of_ble_eq_true hb.1
    have h2 : i + 1 ≤ 0 + (8 * k + j) * 2 + 2 := Nat.le_of_ble_eq_true hb.2
    rw [cond_true, hQ _ (by omega)]
    unfold curF
    rw [if_pos ⟨by omega, .inr ⟨by omega, by rw [show i / 16 = k by omega]; simp⟩⟩]
    congr 1
    omega
  | false =>
    rw [cond_false]
    have hn : ¬ (i / 2 = 8 * k + j) := by
      intro h
      rw [show Nat.ble (0 + (8 * k + j) * 2) i = true from Nat.ble_eq_true_of_le (by omega), show Nat.blt i (0 + (8 * k + j) * 2 + 2) = true from Nat.ble_eq_true_of_le (by omega)] at hb
      cases hb
    unfold curF
    by_cases hr : Nat.beq (i / 16) k = true
    · have := Nat.eq_of_beq_eq_true hr
      by_cases hj2 : i / 2 % 8 = j
      · exact absurd (show i / 2 = 8 * k + j by omega) hn
      · simp only [hj2, false_and, or_false]
    · simp only [Bool.not_eq_true] at hr
      simp only [hr, Bool.or_false]
theorem cur_end : ov (curF 8 (fun _ => false)) 129 15 = startF := by
  funext i
  unfold ov
  by_cases h : i < 128
  · rw [show Nat.beq i 129 = false from Bool.eq_false_iff.2 fun e => by have := Nat.eq_of_beq_eq_true e; omega, cond_false]
    unfold curF
    rw [if_pos ⟨h, .inl (by omega)⟩]
  · unfold startF
    rw [show Nat.blt i 128 = false from Bool.eq_false_iff.2 fun e => by have := Nat.le_of_ble_eq_true e; omega, cond_false]
    cases Nat.beq i 129 with
    | true => rfl
    | false =>
      rw [cond_false, cond_false]
      unfold curF
      rw [if_neg (by simp [h])]
      rfl
/-- What the map of file j says. -/
def Ent (j : Nat) (es : List MapEntry) : Prop := ∀ e ∈ es, ∃ (k : Nat) (Q : Nat → Int), (k = 0 ∨ k = 1 ∨ k = 6 ∨ k = 7) ∧ e.key = .int .i64 (k : Int) ∧ (∀ i, i < 2 → Q i = startF (2 * (8 * k + j) + i)) ∧ ∀ ι, VR ι (.agg 2 (ia Q)) e.val
theorem start_at : ∀ j, j < 8 → startF (2 * (8 * 0 + j) + 0) = backK j ∧ startF (2 * (8 * 0 + j) + 1) = 0 ∧ startF (2 * (8 * 1 + j) + 0) = 1 ∧ startF (2 * (8 * 1 + j) + 1) = 0 ∧ startF (2 * (8 * 6 + j) + 0) = 1 ∧ startF (2 * (8 * 6 + j) + 1) = 1 ∧ startF (2 * (8 * 7 + j) + 0) = backK j ∧ startF (2 * (8 * 7 + j) + 1) = 1 := by decide
theorem ent_of {ι : Inj} {j : Nat} (hj : j < 8) {es : List MapEntry}
    (h : MR ι [(.int .i64 0, .agg 2 (ia (ov (fun _ => 0) 0 (backK j)))), (.int .i64 1, .agg 2 (ia (ov (fun _ => 0) 0 1))), (.int .i64 6, .agg 2 (ia (ov (ov (fun _ => 0) 0 1) 1 1))), (.int .i64 7, .agg 2 (ia (ov (ov (fun _ => 0) 0 (backK j)) 1 1)))] es) :
    Ent j es ∧ ∀ k : Nat, (k = 0 ∨ k = 1 ∨ k = 6 ∨ k = 7) → ∃ e ∈ es, e.key = .int .i64 (k : Int) := by
  obtain ⟨a1, a2, a3, a4, a5, a6, a7, a8⟩ := start_at j hj
  simp only [MR] at h
  obtain ⟨e0, r0, rfl, k0, v0, e1, r1, rfl, k1, v1, e2, r2, rfl, k2, v2, e3, r3, rfl, k3, v3, rfl⟩ := h
  have two : ∀ (Q : Nat → Int) (b : Nat), Q 0 = startF (2 * b + 0) → Q 1 = startF (2 * b + 1) → ∀ i, i < 2 → Q i = startF (2 * b + i) := by
    intro Q b h0 h1 i hi
    have : i = 0 ∨ i = 1 := by omega
    rcases this with rfl | rfl
    · exact h0
    · exact h1
  have any : ∀ (Q : Nat → Int) (v : Value), VR ι (.agg 2 (ia Q)) v → ∀ ι', VR ι' (.agg 2 (ia Q)) v := by
    intro Q v h ι'
    simpa only [VR] using h
  refine ⟨fun e he => ?_, fun k hk => ?_⟩
  · simp only [List.mem_cons, List.not_mem_nil, or_false] at he
    rcases he with rfl | rfl | rfl | rfl
    · exact ⟨0, ov (fun _ => 0) 0 (backK j), .inl rfl, k0, two _ _ a1.symm a2.symm, any _ _ v0⟩
    · exact ⟨1, ov (fun _ => 0) 0 1, .inr (.inl rfl), k1, two _ _ a3.symm a4.symm, any _ _ v1⟩
    · exact ⟨6, ov (ov (fun _ => 0) 0 1) 1 1, .inr (.inr (.inl rfl)), k2, two _ _ a5.symm a6.symm, any _ _ v2⟩
    · exact ⟨7, ov (ov (fun _ => 0) 0 (backK j)) 1 1, .inr (.inr (.inr rfl)), k3, two _ _ a7.symm a8.symm, any _ _ v3⟩
  · rcases hk with rfl | rfl | rfl | rfl
    · exact ⟨e0, by simp, k0⟩
    · exact ⟨e1, by simp, k1⟩
    · exact ⟨e2, by simp, k2⟩
    · exact ⟨e3, by simp, k3⟩
theorem left_iff {es : Array MapEntry} {seen : Array Nat} {e : MapEntry} : e ∈ (Go.leftOf es seen).toList ↔ e ∈ es.toList ∧ seen.contains e.born = false := by
  have hq : (Go.leftOf es seen).toList = es.toList.filter fun e => !seen.contains e.born := by unfold Go.leftOf; exact Array.toList_filter ..
  rw [hq, List.mem_filter]
  simp
theorem left_none {es : Array MapEntry} {seen : Array Nat} (h : (Go.leftOf es seen).size = 0) {e : MapEntry} (he : e ∈ es.toList) : seen.contains e.born = true := by
  cases hc : seen.contains e.born with
  | true => rfl
  | false =>
    have := left_iff.2 ⟨he, hc⟩
    rw [← Array.length_toList] at h
    rw [List.eq_nil_of_length_eq_zero h] at this
    cases this
theorem same_born {es : List MapEntry} {ck : Nat} (h : Stamps es ck) {e e' : MapEntry} (he : e ∈ es) (he' : e' ∈ es) (hb : e.born = e'.born) : e = e' := by
  have h1 := Go.find_born e es h.2 he
  have h2 := Go.find_born e' es h.2 he'
  rw [hb, h2] at h1
  injection h1 with h1
  exact h1.symm
theorem idx_ok {args : List V} {σ : Heap} {v : V} {σ' : Heap} (h : idxPrim args σ = some (v, σ')) {ι : Inj} {W : World} {av : List Value} (hR : RelW ι σ W) (hv : VRL ι args av) :
    Calls Try.prog 85 av.toArray W fun e W' => ∃ ι' v', e = .returned v' ∧ VR ι' v v' ∧ Post ι σ W ι' σ' W' := by
  unfold idxPrim at h
  split at h
  · rename_i s c
    injection h with h
    injection h with h1 h2
    subst h1; subst h2
    simp only [VRL] at hv
    obtain ⟨v1, r1, rfl, hv1, v2, r2, rfl, hv2, rfl⟩ := hv
    simp only [VR, S.val] at hv1 hv2
    subst hv1; subst hv2
    refine (Try.strings_IndexByte s c W).mono ?_
    rintro e w' ⟨rfl, rfl⟩
    exact ⟨ι, _, rfl, by simp [VR, S.val], (QPost.refl hR).post⟩
  · cases h
theorem prims0 : PrimsOK Try.prog AM0 := by
  intro f pf hpf args σ v σ' h
  have hb : (bif Nat.beq f 85 then some idxPrim else none) = some pf := hpf
  cases hf : Nat.beq f 85 with
  | false => rw [hf] at hb; cases hb
  | true =>
    rw [hf] at hb
    injection hb with hb
    subst hb
    have := Nat.eq_of_beq_eq_true hf
    subst this
    exact ⟨⟨_, Try.func85, by kernel_rfl, by decide⟩, fun ι W av hR _ hv => idx_ok h hR hv⟩
theorem fns0 : FnsOK Try.prog AM0 := fnsOK
theorem mixed0 : Try.prog.follows .mixedOrders = true := by kernel_rfl
theorem run0 : RunOK Try.prog (Run AM0) := run_ok fns0 prims0 mixed0

/-- Behind the files below j. -/
def J0 (W0 : World) (k : Nat) (a : Act) (W : World) : Prop := ∃ (j : Nat) (P : Nat → Int) (f : FE) (n : Nat) (ι : Inj) (σ : Heap), k + j = 8 ∧ (∀ i, i < 8 → P i = backK i) ∧ f 0 = .ptr 0 0 133 ∧ f 1 = .ptr 1 0 133 ∧ f 7 = .agg 8 (ia P) ∧ f 8 = .s (.int .i64 (j : Int)) ∧
  St 35 W0 f n [(1, .sc .var 133 (ia (curF j fun _ => false))), (0, .sc .var 133 (ia fun _ => 0))] a W ι σ

/-- In file j, some ranks laid. -/
def J1 (W0 : World) (j : Nat) (P : Nat → Int) (k : Nat) (a : Act) (W : World) : Prop := ∃ (S : Nat → Bool) (r bm ck bi : Nat) (seen : Array Nat) (es : Array MapEntry) (f : FE) (n : Nat) (ι : Inj) (σ : Heap),
  (Go.leftOf es seen).size = k ∧ Ent j es.toList ∧ (∀ k : Nat, (k = 0 ∨ k = 1 ∨ k = 6 ∨ k = 7) → ∃ e ∈ es.toList, e.key = .int .i64 (k : Int)) ∧ Stamps es.toList ck ∧ (∀ e ∈ es.toList, seen.contains e.born = true → ∀ k : Nat, e.key = .int .i64 (k : Int) → S k = true) ∧
  ι bi = some ⟨r, 0, 0, 0, 0⟩ ∧ Held W0 r (.mapIter (some bm) ck seen ck) ι σ W ∧ Held W0 bm (.map es ck) ι σ W ∧ f 0 = .ptr 0 0 133 ∧ f 1 = .ptr 1 0 133 ∧ f 7 = .agg 8 (ia P) ∧ f 8 = .s (.int .i64 (j : Int)) ∧ f 2 = .s (.int .i64 (j : Int)) ∧ f 20 = .ptr bi 0 0 ∧
  St 35 W0 f n [(1, .sc .var 133 (ia (curF j S))), (0, .sc .var 133 (ia fun _ => 0))] a W ι σ

theorem rel_none0 (W : World) : RelW noInj0 [] W := by
  constructor
  · intro b p h; cases h
  · intro b p x h; cases h
  · intro b b' p p' h; cases h

theorem start_calls (W : World) : Calls Try.prog 77 #[] W fun e W' => ∃ v', e = .returned v' ∧ VR noInj0 (.agg 133 (ia startF)) v' ∧ ∃ ι' σ', Post noInj0 [] W ι' σ' W' := by
  refine calls_of_wp Try.func77 rfl ?_
  have hs0 : St 35 W (entryF []) 0 [] { tmps := #[] ++ Array.replicate (Try.f77.ntmps - 0) Go.undef, defers := [] } W noInj0 [] := by
    refine ⟨?_, ⟨rfl, trivial⟩, (QPost.refl (rel_none0 W)).post, rfl⟩
    have e : E 35 (entryF []) = List.replicate 35 .undef := rfl
    rw [e]
    exact VRL.undefs 35
  refine wp_seq (hs0.wp fns0 prims0 mixed0 (by kernel_rfl) (st_r0 _) fun x f n L ι σ a W1 ho hs _ => ?_)
  cases x with
  | exit j => exact ho.elim
  | ret => exact ho.elim
  | normal =>
  obtain ⟨k0, rfl, rfl⟩ := ho
  refine wp_seq (hs.wp fns0 prims0 mixed0 (by kernel_rfl) (st_r1 _ k0) fun x f n L ι σ a W1 ho hs _ => ?_)
  cases x with
  | exit j => exact ho.elim
  | ret => exact ho.elim
  | normal =>
  obtain ⟨k0, k1, rfl⟩ := ho
  refine wp_seq (wp_seq (hs.wp fns0 prims0 mixed0 (by kernel_rfl) (st_r2 _ _ _ k0 k1) fun x f n L ι σ a W1 ho hs _ => ?_))
  cases x with
  | exit j => exact ho.elim
  | ret => exact ho.elim
  | normal =>
  obtain ⟨P, hP, k0, k1, k7, k8, rfl⟩ := ho
  refine wp_block (wp_loop_by (J0 W) (fun k a W1 hJ => ?_) (k := 8) ⟨0, P, f, n, ι, σ, by omega, hP, k0, k1, k7, k8, by rw [cur0]; exact hs⟩)
  obtain ⟨j, P, f, n, ι, σ, hkj, hP, k0, k1, k7, k8, hs⟩ := hJ
  refine wp_seq (hs.wp fns0 prims0 mixed0 (by kernel_rfl) (st_r3 _ _ _ _ _ k0 k1 k7 k8) fun x f n L ι σ a W1 ho hs _ => ?_)
  cases x with
  | exit j => exact ho.elim
  | ret => exact ho.elim
  | normal =>
  obtain ⟨k0, k1, k7, k8, k9, rfl⟩ := ho
  have r9 := hs.getS (t := 9) rfl k9
  by_cases hj : (j : Int) < 8
  case neg =>
    rw [decide_eq_false hj] at r9
    refine wp_seq (wp_cond r9 ?_)
    refine wp_exit ?_
    have e8 : j = 8 := by omega
    subst e8
    simp only [Exit.then, Exit.inBlock, if_true]
    refine wp_seq (hs.wp fns0 prims0 mixed0 (by kernel_rfl) (st_r10 _ _ _ k0 k1) fun x f n L ι σ a W1 ho hs _ => ?_)
    cases x with
    | exit j => exact ho.elim
    | ret => exact ho.elim
    | normal =>
    obtain ⟨k0, k1, rfl⟩ := ho
    rw [cur_end] at hs
    refine wp_seq (hs.wp fns0 prims0 mixed0 (by kernel_rfl) (st_r11 _ _ _ k0 k1) fun x f n L ι σ a W1 ho hs _ => ?_)
    cases x with
    | exit j => exact ho.elim
    | ret => exact ho.elim
    | normal =>
    obtain ⟨k0, rfl⟩ := ho
    refine wp_ret ?_
    have hv : RS 35 f [(1, Blk.sc .var 133 (ia startF)), (0, Blk.sc .var 133 (ia (ovA (fun _ => 0) 0 133 startF)))] [.cell 0 true 133] [.agg 133 (ia (ovA (fun _ => 0) 0 133 startF))] := RS_cell k0 rfl (.tail _ (.head _)) RS_nil
    have hr : resOf (E 35 f) σ [.cell 0 true 133] = some (.agg 133 (ia (ovA (fun _ => 0) 0 133 startF))) := by
      unfold resOf
      rw [resL_RS hs.hp hv]
    obtain ⟨v, hv1, hv2⟩ := results_sound (fn := Try.f77) hs.env hs.post.rel (by kernel_rfl) hr
    refine ⟨hs.defers, v, hv2, v, rfl, ?_, _, _, hs.post⟩
    rw [show ovA (fun _ => 0) 0 133 startF = startF from ovA_whole fun i hi => by
      rw [← cur_end]
      unfold ov
      rw [show Nat.beq i 129 = false from Bool.eq_false_iff.2 fun e => by have := Nat.eq_of_beq_eq_true e; omega, cond_false]
      unfold curF
      rw [if_neg (by omega), emptyF_hi i hi]] at hv1
    simpa only [VR] using hv1
  rw [decide_eq_true hj] at r9
  have hj8 : j < 8 := by omega
  refine wp_seq (wp_cond r9 (wp_skip ?_))
  refine wp_seq (wp_block ?_)
  refine wp_seq (hs.wp fns0 prims0 mixed0 (by kernel_rfl) (st_r4 _ _ _ hj8 _ (hP j hj8) _ _ k0 k1 k7 k8) fun x f n L ι σ a W1 ho hs _ => ?_)
  cases x with
  | exit j => exact ho.elim
  | ret => exact ho.elim
  | normal =>
  obtain ⟨k0, k1, k7, k8, k2, k3, rfl⟩ := ho
  refine wp_seq (wp_region_list ?_)
  refine hs.listN 12 run0 (by kernel_rfl) (st_r5 _ _ _ _ _ _ k0 k1 k7 k8 k2 k3) fun f n L ι σ a W1 ho hs _ => ?_
  obtain ⟨k0, k1, k7, k8, k2, k3, k19, rfl⟩ := ho
  obtain ⟨bm, es, ck, hm19, hMR, hst, hbm, hs⟩ := hs.mapOut rfl .here (t := 19) (by decide) k19
  obtain ⟨hEnt, hAll⟩ := ent_of hj8 hMR
  refine hand_op rfl (exec_range (a := a) (x := .tmp 19) rfl (kt := 3) (et := 25) (by kernel_rfl) hm19 hbm.obj) ?_
  obtain ⟨ι2, hι2, hp2, hit, hs2⟩ := hs.iter (.mapIter (some bm) ck #[] ck)
  have hbm2 := hbm.go hs.dom hp2
  have hs3 := (hs2.sub (.cons _ (List.Sublist.refl _))).set 20 (x := .ptr n 0 0) (v := .pointer (some ⟨W1.heap.size, 0, none⟩)) ⟨_, hι2, Nat.le_refl _, rfl⟩
  show Code.wp _ (Code.block 2 (Code.loop _)) _ _ _
  refine wp_block (wp_loop_by (J1 W j P) (fun k' a' W' hJ => ?_) (k := (Go.leftOf es #[]).size) ⟨fun _ => false, _, bm, ck, n, #[], es, upd f 20 (.ptr n 0 0), _, ι2, _, rfl, hEnt, hAll, hst, by simp, hι2, hit, hbm2, k0, k1, k7, k8, k2, rfl, hs3⟩)
  clear hs hs2 hs3 hbm hbm2 hit hι2 hp2 hm19 hMR hst hAll hEnt k0 k1 k7 k8 k2 k3 k19
  obtain ⟨D, r, bm, ck, bi, seen, es, f, n, ι, σ, hk', hEnt, hAll, hst, hS, hι, hit, hbm, k0, k1, k7, k8, k2, k20, hs⟩ := hJ
  refine wp_seq (wp_region_list ?_)
  have r20 := hs.getP (t := 20) rfl k20 hι
  rcases hs.next (P := Try.prog) hit hbm hst (o := { dst := some 21, op := Op.next (Operand.tmp 20) false, type := 0, pos := "board.go:23", after := #[], guard := none }) (x := .tmp 20) rfl r20 with ⟨h0, h1⟩ | ⟨e, he, W2, h1, hit, hbm, hgo⟩
  · refine hand_op rfl h1 ?_
    have hs4 := hs.set 21 (x := .tup [.s (.bool false)]) (v := .tuple #[.bool false]) (by simp [VR, VRL, S.val])
    refine hs4.listN 1 run0 (by kernel_rfl) (is := [⟨some 22, none, .p (.ext (.t 21) 0)⟩]) (K := fun f n L => f 0 = .ptr 0 0 133 ∧ f 1 = .ptr 1 0 133 ∧ f 7 = .agg 8 (ia P) ∧ f 8 = .s (.int .i64 (j : Int)) ∧ f 22 = .s (.bool false) ∧ L = [(1, .sc .var 133 (ia (curF j D))), (0, .sc .var 133 (ia fun _ => 0))]) ?_ fun f n L ι σ a W1 ho hs _ => ?_
    · refine WO_ext (v := .s (.bool _)) rfl rfl ?_
      refine WO_nil ?_
      exact ⟨k0, k1, k7, k8, rfl, rfl⟩
    obtain ⟨k0, k1, k7, k8, k22, rfl⟩ := ho
    have r22 := hs.getS (t := 22) rfl k22
    show Code.wp _ (Code.seq _ _) _ _ _
    refine wp_seq (wp_cond r22 (wp_exit ?_))
    simp only [Exit.then, Exit.inBlock, if_true]
    have hD : ∀ k : Nat, (k = 0 ∨ k = 1 ∨ k = 6 ∨ k = 7) → D k = true := fun k hk => by
      obtain ⟨e, he, hke⟩ := hAll k hk
      exact hS e he (left_none h0 he) k hke
    rw [cur_next j D (hD 0 (by simp)) (hD 1 (by simp)) (hD 6 (by simp)) (hD 7 (by simp))] at hs
    refine hs.wp fns0 prims0 mixed0 (by kernel_rfl) (st_r9 _ _ _ hj8 _ _ k0 k1 k7 k8) fun x f n L ι σ a W1 ho hs _ => ?_
    cases x with
    | exit j => exact ho.elim
    | ret => exact ho.elim
    | normal =>
    obtain ⟨k0, k1, k7, k8, rfl⟩ := ho
    exact ⟨k - 1, by omega, j + 1, P, f, n, ι, σ, by omega, hP, k0, k1, k7, k8, hs⟩
  · have hm := (left_iff.1 he).1
    obtain ⟨c, Q, hc, hkey, hQ, hval⟩ := hEnt e hm
    have hc8 : c < 8 := by omega
    refine hand_op rfl h1 ?_
    have hs4 := hgo (a'.put (some 21) (.tuple #[.bool true, e.key, e.val])) (upd f 21 (.tup [.s (.bool true), .s (.int .i64 (c : Int)), .agg 2 (ia Q)])) (hs.put (some 21) ⟨[.bool true, e.key, e.val], rfl, _, _, rfl, rfl, _, _, rfl, hkey, _, _, rfl, hval _, rfl⟩) rfl
    refine hs4.listN 1 run0 (by kernel_rfl) (is := [⟨some 22, none, .p (.ext (.t 21) 0)⟩]) (K := fun f n L => f 0 = .ptr 0 0 133 ∧ f 1 = .ptr 1 0 133 ∧ f 7 = .agg 8 (ia P) ∧ f 8 = .s (.int .i64 (j : Int)) ∧ f 2 = .s (.int .i64 (j : Int)) ∧ f 20 = .ptr bi 0 0 ∧ f 22 = .s (.bool true) ∧ L = [(1, .sc .var 133 (ia (curF j D))), (0, .sc .var 133 (ia fun _ => 0))]) ?_ fun f n L ι1 σ1 a W1 ho hs hp => ?_
    · refine WO_ext (v := .s (.bool _)) rfl rfl ?_
      refine WO_nil ?_
      exact ⟨k0, k1, k7, k8, k2, k20, rfl, rfl⟩
    obtain ⟨k0, k1, k7, k8, k2, k20, k22, rfl⟩ := ho
    have hι := hp.ext _ _ hι
    have hit := hit.go hs4.dom hp
    have hbm := hbm.go hs4.dom hp
    have r22 := hs.getS (t := 22) rfl k22
    show Code.wp _ (Code.seq _ _) _ _ _
    refine wp_seq (wp_cond r22 (wp_skip ?_))
    refine wp_block (wp_seq (wp_region_list ?_))
    have r20 := hs.getP (t := 20) rfl k20 hι
    refine hand_op rfl (exec_entry hit hbm hst hm (x := .tmp 20) rfl r20) ?_
    have hs5 := hs.set 23 (x := .tup [.s (.int .i64 (c : Int)), .agg 2 (ia Q)]) (v := .tuple #[e.key, e.val]) ⟨[e.key, e.val], rfl, _, _, rfl, hkey, _, _, rfl, hval _, rfl⟩
    refine hs5.listN 5 run0 (by kernel_rfl) (st_r7 (curF j D) P j bi c Q (upd f 23 (.tup [.s (.int .i64 (c : Int)), .agg 2 (ia Q)])) n k0 k1 k7 k8 k2 k20 rfl) fun f n L ι2 σ2 a W3 ho hs hp => ?_
    obtain ⟨k0, k1, k7, k8, k2, k20, k4, k5, rfl⟩ := ho
    have hι := hp.ext _ _ hι
    have hit := hit.go hs5.dom hp
    have hbm := hbm.go hs5.dom hp
    show Code.wp _ (Code.region _ _ _) _ _ _
    refine hs.wp fns0 prims0 mixed0 (by kernel_rfl) (st_r8 _ _ _ _ _ _ _ hj8 hc8 _ _ k0 k1 k7 k8 k2 k20 k4 k5) fun x f n L ι3 σ3 a W4 ho hs' hp => ?_
    cases x with
    | exit j => exact ho.elim
    | ret => exact ho.elim
    | normal =>
    obtain ⟨k0, k1, k7, k8, k2, k20, rfl⟩ := ho
    have hs6 := hs'.sub (.cons _ (List.Sublist.refl _))
    rw [cur_step j c D _ hj8 hc8 (fun i hi => by
      rw [← hQ i hi]
      have : i = 0 ∨ i = 1 := by omega
      rcases this with rfl | rfl <;> rfl)] at hs6
    refine ⟨_, by rw [← hk']; exact left_push he, _, r, bm, ck, bi, seen.push e.born, es, f, n, ι3, σ3, rfl, hEnt, hAll, hst, ?_, hp.ext _ _ hι, hit.go hs.dom hp, hbm.go hs.dom hp, k0, k1, k7, k8, k2, k20, hs6⟩
    intro e' he' hc' k hk
    rw [Array.contains_push] at hc'
    simp only [Bool.or_eq_true] at hc'
    rcases hc' with hc' | hc'
    · rw [hS e' he' hc' k hk]; rfl
    · have hb : e'.born = e.born := by simpa using hc'
      have := same_born hst he' hm hb
      subst this
      rw [hkey] at hk
      injection hk with _ hk
      have : c = k := by omega
      subst this
      simp
/-- The prim's word. -/
theorem start_ok {args : List V} {σ : Heap} {v : V} {σ' : Heap} (h : startPrim args σ = some (v, σ')) {ι : Inj} {W : World} {av : List Value} (hR : RelW ι σ W) (hv : VRL ι args av) :
    Calls Try.prog 77 av.toArray W fun e W' => ∃ ι' v', e = .returned v' ∧ VR ι' v v' ∧ Post ι σ W ι' σ' W' := by
  unfold startPrim at h
  split at h
  · injection h with h
    injection h with h1 h2
    subst h1; subst h2
    simp only [VRL] at hv
    subst hv
    refine (start_calls W).mono ?_
    rintro e W' ⟨v', rfl, hv', ι', σ', hp⟩
    have hf : ∀ c, c < W.heap.size → W'.heap[c]? = W.heap[c]? := fun c hc => hp.frame c hc fun b p hb _ => by cases hb
    exact ⟨ι, v', rfl, by simpa only [VR] using hv', (QPost.post ⟨hp.same, .refl ι, hR.other hp.same.size fun b p hb _ => hf _ (hR.lt b p hb), ⟨[], by simp⟩, hf, fun b p hb hn => by rw [hb] at hn; cases hn⟩)⟩
  · cases h
theorem primsOK : PrimsOK Try.prog AM := by
  intro f pf hpf args σ v σ' h
  have hb : primF f = some pf := hpf
  unfold primF at hb
  cases hf : Nat.beq f 85 with
  | false =>
    rw [hf] at hb
    cases hf2 : Nat.beq f 77 with
    | false => rw [hf2] at hb; cases hb
    | true =>
      rw [hf2] at hb
      injection hb with hb
      subst hb
      have := Nat.eq_of_beq_eq_true hf2
      subst this
      exact ⟨⟨_, Try.func77, by kernel_rfl, by decide⟩, fun ι W av hR _ hv => start_ok h hR hv⟩
  | true =>
    rw [hf] at hb
    injection hb with hb
    subst hb
    have := Nat.eq_of_beq_eq_true hf
    subst this
    exact ⟨⟨_, Try.func85, by kernel_rfl, by decide⟩, fun ι W av hR _ hv => idx_ok h hR hv⟩
theorem runOK : RunOK Try.prog (Run AM) := run_ok fnsOK primsOK (by kernel_rfl)
end Go.Proofs.Ytjldefmcnppdoaa
