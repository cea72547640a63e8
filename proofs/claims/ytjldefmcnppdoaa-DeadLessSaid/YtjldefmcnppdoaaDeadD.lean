/- DeadLess: the walk. -/
import Derived.Test.YtjldefmcnppdoaaDeadC
import Derived.Test.YtjldefmcnppdoaaSquareA
namespace Go.Proofs.Ytjldefmcnppdoaa
open Go Go.Am
set_option linter.unusedSimpArgs false
set_option linter.unusedVariables false
/-- A sum over the first n squares. -/
def sumN (g : Nat → Int) : Nat → Int
  | 0 => 0
  | n + 1 => sumN g n + g n

theorem sumN_same {g h : Nat → Int} : ∀ (n : Nat), (∀ s, s < n → g s = h s) → sumN g n = sumN h n
  | 0, _ => rfl
  | n + 1, e => by
    show sumN g n + g n = sumN h n + h n
    rw [sumN_same n (fun s hs => e s (by omega)), e n (by omega)]

theorem sumN_one {g h : Nat → Int} {a : Nat} : ∀ (n : Nat), (∀ s, s < n → s ≠ a → g s = h s) → sumN g n = sumN h n + (if a < n then g a - h a else 0)
  | 0, _ => by simp [sumN]
  | n + 1, e => by
    show sumN g n + g n = sumN h n + h n + _
    rw [sumN_one n (fun s hs => e s (by omega))]
    by_cases q : n = a
    · subst q
      rw [if_neg (by omega), if_pos (by omega)]
      omega
    · have := e n (by omega) q
      by_cases r : a < n
      · rw [if_pos r, if_pos (by omega)]; omega
      · rw [if_neg r, if_neg (by omega)]; omega

theorem sumN_pos {g : Nat → Int} : ∀ (n : Nat), (∀ s, s < n → 0 ≤ g s) → 0 ≤ sumN g n
  | 0, _ => Int.le_refl _
  | n + 1, h => by
    have h1 := sumN_pos n (fun s hs => h s (by omega))
    have h2 := h n (by omega)
    show 0 ≤ sumN g n + g n
    omega

theorem sumN_ge {g : Nat → Int} {a : Nat} : ∀ (n : Nat), (∀ s, s < n → 0 ≤ g s) → a < n → g a ≤ sumN g n
  | 0, _, h => by omega
  | n + 1, h, ha => by
    have h2 := h n (by omega)
    show g a ≤ sumN g n + g n
    by_cases q : a = n
    · subst q
      have := sumN_pos a (fun s hs => h s (by omega))
      omega
    · have := sumN_ge (a := a) n (fun s hs => h s (by omega)) (by omega)
      omega

theorem sumN_acr (f : Nat → Int) : sumN (fun s => f (acr s)) 64 = sumN f 64 := by
  show ((((((((((((((((((((((((((((((((((((((((((((((((((((((((((((((((0 + f 56) + f 57) + f 58) + f 59) + f 60) + f 61) + f 62) + f 63) + f 48) + f 49) + f 50) + f 51) + f 52) + f 53) + f 54) + f 55) + f 40) + f 41) + f 42) + f 43) + f 44) + f 45) + f 46) + f 47) + f 32) + f 33) + f 34) + f 35) + f 36) + f 37) + f 38) + f 39) + f 24) + f 25) + f 26) + f 27) + f 28) + f 29) + f 30) + f 31) + f 16) + f 17) + f 18) + f 19) + f 20) + f 21) + f 22) + f 23) + f 8) + f 9) + f 10) + f 11) + f 12) + f 13) + f 14) + f 15) + f 0) + f 1) + f 2) + f 3) + f 4) + f 5) + f 6) + f 7) = ((((((((((((((((((((((((((((((((((((((((((((((((((((((((((((((((0 + f 0) + f 1) + f 2) + f 3) + f 4) + f 5) + f 6) + f 7) + f 8) + f 9) + f 10) + f 11) + f 12) + f 13) + f 14) + f 15) + f 16) + f 17) + f 18) + f 19) + f 20) + f 21) + f 22) + f 23) + f 24) + f 25) + f 26) + f 27) + f 28) + f 29) + f 30) + f 31) + f 32) + f 33) + f 34) + f 35) + f 36) + f 37) + f 38) + f 39) + f 40) + f 41) + f 42) + f 43) + f 44) + f 45) + f 46) + f 47) + f 48) + f 49) + f 50) + f 51) + f 52) + f 53) + f 54) + f 55) + f 56) + f 57) + f 58) + f 59) + f 60) + f 61) + f 62) + f 63)
  omega

/-- What one piece stands for. -/
def heavyOf (k : Int) : Int := if k = 0 ∨ k = 6 ∨ k = 2 ∨ k = 3 then 0 else 1
def knightOf (k : Int) : Int := if k = 2 then 1 else 0
def darkOf (s : Nat) (k : Int) : Int := if k = 3 ∧ ((s : Int) % 8 + (s : Int) / 8) % 2 = 0 then 1 else 0
def lightOf (s : Nat) (k : Int) : Int := if k = 3 ∧ ((s : Int) % 8 + (s : Int) / 8) % 2 ≠ 0 then 1 else 0

theorem putM_is (k : Int) (d : Bool) (P : Nat → Int) : putM k d P 0 = P 0 + heavyOf k ∧ putM k d P 1 = P 1 + knightOf k ∧ putM k d P 2 = P 2 + (if k = 3 ∧ d = true then 1 else 0) ∧ putM k d P 3 = P 3 + (if k = 3 ∧ d = false then 1 else 0) := by
  have e0 : ∀ x, ov P 0 x 0 = x ∧ ov P 0 x 1 = P 1 ∧ ov P 0 x 2 = P 2 ∧ ov P 0 x 3 = P 3 := fun x => ⟨rfl, rfl, rfl, rfl⟩
  have e1 : ∀ x, ov P 1 x 0 = P 0 ∧ ov P 1 x 1 = x ∧ ov P 1 x 2 = P 2 ∧ ov P 1 x 3 = P 3 := fun x => ⟨rfl, rfl, rfl, rfl⟩
  have e2 : ∀ x, ov P 2 x 0 = P 0 ∧ ov P 2 x 1 = P 1 ∧ ov P 2 x 2 = x ∧ ov P 2 x 3 = P 3 := fun x => ⟨rfl, rfl, rfl, rfl⟩
  have e3 : ∀ x, ov P 3 x 0 = P 0 ∧ ov P 3 x 1 = P 1 ∧ ov P 3 x 2 = P 2 ∧ ov P 3 x 3 = x := fun x => ⟨rfl, rfl, rfl, rfl⟩
  unfold heavyOf knightOf
  by_cases h0 : k = 0 ∨ k = 6
  · rw [show putM k d P = P from if_pos h0, if_pos (by omega), if_neg (by omega), if_neg (by omega), if_neg (by omega)]
    omega
  · by_cases h2 : k = 2
    · rw [show putM k d P = ov P 1 (P 1 + 1) from by unfold putM; rw [if_neg h0, if_pos h2], if_pos (by omega), if_pos h2, if_neg (by omega), if_neg (by omega)]
      have := e1 (P 1 + 1); omega
    · by_cases h3 : k = 3
      · cases d with
        | true =>
          rw [show putM k true P = ov P 2 (P 2 + 1) from by unfold putM; rw [if_neg h0, if_neg h2, if_neg (by omega), if_pos rfl], if_pos (by omega), if_neg h2, if_pos ⟨h3, rfl⟩, if_neg (fun h => nomatch h.2)]
          have := e2 (P 2 + 1); omega
        | false =>
          rw [show putM k false P = ov P 3 (P 3 + 1) from by unfold putM; rw [if_neg h0, if_neg h2, if_neg (by omega), if_neg (fun h => nomatch h)], if_pos (by omega), if_neg h2, if_neg (fun h => nomatch h.2), if_pos ⟨h3, rfl⟩]
          have := e3 (P 3 + 1); omega
      · rw [show putM k d P = ov P 0 (P 0 + 1) from by unfold putM; rw [if_neg h0, if_neg h2, if_pos h3], if_neg (by omega), if_neg h2, if_neg (by omega), if_neg (by omega)]
        have := e0 (P 0 + 1); omega

theorem ofM_sum (P : Nat → Int) : ∀ n, ofM P n 0 = sumN (fun s => heavyOf (P (s * 2))) n ∧ ofM P n 1 = sumN (fun s => knightOf (P (s * 2))) n ∧ ofM P n 2 = sumN (fun s => darkOf s (P (s * 2))) n ∧ ofM P n 3 = sumN (fun s => lightOf s (P (s * 2))) n
  | 0 => ⟨rfl, rfl, rfl, rfl⟩
  | n + 1 => by
    have ⟨h0, h1, h2, h3⟩ := ofM_sum P n
    have ⟨g0, g1, g2, g3⟩ := putM_is (P (n * 2)) (((n : Int) % 8 + (n : Int) / 8) % 2 == 0) (ofM P n)
    have e : ofM P (n + 1) = putM (P (n * 2)) (((n : Int) % 8 + (n : Int) / 8) % 2 == 0) (ofM P n) := rfl
    rw [e, g0, g1, g2, g3, h0, h1, h2, h3]
    refine ⟨rfl, rfl, ?_, ?_⟩
    · show _ = sumN _ n + darkOf n (P (n * 2))
      unfold darkOf
      simp only [beq_iff_eq]
    · show _ = sumN _ n + lightOf n (P (n * 2))
      unfold lightOf
      simp only [beq_eq_false_iff_ne, ne_eq]

theorem acr_dark : ∀ s : Nat, s < 64 → ((((acr s : Nat) : Int) % 8 + ((acr s : Nat) : Int) / 8) % 2 = 0 ↔ ¬ ((s : Int) % 8 + (s : Int) / 8) % 2 = 0) := by decide +kernel

/-- Turned, the same stand; the bishops' colours change. -/
theorem ofM_turn {P Q : Nat → Int} (h : Turned P Q 64) : ofM Q 64 0 = ofM P 64 0 ∧ ofM Q 64 1 = ofM P 64 1 ∧ ofM Q 64 2 = ofM P 64 3 ∧ ofM Q 64 3 = ofM P 64 2 := by
  have ⟨p0, p1, p2, p3⟩ := ofM_sum P 64
  have ⟨q0, q1, q2, q3⟩ := ofM_sum Q 64
  rw [p0, p1, p2, p3, q0, q1, q2, q3, ← sumN_acr (fun s => heavyOf (Q (s * 2))), ← sumN_acr (fun s => knightOf (Q (s * 2))), ← sumN_acr (fun s => darkOf s (Q (s * 2))), ← sumN_acr (fun s => lightOf s (Q (s * 2)))]
  refine ⟨sumN_same 64 fun s hs => ?_, sumN_same 64 fun s hs => ?_, sumN_same 64 fun s hs => ?_, sumN_same 64 fun s hs => ?_⟩
  · show heavyOf (Q (acr s * 2)) = _
    rw [(h s hs).1]
  · show knightOf (Q (acr s * 2)) = _
    rw [(h s hs).1]
  · show darkOf (acr s) (Q (acr s * 2)) = lightOf s (P (s * 2))
    rw [(h s hs).1]
    unfold darkOf lightOf
    have hd := acr_dark s hs
    by_cases k : P (s * 2) = 3 ∧ ¬ ((s : Int) % 8 + (s : Int) / 8) % 2 = 0
    · rw [if_pos k, if_pos ⟨k.1, hd.2 k.2⟩]
    · rw [if_neg k, if_neg fun q => k ⟨q.1, hd.1 q.2⟩]
  · show lightOf (acr s) (Q (acr s * 2)) = darkOf s (P (s * 2))
    rw [(h s hs).1]
    unfold darkOf lightOf
    have hd := acr_dark s hs
    by_cases k : P (s * 2) = 3 ∧ ((s : Int) % 8 + (s : Int) / 8) % 2 = 0
    · rw [if_pos k, if_pos ⟨k.1, fun e => hd.1 e k.2⟩]
    · rw [if_neg k, if_neg fun q => k ⟨q.1, Decidable.not_not.1 fun e => q.2 (hd.2 e)⟩]

theorem dead_turn {P Q : Nat → Int} (h : Turned P Q 64) : deadM (ofM Q 64) = deadM (ofM P 64) := by
  have ⟨h0, h1, h2, h3⟩ := ofM_turn h
  unfold deadM
  rw [h0, h1, h2, h3, Bool.eq_iff_iff, decide_eq_true_eq, decide_eq_true_eq]
  omega

/-- A square emptied: nothing is more. -/
theorem ofM_less {P R : Nat → Int} {a : Nat} (ha : a < 64) (h : ∀ s, s < 64 → s ≠ a → R (s * 2) = P (s * 2)) (h0 : R (a * 2) = 0) : ∀ i, i < 4 → ofM R 64 i ≤ ofM P 64 i := by
  have ⟨p0, p1, p2, p3⟩ := ofM_sum P 64
  have ⟨q0, q1, q2, q3⟩ := ofM_sum R 64
  have ge0 : 0 ≤ heavyOf (P (a * 2)) := by unfold heavyOf; split <;> omega
  have ge1 : 0 ≤ knightOf (P (a * 2)) := by unfold knightOf; split <;> omega
  have ge2 : 0 ≤ darkOf a (P (a * 2)) := by unfold darkOf; split <;> omega
  have ge3 : 0 ≤ lightOf a (P (a * 2)) := by unfold lightOf; split <;> omega
  have z0 : heavyOf 0 = 0 := rfl
  have z1 : knightOf 0 = 0 := rfl
  have z2 : darkOf a 0 = 0 := if_neg (by omega)
  have z3 : lightOf a 0 = 0 := if_neg (by omega)
  intro i hi
  have hc : i = 0 ∨ i = 1 ∨ i = 2 ∨ i = 3 := by omega
  rcases hc with rfl | rfl | rfl | rfl
  · rw [p0, q0, sumN_one (h := fun s => heavyOf (P (s * 2))) (a := a) 64 (fun s hs hn => by show heavyOf _ = heavyOf _; rw [h s hs hn]), if_pos ha, h0, z0]; omega
  · rw [p1, q1, sumN_one (h := fun s => knightOf (P (s * 2))) (a := a) 64 (fun s hs hn => by show knightOf _ = knightOf _; rw [h s hs hn]), if_pos ha, h0, z1]; omega
  · rw [p2, q2, sumN_one (h := fun s => darkOf s (P (s * 2))) (a := a) 64 (fun s hs hn => by show darkOf _ _ = darkOf _ _; rw [h s hs hn]), if_pos ha, h0, z2]; omega
  · rw [p3, q3, sumN_one (h := fun s => lightOf s (P (s * 2))) (a := a) 64 (fun s hs hn => by show lightOf _ _ = lightOf _ _; rw [h s hs hn]), if_pos ha, h0, z3]; omega

theorem dead_less {P R : Nat → Int} {a : Nat} (ha : a < 64) (h : ∀ s, s < 64 → s ≠ a → R (s * 2) = P (s * 2)) (h0 : R (a * 2) = 0) (hd : deadM (ofM P 64) = true) : deadM (ofM R 64) = true := by
  have l0 := ofM_less ha h h0 0 (by omega)
  have l1 := ofM_less ha h h0 1 (by omega)
  have l2 := ofM_less ha h h0 2 (by omega)
  have l3 := ofM_less ha h h0 3 (by omega)
  have b1 := ofM_bd R 64 1
  unfold deadM at hd ⊢
  rw [decide_eq_true_eq] at hd ⊢
  omega

theorem dead_heavy {R : Nat → Int} {a : Nat} (ha : a < 64) (h : heavyOf (R (a * 2)) = 1) : deadM (ofM R 64) = false := by
  have ⟨q0, _⟩ := ofM_sum R 64
  have := sumN_ge (g := fun s => heavyOf (R (s * 2))) (a := a) 64 (fun s _ => by show 0 ≤ heavyOf _; unfold heavyOf; split <;> omega) ha
  unfold deadM
  rw [decide_eq_false_iff_not, q0]
  simp only [h] at this
  omega

theorem Turn_ex (P : Nat → Int) : ∃ Q, TurnOf P Q ∧ RF AM 53 [.agg 133 (ia P)] (.agg 133 (ia Q)) := by
  obtain ⟨v, σ, _, _, h, _, Q, hQ, rfl⟩ := Turn_run P
  exact ⟨Q, hQ, σ, h⟩

theorem Is_are {R : Nat → Int} {b : Bool} (h : deadM (ofM R 64) = b) : RF AM 23 [.agg 133 (ia R)] (.s (.bool b)) := by
  subst h
  exact RF_of (Is_run R)

theorem pick3 {j : Int} (h : 0 ≤ j ∧ j < 3) : heavyOf (ov (ov (ov (fun _ => 0) (0 * 1) 1) (1 * 1) 4) (2 * 1) 5 (0 + j.toNat * 1)) = 1 := by
  have : j = 0 ∨ j = 1 ∨ j = 2 := by omega
  rcases this with rfl | rfl | rfl <;> rfl

theorem DeadLess_run (P : Nat → Int) (x y : Int) : WR AM 10 [.agg 133 (ia P), .s (.int .i64 x), .s (.int .i64 y)] [] (fun v _ _ => v = .s (.bool true)) := by
  refine WR_fn (a := a10) rfl rfl (entryF _) (entry_E (Nat.le_of_ble_eq_true rfl)) (m := 0) rfl ?_
  refine WP_seq ?_
  refine WP_ops ?_
  refine WO_boxA rfl ?_
  refine WO_mv rfl ?_
  refine WO_nil ?_
  refine WP_seq ?_
  refine WP_seq ?_
  refine WP_ops ?_
  refine WO_call0 rfl (awake_run) rfl rfl rfl ?_
  refine WO_un (r := .bool _) rfl rfl ?_
  refine WO_nil ?_
  refine WP_cond rfl (fun h => nomatch h) (fun _ => ?_)
  refine WP_skip ?_
  refine WP_seq ?_
  refine WP_ops ?_
  first | refine WO_ldA0 rfl rfl (.head _) ?_ | refine WO_ldAI rfl rfl (.head _) ?_
  refine WO_call0 rfl (RF_of (Is_run _)) rfl rfl rfl ?_
  refine WO_mv (v := .s (.bool _)) rfl ?_
  refine WO_nil ?_
  refine WP_seq ?_
  refine WP_seq ?_
  refine WP_ops ?_
  refine WO_mv (v := .s (.bool _)) rfl ?_
  first | refine WO_ldA0 rfl rfl (.head _) ?_ | refine WO_ldAI rfl rfl (.head _) ?_
  refine WO_call0 rfl (RF_of (Of_run _)) rfl rfl rfl ?_
  refine WO_call0 rfl (RF_of (Dead_run _ (cut_bd (by omega) fun j _ => by have := ofM_bd P 64 j; omega))) rfl rfl rfl ?_
  refine WO_eqbF rfl rfl (rfl) ?_
  refine WO_nil ?_
  refine WP_cond rfl (fun h => nomatch h) (fun _ => ?_)
  refine WP_skip ?_
  refine WP_seq ?_
  refine WP_ops ?_
  first | refine WO_ldA0 rfl rfl (.head _) ?_ | refine WO_ldAI rfl rfl (.head _) ?_
  obtain ⟨Q, hT, hE⟩ := Turn_ex P
  have hR : Turned P (ovA (fun _ => 0) 0 133 Q) 64 := turned_of (fun c hc => by rw [ovA_at (by omega), Nat.sub_zero]) hT.sq
  obtain ⟨e0, e1, e2, e3⟩ := ofM_turn hR
  have b0 := ofM_bd P 64 0
  have b1 := ofM_bd P 64 1
  have b2 := ofM_bd P 64 2
  have b3 := ofM_bd P 64 3
  refine WO_call0 rfl (hE) rfl rfl rfl ?_
  refine WO_allocI ?_
  refine WO_stA rfl rfl rfl rfl .here ?_
  refine WO_nil ?_
  refine WP_seq ?_
  refine WP_ops ?_
  first | refine WO_ldA0 rfl rfl (.tail _ (.head _)) ?_ | refine WO_ldAI rfl rfl (.tail _ (.head _)) ?_
  refine WO_callq0 rfl (RF_of (Of_run _)) rfl rfl rfl ?_
  first | refine WO_ldA0 rfl rfl (.head _) ?_ | refine WO_ldAI rfl rfl (.head _) ?_
  refine WO_callq0 rfl (RF_of (Of_run _)) rfl rfl rfl ?_
  refine WO_allocI ?_
  refine WO_allocI ?_
  refine WO_stA rfl rfl rfl rfl (.there .here) ?_
  refine WO_stA rfl rfl rfl rfl .here ?_
  refine WO_nil ?_
  refine WP_seq ?_
  refine WP_seq ?_
  refine WP_ops ?_
  first | refine WO_ldA0 rfl rfl (.tail _ (.tail _ (.head _))) ?_ | refine WO_ldAI rfl rfl (.tail _ (.tail _ (.head _))) ?_
  refine WO_call0 rfl (Is_are (dead_turn hR)) rfl rfl rfl ?_
  refine WO_mv (v := .s (.bool _)) rfl ?_
  refine WO_eqbF rfl rfl (rfl) ?_
  refine WO_mv (v := .s (.bool _)) rfl ?_
  refine WO_gt rfl ?_
  refine WO_fa (o' := 0) rfl rfl rfl ?_
  refine WO_gt rfl ?_
  refine WO_ldI (x := ofM P 64 0) rfl rfl (.tail _ (.head _)) rfl ?_
  refine WO_gt rfl ?_
  refine WO_fa (o' := 0) rfl rfl rfl ?_
  refine WO_gt rfl ?_
  refine WO_ldI (x := ofM (ovA (fun _ => 0) 0 133 Q) 64 0) rfl rfl (.head _) rfl ?_
  refine WO_gt rfl ?_
  refine WO_bin (r := .bool _) rfl rfl rfl ?_
  refine WO_pick (v := .s (.bool _)) rfl rfl ?_
  refine WO_mv (v := .s (.bool _)) rfl ?_
  refine WO_case (t := 39) rfl (fun h1 => ?_) (fun h1 => ?_)
  · try simp only [beq_iff_eq, bne_iff_ne, ne_eq, decide_eq_true_eq, decide_eq_false_iff_not, beq_eq_false_iff_ne, bne_eq_false_iff_eq, Decidable.not_not, Int.not_lt, Int.not_le, gt_iff_lt, ge_iff_le, Bool.not_eq_true, Bool.not_eq_false, Bool.not_eq_true', Bool.not_eq_false', cond_true, cond_false] at h1
    exfalso; omega
  · try simp only [beq_iff_eq, bne_iff_ne, ne_eq, decide_eq_true_eq, decide_eq_false_iff_not, beq_eq_false_iff_ne, bne_eq_false_iff_eq, Decidable.not_not, Int.not_lt, Int.not_le, gt_iff_lt, ge_iff_le, Bool.not_eq_true, Bool.not_eq_false, Bool.not_eq_true', Bool.not_eq_false', cond_true, cond_false] at h1
    refine WO_gt rfl ?_
    refine WO_fa (o' := 1) rfl rfl rfl ?_
    refine WO_gt rfl ?_
    refine WO_ldI (x := ofM P 64 1) rfl rfl (.tail _ (.head _)) rfl ?_
    refine WO_gt rfl ?_
    refine WO_fa (o' := 1) rfl rfl rfl ?_
    refine WO_gt rfl ?_
    refine WO_ldI (x := ofM (ovA (fun _ => 0) 0 133 Q) 64 1) rfl rfl (.head _) rfl ?_
    refine WO_gt rfl ?_
    refine WO_bin (r := .bool _) rfl rfl rfl ?_
    refine WO_pick (v := .s (.bool _)) rfl rfl ?_
    refine WO_mv (v := .s (.bool _)) rfl ?_
    refine WO_case (t := 46) rfl (fun h2 => ?_) (fun h2 => ?_)
    · try simp only [beq_iff_eq, bne_iff_ne, ne_eq, decide_eq_true_eq, decide_eq_false_iff_not, beq_eq_false_iff_ne, bne_eq_false_iff_eq, Decidable.not_not, Int.not_lt, Int.not_le, gt_iff_lt, ge_iff_le, Bool.not_eq_true, Bool.not_eq_false, Bool.not_eq_true', Bool.not_eq_false', cond_true, cond_false] at h2
      exfalso; omega
    · try simp only [beq_iff_eq, bne_iff_ne, ne_eq, decide_eq_true_eq, decide_eq_false_iff_not, beq_eq_false_iff_ne, bne_eq_false_iff_eq, Decidable.not_not, Int.not_lt, Int.not_le, gt_iff_lt, ge_iff_le, Bool.not_eq_true, Bool.not_eq_false, Bool.not_eq_true', Bool.not_eq_false', cond_true, cond_false] at h2
      refine WO_gt rfl ?_
      refine WO_fa (o' := 2) rfl rfl rfl ?_
      refine WO_gt rfl ?_
      refine WO_ldI (x := ofM P 64 2) rfl rfl (.tail _ (.head _)) rfl ?_
      refine WO_gt rfl ?_
      refine WO_fa (o' := 3) rfl rfl rfl ?_
      refine WO_gt rfl ?_
      refine WO_ldI (x := ofM P 64 3) rfl rfl (.tail _ (.head _)) rfl ?_
      refine WO_gt rfl ?_
      refine WO_add rfl rfl (by omega) ?_
      refine WO_gt rfl ?_
      refine WO_fa (o' := 2) rfl rfl rfl ?_
      refine WO_gt rfl ?_
      refine WO_ldI (x := ofM (ovA (fun _ => 0) 0 133 Q) 64 2) rfl rfl (.head _) rfl ?_
      refine WO_gt rfl ?_
      refine WO_fa (o' := 3) rfl rfl rfl ?_
      refine WO_gt rfl ?_
      refine WO_ldI (x := ofM (ovA (fun _ => 0) 0 133 Q) 64 3) rfl rfl (.head _) rfl ?_
      refine WO_gt rfl ?_
      refine WO_add rfl rfl (by omega) ?_
      refine WO_gt rfl ?_
      refine WO_bin (r := .bool _) rfl rfl rfl ?_
      refine WO_pick (v := .s (.bool _)) rfl rfl ?_
      refine WO_nil ?_
      refine WP_cond rfl (fun h3 => ?_) (fun h3 => ?_)
      · try simp only [beq_iff_eq, bne_iff_ne, ne_eq, decide_eq_true_eq, decide_eq_false_iff_not, beq_eq_false_iff_ne, bne_eq_false_iff_eq, Decidable.not_not, Int.not_lt, Int.not_le, gt_iff_lt, ge_iff_le, Bool.not_eq_true, Bool.not_eq_false, Bool.not_eq_true', Bool.not_eq_false', cond_true, cond_false] at h3
        exfalso; omega
      · try simp only [beq_iff_eq, bne_iff_ne, ne_eq, decide_eq_true_eq, decide_eq_false_iff_not, beq_eq_false_iff_ne, bne_eq_false_iff_eq, Decidable.not_not, Int.not_lt, Int.not_le, gt_iff_lt, ge_iff_le, Bool.not_eq_true, Bool.not_eq_false, Bool.not_eq_true', Bool.not_eq_false', cond_true, cond_false] at h3
        refine WP_skip ?_
        refine WP_seq ?_
        refine WP_ops ?_
        refine WO_mv (v := .s (.int _ _)) rfl ?_
        have hk := pickM_bd x (n := 64) (by omega)
        refine WO_call0 rfl (RF_of (Pick_run x 64 (by omega) (by omega))) rfl rfl rfl ?_
        obtain ⟨a, ha⟩ : ∃ a : Nat, pickM x 64 = a := ⟨(pickM x 64).toNat, by omega⟩
        rw [ha] at hk ⊢
        refine WO_mv (v := .s (.int _ _)) rfl ?_
        refine WO_nil ?_
        refine WP_seq ?_
        refine WP_ops ?_
        first | refine WO_ldA0 rfl rfl (.tail _ (.tail _ (.tail _ (.head _)))) ?_ | refine WO_ldAI rfl rfl (.tail _ (.tail _ (.tail _ (.head _)))) ?_
        refine WO_allocI ?_
        refine WO_stA rfl rfl rfl rfl .here ?_
        refine WO_nil ?_
        refine WP_seq ?_
        refine WP_ops ?_
        refine WO_mv (v := .s (.int _ _)) rfl ?_
        refine WO_buildI rfl .nil ?_
        refine WO_fa (o' := 0) rfl rfl rfl ?_
        refine WO_ixa rfl rfl rfl (by omega) ?_
        refine WO_stA rfl rfl rfl rfl .here ?_
        refine WO_nil ?_
        refine WP_seq ?_
        refine WP_seq ?_
        refine WP_ops ?_
        refine WO_mv (v := .s (.bool _)) rfl ?_
        refine WO_mv (v := .s (.bool _)) rfl ?_
        refine WO_case (t := 67) rfl (fun h4 => ?_) (fun h4 => ?_)
        · try simp only [beq_iff_eq, bne_iff_ne, ne_eq, decide_eq_true_eq, decide_eq_false_iff_not, beq_eq_false_iff_ne, bne_eq_false_iff_eq, Decidable.not_not, Int.not_lt, Int.not_le, gt_iff_lt, ge_iff_le, Bool.not_eq_true, Bool.not_eq_false, Bool.not_eq_true', Bool.not_eq_false', cond_true, cond_false] at h4
          refine WO_gt rfl ?_
          refine WO_mv (v := .s (.int _ _)) rfl ?_
          refine WO_gt rfl ?_
          refine WO_fa (o' := 0) rfl rfl rfl ?_
          refine WO_gt rfl ?_
          refine WO_ixa rfl rfl rfl (by omega) ?_
          refine WO_gt rfl ?_
          refine WO_fa rfl rfl rfl ?_
          refine WO_gt rfl ?_
          refine WO_ldI rfl rfl (.tail _ (.tail _ (.tail _ (.tail _ (.head _))))) rfl ?_
          refine WO_gt rfl ?_
          refine WO_bin (r := .bool _) rfl rfl rfl ?_
          refine WO_pick (v := .s (.bool _)) rfl rfl ?_
          refine WO_mv (v := .s (.bool _)) rfl ?_
          refine WO_case (t := 75) rfl (fun h5 => ?_) (fun h5 => ?_)
          · try simp only [beq_iff_eq, bne_iff_ne, ne_eq, decide_eq_true_eq, decide_eq_false_iff_not, beq_eq_false_iff_ne, bne_eq_false_iff_eq, Decidable.not_not, Int.not_lt, Int.not_le, gt_iff_lt, ge_iff_le, Bool.not_eq_true, Bool.not_eq_false, Bool.not_eq_true', Bool.not_eq_false', cond_true, cond_false] at h5
            refine WO_gt rfl ?_
            first | refine WO_ldA0 rfl rfl (.head _) ?_ | refine WO_ldAI rfl rfl (.head _) ?_
            refine WO_gt rfl ?_
            refine WO_call0 rfl (Is_are (dead_less (P := P) (a := a) (by omega) (fun s hs hn => by rw [ovA_out (by omega), ovA_at (by omega), Nat.sub_zero]) (by rw [ovA_at (by omega)]) (by assumption))) rfl rfl rfl ?_
            refine WO_gt rfl ?_
            refine WO_un (r := .bool _) rfl rfl ?_
            refine WO_pick (v := .s (.bool _)) rfl rfl ?_
            refine WO_nil ?_
            refine WP_cond rfl (fun h => nomatch h) (fun _ => ?_)
            refine WP_skip ?_
            refine WP_seq ?_
            refine WP_ops ?_
            refine WO_mv (v := .s (.int _ _)) rfl ?_
            refine WO_mkslS rfl (.one rfl (.one rfl (.one rfl .nil))) ?_
            refine WO_mv (v := .s (.int _ _)) rfl ?_
            have hj := pickM_bd y (n := 3) (by omega)
            refine WO_call0 rfl (RF_of (Pick_run y 3 (by omega) (by omega))) rfl rfl rfl ?_
            refine WO_ixs rfl rfl (by omega) ?_
            refine WO_ldI (x := _) rfl rfl (.head _) rfl ?_
            refine WO_buildI rfl (.one rfl .nil) ?_
            refine WO_fa (o' := 0) rfl rfl rfl ?_
            refine WO_ixa rfl rfl rfl (by omega) ?_
            refine WO_stA rfl rfl rfl rfl (.there .here) ?_
            refine WO_nil ?_
            refine WP_seq ?_
            refine WP_ops ?_
            first | refine WO_ldA0 rfl rfl (.tail _ (.head _)) ?_ | refine WO_ldAI rfl rfl (.tail _ (.head _)) ?_
            refine WO_call0 rfl (Is_are (dead_heavy (a := a) (by omega) (by rw [ovA_at (by omega), show a * 2 - (0 + ((a : Nat) : Int).toNat * 2) = 0 by omega]; exact pick3 hj))) rfl rfl rfl ?_
            refine WO_un (r := .bool _) rfl rfl ?_
            refine WO_mv (v := .s (.bool _)) rfl ?_
            refine WO_nil ?_
            refine WP_ret ?_
            refine ⟨_, RS_tmp (v := .s (.bool _)) rfl (RS_nil), ?_⟩
            rfl
          · try simp only [beq_iff_eq, bne_iff_ne, ne_eq, decide_eq_true_eq, decide_eq_false_iff_not, beq_eq_false_iff_ne, bne_eq_false_iff_eq, Decidable.not_not, Int.not_lt, Int.not_le, gt_iff_lt, ge_iff_le, Bool.not_eq_true, Bool.not_eq_false, Bool.not_eq_true', Bool.not_eq_false', cond_true, cond_false] at h5
            refine WO_gf rfl rfl ?_
            refine WO_gf rfl rfl ?_
            refine WO_gf rfl rfl ?_
            refine WO_pick (v := .s (.bool _)) rfl rfl ?_
            refine WO_nil ?_
            refine WP_cond rfl (fun h => nomatch h) (fun _ => ?_)
            refine WP_skip ?_
            refine WP_seq ?_
            refine WP_ops ?_
            refine WO_mv (v := .s (.int _ _)) rfl ?_
            refine WO_mkslS rfl (.one rfl (.one rfl (.one rfl .nil))) ?_
            refine WO_mv (v := .s (.int _ _)) rfl ?_
            have hj := pickM_bd y (n := 3) (by omega)
            refine WO_call0 rfl (RF_of (Pick_run y 3 (by omega) (by omega))) rfl rfl rfl ?_
            refine WO_ixs rfl rfl (by omega) ?_
            refine WO_ldI (x := _) rfl rfl (.head _) rfl ?_
            refine WO_buildI rfl (.one rfl .nil) ?_
            refine WO_fa (o' := 0) rfl rfl rfl ?_
            refine WO_ixa rfl rfl rfl (by omega) ?_
            refine WO_stA rfl rfl rfl rfl (.there .here) ?_
            refine WO_nil ?_
            refine WP_seq ?_
            refine WP_ops ?_
            first | refine WO_ldA0 rfl rfl (.tail _ (.head _)) ?_ | refine WO_ldAI rfl rfl (.tail _ (.head _)) ?_
            refine WO_call0 rfl (Is_are (dead_heavy (a := a) (by omega) (by rw [ovA_at (by omega), show a * 2 - (0 + ((a : Nat) : Int).toNat * 2) = 0 by omega]; exact pick3 hj))) rfl rfl rfl ?_
            refine WO_un (r := .bool _) rfl rfl ?_
            refine WO_mv (v := .s (.bool _)) rfl ?_
            refine WO_nil ?_
            refine WP_ret ?_
            refine ⟨_, RS_tmp (v := .s (.bool _)) rfl (RS_nil), ?_⟩
            rfl
        · try simp only [beq_iff_eq, bne_iff_ne, ne_eq, decide_eq_true_eq, decide_eq_false_iff_not, beq_eq_false_iff_ne, bne_eq_false_iff_eq, Decidable.not_not, Int.not_lt, Int.not_le, gt_iff_lt, ge_iff_le, Bool.not_eq_true, Bool.not_eq_false, Bool.not_eq_true', Bool.not_eq_false', cond_true, cond_false] at h4
          refine WO_gf rfl rfl ?_
          refine WO_gf rfl rfl ?_
          refine WO_gf rfl rfl ?_
          refine WO_gf rfl rfl ?_
          refine WO_gf rfl rfl ?_
          refine WO_gf rfl rfl ?_
          refine WO_pick (v := .s (.bool _)) rfl rfl ?_
          refine WO_mv (v := .s (.bool _)) rfl ?_
          refine WO_gf rfl rfl ?_
          refine WO_gf rfl rfl ?_
          refine WO_gf rfl rfl ?_
          refine WO_pick (v := .s (.bool _)) rfl rfl ?_
          refine WO_nil ?_
          refine WP_cond rfl (fun h => nomatch h) (fun _ => ?_)
          refine WP_skip ?_
          refine WP_seq ?_
          refine WP_ops ?_
          refine WO_mv (v := .s (.int _ _)) rfl ?_
          refine WO_mkslS rfl (.one rfl (.one rfl (.one rfl .nil))) ?_
          refine WO_mv (v := .s (.int _ _)) rfl ?_
          have hj := pickM_bd y (n := 3) (by omega)
          refine WO_call0 rfl (RF_of (Pick_run y 3 (by omega) (by omega))) rfl rfl rfl ?_
          refine WO_ixs rfl rfl (by omega) ?_
          refine WO_ldI (x := _) rfl rfl (.head _) rfl ?_
          refine WO_buildI rfl (.one rfl .nil) ?_
          refine WO_fa (o' := 0) rfl rfl rfl ?_
          refine WO_ixa rfl rfl rfl (by omega) ?_
          refine WO_stA rfl rfl rfl rfl (.there .here) ?_
          refine WO_nil ?_
          refine WP_seq ?_
          refine WP_ops ?_
          first | refine WO_ldA0 rfl rfl (.tail _ (.head _)) ?_ | refine WO_ldAI rfl rfl (.tail _ (.head _)) ?_
          refine WO_call0 rfl (Is_are (dead_heavy (a := a) (by omega) (by rw [ovA_at (by omega), show a * 2 - (0 + ((a : Nat) : Int).toNat * 2) = 0 by omega]; exact pick3 hj))) rfl rfl rfl ?_
          refine WO_un (r := .bool _) rfl rfl ?_
          refine WO_mv (v := .s (.bool _)) rfl ?_
          refine WO_nil ?_
          refine WP_ret ?_
          refine ⟨_, RS_tmp (v := .s (.bool _)) rfl (RS_nil), ?_⟩
          rfl
end Go.Proofs.Ytjldefmcnppdoaa
