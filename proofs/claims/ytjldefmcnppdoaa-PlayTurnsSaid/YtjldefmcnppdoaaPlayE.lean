/- The walks of the chapter play: many moves, and PlayTells. -/
import Derived.Test.YtjldefmcnppdoaaPlayD
import Derived.Test.YtjldefmcnppdoaaPlayK
namespace Go.Proofs.Ytjldefmcnppdoaa
open Go Go.Am
set_option linter.unusedSimpArgs false
set_option linter.unusedVariables false
theorem errM_same {P Q : Nat → Int} {a t b : Int} (h : ∀ i, i < 133 → P i = Q i) : errM P a t b = errM Q a t b := by
  unfold errM
  by_cases hs : (0 ≤ a ∧ a < 64) ∧ (0 ≤ t ∧ t < 64) ∧ a ≠ t
  · have hq : sqI a = 0 + a.toNat * 2 := rfl
    have hc : canM P a t b = canM Q a t b := by
      unfold canM
      rw [h (sqI a) (by omega), h (sqI a + 1) (by omega), h 128 (by omega)]
    rw [if_pos hs, if_pos hs, hc]
  · rw [if_neg hs, if_neg hs]
theorem moveM_same {P Q : Nat → Int} {a t b : Int} (h : ∀ i, i < 133 → P i = Q i) : moveM P a t b = moveM Q a t b := by
  unfold moveM
  rw [errM_same h]
  by_cases he : errM Q a t b = 0
  · have ⟨hs, _⟩ := errM_zero he
    have hq : sqI a = 0 + a.toNat * 2 := rfl
    rw [if_pos he, if_pos he, h (sqI a) (by omega), h (sqI a + 1) (by omega), show castM P = castM Q from by unfold castM; rw [h 129 (by omega)]]
    exact afterM_same hs.1 hs.2.1 fun i hi _ => h i hi
  · rw [if_neg he, if_neg he]

/-- The position behind n moves, and the error. -/
def mvP (P K : Nat → Int) : Nat → (Nat → Int) × Int
  | 0 => (P, 0)
  | n + 1 => if (mvP P K n).2 = 0 then (moveM (mvP P K n).1 (dp K (0 + (n : Int).toNat * 3) 0) (dp K (0 + (n : Int).toNat * 3) 1) (dp K (0 + (n : Int).toNat * 3) 2), errM (mvP P K n).1 (dp K (0 + (n : Int).toNat * 3) 0) (dp K (0 + (n : Int).toNat * 3) 1) (dp K (0 + (n : Int).toNat * 3) 2)) else (fun _ => 0, (mvP P K n).2)
def cutP (Q : Nat → Int) : Nat → Int := ovA (fun _ => 0) 0 133 Q
theorem cutP_same {P Q : Nat → Int} (h : ∀ i, i < 133 → P i = Q i) : cutP P = cutP Q := by
  funext i
  unfold cutP
  by_cases hi : i < 133
  · rw [ovA_at (by omega), ovA_at (by omega), Nat.sub_zero, h i hi]
  · rw [ovA_out (by omega), ovA_out (by omega)]
theorem mvP_err {P K : Nat → Int} {i : Nat} (h : (mvP P K i).2 ≠ 0) : ∀ k, (mvP P K (i + k)).2 = (mvP P K i).2 ∧ (k ≠ 0 → (mvP P K (i + k)).1 = fun _ => 0)
  | 0 => ⟨rfl, fun h => absurd rfl h⟩
  | k + 1 => by
    have ih := (mvP_err h k).1
    have : mvP P K (i + (k + 1)) = (fun _ => 0, (mvP P K (i + k)).2) := by
      show mvP P K (i + k + 1) = _
      rw [mvP, if_neg (by rw [ih]; exact h)]
    rw [this]
    exact ⟨ih, fun _ => rfl⟩
theorem mvP_step {P K J : Nat → Int} {i : Nat} (he : (mvP P K i).2 = 0) (hJ : ∀ c, c < 133 → J c = (mvP P K i).1 c) : mvP P K (i + 1) = (moveM J (dp K (0 + (i : Int).toNat * 3) 0) (dp K (0 + (i : Int).toNat * 3) 1) (dp K (0 + (i : Int).toNat * 3) 2), errM J (dp K (0 + (i : Int).toNat * 3) 0) (dp K (0 + (i : Int).toNat * 3) 1) (dp K (0 + (i : Int).toNat * 3) 2)) := by
  rw [mvP, if_pos he, moveM_same hJ, errM_same hJ]
theorem mvP_fail {P K J : Nat → Int} {i n : Nat} (hi : i < n) (he : (mvP P K i).2 = 0) (hJ : ∀ c, c < 133 → J c = (mvP P K i).1 c) (hf : errM J (dp K (0 + (i : Int).toNat * 3) 0) (dp K (0 + (i : Int).toNat * 3) 1) (dp K (0 + (i : Int).toNat * 3) 2) ≠ 0) :
    mvP P K n = (fun _ => 0, errM J (dp K (0 + (i : Int).toNat * 3) 0) (dp K (0 + (i : Int).toNat * 3) 1) (dp K (0 + (i : Int).toNat * 3) 2)) := by
  have hs := mvP_step he hJ
  have hne : (mvP P K (i + 1)).2 ≠ 0 := by rw [hs]; exact hf
  obtain ⟨k, rfl⟩ : ∃ k, n = i + 1 + k := ⟨n - (i + 1), by omega⟩
  have hk := mvP_err hne k
  have h2 : (mvP P K (i + 1 + k)).2 = errM J (dp K (0 + (i : Int).toNat * 3) 0) (dp K (0 + (i : Int).toNat * 3) 1) (dp K (0 + (i : Int).toNat * 3) 2) := by rw [hk.1, hs]
  have h1 : (mvP P K (i + 1 + k)).1 = fun _ => 0 := by
    by_cases h0 : k = 0
    · subst h0
      show (mvP P K (i + 1)).1 = _
      rw [hs, moveM, if_neg hf]
    · exact hk.2 h0
  exact Prod.ext h1 h2
theorem eqI_f {n : Nat} {P Q : Nat → Int} (h : ∀ i, i < n → P i = Q i) : (bif true then !(eqI n P Q) else eqI n P Q) = false := by
  rw [eqI_iff.2 h]; rfl
theorem neq_self (e : Int) : binS .neq (.int .i64 e) (.int .i64 e) = some (.bool false) := by
  show (if IntKind.i64 = IntKind.i64 then some (S.bool (e != e)) else none) = _
  simp
theorem Move_is {P m : Nat → Int} : RF AM 64 [.agg 133 (ia P), .agg 3 (ia m)] (.tup [.agg 133 (ia (moveM P (m 0) (m 1) (m 2))), .s (.int .i64 (errM P (m 0) (m 1) (m 2)))]) := RF_of (Move_walk P m)
theorem rMove_is {P m : Nat → Int} : RF AM 65 [.agg 133 (ia P), .agg 3 (ia m)] (.tup [.agg 133 (ia (moveM P (m 0) (m 1) (m 2))), .s (.int .i64 (errM P (m 0) (m 1) (m 2)))]) := RF_of (rMove_walk P m)

theorem Moves_walk {md : Md} {q : Nat} {c : Cp} (P K : Nat → Int) (n : Nat) (hn : n ≤ 200) : WR AM 62 [.agg 133 (ia P), .sl 0 0 n 3 c] [.sc md q (ia K)] (fun v _ L => v = .tup [.agg 133 (ia (cutP (mvP P K n).1)), .s (.int .i64 (mvP P K n).2)] ∧ (0, Blk.sc md q (ia K)) ∈ L) := by
 refine WR_fn (a := a62) rfl rfl (entryF _) (entry_E (Nat.le_of_ble_eq_true rfl)) (m := 1) rfl ?_
 refine WP_seq ?_
 refine WP_ops ?_
 refine WO_boxA rfl ?_
 refine WO_allocI ?_
 refine WO_mv rfl ?_
 refine WO_nil ?_
 refine WP_seq ?_
 refine WP_seq ?_
 refine WP_ops ?_
 refine WO_mv (v := .sl _ _ _ _ _) rfl ?_
 refine WO_len rfl ?_
 refine WO_mv rfl ?_
 refine WO_nil ?_
 refine WP_block ?_
 refine WP_sub (L' := [_, _, _]) (.cons_cons _ (.cons_cons _ (.cons_cons _ .slnil))) ?_
 refine WP_loop (fun m f _ L => ∃ (i : Nat) (J : Nat → Int), (i ≤ n) ∧ (m = n - i) ∧ (∀ c, c < 133 → J c = (mvP P K i).1 c) ∧ ((mvP P K i).2 = 0) ∧ (f 2 = .ptr 1 0 133) ∧ (f 4 = .ptr 2 0 133) ∧ (f 10 = .sl 0 0 n 3 c) ∧ (f 11 = .s (.int .i64 n)) ∧ (f 12 = .s (.int .i64 i)) ∧ (L = [(2, .sc .var 133 (ia fun _ => 0)), (1, .sc .var 133 (ia J)), (0, .sc md q (ia K))])) (fun m f nb L hI => ?_) (n) ⟨0, _, by omega, rfl, fun _ _ => rfl, rfl, rfl, rfl, rfl, rfl, rfl, rfl⟩
 obtain ⟨i, J, hi, hm, hJ, he, k2, k4, k10, k11, k12, rfl⟩ := hI
 refine WP_know (d := 2) (v := .ptr 1 0 133) k2 ?_
 refine WP_know (d := 4) (v := .ptr 2 0 133) k4 ?_
 refine WP_know (d := 10) (v := .sl 0 0 n 3 c) k10 ?_
 refine WP_know (d := 11) (v := .s (.int .i64 n)) k11 ?_
 refine WP_know (d := 12) (v := .s (.int .i64 i)) k12 ?_
 refine WP_seq ?_
 refine WP_ops ?_
 refine WO_bin (r := .bool _) rfl rfl rfl ?_
 refine WO_nil ?_
 refine WP_seq ?_
 refine WP_cond rfl (fun h1 => ?_) (fun h1 => ?_)
 ·try simp only [NM] at h1
  refine WP_skip ?_
  refine WP_seq ?_
  refine WP_block ?_
  refine WP_seq ?_
  refine WP_ops ?_
  refine WO_ixs rfl rfl (by omega) ?_
  first | refine WO_ldA0 rfl rfl (.tail _ (.tail _ (.head _))) ?_ | refine WO_ldAI rfl rfl (.tail _ (.tail _ (.head _))) ?_
  refine WO_allocI ?_
  refine WO_stA rfl rfl rfl rfl .here ?_
  refine WO_nil ?_
  refine WP_seq ?_
  refine WP_ops ?_
  first | refine WO_ldA0 rfl rfl (.tail _ (.tail _ (.head _))) ?_ | refine WO_ldAI rfl rfl (.tail _ (.tail _ (.head _))) ?_
  first | refine WO_ldA0 rfl rfl (.head _) ?_ | refine WO_ldAI rfl rfl (.head _) ?_
  refine WO_call0 rfl (Move_is) rfl rfl rfl ?_
  refine WO_mv (v := .tup _) rfl ?_
  refine WO_ext (v := .agg _ _) rfl rfl ?_
  refine WO_ext (v := .s (.int _ _)) rfl rfl ?_
  refine WO_allocI ?_
  refine WO_stA rfl rfl rfl rfl .here ?_
  refine WO_mv (v := .s (.int _ _)) rfl ?_
  refine WO_nil ?_
  refine WP_seq ?_
  refine WP_seq ?_
  refine WP_ops ?_
  refine WO_mv (v := .s (.int _ _)) rfl ?_
  refine WO_bin (r := .bool _) rfl rfl rfl ?_
  refine WO_nil ?_
  refine WP_cond rfl (fun h2 => ?_) (fun h2 => ?_)
  ·try simp only [NM] at h2
   refine WP_seq ?_
   refine WP_ops ?_
   refine WO_buildI rfl .nil ?_
   refine WO_mv (v := .s (.int _ _)) rfl ?_
   refine WO_stA rfl rfl rfl rfl (.there (.there .here)) ?_
   refine WO_mv (v := .s (.int _ _)) rfl ?_
   refine WO_nil ?_
   refine WP_ret ?_
   refine ⟨_, RS_cell rfl rfl (.tail _ (.tail _ (.head _))) (RS_tmp (v := .s (.int _ _)) rfl (RS_nil)), ?_⟩
   rw [mvP_fail (n := n) (by omega) he hJ (by assumption)]
   exact ⟨rfl, (.tail _ (.tail _ (.tail _ (.tail _ (.head _)))))⟩
  ·try simp only [NM] at h2
   refine WP_skip ?_
   refine WP_ops ?_
   first | refine WO_ldA0 rfl rfl (.head _) ?_ | refine WO_ldAI rfl rfl (.head _) ?_
   refine WO_stA rfl rfl rfl rfl (.there (.there (.there .here))) ?_
   refine WO_nil ?_
   refine WP_ops ?_
   refine WO_add rfl rfl (by omega) ?_
   refine WO_mv (v := .s (.int _ _)) rfl ?_
   refine WO_nil ?_
   have hs := mvP_step he hJ
   refine ⟨n - (i + 1), _, by omega, (.cons _ (.cons _ (.cons_cons _ (.cons_cons _ (.cons_cons _ .slnil))))), i + 1, _, by omega, rfl, ?_, ?_, rfl, rfl, rfl, rfl, rfl, rfl⟩
   · intro c hc; rw [hs]; rw [ovA_at (by omega), Nat.sub_zero]; exact ovA_at (by omega)
   · rw [hs]; assumption
 ·try simp only [NM] at h1
  refine WP_exit ?_
  refine xhere ?_
  refine WP_seq ?_
  refine WP_ops ?_
  first | refine WO_ldA0 rfl rfl (.tail _ (.head _)) ?_ | refine WO_ldAI rfl rfl (.tail _ (.head _)) ?_
  refine WO_stA rfl rfl rfl rfl .here ?_
  refine WO_mv rfl ?_
  refine WO_nil ?_
  refine WP_ret ?_
  refine ⟨_, RS_cell rfl rfl (.head _) (RS_tmp (v := .s (.int _ _)) rfl (RS_nil)), ?_⟩
  obtain rfl : i = n := by omega
  rw [← cutP_same hJ, he]
  exact ⟨rfl, (.tail _ (.tail _ (.head _)))⟩
theorem rMoves_walk {md : Md} {q : Nat} {c : Cp} (P K : Nat → Int) (n : Nat) (hn : n ≤ 200) : WR AM 63 [.agg 133 (ia P), .sl 0 0 n 3 c] [.sc md q (ia K)] (fun v _ L => v = .tup [.agg 133 (ia (cutP (mvP P K n).1)), .s (.int .i64 (mvP P K n).2)] ∧ (0, Blk.sc md q (ia K)) ∈ L) := by
 refine WR_fn (a := a63) rfl rfl (entryF _) (entry_E (Nat.le_of_ble_eq_true rfl)) (m := 1) rfl ?_
 refine WP_seq ?_
 refine WP_ops ?_
 refine WO_boxA rfl ?_
 refine WO_allocI ?_
 refine WO_mv rfl ?_
 refine WO_nil ?_
 refine WP_seq ?_
 refine WP_seq ?_
 refine WP_ops ?_
 refine WO_mv rfl ?_
 refine WO_nil ?_
 refine WP_block ?_
 refine WP_sub (L' := [_, _, _]) (.cons_cons _ (.cons_cons _ (.cons_cons _ .slnil))) ?_
 refine WP_loop (fun m f _ L => ∃ (i : Nat) (J : Nat → Int), (i ≤ n) ∧ (m = n - i) ∧ (∀ c, c < 133 → J c = (mvP P K i).1 c) ∧ ((mvP P K i).2 = 0) ∧ (f 2 = .ptr 1 0 133) ∧ (f 4 = .ptr 2 0 133) ∧ (f 1 = .sl 0 0 n 3 c) ∧ (f 6 = .s (.int .i64 i)) ∧ (L = [(2, .sc .var 133 (ia fun _ => 0)), (1, .sc .var 133 (ia J)), (0, .sc md q (ia K))])) (fun m f nb L hI => ?_) (n) ⟨0, _, by omega, rfl, fun _ _ => rfl, rfl, rfl, rfl, rfl, rfl, rfl⟩
 obtain ⟨i, J, hi, hm, hJ, he, k2, k4, k1, k6, rfl⟩ := hI
 refine WP_know (d := 2) (v := .ptr 1 0 133) k2 ?_
 refine WP_know (d := 4) (v := .ptr 2 0 133) k4 ?_
 refine WP_know (d := 1) (v := .sl 0 0 n 3 c) k1 ?_
 refine WP_know (d := 6) (v := .s (.int .i64 i)) k6 ?_
 refine WP_seq ?_
 refine WP_seq ?_
 refine WP_ops ?_
 refine WO_mv (v := .s (.int _ _)) rfl ?_
 refine WO_mv (v := .sl _ _ _ _ _) rfl ?_
 refine WO_len rfl ?_
 refine WO_bin (r := .bool _) rfl rfl rfl ?_
 refine WO_nil ?_
 refine WP_cond rfl (fun h3 => ?_) (fun h3 => ?_)
 ·try simp only [NM] at h3
  refine WP_skip ?_
  refine WP_seq ?_
  refine WP_block ?_
  refine WP_seq ?_
  refine WP_ops ?_
  first | refine WO_ldA0 rfl rfl (.tail _ (.head _)) ?_ | refine WO_ldAI rfl rfl (.tail _ (.head _)) ?_
  refine WO_mv (v := .sl _ _ _ _ _) rfl ?_
  refine WO_mv (v := .s (.int _ _)) rfl ?_
  refine WO_ixs rfl rfl (by omega) ?_
  first | refine WO_ldA0 rfl rfl (.tail _ (.tail _ (.head _))) ?_ | refine WO_ldAI rfl rfl (.tail _ (.tail _ (.head _))) ?_
  refine WO_callq0 rfl (rMove_is) rfl rfl rfl ?_
  refine WO_mv (v := .tup _) rfl ?_
  refine WO_ext (v := .agg _ _) rfl rfl ?_
  refine WO_ext (v := .s (.int _ _)) rfl rfl ?_
  refine WO_allocI ?_
  refine WO_stA rfl rfl rfl rfl .here ?_
  refine WO_mv (v := .s (.int _ _)) rfl ?_
  refine WO_nil ?_
  refine WP_seq ?_
  refine WP_seq ?_
  refine WP_ops ?_
  refine WO_mv (v := .s (.int _ _)) rfl ?_
  refine WO_bin (r := .bool _) rfl rfl rfl ?_
  refine WO_nil ?_
  refine WP_cond rfl (fun h4 => ?_) (fun h4 => ?_)
  ·try simp only [NM] at h4
   refine WP_seq ?_
   refine WP_ops ?_
   refine WO_buildI rfl .nil ?_
   refine WO_mv (v := .s (.int _ _)) rfl ?_
   refine WO_stA rfl rfl rfl rfl (.there .here) ?_
   refine WO_mv (v := .s (.int _ _)) rfl ?_
   refine WO_nil ?_
   refine WP_ret ?_
   refine ⟨_, RS_cell rfl rfl (.tail _ (.head _)) (RS_tmp (v := .s (.int _ _)) rfl (RS_nil)), ?_⟩
   rw [mvP_fail (n := n) (by omega) he hJ (by assumption)]
   exact ⟨rfl, (.tail _ (.tail _ (.tail _ (.head _))))⟩
  ·try simp only [NM] at h4
   refine WP_skip ?_
   refine WP_ops ?_
   first | refine WO_ldA0 rfl rfl (.head _) ?_ | refine WO_ldAI rfl rfl (.head _) ?_
   refine WO_stA rfl rfl rfl rfl (.there (.there .here)) ?_
   refine WO_nil ?_
   refine WP_ops ?_
   refine WO_mv (v := .s (.int _ _)) rfl ?_
   refine WO_add rfl rfl (by omega) ?_
   refine WO_mv (v := .s (.int _ _)) rfl ?_
   refine WO_nil ?_
   have hs := mvP_step he hJ
   refine ⟨n - (i + 1), _, by omega, (.cons _ (.cons_cons _ (.cons_cons _ (.cons_cons _ .slnil)))), i + 1, _, by omega, rfl, ?_, ?_, rfl, rfl, rfl, rfl, rfl⟩
   · intro c hc; rw [hs]; rw [ovA_at (by omega), Nat.sub_zero]; exact ovA_at (by omega)
   · rw [hs]; assumption
 ·try simp only [NM] at h3
  refine WP_exit ?_
  refine xhere ?_
  refine WP_seq ?_
  refine WP_ops ?_
  first | refine WO_ldA0 rfl rfl (.tail _ (.head _)) ?_ | refine WO_ldAI rfl rfl (.tail _ (.head _)) ?_
  refine WO_stA rfl rfl rfl rfl .here ?_
  refine WO_mv rfl ?_
  refine WO_nil ?_
  refine WP_ret ?_
  refine ⟨_, RS_cell rfl rfl (.head _) (RS_tmp (v := .s (.int _ _)) rfl (RS_nil)), ?_⟩
  obtain rfl : i = n := by omega
  rw [← cutP_same hJ, he]
  exact ⟨rfl, (.tail _ (.tail _ (.head _)))⟩
theorem rMoves_walkN (P : Nat → Int) : WR AM 63 [.agg 133 (ia P), .snil] [] (fun v _ L => v = .tup [.agg 133 (ia (cutP P)), .s (.int .i64 0)]) := by
 refine WR_fn (a := a63) rfl rfl (entryF _) (entry_E (Nat.le_of_ble_eq_true rfl)) (m := 0) rfl ?_
 refine WP_seq ?_
 refine WP_ops ?_
 refine WO_boxA rfl ?_
 refine WO_allocI ?_
 refine WO_mv rfl ?_
 refine WO_nil ?_
 refine WP_seq ?_
 refine WP_seq ?_
 refine WP_ops ?_
 refine WO_mv rfl ?_
 refine WO_nil ?_
 refine WP_block ?_
 refine WP_loop (fun m f _ L => f 2 = .ptr 0 0 133 ∧ f 4 = .ptr 1 0 133 ∧ f 1 = .snil ∧ f 6 = .s (.int .i64 0) ∧ L = [(1, .sc .var 133 (ia fun _ => 0)), (0, .sc .var 133 (ia P))]) (fun m f nb L hI => ?_) 0 ⟨rfl, rfl, rfl, rfl, rfl⟩
 obtain ⟨k2, k4, k1, k6, rfl⟩ := hI
 refine WP_know (d := 2) (v := .ptr 0 0 133) k2 ?_
 refine WP_know (d := 4) (v := .ptr 1 0 133) k4 ?_
 refine WP_know (d := 1) (v := .snil) k1 ?_
 refine WP_know (d := 6) (v := .s (.int .i64 0)) k6 ?_
 refine WP_seq ?_
 refine WP_seq ?_
 refine WP_ops ?_
 refine WO_mv (v := .s (.int _ _)) rfl ?_
 refine WO_mv (v := .snil) rfl ?_
 refine WO_lenN rfl ?_
 refine WO_bin (r := .bool _) rfl rfl rfl ?_
 refine WO_nil ?_
 refine WP_cond rfl (fun h5 => ?_) (fun h5 => ?_)
 ·try simp only [NM] at h5
  exfalso; omega
 ·try simp only [NM] at h5
  refine WP_exit ?_
  refine xhere ?_
  refine WP_seq ?_
  refine WP_ops ?_
  first | refine WO_ldA0 rfl rfl (.tail _ (.head _)) ?_ | refine WO_ldAI rfl rfl (.tail _ (.head _)) ?_
  refine WO_stA rfl rfl rfl rfl .here ?_
  refine WO_mv rfl ?_
  refine WO_nil ?_
  refine WP_ret ?_
  refine ⟨_, RS_cell rfl rfl (.head _) (RS_tmp (v := .s (.int _ _)) rfl (RS_nil)), ?_⟩
  rfl
theorem rMoves_walkZ (P : Nat → Int) : WR AM 63 [.agg 133 (ia P), .slz] [] (fun v _ L => v = .tup [.agg 133 (ia (cutP P)), .s (.int .i64 0)]) := by
 refine WR_fn (a := a63) rfl rfl (entryF _) (entry_E (Nat.le_of_ble_eq_true rfl)) (m := 0) rfl ?_
 refine WP_seq ?_
 refine WP_ops ?_
 refine WO_boxA rfl ?_
 refine WO_allocI ?_
 refine WO_mv rfl ?_
 refine WO_nil ?_
 refine WP_seq ?_
 refine WP_seq ?_
 refine WP_ops ?_
 refine WO_mv rfl ?_
 refine WO_nil ?_
 refine WP_block ?_
 refine WP_loop (fun m f _ L => f 2 = .ptr 0 0 133 ∧ f 4 = .ptr 1 0 133 ∧ f 1 = .slz ∧ f 6 = .s (.int .i64 0) ∧ L = [(1, .sc .var 133 (ia fun _ => 0)), (0, .sc .var 133 (ia P))]) (fun m f nb L hI => ?_) 0 ⟨rfl, rfl, rfl, rfl, rfl⟩
 obtain ⟨k2, k4, k1, k6, rfl⟩ := hI
 refine WP_know (d := 2) (v := .ptr 0 0 133) k2 ?_
 refine WP_know (d := 4) (v := .ptr 1 0 133) k4 ?_
 refine WP_know (d := 1) (v := .slz) k1 ?_
 refine WP_know (d := 6) (v := .s (.int .i64 0)) k6 ?_
 refine WP_seq ?_
 refine WP_seq ?_
 refine WP_ops ?_
 refine WO_mv (v := .s (.int _ _)) rfl ?_
 refine WO_mv (v := .slz) rfl ?_
 refine WO_lenZ rfl ?_
 refine WO_bin (r := .bool _) rfl rfl rfl ?_
 refine WO_nil ?_
 refine WP_cond rfl (fun h6 => ?_) (fun h6 => ?_)
 ·try simp only [NM] at h6
  exfalso; omega
 ·try simp only [NM] at h6
  refine WP_exit ?_
  refine xhere ?_
  refine WP_seq ?_
  refine WP_ops ?_
  first | refine WO_ldA0 rfl rfl (.tail _ (.head _)) ?_ | refine WO_ldAI rfl rfl (.tail _ (.head _)) ?_
  refine WO_stA rfl rfl rfl rfl .here ?_
  refine WO_mv rfl ?_
  refine WO_nil ?_
  refine WP_ret ?_
  refine ⟨_, RS_cell rfl rfl (.head _) (RS_tmp (v := .s (.int _ _)) rfl (RS_nil)), ?_⟩
  rfl
theorem PlayTells_run {md : Md} {q : Nat} {c : Cp} (P K : Nat → Int) (n : Nat) (h0 : 0 < n) : WR AM 13 [.agg 133 (ia P), .sl 0 0 n 3 c] [.sc md q (ia K)] (fun v _ L => v = .s (.bool true) ∧ (0, Blk.sc md q (ia K)) ∈ L) := by
 refine WR_fn (a := a13) rfl rfl (entryF _) (entry_E (Nat.le_of_ble_eq_true rfl)) (m := 1) rfl ?_
 refine WP_seq ?_
 refine WP_ops ?_
 refine WO_boxA rfl ?_
 refine WO_mv rfl ?_
 refine WO_nil ?_
 refine WP_seq ?_
 refine WP_seq ?_
 refine WP_ops ?_
 refine WO_mv (v := .sl _ _ _ _ _) rfl ?_
 refine WO_len rfl ?_
 refine WO_bin (r := .bool _) rfl rfl rfl ?_
 refine WO_nil ?_
 refine WP_cond rfl (fun h7 => ?_) (fun h7 => ?_)
 ·try simp only [NM] at h7
  refine WP_seq ?_
  refine WP_ops ?_
  refine WO_call0 rfl (playAwake_run) rfl rfl rfl ?_
  refine WO_mv (v := .s (.bool _)) rfl ?_
  refine WO_nil ?_
  refine WP_ret ?_
  refine ⟨_, RS_tmp (v := .s (.bool _)) rfl (RS_nil), ?_⟩
  exact ⟨rfl, (.tail _ (.head _))⟩
 ·try simp only [NM] at h7
  refine WP_skip ?_
  refine WP_seq ?_
  refine WP_ops ?_
  refine WO_mkslI rfl .nil ?_
  refine WO_mv (v := .sl _ _ _ _ _) rfl ?_
  refine WO_appendN rfl rfl (.head _) (.tail _ (.tail _ (.head _))) h0 (by simp [roomy]; omega) ?_
  rw [show (fun i => K (0 + i)) = K from funext fun i => by rw [Nat.zero_add]]
  refine WO_mv (v := .sl _ _ _ _ _) rfl ?_
  refine WO_nil ?_
  refine WP_seq ?_
  refine WP_ops ?_
  first | refine WO_ldA0 rfl rfl (.tail _ (.tail _ (.head _))) ?_ | refine WO_ldAI rfl rfl (.tail _ (.tail _ (.head _))) ?_
  refine WO_mv (v := .sl _ _ _ _ _) rfl ?_
  refine WO_call (rs := [3]) (Bs := [_]) rfl (RB_of1 (Moves_walk (md := .grow) (q := n * 3) (c := .whole) P K n (by omega))) rfl rfl (Nat.le_of_ble_eq_true rfl) (fun _ h => h) rfl ⟨(.head _), ⟨_, _, _, rfl⟩, trivial⟩ rfl rfl rfl (.cons .here .nil) ?_
  refine WO_mv (v := .tup _) rfl ?_
  refine WO_ext (v := .agg _ _) rfl rfl ?_
  refine WO_ext (v := .s (.int _ _)) rfl rfl ?_
  refine WO_allocI ?_
  refine WO_stA rfl rfl rfl rfl .here ?_
  refine WO_mv (v := .s (.int _ _)) rfl ?_
  refine WO_nil ?_
  refine WP_seq ?_
  refine WP_ops ?_
  first | refine WO_ldA0 rfl rfl (.tail _ (.tail _ (.tail _ (.head _)))) ?_ | refine WO_ldAI rfl rfl (.tail _ (.tail _ (.tail _ (.head _)))) ?_
  refine WO_mv (v := .sl _ _ _ _ _) rfl ?_
  refine WO_call (rs := [0]) (Bs := [_]) rfl (RB_of1 (rMoves_walk P K n (by omega))) rfl rfl (Nat.le_of_ble_eq_true rfl) (fun _ h => h) rfl ⟨(.tail _ (.tail _ (.tail _ (.tail _ (.head _))))), ⟨_, _, _, rfl⟩, trivial⟩ rfl rfl rfl (.cons (.there (.there (.there (.there .here)))) .nil) ?_
  refine WO_mv (v := .tup _) rfl ?_
  refine WO_ext (v := .agg _ _) rfl rfl ?_
  refine WO_ext (v := .s (.int _ _)) rfl rfl ?_
  refine WO_allocI ?_
  refine WO_stA rfl rfl rfl rfl .here ?_
  refine WO_mv (v := .s (.int _ _)) rfl ?_
  refine WO_nil ?_
  refine WP_seq ?_
  refine WP_seq ?_
  refine WP_ops ?_
  first | refine WO_ldA0 rfl rfl (.tail _ (.head _)) ?_ | refine WO_ldAI rfl rfl (.tail _ (.head _)) ?_
  first | refine WO_ldA0 rfl rfl (.head _) ?_ | refine WO_ldAI rfl rfl (.head _) ?_
  refine WO_eqaC rfl rfl (eqI_f (fun _ _ => rfl)) ?_
  refine WO_mv (v := .s (.bool _)) rfl ?_
  refine WO_gt rfl ?_
  refine WO_mv (v := .s (.int _ _)) rfl ?_
  refine WO_gt rfl ?_
  refine WO_mv (v := .s (.int _ _)) rfl ?_
  refine WO_gt rfl ?_
  refine WO_bin rfl rfl (neq_self _) ?_
  refine WO_pick (v := .s (.bool _)) rfl rfl ?_
  refine WO_nil ?_
  refine WP_cond rfl (fun h => nomatch h) (fun _ => ?_)
  refine WP_skip ?_
  refine WP_seq ?_
  refine WP_seq ?_
  refine WP_ops ?_
  refine WO_mv rfl ?_
  refine WO_nil ?_
  refine WP_block ?_
  refine WP_sub (L' := [_, _, _]) (.cons _ (.cons _ (.cons_cons _ (.cons _ (.cons_cons _ (.cons_cons _ .slnil)))))) ?_
  refine WP_loop (fun m f _ L => ∃ (i : Nat) (J : Nat → Int), (i ≤ n) ∧ (m = n - i) ∧ (f 1 = .sl 0 0 n 3 c) ∧ (f 2 = .ptr 1 0 133) ∧ (f 5 = .sl 3 0 n 3 .whole) ∧ (f 10 = .s (.int .i64 i)) ∧ (L = [(3, .sc .grow (n * 3) (ia K)), (1, .sc .var 133 (ia J)), (0, .sc md q (ia K))])) (fun m f nb L hI => ?_) (n) ⟨0, _, by omega, rfl, rfl, rfl, rfl, rfl, rfl⟩
  obtain ⟨i, J, hi, hm, k1, k2, k5, k10, rfl⟩ := hI
  refine WP_know (d := 1) (v := .sl 0 0 n 3 c) k1 ?_
  refine WP_know (d := 2) (v := .ptr 1 0 133) k2 ?_
  refine WP_know (d := 5) (v := .sl 3 0 n 3 .whole) k5 ?_
  refine WP_know (d := 10) (v := .s (.int .i64 i)) k10 ?_
  refine WP_seq ?_
  refine WP_seq ?_
  refine WP_ops ?_
  refine WO_mv (v := .s (.int _ _)) rfl ?_
  refine WO_mv (v := .sl _ _ _ _ _) rfl ?_
  refine WO_len rfl ?_
  refine WO_bin (r := .bool _) rfl rfl rfl ?_
  refine WO_nil ?_
  refine WP_cond rfl (fun h8 => ?_) (fun h8 => ?_)
  ·try simp only [NM] at h8
   refine WP_skip ?_
   refine WP_seq ?_
   refine WP_block ?_
   refine WP_seq ?_
   refine WP_ops ?_
   first | refine WO_ldA0 rfl rfl (.tail _ (.head _)) ?_ | refine WO_ldAI rfl rfl (.tail _ (.head _)) ?_
   refine WO_mv (v := .sl _ _ _ _ _) rfl ?_
   refine WO_mv (v := .s (.int _ _)) rfl ?_
   refine WO_ixs rfl rfl (by omega) ?_
   first | refine WO_ldA0 rfl rfl (.tail _ (.tail _ (.head _))) ?_ | refine WO_ldAI rfl rfl (.tail _ (.tail _ (.head _))) ?_
   refine WO_callq0 rfl (Move_is) rfl rfl rfl ?_
   refine WO_mv (v := .tup _) rfl ?_
   refine WO_ext (v := .agg _ _) rfl rfl ?_
   refine WO_ext (v := .s (.int _ _)) rfl rfl ?_
   refine WO_allocI ?_
   refine WO_stA rfl rfl rfl rfl .here ?_
   refine WO_mv (v := .s (.int _ _)) rfl ?_
   refine WO_nil ?_
   refine WP_seq ?_
   refine WP_ops ?_
   first | refine WO_ldA0 rfl rfl (.tail _ (.tail _ (.head _))) ?_ | refine WO_ldAI rfl rfl (.tail _ (.tail _ (.head _))) ?_
   refine WO_mv (v := .sl _ _ _ _ _) rfl ?_
   refine WO_mv (v := .s (.int _ _)) rfl ?_
   refine WO_ixs rfl rfl (by omega) ?_
   first | refine WO_ldA0 rfl rfl (.tail _ (.tail _ (.tail _ (.head _)))) ?_ | refine WO_ldAI rfl rfl (.tail _ (.tail _ (.tail _ (.head _)))) ?_
   refine WO_callq0 rfl (rMove_is) rfl rfl rfl ?_
   refine WO_mv (v := .tup _) rfl ?_
   refine WO_ext (v := .agg _ _) rfl rfl ?_
   refine WO_ext (v := .s (.int _ _)) rfl rfl ?_
   refine WO_allocI ?_
   refine WO_stA rfl rfl rfl rfl .here ?_
   refine WO_mv (v := .s (.int _ _)) rfl ?_
   refine WO_nil ?_
   refine WP_seq ?_
   refine WP_seq ?_
   refine WP_ops ?_
   first | refine WO_ldA0 rfl rfl (.tail _ (.head _)) ?_ | refine WO_ldAI rfl rfl (.tail _ (.head _)) ?_
   first | refine WO_ldA0 rfl rfl (.head _) ?_ | refine WO_ldAI rfl rfl (.head _) ?_
   refine WO_eqaC rfl rfl (eqI_f (fun _ _ => rfl)) ?_
   refine WO_mv (v := .s (.bool _)) rfl ?_
   refine WO_gt rfl ?_
   refine WO_mv (v := .s (.int _ _)) rfl ?_
   refine WO_gt rfl ?_
   refine WO_mv (v := .s (.int _ _)) rfl ?_
   refine WO_gt rfl ?_
   refine WO_bin rfl rfl (neq_self _) ?_
   refine WO_pick (v := .s (.bool _)) rfl rfl ?_
   refine WO_mv (v := .s (.bool _)) rfl ?_
   refine WO_gt rfl ?_
   refine WO_mv (v := .sl _ _ _ _ _) rfl ?_
   refine WO_gt rfl ?_
   refine WO_mv (v := .s (.int _ _)) rfl ?_
   refine WO_gt rfl ?_
   refine WO_ixs rfl rfl (by omega) ?_
   refine WO_gt rfl ?_
   first | refine WO_ldA0 rfl rfl (.tail _ (.tail _ (.head _))) ?_ | refine WO_ldAI rfl rfl (.tail _ (.tail _ (.head _))) ?_
   refine WO_gt rfl ?_
   refine WO_mv (v := .sl _ _ _ _ _) rfl ?_
   refine WO_gt rfl ?_
   refine WO_mv (v := .s (.int _ _)) rfl ?_
   refine WO_gt rfl ?_
   refine WO_ixs rfl rfl (by omega) ?_
   refine WO_gt rfl ?_
   first | refine WO_ldA0 rfl rfl (.tail _ (.tail _ (.tail _ (.tail _ (.head _))))) ?_ | refine WO_ldAI rfl rfl (.tail _ (.tail _ (.tail _ (.tail _ (.head _))))) ?_
   refine WO_gt rfl ?_
   refine WO_eqaC rfl rfl (eqI_f (fun _ _ => rfl)) ?_
   refine WO_pick (v := .s (.bool _)) rfl rfl ?_
   refine WO_mv (v := .s (.bool _)) rfl ?_
   refine WO_gt rfl ?_
   first | refine WO_ldA0 rfl rfl (.tail _ (.tail _ (.tail _ (.head _)))) ?_ | refine WO_ldAI rfl rfl (.tail _ (.tail _ (.tail _ (.head _)))) ?_
   refine WO_gt rfl ?_
   refine WO_mv (v := .sl _ _ _ _ _) rfl ?_
   refine WO_gt rfl ?_
   refine WO_mv (v := .s (.int _ _)) rfl ?_
   refine WO_gt rfl ?_
   refine WO_ixs rfl rfl (by omega) ?_
   refine WO_gt rfl ?_
   first | refine WO_ldA0 rfl rfl (.tail _ (.tail _ (.tail _ (.tail _ (.head _))))) ?_ | refine WO_ldAI rfl rfl (.tail _ (.tail _ (.tail _ (.tail _ (.head _))))) ?_
   refine WO_gt rfl ?_
   refine WO_callq0 rfl (RF_of (Takes_walk _ _)) rfl rfl rfl ?_
   refine WO_gt rfl ?_
   first | refine WO_ldA0 rfl rfl (.tail _ (.tail _ (.tail _ (.head _)))) ?_ | refine WO_ldAI rfl rfl (.tail _ (.tail _ (.tail _ (.head _)))) ?_
   refine WO_gt rfl ?_
   refine WO_mv (v := .sl _ _ _ _ _) rfl ?_
   refine WO_gt rfl ?_
   refine WO_mv (v := .s (.int _ _)) rfl ?_
   refine WO_gt rfl ?_
   refine WO_ixs rfl rfl (by omega) ?_
   refine WO_gt rfl ?_
   first | refine WO_ldA0 rfl rfl (.tail _ (.tail _ (.tail _ (.tail _ (.head _))))) ?_ | refine WO_ldAI rfl rfl (.tail _ (.tail _ (.tail _ (.tail _ (.head _))))) ?_
   refine WO_gt rfl ?_
   refine WO_call0 rfl (RF_of (rTakes_run _ _)) rfl rfl rfl ?_
   refine WO_gt rfl ?_
   refine WO_bin rfl rfl (neq_self _) ?_
   refine WO_pick (v := .s (.bool _)) rfl rfl ?_
   refine WO_nil ?_
   refine WP_cond rfl (fun h => nomatch h) (fun _ => ?_)
   refine WP_skip ?_
   refine WP_seq ?_
   refine WP_ops ?_
   refine WO_mv (v := .s (.int _ _)) rfl ?_
   refine WO_bin (r := .bool _) rfl rfl rfl ?_
   refine WO_nil ?_
   refine WP_cond rfl (fun h9 => ?_) (fun h9 => ?_)
   ·try simp only [NM] at h9
    refine WP_ops ?_
    first | refine WO_ldA0 rfl rfl (.tail _ (.head _)) ?_ | refine WO_ldAI rfl rfl (.tail _ (.head _)) ?_
    refine WO_stA rfl rfl rfl rfl (.there (.there (.there .here))) ?_
    refine WO_nil ?_
    refine WP_ops ?_
    refine WO_mv (v := .s (.int _ _)) rfl ?_
    refine WO_add rfl rfl (by omega) ?_
    refine WO_mv (v := .s (.int _ _)) rfl ?_
    refine WO_nil ?_
    exact ⟨n - (i + 1), _, by omega, (.cons _ (.cons _ (.cons_cons _ (.cons_cons _ (.cons_cons _ .slnil))))), i + 1, _, by omega, rfl, rfl, rfl, rfl, rfl, rfl⟩
   ·try simp only [NM] at h9
    refine WP_skip ?_
    refine WP_ops ?_
    refine WO_mv (v := .s (.int _ _)) rfl ?_
    refine WO_add rfl rfl (by omega) ?_
    refine WO_mv (v := .s (.int _ _)) rfl ?_
    refine WO_nil ?_
    exact ⟨n - (i + 1), _, by omega, (.cons _ (.cons _ (.cons_cons _ (.cons_cons _ (.cons_cons _ .slnil))))), i + 1, _, by omega, rfl, rfl, rfl, rfl, rfl, rfl⟩
  ·try simp only [NM] at h8
   refine WP_exit ?_
   refine xhere ?_
   refine WP_seq ?_
   refine WP_ops ?_
   refine WO_call0 rfl (playAwake_run) rfl rfl rfl ?_
   refine WO_mv (v := .s (.bool _)) rfl ?_
   refine WO_nil ?_
   refine WP_ret ?_
   refine ⟨_, RS_tmp (v := .s (.bool _)) rfl (RS_nil), ?_⟩
   exact ⟨rfl, (.tail _ (.tail _ (.head _)))⟩
theorem PlayTells_runN (P : Nat → Int) : WR AM 13 [.agg 133 (ia P), .snil] [] (fun v _ L => v = .s (.bool true)) := by
 refine WR_fn (a := a13) rfl rfl (entryF _) (entry_E (Nat.le_of_ble_eq_true rfl)) (m := 0) rfl ?_
 refine WP_seq ?_
 refine WP_ops ?_
 refine WO_boxA rfl ?_
 refine WO_mv rfl ?_
 refine WO_nil ?_
 refine WP_seq ?_
 refine WP_seq ?_
 refine WP_ops ?_
 refine WO_mv (v := .snil) rfl ?_
 refine WO_lenN rfl ?_
 refine WO_bin (r := .bool _) rfl rfl rfl ?_
 refine WO_nil ?_
 refine WP_cond rfl (fun h10 => ?_) (fun h10 => ?_)
 ·try simp only [NM] at h10
  exfalso; omega
 ·try simp only [NM] at h10
  refine WP_skip ?_
  refine WP_seq ?_
  refine WP_ops ?_
  refine WO_mkslI rfl .nil ?_
  refine WO_mv (v := .snil) rfl ?_
  refine WO_append0 rfl rfl rfl .here ?_
  refine WO_mv (v := .sl _ _ _ _ _) rfl ?_
  refine WO_nil ?_
  refine WP_seq ?_
  refine WP_ops ?_
  first | refine WO_ldA0 rfl rfl (.tail _ (.head _)) ?_ | refine WO_ldAI rfl rfl (.tail _ (.head _)) ?_
  refine WO_mv (v := .sl _ _ _ _ _) rfl ?_
  refine WO_call (rs := [1]) (Bs := [_]) rfl (RB_of1 (Moves_walk _ _ 0 (by omega))) rfl rfl (Nat.le_of_ble_eq_true rfl) (fun _ h => h) rfl ⟨(.head _), ⟨_, _, _, rfl⟩, trivial⟩ rfl rfl rfl (.cons .here .nil) ?_
  refine WO_mv (v := .tup _) rfl ?_
  refine WO_ext (v := .agg _ _) rfl rfl ?_
  refine WO_ext (v := .s (.int _ _)) rfl rfl ?_
  refine WO_allocI ?_
  refine WO_stA rfl rfl rfl rfl .here ?_
  refine WO_mv (v := .s (.int _ _)) rfl ?_
  refine WO_nil ?_
  refine WP_seq ?_
  refine WP_ops ?_
  first | refine WO_ldA0 rfl rfl (.tail _ (.tail _ (.head _))) ?_ | refine WO_ldAI rfl rfl (.tail _ (.tail _ (.head _))) ?_
  refine WO_mv (v := .snil) rfl ?_
  refine WO_call0 rfl (RF_of (rMoves_walkN P)) rfl rfl rfl ?_
  refine WO_mv (v := .tup _) rfl ?_
  refine WO_ext (v := .agg _ _) rfl rfl ?_
  refine WO_ext (v := .s (.int _ _)) rfl rfl ?_
  refine WO_allocI ?_
  refine WO_stA rfl rfl rfl rfl .here ?_
  refine WO_mv (v := .s (.int _ _)) rfl ?_
  refine WO_nil ?_
  refine WP_seq ?_
  refine WP_seq ?_
  refine WP_ops ?_
  first | refine WO_ldA0 rfl rfl (.tail _ (.head _)) ?_ | refine WO_ldAI rfl rfl (.tail _ (.head _)) ?_
  first | refine WO_ldA0 rfl rfl (.head _) ?_ | refine WO_ldAI rfl rfl (.head _) ?_
  refine WO_eqaC rfl rfl (eqI_f (fun _ _ => rfl)) ?_
  refine WO_mv (v := .s (.bool _)) rfl ?_
  refine WO_gt rfl ?_
  refine WO_mv (v := .s (.int _ _)) rfl ?_
  refine WO_gt rfl ?_
  refine WO_mv (v := .s (.int _ _)) rfl ?_
  refine WO_gt rfl ?_
  refine WO_bin rfl rfl (neq_self _) ?_
  refine WO_pick (v := .s (.bool _)) rfl rfl ?_
  refine WO_nil ?_
  refine WP_cond rfl (fun h => nomatch h) (fun _ => ?_)
  refine WP_skip ?_
  refine WP_seq ?_
  refine WP_seq ?_
  refine WP_ops ?_
  refine WO_mv rfl ?_
  refine WO_nil ?_
  refine WP_block ?_
  refine WP_sub (L' := []) (List.nil_sublist _) ?_
  refine WP_loop (fun m f _ L => f 1 = .snil ∧ f 10 = .s (.int .i64 0) ∧ L = []) (fun m f nb L hI => ?_) 0 ⟨rfl, rfl, rfl⟩
  obtain ⟨k1, k10, rfl⟩ := hI
  refine WP_know (d := 1) (v := .snil) k1 ?_
  refine WP_know (d := 10) (v := .s (.int .i64 0)) k10 ?_
  refine WP_seq ?_
  refine WP_seq ?_
  refine WP_ops ?_
  refine WO_mv (v := .s (.int _ _)) rfl ?_
  refine WO_mv (v := .snil) rfl ?_
  refine WO_lenN rfl ?_
  refine WO_bin (r := .bool _) rfl rfl rfl ?_
  refine WO_nil ?_
  refine WP_cond rfl (fun h11 => ?_) (fun h11 => ?_)
  ·try simp only [NM] at h11
   exfalso; omega
  ·try simp only [NM] at h11
   refine WP_exit ?_
   refine xhere ?_
   refine WP_seq ?_
   refine WP_ops ?_
   refine WO_call0 rfl (playAwake_run) rfl rfl rfl ?_
   refine WO_mv (v := .s (.bool _)) rfl ?_
   refine WO_nil ?_
   refine WP_ret ?_
   refine ⟨_, RS_tmp (v := .s (.bool _)) rfl (RS_nil), ?_⟩
   rfl
theorem PlayTells_runZ (P : Nat → Int) : WR AM 13 [.agg 133 (ia P), .slz] [] (fun v _ L => v = .s (.bool true)) := by
 refine WR_fn (a := a13) rfl rfl (entryF _) (entry_E (Nat.le_of_ble_eq_true rfl)) (m := 0) rfl ?_
 refine WP_seq ?_
 refine WP_ops ?_
 refine WO_boxA rfl ?_
 refine WO_mv rfl ?_
 refine WO_nil ?_
 refine WP_seq ?_
 refine WP_seq ?_
 refine WP_ops ?_
 refine WO_mv (v := .slz) rfl ?_
 refine WO_lenZ rfl ?_
 refine WO_bin (r := .bool _) rfl rfl rfl ?_
 refine WO_nil ?_
 refine WP_cond rfl (fun h12 => ?_) (fun h12 => ?_)
 ·try simp only [NM] at h12
  exfalso; omega
 ·try simp only [NM] at h12
  refine WP_skip ?_
  refine WP_seq ?_
  refine WP_ops ?_
  refine WO_mkslI rfl .nil ?_
  refine WO_mv (v := .slz) rfl ?_
  refine WO_append0Z rfl rfl rfl .here ?_
  refine WO_mv (v := .sl _ _ _ _ _) rfl ?_
  refine WO_nil ?_
  refine WP_seq ?_
  refine WP_ops ?_
  first | refine WO_ldA0 rfl rfl (.tail _ (.head _)) ?_ | refine WO_ldAI rfl rfl (.tail _ (.head _)) ?_
  refine WO_mv (v := .sl _ _ _ _ _) rfl ?_
  refine WO_call (rs := [1]) (Bs := [_]) rfl (RB_of1 (Moves_walk _ _ 0 (by omega))) rfl rfl (Nat.le_of_ble_eq_true rfl) (fun _ h => h) rfl ⟨(.head _), ⟨_, _, _, rfl⟩, trivial⟩ rfl rfl rfl (.cons .here .nil) ?_
  refine WO_mv (v := .tup _) rfl ?_
  refine WO_ext (v := .agg _ _) rfl rfl ?_
  refine WO_ext (v := .s (.int _ _)) rfl rfl ?_
  refine WO_allocI ?_
  refine WO_stA rfl rfl rfl rfl .here ?_
  refine WO_mv (v := .s (.int _ _)) rfl ?_
  refine WO_nil ?_
  refine WP_seq ?_
  refine WP_ops ?_
  first | refine WO_ldA0 rfl rfl (.tail _ (.tail _ (.head _))) ?_ | refine WO_ldAI rfl rfl (.tail _ (.tail _ (.head _))) ?_
  refine WO_mv (v := .slz) rfl ?_
  refine WO_call0 rfl (RF_of (rMoves_walkZ P)) rfl rfl rfl ?_
  refine WO_mv (v := .tup _) rfl ?_
  refine WO_ext (v := .agg _ _) rfl rfl ?_
  refine WO_ext (v := .s (.int _ _)) rfl rfl ?_
  refine WO_allocI ?_
  refine WO_stA rfl rfl rfl rfl .here ?_
  refine WO_mv (v := .s (.int _ _)) rfl ?_
  refine WO_nil ?_
  refine WP_seq ?_
  refine WP_seq ?_
  refine WP_ops ?_
  first | refine WO_ldA0 rfl rfl (.tail _ (.head _)) ?_ | refine WO_ldAI rfl rfl (.tail _ (.head _)) ?_
  first | refine WO_ldA0 rfl rfl (.head _) ?_ | refine WO_ldAI rfl rfl (.head _) ?_
  refine WO_eqaC rfl rfl (eqI_f (fun _ _ => rfl)) ?_
  refine WO_mv (v := .s (.bool _)) rfl ?_
  refine WO_gt rfl ?_
  refine WO_mv (v := .s (.int _ _)) rfl ?_
  refine WO_gt rfl ?_
  refine WO_mv (v := .s (.int _ _)) rfl ?_
  refine WO_gt rfl ?_
  refine WO_bin rfl rfl (neq_self _) ?_
  refine WO_pick (v := .s (.bool _)) rfl rfl ?_
  refine WO_nil ?_
  refine WP_cond rfl (fun h => nomatch h) (fun _ => ?_)
  refine WP_skip ?_
  refine WP_seq ?_
  refine WP_seq ?_
  refine WP_ops ?_
  refine WO_mv rfl ?_
  refine WO_nil ?_
  refine WP_block ?_
  refine WP_sub (L' := []) (List.nil_sublist _) ?_
  refine WP_loop (fun m f _ L => f 1 = .slz ∧ f 10 = .s (.int .i64 0) ∧ L = []) (fun m f nb L hI => ?_) 0 ⟨rfl, rfl, rfl⟩
  obtain ⟨k1, k10, rfl⟩ := hI
  refine WP_know (d := 1) (v := .slz) k1 ?_
  refine WP_know (d := 10) (v := .s (.int .i64 0)) k10 ?_
  refine WP_seq ?_
  refine WP_seq ?_
  refine WP_ops ?_
  refine WO_mv (v := .s (.int _ _)) rfl ?_
  refine WO_mv (v := .slz) rfl ?_
  refine WO_lenZ rfl ?_
  refine WO_bin (r := .bool _) rfl rfl rfl ?_
  refine WO_nil ?_
  refine WP_cond rfl (fun h13 => ?_) (fun h13 => ?_)
  ·try simp only [NM] at h13
   exfalso; omega
  ·try simp only [NM] at h13
   refine WP_exit ?_
   refine xhere ?_
   refine WP_seq ?_
   refine WP_ops ?_
   refine WO_call0 rfl (playAwake_run) rfl rfl rfl ?_
   refine WO_mv (v := .s (.bool _)) rfl ?_
   refine WO_nil ?_
   refine WP_ret ?_
   refine ⟨_, RS_tmp (v := .s (.bool _)) rfl (RS_nil), ?_⟩
   rfl
end Go.Proofs.Ytjldefmcnppdoaa
