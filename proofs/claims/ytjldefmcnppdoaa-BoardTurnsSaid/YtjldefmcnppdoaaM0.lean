/- Texts of this seat, joined. -/
import Derived.Test.YtjldefmcnppdoaaAmProg
import Derived.KernelRfl
import Derived.Test.YtjldefmcnppdoaaAmRange
/- The walks of places and colours. -/
namespace Go.Proofs.Ytjldefmcnppdoaa
open Go Go.Am
set_option linter.unusedSimpArgs false
set_option linter.unusedVariables false
/-- A square's file, rank, and that it is one. -/
def ofL (x : Int) : List S := if 0 ≤ x ∧ x < 64 then [.int .i64 (x % 8), .int .i64 (x / 8), .bool true] else [.int .i64 (-1), .int .i64 (-1), .bool false]

theorem of_run (x : Int) : WR AM 82 [.s (.int .i64 x)] [] (fun v _ _ => v = .agg 3 (lc (ofL x))) := by
 refine WR_fn (a := a82) rfl rfl (entryF _) (entry_E (Nat.le_of_ble_eq_true rfl)) (m := 0) rfl ?_
 refine WP_seq ?_
 refine WP_ops ?_
 refine WO_allocL rfl ?_
 refine WO_nil ?_
 refine WP_seq ?_
 refine WP_seq ?_
 refine WP_ops ?_
 refine WO_mv (v := .s (.int _ _)) rfl ?_
 refine WO_bin (r := .bool _) rfl rfl rfl ?_
 refine WO_mv (v := .s (.bool _)) rfl ?_
 refine WO_case (t := 5) rfl (fun h1 => ?_) (fun h1 => ?_)
 ·try simp only [NM] at h1
  refine WO_gf rfl rfl ?_
  refine WO_gf rfl rfl ?_
  refine WO_pick (v := .s (.bool _)) rfl rfl ?_
  refine WO_nil ?_
  refine WP_cond rfl (fun _ => ?_) (fun h => nomatch h)
  refine WP_seq ?_
  refine WP_ops ?_
  refine WO_buildI rfl (.one rfl (.one rfl .nil)) ?_
  refine WO_buildL rfl rfl (.part (v := .agg _ _) (ys := [_, _, _]) rfl rfl rfl rfl .nil) ?_
  refine WO_st (v := .agg _ _) rfl rfl rfl rfl rfl (over_spl (ys := [_, _, _]) rfl rfl) .here ?_
  refine WO_nil ?_
  refine WP_ret ?_
  refine ⟨_, RS_cell rfl rfl (.head _) (RS_nil), ?_⟩
  first | (rw [show ofL x = [.int .i64 (-1), .int .i64 (-1), .bool false] from if_neg (by omega)]; rfl) | (rw [show ofL x = [.int .i64 (x % 8), .int .i64 (x / 8), .bool true] from if_pos (by omega)]; rfl)
 ·try simp only [NM] at h1
  refine WO_gt rfl ?_
  refine WO_mv (v := .s (.int _ _)) rfl ?_
  refine WO_gt rfl ?_
  refine WO_bin (r := .bool _) rfl rfl rfl ?_
  refine WO_pick (v := .s (.bool _)) rfl rfl ?_
  refine WO_nil ?_
  refine WP_cond rfl (fun h2 => ?_) (fun h2 => ?_)
  ·try simp only [NM] at h2
   refine WP_seq ?_
   refine WP_ops ?_
   refine WO_buildI rfl (.one rfl (.one rfl .nil)) ?_
   refine WO_buildL rfl rfl (.part (v := .agg _ _) (ys := [_, _, _]) rfl rfl rfl rfl .nil) ?_
   refine WO_st (v := .agg _ _) rfl rfl rfl rfl rfl (over_spl (ys := [_, _, _]) rfl rfl) .here ?_
   refine WO_nil ?_
   refine WP_ret ?_
   refine ⟨_, RS_cell rfl rfl (.head _) (RS_nil), ?_⟩
   first | (rw [show ofL x = [.int .i64 (-1), .int .i64 (-1), .bool false] from if_neg (by omega)]; rfl) | (rw [show ofL x = [.int .i64 (x % 8), .int .i64 (x / 8), .bool true] from if_pos (by omega)]; rfl)
  ·try simp only [NM] at h2
   refine WP_skip ?_
   refine WP_seq ?_
   refine WP_ops ?_
   refine WO_mv (v := .s (.int _ _)) rfl ?_
   refine WO_rem rfl rfl (by omega) ?_
   refine WO_mv (v := .s (.int _ _)) rfl ?_
   refine WO_quo rfl rfl (by omega) ?_
   refine WO_buildI rfl (.one rfl (.one rfl .nil)) ?_
   refine WO_buildL rfl rfl (.part (v := .agg _ _) (ys := [_, _, _]) rfl rfl rfl rfl (.part (v := .s (.bool _)) (ys := [_, _, _]) rfl rfl rfl rfl .nil)) ?_
   refine WO_st (v := .agg _ _) rfl rfl rfl rfl rfl (over_spl (ys := [_, _, _]) rfl rfl) .here ?_
   refine WO_nil ?_
   refine WP_ret ?_
   refine ⟨_, RS_cell rfl rfl (.head _) (RS_nil), ?_⟩
   first | (rw [show ofL x = [.int .i64 (-1), .int .i64 (-1), .bool false] from if_neg (by omega)]; rfl) | (rw [show ofL x = [.int .i64 (x % 8), .int .i64 (x / 8), .bool true] from if_pos (by omega)]; rfl)
theorem of_in (x : Int) (h : 0 ≤ x ∧ x < 64) : RF AM 82 [.s (.int .i64 x)] (.agg 3 (lc [.int .i64 (x % 8), .int .i64 (x / 8), .bool true])) := by
  have := RF_of (of_run x)
  rw [ofL, if_pos h] at this
  exact this

end Go.Proofs.Ytjldefmcnppdoaa
/- The walks of squares, and of a position turned. -/
namespace Go.Proofs.Ytjldefmcnppdoaa
open Go Go.Am
set_option linter.unusedSimpArgs false
set_option linter.unusedVariables false
theorem of_out (x : Int) (h : ¬ (0 ≤ x ∧ x < 64)) : RF AM 82 [.s (.int .i64 x)] (.agg 3 (lc [.int .i64 (-1), .int .i64 (-1), .bool false])) := by
  have := RF_of (of_run x)
  rw [ofL, if_neg h] at this
  exact this

/-- A square's file, its rank, and whether it is one. -/
def fileM (x : Int) : Int := if 0 ≤ x ∧ x < 64 then x % 8 else -1
def rankM (x : Int) : Int := if 0 ≤ x ∧ x < 64 then x / 8 else -1
def isM (x : Int) : Bool := decide (0 ≤ x ∧ x < 64)
/-- The square of a file and a rank. -/
def atM (a b : Int) : Int := if 0 ≤ a ∧ a < 8 ∧ 0 ≤ b ∧ b < 8 then b * 8 + a else -1

theorem File_in (x : Int) (h : 0 ≤ x ∧ x < 64) : WR AM 37 [.s (.int .i64 x)] [] (fun v _ _ => v = .s (.int .i64 (fileM x))) := by
 refine WR_fn (a := a37) rfl rfl (entryF _) (entry_E (Nat.le_of_ble_eq_true rfl)) (m := 0) rfl ?_
 refine WP_seq ?_
 refine WP_ops ?_
 refine WO_mv rfl ?_
 refine WO_nil ?_
 refine WP_seq ?_
 refine WP_ops ?_
 refine WO_mv (v := .s (.int _ _)) rfl ?_
 refine WO_call0 rfl (of_in _ h) rfl rfl rfl ?_
 refine WO_fldA rfl rfl ?_
 refine WO_fldS (a := .int _ _) rfl rfl rfl ?_
 first | refine WO_mv (v := .s (.int _ _)) rfl ?_ | refine WO_mv (v := .s _) rfl ?_
 refine WO_nil ?_
 refine WP_ret ?_
 refine ⟨_, RS_tmp (v := _) rfl (RS_nil), ?_⟩
 rw [fileM, if_pos h]; rfl
theorem Rank_in (x : Int) (h : 0 ≤ x ∧ x < 64) : WR AM 38 [.s (.int .i64 x)] [] (fun v _ _ => v = .s (.int .i64 (rankM x))) := by
 refine WR_fn (a := a38) rfl rfl (entryF _) (entry_E (Nat.le_of_ble_eq_true rfl)) (m := 0) rfl ?_
 refine WP_seq ?_
 refine WP_ops ?_
 refine WO_mv rfl ?_
 refine WO_nil ?_
 refine WP_seq ?_
 refine WP_ops ?_
 refine WO_mv (v := .s (.int _ _)) rfl ?_
 refine WO_call0 rfl (of_in _ h) rfl rfl rfl ?_
 refine WO_fldA rfl rfl ?_
 refine WO_fldS (a := .int _ _) rfl rfl rfl ?_
 first | refine WO_mv (v := .s (.int _ _)) rfl ?_ | refine WO_mv (v := .s _) rfl ?_
 refine WO_nil ?_
 refine WP_ret ?_
 refine ⟨_, RS_tmp (v := _) rfl (RS_nil), ?_⟩
 rw [rankM, if_pos h]; rfl
theorem Rank_out (x : Int) (h : ¬ (0 ≤ x ∧ x < 64)) : WR AM 38 [.s (.int .i64 x)] [] (fun v _ _ => v = .s (.int .i64 (rankM x))) := by
 refine WR_fn (a := a38) rfl rfl (entryF _) (entry_E (Nat.le_of_ble_eq_true rfl)) (m := 0) rfl ?_
 refine WP_seq ?_
 refine WP_ops ?_
 refine WO_mv rfl ?_
 refine WO_nil ?_
 refine WP_seq ?_
 refine WP_ops ?_
 refine WO_mv (v := .s (.int _ _)) rfl ?_
 refine WO_call0 rfl (of_out _ h) rfl rfl rfl ?_
 refine WO_fldA rfl rfl ?_
 refine WO_fldS (a := .int _ _) rfl rfl rfl ?_
 first | refine WO_mv (v := .s (.int _ _)) rfl ?_ | refine WO_mv (v := .s _) rfl ?_
 refine WO_nil ?_
 refine WP_ret ?_
 refine ⟨_, RS_tmp (v := _) rfl (RS_nil), ?_⟩
 rw [rankM, if_neg h]; rfl
theorem Rank_run (x : Int) : RF AM 38 [.s (.int .i64 x)] (.s (.int .i64 (rankM x))) := by
  by_cases h : 0 ≤ x ∧ x < 64
  · exact RF_of (Rank_in x h)
  · exact RF_of (Rank_out x h)

theorem Is_in (x : Int) (h : 0 ≤ x ∧ x < 64) : WR AM 39 [.s (.int .i64 x)] [] (fun v _ _ => v = .s (.bool (isM x))) := by
 refine WR_fn (a := a39) rfl rfl (entryF _) (entry_E (Nat.le_of_ble_eq_true rfl)) (m := 0) rfl ?_
 refine WP_seq ?_
 refine WP_ops ?_
 refine WO_mv rfl ?_
 refine WO_nil ?_
 refine WP_seq ?_
 refine WP_ops ?_
 refine WO_mv (v := .s (.int _ _)) rfl ?_
 refine WO_call0 rfl (of_in _ h) rfl rfl rfl ?_
 refine WO_fldS (a := .bool _) rfl rfl rfl ?_
 first | refine WO_mv (v := .s (.int _ _)) rfl ?_ | refine WO_mv (v := .s _) rfl ?_
 refine WO_nil ?_
 refine WP_ret ?_
 refine ⟨_, RS_tmp (v := _) rfl (RS_nil), ?_⟩
 rw [isM, decide_eq_true h]; rfl
theorem Is_out (x : Int) (h : ¬ (0 ≤ x ∧ x < 64)) : WR AM 39 [.s (.int .i64 x)] [] (fun v _ _ => v = .s (.bool (isM x))) := by
 refine WR_fn (a := a39) rfl rfl (entryF _) (entry_E (Nat.le_of_ble_eq_true rfl)) (m := 0) rfl ?_
 refine WP_seq ?_
 refine WP_ops ?_
 refine WO_mv rfl ?_
 refine WO_nil ?_
 refine WP_seq ?_
 refine WP_ops ?_
 refine WO_mv (v := .s (.int _ _)) rfl ?_
 refine WO_call0 rfl (of_out _ h) rfl rfl rfl ?_
 refine WO_fldS (a := .bool _) rfl rfl rfl ?_
 first | refine WO_mv (v := .s (.int _ _)) rfl ?_ | refine WO_mv (v := .s _) rfl ?_
 refine WO_nil ?_
 refine WP_ret ?_
 refine ⟨_, RS_tmp (v := _) rfl (RS_nil), ?_⟩
 rw [isM, decide_eq_false h]; rfl
theorem SqIs_run (x : Int) : RF AM 39 [.s (.int .i64 x)] (.s (.bool (isM x))) := by
  by_cases h : 0 ≤ x ∧ x < 64
  · exact RF_of (Is_in x h)
  · exact RF_of (Is_out x h)

theorem WO_convW {A : AP} {N : Nat} {f : FE} {n : Nat} {L : HA} {K : KN} {l : List I} {d : Nat} {kd kd' : IntKind} {x : O} {a : Int} (hx : x.fv N f = .s (.int kd' a)) (k : WO A N l (upd f d (.s (.int kd (kd.wrap a)))) n L K) : WO A N (⟨some d, none, .p (.conv kd x)⟩ :: l) f n L K :=
  WO_p (v := .s (.int kd (kd.wrap a))) (by simp only [pureV, ev_E, hx]) k

theorem u64_lt8 {a : Int} (h : -9223372036854775808 ≤ a ∧ a ≤ 9223372036854775807) : IntKind.u64.wrap a < 8 ↔ 0 ≤ a ∧ a < 8 := by
  rw [IntKind.wrap_u64]
  omega

theorem within_run (P : Nat → Int) (ha : -9223372036854775808 ≤ P 0 ∧ P 0 ≤ 9223372036854775807) (hb : -9223372036854775808 ≤ P 1 ∧ P 1 ≤ 9223372036854775807) : WR AM 86 [.agg 2 (ia P)] [] (fun v _ _ => v = .s (.bool (decide (0 ≤ P 0 ∧ P 0 < 8 ∧ 0 ≤ P 1 ∧ P 1 < 8)))) := by
 refine WR_fn (a := a86) rfl rfl (entryF _) (entry_E (Nat.le_of_ble_eq_true rfl)) (m := 0) rfl ?_
 refine WP_seq ?_
 refine WP_ops ?_
 refine WO_boxA rfl ?_
 refine WO_mv rfl ?_
 refine WO_nil ?_
 refine WP_seq ?_
 refine WP_ops ?_
 refine WO_fa (o' := 0) rfl rfl rfl ?_
 refine WO_ldI rfl rfl (.head _) rfl ?_
 refine WO_convW rfl ?_
 refine WO_bin (r := .bool _) rfl rfl rfl ?_
 refine WO_mv (v := .s (.bool _)) rfl ?_
 refine WO_case (t := 7) rfl (fun h1 => ?_) (fun h1 => ?_)
 ·try simp only [NM] at h1
  refine WO_gt rfl ?_
  refine WO_fa (o' := 1) rfl rfl rfl ?_
  refine WO_gt rfl ?_
  refine WO_ldI rfl rfl (.head _) rfl ?_
  refine WO_gt rfl ?_
  refine WO_convW rfl ?_
  refine WO_gt rfl ?_
  refine WO_bin (r := .bool _) rfl rfl rfl ?_
  refine WO_pick (v := .s (.bool _)) rfl rfl ?_
  refine WO_mv (v := .s (.bool _)) rfl ?_
  refine WO_nil ?_
  refine WP_ret ?_
  refine ⟨_, RS_tmp (v := .s (.bool _)) rfl (RS_nil), ?_⟩
  refine congrArg (fun b => V.s (S.bool b)) ?_
  have e0 := u64_lt8 ha
  have e1 := u64_lt8 hb
  rw [Bool.eq_iff_iff]
  simp only [decide_eq_true_eq, Bool.false_eq_true, false_iff]
  omega
 ·try simp only [NM] at h1
  refine WO_gf rfl rfl ?_
  refine WO_gf rfl rfl ?_
  refine WO_gf rfl rfl ?_
  refine WO_gf rfl rfl ?_
  refine WO_pick (v := .s (.bool _)) rfl rfl ?_
  refine WO_mv (v := .s (.bool _)) rfl ?_
  refine WO_nil ?_
  refine WP_ret ?_
  refine ⟨_, RS_tmp (v := .s (.bool _)) rfl (RS_nil), ?_⟩
  refine congrArg (fun b => V.s (S.bool b)) ?_
  have e0 := u64_lt8 ha
  have e1 := u64_lt8 hb
  rw [Bool.eq_iff_iff]
  simp only [decide_eq_true_eq, Bool.false_eq_true, false_iff]
  omega
theorem number_run (P : Nat → Int) (ha : -9223372036854775808 ≤ P 0 ∧ P 0 ≤ 9223372036854775807) (hb : -9223372036854775808 ≤ P 1 ∧ P 1 ≤ 9223372036854775807) : WR AM 84 [.agg 2 (ia P)] [] (fun v _ _ => v = .s (.int .i64 (atM (P 0) (P 1)))) := by
 refine WR_fn (a := a84) rfl rfl (entryF _) (entry_E (Nat.le_of_ble_eq_true rfl)) (m := 0) rfl ?_
 refine WP_seq ?_
 refine WP_ops ?_
 refine WO_boxA rfl ?_
 refine WO_mv rfl ?_
 refine WO_nil ?_
 refine WP_seq ?_
 refine WP_seq ?_
 refine WP_ops ?_
 first | refine WO_ldA0 rfl rfl (.head _) ?_ | refine WO_ldAI rfl rfl (.head _) ?_
 refine WO_call0 rfl (RF_of (within_run _ ha hb)) rfl rfl rfl ?_
 refine WO_un (r := .bool _) rfl rfl ?_
 refine WO_nil ?_
 refine WP_cond rfl (fun h2 => ?_) (fun h2 => ?_)
 ·try simp only [NM] at h2
  refine WP_seq ?_
  refine WP_ops ?_
  refine WO_mv rfl ?_
  refine WO_nil ?_
  refine WP_ret ?_
  refine ⟨_, RS_tmp (v := .s (.int _ _)) rfl (RS_nil), ?_⟩
  refine congrArg (fun b => V.s (S.int .i64 b)) ?_
  unfold atM
  split <;> omega
 ·try simp only [NM] at h2
  refine WP_skip ?_
  refine WP_seq ?_
  refine WP_ops ?_
  refine WO_fa (o' := 1) rfl rfl rfl ?_
  refine WO_ldI rfl rfl (.head _) rfl ?_
  refine WO_mul rfl rfl (by omega) ?_
  refine WO_fa (o' := 0) rfl rfl rfl ?_
  refine WO_ldI rfl rfl (.head _) rfl ?_
  refine WO_add rfl rfl (by omega) ?_
  refine WO_mv (v := .s (.int _ _)) rfl ?_
  refine WO_nil ?_
  refine WP_ret ?_
  refine ⟨_, RS_tmp (v := .s (.int _ _)) rfl (RS_nil), ?_⟩
  refine congrArg (fun b => V.s (S.int .i64 b)) ?_
  unfold atM
  split <;> omega
theorem At_run (a b : Int) (ha : -9223372036854775808 ≤ a ∧ a ≤ 9223372036854775807) (hb : -9223372036854775808 ≤ b ∧ b ≤ 9223372036854775807) : WR AM 36 [.s (.int .i64 a), .s (.int .i64 b)] [] (fun v _ _ => v = .s (.int .i64 (atM a b))) := by
 refine WR_fn (a := a36) rfl rfl (entryF _) (entry_E (Nat.le_of_ble_eq_true rfl)) (m := 0) rfl ?_
 refine WP_seq ?_
 refine WP_ops ?_
 refine WO_mv rfl ?_
 refine WO_nil ?_
 refine WP_seq ?_
 refine WP_ops ?_
 refine WO_mv (v := .s (.int _ _)) rfl ?_
 refine WO_mv (v := .s (.int _ _)) rfl ?_
 refine WO_buildI rfl (.one rfl (.one rfl .nil)) ?_
 refine WO_call0 rfl (RF_of (number_run _ ha hb)) rfl rfl rfl ?_
 refine WO_mv (v := .s (.int _ _)) rfl ?_
 refine WO_nil ?_
 refine WP_ret ?_
 refine ⟨_, RS_tmp (v := .s (.int _ _)) rfl (RS_nil), ?_⟩
 rfl
/-- The other side; may a piece be; a square across. -/
def otherM (s : Int) : Int := if s = 0 then 1 else 0
def mayM (k s : Int) : Bool := decide (1 ≤ k ∧ k ≤ 6 ∧ (s = 0 ∨ s = 1))
def acrossM (x : Int) : Int := (7 - x / 8) * 8 + x % 8
def sideT (k s : Int) : Int := if mayM k s = true then otherM s else s

theorem ovA_out {P : Nat → Int} {o m : Nat} {Q : Nat → Int} {i : Nat} (h : i < o ∨ o + m ≤ i) : ovA P o m Q i = P i := by
  have e : (Nat.ble o i && Nat.blt i (o + m)) = false := by
    cases h1 : Nat.ble o i with
    | false => rfl
    | true =>
      cases h2 : Nat.blt i (o + m) with
      | false => rfl
      | true =>
        have := Nat.le_of_ble_eq_true h1
        have := Nat.le_of_ble_eq_true h2
        omega
  show (bif Nat.ble o i && Nat.blt i (o + m) then Q (i - o) else P i) = P i
  rw [e]; rfl

theorem ovA_at {P : Nat → Int} {o m : Nat} {Q : Nat → Int} {i : Nat} (h : o ≤ i ∧ i < o + m) : ovA P o m Q i = Q (i - o) := by
  have e : (Nat.ble o i && Nat.blt i (o + m)) = true := by
    rw [Nat.ble_eq_true_of_le h.1, show Nat.blt i (o + m) = true from Nat.ble_eq_true_of_le h.2]; rfl
  show (bif Nat.ble o i && Nat.blt i (o + m) then Q (i - o) else P i) = Q (i - o)
  rw [e]; rfl

theorem Other_run (s : Int) : WR AM 57 [.s (.int .i64 s)] [] (fun v _ _ => v = .s (.int .i64 (otherM s))) := by
 refine WR_fn (a := a57) rfl rfl (entryF _) (entry_E (Nat.le_of_ble_eq_true rfl)) (m := 0) rfl ?_
 refine WP_seq ?_
 refine WP_ops ?_
 refine WO_mv rfl ?_
 refine WO_nil ?_
 refine WP_seq ?_
 refine WP_seq ?_
 refine WP_ops ?_
 refine WO_mv (v := .s (.int _ _)) rfl ?_
 refine WO_bin (r := .bool _) rfl rfl rfl ?_
 refine WO_nil ?_
 refine WP_cond rfl (fun h3 => ?_) (fun h3 => ?_)
 ·try simp only [NM] at h3
  refine WP_seq ?_
  refine WP_ops ?_
  refine WO_mv rfl ?_
  refine WO_nil ?_
  refine WP_ret ?_
  refine ⟨_, RS_tmp (v := .s (.int _ _)) rfl (RS_nil), ?_⟩
  first | (rw [show otherM s = 1 from if_pos (by omega)]; rfl) | (rw [show otherM s = 0 from if_neg (by omega)]; rfl)
 ·try simp only [NM] at h3
  refine WP_skip ?_
  refine WP_seq ?_
  refine WP_ops ?_
  refine WO_mv rfl ?_
  refine WO_nil ?_
  refine WP_ret ?_
  refine ⟨_, RS_tmp (v := .s (.int _ _)) rfl (RS_nil), ?_⟩
  first | (rw [show otherM s = 1 from if_pos (by omega)]; rfl) | (rw [show otherM s = 0 from if_neg (by omega)]; rfl)
theorem may_run (P : Nat → Int) : WR AM 88 [.agg 2 (ia P)] [] (fun v _ _ => v = .s (.bool (mayM (P 0) (P 1)))) := by
 refine WR_fn (a := a88) rfl rfl (entryF _) (entry_E (Nat.le_of_ble_eq_true rfl)) (m := 0) rfl ?_
 refine WP_seq ?_
 refine WP_ops ?_
 refine WO_boxA rfl ?_
 refine WO_mv rfl ?_
 refine WO_nil ?_
 refine WP_seq ?_
 refine WP_ops ?_
 refine WO_fa (o' := 0) rfl rfl rfl ?_
 refine WO_ldI rfl rfl (.head _) rfl ?_
 refine WO_bin (r := .bool _) rfl rfl rfl ?_
 refine WO_mv (v := .s (.bool _)) rfl ?_
 refine WO_case (t := 6) rfl (fun h4 => ?_) (fun h4 => ?_)
 ·try simp only [NM] at h4
  refine WO_gt rfl ?_
  refine WO_fa (o' := 0) rfl rfl rfl ?_
  refine WO_gt rfl ?_
  refine WO_ldI rfl rfl (.head _) rfl ?_
  refine WO_gt rfl ?_
  refine WO_bin (r := .bool _) rfl rfl rfl ?_
  refine WO_pick (v := .s (.bool _)) rfl rfl ?_
  refine WO_mv (v := .s (.bool _)) rfl ?_
  refine WO_case (t := 11) rfl (fun h5 => ?_) (fun h5 => ?_)
  ·try simp only [NM] at h5
   refine WO_gt rfl ?_
   refine WO_fa (o' := 1) rfl rfl rfl ?_
   refine WO_gt rfl ?_
   refine WO_ldI rfl rfl (.head _) rfl ?_
   refine WO_gt rfl ?_
   refine WO_bin (r := .bool _) rfl rfl rfl ?_
   refine WO_gt rfl ?_
   refine WO_mv (v := .s (.bool _)) rfl ?_
   refine WO_case (t := 15) rfl (fun h6 => ?_) (fun h6 => ?_)
   ·try simp only [NM] at h6
    refine WO_gf rfl rfl ?_
    refine WO_gf rfl rfl ?_
    refine WO_gf rfl rfl ?_
    refine WO_gt rfl ?_
    refine WO_pick (v := .s (.bool _)) rfl rfl ?_
    refine WO_pick (v := .s (.bool _)) rfl rfl ?_
    refine WO_mv (v := .s (.bool _)) rfl ?_
    refine WO_nil ?_
    refine WP_ret ?_
    refine ⟨_, RS_tmp (v := .s (.bool _)) rfl (RS_nil), ?_⟩
    refine congrArg (fun b => V.s (S.bool b)) ?_
    unfold mayM
    rw [Bool.eq_iff_iff]
    simp only [beq_iff_eq, decide_eq_true_eq, Bool.false_eq_true, true_iff, false_iff]
    omega
   ·try simp only [NM] at h6
    refine WO_gt rfl ?_
    refine WO_fa (o' := 1) rfl rfl rfl ?_
    refine WO_gt rfl ?_
    refine WO_ldI rfl rfl (.head _) rfl ?_
    refine WO_gt rfl ?_
    refine WO_bin (r := .bool _) rfl rfl rfl ?_
    refine WO_gt rfl ?_
    refine WO_pick (v := .s (.bool _)) rfl rfl ?_
    refine WO_pick (v := .s (.bool _)) rfl rfl ?_
    refine WO_mv (v := .s (.bool _)) rfl ?_
    refine WO_nil ?_
    refine WP_ret ?_
    refine ⟨_, RS_tmp (v := .s (.bool _)) rfl (RS_nil), ?_⟩
    refine congrArg (fun b => V.s (S.bool b)) ?_
    unfold mayM
    rw [Bool.eq_iff_iff]
    simp only [beq_iff_eq, decide_eq_true_eq, Bool.false_eq_true, true_iff, false_iff]
    omega
  ·try simp only [NM] at h5
   refine WO_gf rfl rfl ?_
   refine WO_gf rfl rfl ?_
   refine WO_gf rfl rfl ?_
   refine WO_gf rfl rfl ?_
   refine WO_gu rfl ?_
   refine WO_gu rfl ?_
   refine WO_gu rfl ?_
   refine WO_gf rfl rfl ?_
   refine WO_pick (v := .s (.bool _)) rfl rfl ?_
   refine WO_mv (v := .s (.bool _)) rfl ?_
   refine WO_nil ?_
   refine WP_ret ?_
   refine ⟨_, RS_tmp (v := .s (.bool _)) rfl (RS_nil), ?_⟩
   refine congrArg (fun b => V.s (S.bool b)) ?_
   unfold mayM
   rw [Bool.eq_iff_iff]
   simp only [beq_iff_eq, decide_eq_true_eq, Bool.false_eq_true, true_iff, false_iff]
   omega
 ·try simp only [NM] at h4
  refine WO_gf rfl rfl ?_
  refine WO_gf rfl rfl ?_
  refine WO_gf rfl rfl ?_
  refine WO_pick (v := .s (.bool _)) rfl rfl ?_
  refine WO_mv (v := .s (.bool _)) rfl ?_
  refine WO_gf rfl rfl ?_
  refine WO_gf rfl rfl ?_
  refine WO_gf rfl rfl ?_
  refine WO_gf rfl rfl ?_
  refine WO_gu rfl ?_
  refine WO_gu rfl ?_
  refine WO_gu rfl ?_
  refine WO_gf rfl rfl ?_
  refine WO_pick (v := .s (.bool _)) rfl rfl ?_
  refine WO_mv (v := .s (.bool _)) rfl ?_
  refine WO_nil ?_
  refine WP_ret ?_
  refine ⟨_, RS_tmp (v := .s (.bool _)) rfl (RS_nil), ?_⟩
  refine congrArg (fun b => V.s (S.bool b)) ?_
  unfold mayM
  rw [Bool.eq_iff_iff]
  simp only [beq_iff_eq, decide_eq_true_eq, Bool.false_eq_true, true_iff, false_iff]
  omega
theorem back_run (x : Int) (h : 0 ≤ x ∧ x < 64) : WR AM 87 [.s (.int .i64 x)] [] (fun v _ _ => v = .s (.int .i64 (acrossM x))) := by
 have hf : fileM x = x % 8 := if_pos h
 have hr : rankM x = x / 8 := if_pos h
 refine WR_fn (a := a87) rfl rfl (entryF _) (entry_E (Nat.le_of_ble_eq_true rfl)) (m := 0) rfl ?_
 refine WP_seq ?_
 refine WP_ops ?_
 refine WO_mv rfl ?_
 refine WO_nil ?_
 refine WP_seq ?_
 refine WP_ops ?_
 refine WO_mv (v := .s (.int _ _)) rfl ?_
 refine WO_call0 rfl (RF_of (File_in _ h)) rfl rfl rfl ?_
 refine WO_mv (v := .s (.int _ _)) rfl ?_
 refine WO_call0 rfl (RF_of (Rank_in _ h)) rfl rfl rfl ?_
 refine WO_sub rfl rfl (by rw [hr]; omega) ?_
 refine WO_call0 rfl (RF_of (At_run _ _ (by rw [hf]; omega) (by rw [hr]; omega))) rfl rfl rfl ?_
 refine WO_mv (v := .s (.int _ _)) rfl ?_
 refine WO_nil ?_
 refine WP_ret ?_
 refine ⟨_, RS_tmp (v := .s (.int _ _)) rfl (RS_nil), ?_⟩
 refine congrArg (fun b => V.s (S.int .i64 b)) ?_
 rw [hf, hr]
 unfold atM acrossM
 rw [if_pos (by omega)]
theorem cast_shr {c : Int} (h : 0 ≤ c ∧ c ≤ 15) : binS .shr (.int .i64 c) (.int .u64 2) = some (.int .i64 (c / 4)) := by
  have : c = 0 ∨ c = 1 ∨ c = 2 ∨ c = 3 ∨ c = 4 ∨ c = 5 ∨ c = 6 ∨ c = 7 ∨ c = 8 ∨ c = 9 ∨ c = 10 ∨ c = 11 ∨ c = 12 ∨ c = 13 ∨ c = 14 ∨ c = 15 := by omega
  rcases this with rfl | rfl | rfl | rfl | rfl | rfl | rfl | rfl | rfl | rfl | rfl | rfl | rfl | rfl | rfl | rfl <;> rfl
theorem cast_and {c : Int} (h : 0 ≤ c ∧ c ≤ 15) : binS .and (.int .i64 c) (.int .i64 3) = some (.int .i64 (c % 4)) := by
  have : c = 0 ∨ c = 1 ∨ c = 2 ∨ c = 3 ∨ c = 4 ∨ c = 5 ∨ c = 6 ∨ c = 7 ∨ c = 8 ∨ c = 9 ∨ c = 10 ∨ c = 11 ∨ c = 12 ∨ c = 13 ∨ c = 14 ∨ c = 15 := by omega
  rcases this with rfl | rfl | rfl | rfl | rfl | rfl | rfl | rfl | rfl | rfl | rfl | rfl | rfl | rfl | rfl | rfl <;> rfl
theorem cast_shl {c : Int} (h : 0 ≤ c ∧ c ≤ 15) : binS .shl (.int .i64 (c % 4)) (.int .u64 2) = some (.int .i64 (c % 4 * 4)) := by
  have : c = 0 ∨ c = 1 ∨ c = 2 ∨ c = 3 ∨ c = 4 ∨ c = 5 ∨ c = 6 ∨ c = 7 ∨ c = 8 ∨ c = 9 ∨ c = 10 ∨ c = 11 ∨ c = 12 ∨ c = 13 ∨ c = 14 ∨ c = 15 := by omega
  rcases this with rfl | rfl | rfl | rfl | rfl | rfl | rfl | rfl | rfl | rfl | rfl | rfl | rfl | rfl | rfl | rfl <;> rfl
theorem cast_or {c : Int} (h : 0 ≤ c ∧ c ≤ 15) : binS .or (.int .i64 (c / 4)) (.int .i64 (c % 4 * 4)) = some (.int .i64 (c / 4 + c % 4 * 4)) := by
  have : c = 0 ∨ c = 1 ∨ c = 2 ∨ c = 3 ∨ c = 4 ∨ c = 5 ∨ c = 6 ∨ c = 7 ∨ c = 8 ∨ c = 9 ∨ c = 10 ∨ c = 11 ∨ c = 12 ∨ c = 13 ∨ c = 14 ∨ c = 15 := by omega
  rcases this with rfl | rfl | rfl | rfl | rfl | rfl | rfl | rfl | rfl | rfl | rfl | rfl | rfl | rfl | rfl | rfl <;> rfl

/-- A position turned: its castlings; the square gone over. -/
def castT (c : Int) : Int := if 0 ≤ c ∧ c ≤ 15 then c / 4 + c % 4 * 4 else c
def overT (x : Int) : Int := if isM x = true then acrossM x else x
def acr (s : Nat) : Nat := (7 - s / 8) * 8 + s % 8

theorem acr_lt {s : Nat} (h : s < 64) : acr s < 64 := by unfold acr; omega
theorem acr_inj {s t : Nat} (h : s < 64) (k : t < 64) (e : acr s = acr t) : s = t := by unfold acr at e; omega
theorem acr_across {s : Nat} (h : s < 64) : (acrossM (s : Int)).toNat = acr s := by unfold acr acrossM; omega

/-- The squares turned, so far. -/
def Turned (P Q : Nat → Int) (i : Nat) : Prop := ∀ s : Nat, s < i → Q (acr s * 2) = P (s * 2) ∧ Q (acr s * 2 + 1) = sideT (P (s * 2)) (P (s * 2 + 1))

theorem turn_step {P Q R : Nat → Int} {i : Nat} (hi : i < 64) (h : Turned P Q i) (h0 : R 0 = P (i * 2)) (h1 : R 1 = sideT (P (i * 2)) (P (i * 2 + 1))) : Turned P (ovA Q (0 + (acrossM (i : Int)).toNat * 2) 2 R) (i + 1) := by
  intro s hs
  rw [acr_across hi]
  by_cases e : s = i
  · subst e
    rw [ovA_at (by omega), ovA_at (by omega)]
    rw [show acr s * 2 - (0 + acr s * 2) = 0 by omega, show acr s * 2 + 1 - (0 + acr s * 2) = 1 by omega]
    exact ⟨h0, h1⟩
  · have hne : acr s ≠ acr i := fun q => e (acr_inj (by omega) hi q)
    rw [ovA_out (by omega), ovA_out (by omega)]
    exact h s (by omega)

theorem turn_keep {Q R : Nat → Int} {C : Nat → Int} {i : Nat} (hi : i < 64) (h : ∀ c, 128 ≤ c → Q c = C c) (c : Nat) (hc : 128 ≤ c) : ovA Q (0 + (acrossM (i : Int)).toNat * 2) 2 R c = C c := by
  rw [acr_across hi, ovA_out (by have := acr_lt hi; omega)]
  exact h c hc

theorem ov_out {P : Nat → Int} {o i : Nat} {x : Int} (h : i ≠ o) : ov P o x i = P i := by
  have e : Nat.beq i o = false := by
    cases hb : Nat.beq i o with
    | false => rfl
    | true => exact absurd (Nat.eq_of_beq_eq_true hb) h
  show (bif Nat.beq i o then x else P i) = P i
  rw [e]; rfl

theorem turned_of {P Q R : Nat → Int} (h : ∀ c, c < 128 → R c = Q c) (hq : Turned P Q 64) : Turned P R 64 := by
  intro s hs
  have := acr_lt hs
  rw [h _ (by omega), h _ (by omega)]
  exact hq s hs

/-- A position and the same turned. -/
structure TurnOf (P Q : Nat → Int) : Prop where
  sq : Turned P Q 64
  side : Q 128 = otherM (P 128)
  castle : Q 129 = castT (P 129)
  over : Q 130 = overT (P 130)
  half : Q 131 = P 131
  full : Q 132 = P 132
  out : ∀ i, 133 ≤ i → Q i = 0

theorem Turn_run (P : Nat → Int) : WR AM 53 [.agg 133 (ia P)] [] (fun v _ _ => ∃ Q, TurnOf P Q ∧ v = .agg 133 (ia Q)) := by
 refine WR_fn (a := a53) rfl rfl (entryF _) (entry_E (Nat.le_of_ble_eq_true rfl)) (m := 0) rfl ?_
 refine WP_seq ?_
 refine WP_ops ?_
 refine WO_boxA rfl ?_
 refine WO_allocI ?_
 refine WO_nil ?_
 refine WP_seq ?_
 refine WP_ops ?_
 first | refine WO_ldA0 rfl rfl (.tail _ (.head _)) ?_ | refine WO_ldAI rfl rfl (.tail _ (.head _)) ?_
 refine WO_allocI ?_
 refine WO_stA rfl rfl rfl rfl .here ?_
 refine WO_nil ?_
 refine WP_seq ?_
 refine WP_ops ?_
 refine WO_mv rfl ?_
 refine WO_nil ?_
 refine WP_seq ?_
 refine WP_seq ?_
 refine WP_ops ?_
 refine WO_fa (o' := 0) rfl rfl rfl ?_
 first | refine WO_ldA0 rfl rfl (.tail _ (.tail _ (.head _))) ?_ | refine WO_ldAI rfl rfl (.tail _ (.tail _ (.head _))) ?_
 refine WO_mv rfl ?_
 refine WO_nil ?_
 refine WP_block ?_
 refine WP_sub (L' := [_, _, _]) (.cons_cons _ (.cons_cons _ (.cons_cons _ .slnil))) ?_
 refine WP_loop (fun m f _ L => ∃ (i : Nat) (Q : Nat → Int), (i ≤ 64) ∧ (m = 64 - i) ∧ (Turned P Q i) ∧ (∀ c, 128 ≤ c → Q c = cut 133 P c) ∧ (f 1 = .ptr 0 0 133) ∧ (f 2 = .ptr 1 0 133) ∧ (f 3 = .ptr 2 0 133) ∧ (f 4 = .fn 87 []) ∧ (f 9 = .agg 128 (ia P)) ∧ (f 10 = .s (.int .i64 i)) ∧ (L = [(2, .sc .var 133 (ia Q)), (1, .sc .var 133 (ia fun _ => 0)), (0, .sc .var 133 (ia P))])) (fun m f nb L hI => ?_) (64) ⟨0, _, by omega, rfl, fun s h => absurd h (by omega), fun c _ => rfl, rfl, rfl, rfl, rfl, rfl, rfl, rfl⟩
 obtain ⟨i, Q, hi, hm, hq, hr, k1, k2, k3, k4, k9, k10, rfl⟩ := hI
 refine WP_know (d := 1) (v := .ptr 0 0 133) k1 ?_
 refine WP_know (d := 2) (v := .ptr 1 0 133) k2 ?_
 refine WP_know (d := 3) (v := .ptr 2 0 133) k3 ?_
 refine WP_know (d := 4) (v := .fn 87 []) k4 ?_
 refine WP_know (d := 9) (v := .agg 128 (ia P)) k9 ?_
 refine WP_know (d := 10) (v := .s (.int .i64 i)) k10 ?_
 refine WP_seq ?_
 refine WP_ops ?_
 refine WO_bin (r := .bool _) rfl rfl rfl ?_
 refine WO_nil ?_
 refine WP_seq ?_
 refine WP_cond rfl (fun h7 => ?_) (fun h7 => ?_)
 ·try simp only [NM] at h7
  refine WP_skip ?_
  refine WP_seq ?_
  refine WP_block ?_
  refine WP_seq ?_
  refine WP_ops ?_
  refine WO_mv (v := .s (.int _ _)) rfl ?_
  refine WO_ixA rfl rfl rfl (by first | omega | (unfold acrossM; omega)) ?_
  refine WO_allocI ?_
  refine WO_mv (v := .s (.int _ _)) rfl ?_
  refine WO_stA rfl rfl rfl rfl .here ?_
  refine WO_nil ?_
  refine WP_seq ?_
  refine WP_seq ?_
  refine WP_ops ?_
  first | refine WO_ldA0 rfl rfl (.head _) ?_ | refine WO_ldAI rfl rfl (.head _) ?_
  refine WO_call0 rfl (RF_of (may_run _)) rfl rfl rfl ?_
  refine WO_nil ?_
  refine WP_cond rfl (fun hmay => ?_) (fun hmay => ?_)
  ·try simp only [NM] at hmay
   refine WP_ops ?_
   refine WO_fa (o' := 1) rfl rfl rfl ?_
   refine WO_ldI rfl rfl (.head _) (by simp only [ov, ovA, dp, Nat.beq, Nat.ble, Nat.blt, Bool.and_true, Bool.and_false, Bool.false_and, Bool.true_and, cond_true, cond_false]; rfl) ?_
   refine WO_call0 rfl (RF_of (Other_run _)) rfl rfl rfl ?_
   refine WO_fa (o' := 1) rfl rfl rfl ?_
   refine WO_stI rfl rfl rfl rfl .here ?_
   refine WO_nil ?_
   refine WP_ops ?_
   refine WO_mv (v := .fn _ _) rfl ?_
   refine WO_mv (v := .s (.int _ _)) rfl ?_
   refine WO_callq0 rfl (RF_of (back_run _ (by omega))) rfl rfl rfl ?_
   first | refine WO_ldA0 rfl rfl (.head _) ?_ | refine WO_ldAI rfl rfl (.head _) ?_
   refine WO_fa (o' := 0) rfl rfl rfl ?_
   refine WO_ixa rfl rfl rfl (by first | omega | (unfold acrossM; omega)) ?_
   refine WO_stA rfl rfl rfl rfl (.there .here) ?_
   refine WO_nil ?_
   refine WP_ops ?_
   refine WO_add rfl rfl (by omega) ?_
   refine WO_mv (v := .s (.int _ _)) rfl ?_
   refine WO_nil ?_
   refine ⟨64 - (i + 1), _, by omega, (.cons _ (.cons_cons _ (.cons_cons _ (.cons_cons _ .slnil)))), i + 1, _, by omega, rfl, ?_, ?_, rfl, rfl, rfl, rfl, rfl, rfl, rfl⟩
   · refine turn_step (by omega) hq rfl ?_
     first | exact ((if_pos (show mayM (P (i * 2)) (P (i * 2 + 1)) = true from hmay)).symm) | exact ((if_neg (by rw [show mayM (P (i * 2)) (P (i * 2 + 1)) = false from hmay]; decide)).symm)
   · exact turn_keep (by omega) hr
  ·try simp only [NM] at hmay
   refine WP_skip ?_
   refine WP_ops ?_
   refine WO_mv (v := .fn _ _) rfl ?_
   refine WO_mv (v := .s (.int _ _)) rfl ?_
   refine WO_callq0 rfl (RF_of (back_run _ (by omega))) rfl rfl rfl ?_
   first | refine WO_ldA0 rfl rfl (.head _) ?_ | refine WO_ldAI rfl rfl (.head _) ?_
   refine WO_fa (o' := 0) rfl rfl rfl ?_
   refine WO_ixa rfl rfl rfl (by first | omega | (unfold acrossM; omega)) ?_
   refine WO_stA rfl rfl rfl rfl (.there .here) ?_
   refine WO_nil ?_
   refine WP_ops ?_
   refine WO_add rfl rfl (by omega) ?_
   refine WO_mv (v := .s (.int _ _)) rfl ?_
   refine WO_nil ?_
   refine ⟨64 - (i + 1), _, by omega, (.cons _ (.cons_cons _ (.cons_cons _ (.cons_cons _ .slnil)))), i + 1, _, by omega, rfl, ?_, ?_, rfl, rfl, rfl, rfl, rfl, rfl, rfl⟩
   · refine turn_step (by omega) hq rfl ?_
     first | exact ((if_pos (show mayM (P (i * 2)) (P (i * 2 + 1)) = true from hmay)).symm) | exact ((if_neg (by rw [show mayM (P (i * 2)) (P (i * 2 + 1)) = false from hmay]; decide)).symm)
   · exact turn_keep (by omega) hr
 ·try simp only [NM] at h7
  refine WP_exit ?_
  refine xhere ?_
  refine WP_seq ?_
  refine WP_ops ?_
  refine WO_fa (o' := 128) rfl rfl rfl ?_
  refine WO_ldI rfl rfl (.tail _ (.tail _ (.head _))) rfl ?_
  refine WO_call0 rfl (RF_of (Other_run _)) rfl rfl rfl ?_
  refine WO_fa (o' := 128) rfl rfl rfl ?_
  refine WO_stI rfl rfl rfl rfl .here ?_
  refine WO_nil ?_
  refine WP_seq ?_
  refine WP_seq ?_
  refine WP_ops ?_
  refine WO_fa (o' := 129) rfl rfl rfl ?_
  refine WO_ldI rfl rfl (.tail _ (.tail _ (.head _))) rfl ?_
  refine WO_bin (r := .bool _) rfl rfl rfl ?_
  refine WO_mv (v := .s (.bool _)) rfl ?_
  refine WO_case (t := 34) rfl (fun hc1 => ?_) (fun hc1 => ?_)
  ·try simp only [NM] at hc1
   refine WO_gt rfl ?_
   refine WO_fa (o' := 129) rfl rfl rfl ?_
   refine WO_gt rfl ?_
   refine WO_ldI rfl rfl (.tail _ (.tail _ (.head _))) rfl ?_
   refine WO_gt rfl ?_
   refine WO_bin (r := .bool _) rfl rfl rfl ?_
   refine WO_pick (v := .s (.bool _)) rfl rfl ?_
   refine WO_nil ?_
   refine WP_cond rfl (fun hc2 => ?_) (fun hc2 => ?_)
   ·try simp only [NM] at hc2
    refine WP_ops ?_
    refine WO_fa (o' := 129) rfl rfl rfl ?_
    refine WO_ldI rfl rfl (.tail _ (.tail _ (.head _))) rfl ?_
    refine WO_bin rfl rfl (cast_shr ⟨by omega, by omega⟩) ?_
    refine WO_fa (o' := 129) rfl rfl rfl ?_
    refine WO_ldI rfl rfl (.tail _ (.tail _ (.head _))) rfl ?_
    refine WO_bin rfl rfl (cast_and ⟨by omega, by omega⟩) ?_
    refine WO_bin rfl rfl (cast_shl ⟨by omega, by omega⟩) ?_
    refine WO_bin rfl rfl (cast_or ⟨by omega, by omega⟩) ?_
    refine WO_fa (o' := 129) rfl rfl rfl ?_
    refine WO_stI rfl rfl rfl rfl .here ?_
    refine WO_nil ?_
    refine WP_seq ?_
    refine WP_seq ?_
    refine WP_ops ?_
    refine WO_fa (o' := 130) rfl rfl rfl ?_
    refine WO_ldI rfl rfl (.tail _ (.tail _ (.head _))) rfl ?_
    refine WO_call0 rfl (SqIs_run _) rfl rfl rfl ?_
    refine WO_nil ?_
    refine WP_cond rfl (fun hisq => ?_) (fun hisq => ?_)
    ·try simp only [NM] at hisq
     refine WP_ops ?_
     refine WO_mv (v := .fn _ _) rfl ?_
     refine WO_fa (o' := 130) rfl rfl rfl ?_
     refine WO_ldI rfl rfl (.tail _ (.tail _ (.head _))) rfl ?_
     refine WO_call0 rfl (RF_of (back_run _ (of_decide_eq_true hisq))) rfl rfl rfl ?_
     refine WO_fa (o' := 130) rfl rfl rfl ?_
     refine WO_stI rfl rfl rfl rfl .here ?_
     refine WO_nil ?_
     refine WP_seq ?_
     refine WP_ops ?_
     first | refine WO_ldA0 rfl rfl (.head _) ?_ | refine WO_ldAI rfl rfl (.head _) ?_
     refine WO_stA rfl rfl rfl rfl (.there .here) ?_
     refine WO_nil ?_
     refine WP_ret ?_
     refine ⟨_, RS_cell rfl rfl (.tail _ (.head _)) (RS_nil), ?_⟩
     obtain rfl : i = 64 := by omega
     refine ⟨_, ⟨?_, ?_, ?_, ?_, ?_, ?_, ?_⟩, rfl⟩
     · exact turned_of (fun c hc => by rw [ovA_at (by omega), Nat.sub_zero]; repeat rw [ov_out (by omega)]) hq
     · rfl
     · first | exact ((if_pos ⟨by omega, by omega⟩).symm) | exact ((hr 129 (by omega)).trans (if_neg (by omega)).symm)
     · first | exact ((if_pos hisq).symm) | exact ((hr 130 (by omega)).trans (if_neg (by rw [hisq]; decide)).symm)
     · exact hr 131 (by omega)
     · exact hr 132 (by omega)
     · exact fun i hi => ovA_out (by omega)
    ·try simp only [NM] at hisq
     refine WP_skip ?_
     refine WP_seq ?_
     refine WP_ops ?_
     first | refine WO_ldA0 rfl rfl (.head _) ?_ | refine WO_ldAI rfl rfl (.head _) ?_
     refine WO_stA rfl rfl rfl rfl (.there .here) ?_
     refine WO_nil ?_
     refine WP_ret ?_
     refine ⟨_, RS_cell rfl rfl (.tail _ (.head _)) (RS_nil), ?_⟩
     obtain rfl : i = 64 := by omega
     refine ⟨_, ⟨?_, ?_, ?_, ?_, ?_, ?_, ?_⟩, rfl⟩
     · exact turned_of (fun c hc => by rw [ovA_at (by omega), Nat.sub_zero]; repeat rw [ov_out (by omega)]) hq
     · rfl
     · first | exact ((if_pos ⟨by omega, by omega⟩).symm) | exact ((hr 129 (by omega)).trans (if_neg (by omega)).symm)
     · first | exact ((if_pos hisq).symm) | exact ((hr 130 (by omega)).trans (if_neg (by rw [hisq]; decide)).symm)
     · exact hr 131 (by omega)
     · exact hr 132 (by omega)
     · exact fun i hi => ovA_out (by omega)
   ·try simp only [NM] at hc2
    refine WP_skip ?_
    refine WP_seq ?_
    refine WP_seq ?_
    refine WP_ops ?_
    refine WO_fa (o' := 130) rfl rfl rfl ?_
    refine WO_ldI rfl rfl (.tail _ (.tail _ (.head _))) rfl ?_
    refine WO_call0 rfl (SqIs_run _) rfl rfl rfl ?_
    refine WO_nil ?_
    refine WP_cond rfl (fun hisq => ?_) (fun hisq => ?_)
    ·try simp only [NM] at hisq
     refine WP_ops ?_
     refine WO_mv (v := .fn _ _) rfl ?_
     refine WO_fa (o' := 130) rfl rfl rfl ?_
     refine WO_ldI rfl rfl (.tail _ (.tail _ (.head _))) rfl ?_
     refine WO_call0 rfl (RF_of (back_run _ (of_decide_eq_true hisq))) rfl rfl rfl ?_
     refine WO_fa (o' := 130) rfl rfl rfl ?_
     refine WO_stI rfl rfl rfl rfl .here ?_
     refine WO_nil ?_
     refine WP_seq ?_
     refine WP_ops ?_
     first | refine WO_ldA0 rfl rfl (.head _) ?_ | refine WO_ldAI rfl rfl (.head _) ?_
     refine WO_stA rfl rfl rfl rfl (.there .here) ?_
     refine WO_nil ?_
     refine WP_ret ?_
     refine ⟨_, RS_cell rfl rfl (.tail _ (.head _)) (RS_nil), ?_⟩
     obtain rfl : i = 64 := by omega
     refine ⟨_, ⟨?_, ?_, ?_, ?_, ?_, ?_, ?_⟩, rfl⟩
     · exact turned_of (fun c hc => by rw [ovA_at (by omega), Nat.sub_zero]; repeat rw [ov_out (by omega)]) hq
     · rfl
     · first | exact ((if_pos ⟨by omega, by omega⟩).symm) | exact ((hr 129 (by omega)).trans (if_neg (by omega)).symm)
     · first | exact ((if_pos hisq).symm) | exact ((hr 130 (by omega)).trans (if_neg (by rw [hisq]; decide)).symm)
     · exact hr 131 (by omega)
     · exact hr 132 (by omega)
     · exact fun i hi => ovA_out (by omega)
    ·try simp only [NM] at hisq
     refine WP_skip ?_
     refine WP_seq ?_
     refine WP_ops ?_
     first | refine WO_ldA0 rfl rfl (.head _) ?_ | refine WO_ldAI rfl rfl (.head _) ?_
     refine WO_stA rfl rfl rfl rfl (.there .here) ?_
     refine WO_nil ?_
     refine WP_ret ?_
     refine ⟨_, RS_cell rfl rfl (.tail _ (.head _)) (RS_nil), ?_⟩
     obtain rfl : i = 64 := by omega
     refine ⟨_, ⟨?_, ?_, ?_, ?_, ?_, ?_, ?_⟩, rfl⟩
     · exact turned_of (fun c hc => by rw [ovA_at (by omega), Nat.sub_zero]; repeat rw [ov_out (by omega)]) hq
     · rfl
     · first | exact ((if_pos ⟨by omega, by omega⟩).symm) | exact ((hr 129 (by omega)).trans (if_neg (by omega)).symm)
     · first | exact ((if_pos hisq).symm) | exact ((hr 130 (by omega)).trans (if_neg (by rw [hisq]; decide)).symm)
     · exact hr 131 (by omega)
     · exact hr 132 (by omega)
     · exact fun i hi => ovA_out (by omega)
  ·try simp only [NM] at hc1
   refine WO_gf rfl rfl ?_
   refine WO_gf rfl rfl ?_
   refine WO_gf rfl rfl ?_
   refine WO_pick (v := .s (.bool _)) rfl rfl ?_
   refine WO_nil ?_
   refine WP_cond rfl (fun h => nomatch h) (fun _ => ?_)
   refine WP_skip ?_
   refine WP_seq ?_
   refine WP_seq ?_
   refine WP_ops ?_
   refine WO_fa (o' := 130) rfl rfl rfl ?_
   refine WO_ldI rfl rfl (.tail _ (.tail _ (.head _))) rfl ?_
   refine WO_call0 rfl (SqIs_run _) rfl rfl rfl ?_
   refine WO_nil ?_
   refine WP_cond rfl (fun hisq => ?_) (fun hisq => ?_)
   ·try simp only [NM] at hisq
    refine WP_ops ?_
    refine WO_mv (v := .fn _ _) rfl ?_
    refine WO_fa (o' := 130) rfl rfl rfl ?_
    refine WO_ldI rfl rfl (.tail _ (.tail _ (.head _))) rfl ?_
    refine WO_call0 rfl (RF_of (back_run _ (of_decide_eq_true hisq))) rfl rfl rfl ?_
    refine WO_fa (o' := 130) rfl rfl rfl ?_
    refine WO_stI rfl rfl rfl rfl .here ?_
    refine WO_nil ?_
    refine WP_seq ?_
    refine WP_ops ?_
    first | refine WO_ldA0 rfl rfl (.head _) ?_ | refine WO_ldAI rfl rfl (.head _) ?_
    refine WO_stA rfl rfl rfl rfl (.there .here) ?_
    refine WO_nil ?_
    refine WP_ret ?_
    refine ⟨_, RS_cell rfl rfl (.tail _ (.head _)) (RS_nil), ?_⟩
    obtain rfl : i = 64 := by omega
    refine ⟨_, ⟨?_, ?_, ?_, ?_, ?_, ?_, ?_⟩, rfl⟩
    · exact turned_of (fun c hc => by rw [ovA_at (by omega), Nat.sub_zero]; repeat rw [ov_out (by omega)]) hq
    · rfl
    · first | exact ((if_pos ⟨by omega, by omega⟩).symm) | exact ((hr 129 (by omega)).trans (if_neg (by omega)).symm)
    · first | exact ((if_pos hisq).symm) | exact ((hr 130 (by omega)).trans (if_neg (by rw [hisq]; decide)).symm)
    · exact hr 131 (by omega)
    · exact hr 132 (by omega)
    · exact fun i hi => ovA_out (by omega)
   ·try simp only [NM] at hisq
    refine WP_skip ?_
    refine WP_seq ?_
    refine WP_ops ?_
    first | refine WO_ldA0 rfl rfl (.head _) ?_ | refine WO_ldAI rfl rfl (.head _) ?_
    refine WO_stA rfl rfl rfl rfl (.there .here) ?_
    refine WO_nil ?_
    refine WP_ret ?_
    refine ⟨_, RS_cell rfl rfl (.tail _ (.head _)) (RS_nil), ?_⟩
    obtain rfl : i = 64 := by omega
    refine ⟨_, ⟨?_, ?_, ?_, ?_, ?_, ?_, ?_⟩, rfl⟩
    · exact turned_of (fun c hc => by rw [ovA_at (by omega), Nat.sub_zero]; repeat rw [ov_out (by omega)]) hq
    · rfl
    · first | exact ((if_pos ⟨by omega, by omega⟩).symm) | exact ((hr 129 (by omega)).trans (if_neg (by omega)).symm)
    · first | exact ((if_pos hisq).symm) | exact ((hr 130 (by omega)).trans (if_neg (by rw [hisq]; decide)).symm)
    · exact hr 131 (by omega)
    · exact hr 132 (by omega)
    · exact fun i hi => ovA_out (by omega)
end Go.Proofs.Ytjldefmcnppdoaa
/- The walks of steps. -/
namespace Go.Proofs.Ytjldefmcnppdoaa
open Go Go.Am
set_option linter.unusedSimpArgs false
set_option linter.unusedVariables false
/-- The cell of a square. -/
abbrev sqI (x : Int) : Nat := 0 + x.toNat * 2
theorem rMay_run (P : Nat → Int) : WR AM 55 [.agg 2 (ia P)] [] (fun v _ _ => v = .s (.bool (mayM (P 0) (P 1)))) := by
 refine WR_fn (a := a55) rfl rfl (entryF _) (entry_E (Nat.le_of_ble_eq_true rfl)) (m := 0) rfl ?_
 refine WP_seq ?_
 refine WP_ops ?_
 refine WO_boxA rfl ?_
 refine WO_mv rfl ?_
 refine WO_nil ?_
 refine WP_seq ?_
 refine WP_ops ?_
 refine WO_fa (o' := 0) rfl rfl rfl ?_
 refine WO_ldI rfl rfl (.head _) rfl ?_
 refine WO_bin (r := .bool _) rfl rfl rfl ?_
 refine WO_mv (v := .s (.bool _)) rfl ?_
 refine WO_case (t := 6) rfl (fun h2 => ?_) (fun h2 => ?_)
 ·try simp only [NM] at h2
  refine WO_gt rfl ?_
  refine WO_fa (o' := 0) rfl rfl rfl ?_
  refine WO_gt rfl ?_
  refine WO_ldI rfl rfl (.head _) rfl ?_
  refine WO_gt rfl ?_
  refine WO_bin (r := .bool _) rfl rfl rfl ?_
  refine WO_pick (v := .s (.bool _)) rfl rfl ?_
  refine WO_mv (v := .s (.bool _)) rfl ?_
  refine WO_case (t := 11) rfl (fun h3 => ?_) (fun h3 => ?_)
  ·try simp only [NM] at h3
   refine WO_gt rfl ?_
   refine WO_fa (o' := 1) rfl rfl rfl ?_
   refine WO_gt rfl ?_
   refine WO_ldI rfl rfl (.head _) rfl ?_
   refine WO_gt rfl ?_
   refine WO_bin (r := .bool _) rfl rfl rfl ?_
   refine WO_gt rfl ?_
   refine WO_mv (v := .s (.bool _)) rfl ?_
   refine WO_case (t := 15) rfl (fun h4 => ?_) (fun h4 => ?_)
   ·try simp only [NM] at h4
    refine WO_gf rfl rfl ?_
    refine WO_gf rfl rfl ?_
    refine WO_gf rfl rfl ?_
    refine WO_gt rfl ?_
    refine WO_pick (v := .s (.bool _)) rfl rfl ?_
    refine WO_pick (v := .s (.bool _)) rfl rfl ?_
    refine WO_mv (v := .s (.bool _)) rfl ?_
    refine WO_nil ?_
    refine WP_ret ?_
    refine ⟨_, RS_tmp (v := .s (.bool _)) rfl (RS_nil), ?_⟩
    refine congrArg (fun b => V.s (S.bool b)) ?_
    rw [Bool.eq_iff_iff]
    simp only [beq_iff_eq, bne_iff_ne, ne_eq, decide_eq_true_eq, Bool.false_eq_true, true_iff, false_iff, gt_iff_lt, ge_iff_le, isM, mayM, Bool.true_eq_false, iff_true, iff_false]
    omega
   ·try simp only [NM] at h4
    refine WO_gt rfl ?_
    refine WO_fa (o' := 1) rfl rfl rfl ?_
    refine WO_gt rfl ?_
    refine WO_ldI rfl rfl (.head _) rfl ?_
    refine WO_gt rfl ?_
    refine WO_bin (r := .bool _) rfl rfl rfl ?_
    refine WO_gt rfl ?_
    refine WO_pick (v := .s (.bool _)) rfl rfl ?_
    refine WO_pick (v := .s (.bool _)) rfl rfl ?_
    refine WO_mv (v := .s (.bool _)) rfl ?_
    refine WO_nil ?_
    refine WP_ret ?_
    refine ⟨_, RS_tmp (v := .s (.bool _)) rfl (RS_nil), ?_⟩
    refine congrArg (fun b => V.s (S.bool b)) ?_
    rw [Bool.eq_iff_iff]
    simp only [beq_iff_eq, bne_iff_ne, ne_eq, decide_eq_true_eq, Bool.false_eq_true, true_iff, false_iff, gt_iff_lt, ge_iff_le, isM, mayM, Bool.true_eq_false, iff_true, iff_false]
    omega
  ·try simp only [NM] at h3
   refine WO_gf rfl rfl ?_
   refine WO_gf rfl rfl ?_
   refine WO_gf rfl rfl ?_
   refine WO_gf rfl rfl ?_
   refine WO_gu rfl ?_
   refine WO_gu rfl ?_
   refine WO_gu rfl ?_
   refine WO_gf rfl rfl ?_
   refine WO_pick (v := .s (.bool _)) rfl rfl ?_
   refine WO_mv (v := .s (.bool _)) rfl ?_
   refine WO_nil ?_
   refine WP_ret ?_
   refine ⟨_, RS_tmp (v := .s (.bool _)) rfl (RS_nil), ?_⟩
   refine congrArg (fun b => V.s (S.bool b)) ?_
   rw [Bool.eq_iff_iff]
   simp only [beq_iff_eq, bne_iff_ne, ne_eq, decide_eq_true_eq, Bool.false_eq_true, true_iff, false_iff, gt_iff_lt, ge_iff_le, isM, mayM, Bool.true_eq_false, iff_true, iff_false]
   omega
 ·try simp only [NM] at h2
  refine WO_gf rfl rfl ?_
  refine WO_gf rfl rfl ?_
  refine WO_gf rfl rfl ?_
  refine WO_pick (v := .s (.bool _)) rfl rfl ?_
  refine WO_mv (v := .s (.bool _)) rfl ?_
  refine WO_gf rfl rfl ?_
  refine WO_gf rfl rfl ?_
  refine WO_gf rfl rfl ?_
  refine WO_gf rfl rfl ?_
  refine WO_gu rfl ?_
  refine WO_gu rfl ?_
  refine WO_gu rfl ?_
  refine WO_gf rfl rfl ?_
  refine WO_pick (v := .s (.bool _)) rfl rfl ?_
  refine WO_mv (v := .s (.bool _)) rfl ?_
  refine WO_nil ?_
  refine WP_ret ?_
  refine ⟨_, RS_tmp (v := .s (.bool _)) rfl (RS_nil), ?_⟩
  refine congrArg (fun b => V.s (S.bool b)) ?_
  rw [Bool.eq_iff_iff]
  simp only [beq_iff_eq, bne_iff_ne, ne_eq, decide_eq_true_eq, Bool.false_eq_true, true_iff, false_iff, gt_iff_lt, ge_iff_le, isM, mayM, Bool.true_eq_false, iff_true, iff_false]
  omega
/-- The square so many files and ranks on. -/
def stepM (s f r : Int) : Int := if (0 ≤ s ∧ s < 64) ∧ (-8 < f ∧ f < 8) ∧ (-8 < r ∧ r < 8) then atM (s % 8 + f) (s / 8 + r) else -1
/-- The file and rank so many on. -/
def onM (s f r : Int) : Nat → Int := if (0 ≤ s ∧ s < 64) ∧ (-8 < f ∧ f < 8) ∧ (-8 < r ∧ r < 8) then (fun i => if i = 0 then s % 8 + f else if i = 1 then s / 8 + r else 0) else (fun i => if i = 0 then -1 else if i = 1 then -1 else 0)
theorem two_fn {x y : Int} : ovA (fun _ => 0) 0 2 (ov (ov (fun _ => 0) 0 x) 1 y) = fun i => if i = 0 then x else if i = 1 then y else 0 := by
  funext i
  by_cases h0 : i = 0
  · subst h0; rfl
  · by_cases h1 : i = 1
    · subst h1; rfl
    · rw [ovA_out (by omega), if_neg h0, if_neg h1]

theorem on_in (s f r : Int) (h : 0 ≤ s ∧ s < 64) : WR AM 83 [.agg 3 (lc [.int .i64 (s % 8), .int .i64 (s / 8), .bool true]), .s (.int .i64 f), .s (.int .i64 r)] [] (fun v _ _ => v = .agg 2 (ia (onM s f r))) := by
 refine WR_fn (a := a83) rfl rfl (entryF _) (entry_E (Nat.le_of_ble_eq_true rfl)) (m := 0) rfl ?_
 refine WP_seq ?_
 refine WP_ops ?_
 refine WO_boxA rfl ?_
 refine WO_allocI ?_
 refine WO_nil ?_
 refine WP_seq ?_
 refine WP_seq ?_
 refine WP_ops ?_
 refine WO_fa (o' := 2) rfl rfl rfl ?_
 refine WO_ldS (x := .bool _) rfl rfl (.tail _ (.head _)) rfl ?_
 refine WO_un (r := .bool _) rfl rfl ?_
 refine WO_mv (v := .s (.bool _)) rfl ?_
 refine WO_gt rfl ?_
 refine WO_mv (v := .s (.int _ _)) rfl ?_
 refine WO_gt rfl ?_
 refine WO_mv (v := .s (.int _ _)) rfl ?_
 refine WO_gt rfl ?_
 refine WO_mx2 rfl rfl ?_
 refine WO_gt rfl ?_
 refine WO_bin (r := .bool _) rfl rfl rfl ?_
 refine WO_pick (v := .s (.bool _)) rfl rfl ?_
 refine WO_mv (v := .s (.bool _)) rfl ?_
 refine WO_case (t := 16) rfl (fun h5 => ?_) (fun h5 => ?_)
 ·try simp only [NM] at h5
  refine WO_gf rfl rfl ?_
  refine WO_gf rfl rfl ?_
  refine WO_gf rfl rfl ?_
  refine WO_gf rfl rfl ?_
  refine WO_pick (v := .s (.bool _)) rfl rfl ?_
  refine WO_nil ?_
  refine WP_cond rfl (fun _ => ?_) (fun h => nomatch h)
  refine WP_seq ?_
  refine WP_ops ?_
  refine WO_buildI rfl (.one rfl (.one rfl .nil)) ?_
  refine WO_stA rfl rfl rfl rfl .here ?_
  refine WO_nil ?_
  refine WP_ret ?_
  refine ⟨_, RS_cell rfl rfl (.head _) (RS_nil), ?_⟩
  refine congrArg (fun g => V.agg 2 (ia g)) ?_
  rw [two_fn]
  first | exact (if_pos ⟨h, by omega, by omega⟩).symm | exact (if_neg (fun q => by omega)).symm
 ·try simp only [NM] at h5
  refine WO_gt rfl ?_
  refine WO_mv (v := .s (.int _ _)) rfl ?_
  refine WO_gt rfl ?_
  refine WO_mv (v := .s (.int _ _)) rfl ?_
  refine WO_gt rfl ?_
  refine WO_mn2 rfl rfl ?_
  refine WO_gt rfl ?_
  refine WO_bin (r := .bool _) rfl rfl rfl ?_
  refine WO_pick (v := .s (.bool _)) rfl rfl ?_
  refine WO_nil ?_
  refine WP_cond rfl (fun h6 => ?_) (fun h6 => ?_)
  ·try simp only [NM] at h6
   refine WP_seq ?_
   refine WP_ops ?_
   refine WO_buildI rfl (.one rfl (.one rfl .nil)) ?_
   refine WO_stA rfl rfl rfl rfl .here ?_
   refine WO_nil ?_
   refine WP_ret ?_
   refine ⟨_, RS_cell rfl rfl (.head _) (RS_nil), ?_⟩
   refine congrArg (fun g => V.agg 2 (ia g)) ?_
   rw [two_fn]
   first | exact (if_pos ⟨h, by omega, by omega⟩).symm | exact (if_neg (fun q => by omega)).symm
  ·try simp only [NM] at h6
   refine WP_skip ?_
   refine WP_seq ?_
   refine WP_ops ?_
   refine WO_fa (o' := 0) rfl rfl rfl ?_
   refine WO_fa (o' := 0) rfl rfl rfl ?_
   refine WO_ldS (x := .int _ _) rfl rfl (.tail _ (.head _)) rfl ?_
   refine WO_mv (v := .s (.int _ _)) rfl ?_
   refine WO_add rfl rfl (by omega) ?_
   refine WO_fa (o' := 0) rfl rfl rfl ?_
   refine WO_fa (o' := 1) rfl rfl rfl ?_
   refine WO_ldS (x := .int _ _) rfl rfl (.tail _ (.head _)) rfl ?_
   refine WO_mv (v := .s (.int _ _)) rfl ?_
   refine WO_add rfl rfl (by omega) ?_
   refine WO_buildI rfl (.one rfl (.one rfl .nil)) ?_
   refine WO_stA rfl rfl rfl rfl .here ?_
   refine WO_nil ?_
   refine WP_ret ?_
   refine ⟨_, RS_cell rfl rfl (.head _) (RS_nil), ?_⟩
   refine congrArg (fun g => V.agg 2 (ia g)) ?_
   rw [two_fn]
   first | exact (if_pos ⟨h, by omega, by omega⟩).symm | exact (if_neg (fun q => by omega)).symm
theorem on_out (s f r : Int) (h : ¬ (0 ≤ s ∧ s < 64)) : WR AM 83 [.agg 3 (lc [.int .i64 (-1), .int .i64 (-1), .bool false]), .s (.int .i64 f), .s (.int .i64 r)] [] (fun v _ _ => v = .agg 2 (ia (onM s f r))) := by
 refine WR_fn (a := a83) rfl rfl (entryF _) (entry_E (Nat.le_of_ble_eq_true rfl)) (m := 0) rfl ?_
 refine WP_seq ?_
 refine WP_ops ?_
 refine WO_boxA rfl ?_
 refine WO_allocI ?_
 refine WO_nil ?_
 refine WP_seq ?_
 refine WP_seq ?_
 refine WP_ops ?_
 refine WO_fa (o' := 2) rfl rfl rfl ?_
 refine WO_ldS (x := .bool _) rfl rfl (.tail _ (.head _)) rfl ?_
 refine WO_un (r := .bool _) rfl rfl ?_
 refine WO_mv (v := .s (.bool _)) rfl ?_
 refine WO_gf rfl rfl ?_
 refine WO_gf rfl rfl ?_
 refine WO_gf rfl rfl ?_
 refine WO_gf rfl rfl ?_
 refine WO_pick (v := .s (.bool _)) rfl rfl ?_
 refine WO_mv (v := .s (.bool _)) rfl ?_
 refine WO_gf rfl rfl ?_
 refine WO_gf rfl rfl ?_
 refine WO_gf rfl rfl ?_
 refine WO_gf rfl rfl ?_
 refine WO_pick (v := .s (.bool _)) rfl rfl ?_
 refine WO_nil ?_
 refine WP_cond rfl (fun _ => ?_) (fun h => nomatch h)
 refine WP_seq ?_
 refine WP_ops ?_
 refine WO_buildI rfl (.one rfl (.one rfl .nil)) ?_
 refine WO_stA rfl rfl rfl rfl .here ?_
 refine WO_nil ?_
 refine WP_ret ?_
 refine ⟨_, RS_cell rfl rfl (.head _) (RS_nil), ?_⟩
 refine congrArg (fun g => V.agg 2 (ia g)) ?_
 rw [two_fn]
 first | exact (if_pos ⟨h, by omega, by omega⟩).symm | exact (if_neg (fun q => by omega)).symm
theorem onM_bd (s : Int) {f r : Int} (i : Nat) : -9223372036854775808 ≤ onM s f r i ∧ onM s f r i ≤ 9223372036854775807 := by
  unfold onM
  split
  · dsimp only; split
    · omega
    · split <;> omega
  · dsimp only; split
    · omega
    · split <;> omega
theorem onM_at (s f r : Int) : atM (onM s f r 0) (onM s f r 1) = stepM s f r := by
  unfold onM stepM
  by_cases h : (0 ≤ s ∧ s < 64) ∧ (-8 < f ∧ f < 8) ∧ (-8 < r ∧ r < 8)
  · rw [if_pos h, if_pos h]; rfl
  · rw [if_neg h, if_neg h]; rfl

theorem Step_in (s f r : Int) (h : 0 ≤ s ∧ s < 64) : WR AM 33 [.s (.int .i64 s), .s (.int .i64 f), .s (.int .i64 r)] [] (fun v _ _ => v = .s (.int .i64 (stepM s f r))) := by
 refine WR_fn (a := a33) rfl rfl (entryF _) (entry_E (Nat.le_of_ble_eq_true rfl)) (m := 0) rfl ?_
 refine WP_seq ?_
 refine WP_ops ?_
 refine WO_mv rfl ?_
 refine WO_nil ?_
 refine WP_seq ?_
 refine WP_ops ?_
 refine WO_mv (v := .s (.int _ _)) rfl ?_
 refine WO_call0 rfl (of_in _ h) rfl rfl rfl ?_
 refine WO_mv (v := .s (.int _ _)) rfl ?_
 refine WO_mv (v := .s (.int _ _)) rfl ?_
 refine WO_call0 rfl (RF_of (on_in _ _ _ h)) rfl rfl rfl ?_
 refine WO_call0 rfl (RF_of (number_run _ (onM_bd s 0) (onM_bd s 1))) rfl rfl rfl ?_
 refine WO_mv (v := .s (.int _ _)) rfl ?_
 refine WO_nil ?_
 refine WP_ret ?_
 refine ⟨_, RS_tmp (v := .s (.int _ _)) rfl (RS_nil), ?_⟩
 exact congrArg (fun b => V.s (S.int .i64 b)) (onM_at s f r)
theorem Step_out (s f r : Int) (h : ¬ (0 ≤ s ∧ s < 64)) : WR AM 33 [.s (.int .i64 s), .s (.int .i64 f), .s (.int .i64 r)] [] (fun v _ _ => v = .s (.int .i64 (stepM s f r))) := by
 refine WR_fn (a := a33) rfl rfl (entryF _) (entry_E (Nat.le_of_ble_eq_true rfl)) (m := 0) rfl ?_
 refine WP_seq ?_
 refine WP_ops ?_
 refine WO_mv rfl ?_
 refine WO_nil ?_
 refine WP_seq ?_
 refine WP_ops ?_
 refine WO_mv (v := .s (.int _ _)) rfl ?_
 refine WO_call0 rfl (of_out _ h) rfl rfl rfl ?_
 refine WO_mv (v := .s (.int _ _)) rfl ?_
 refine WO_mv (v := .s (.int _ _)) rfl ?_
 refine WO_call0 rfl (RF_of (on_out _ _ _ h)) rfl rfl rfl ?_
 refine WO_call0 rfl (RF_of (number_run _ (onM_bd s 0) (onM_bd s 1))) rfl rfl rfl ?_
 refine WO_mv (v := .s (.int _ _)) rfl ?_
 refine WO_nil ?_
 refine WP_ret ?_
 refine ⟨_, RS_tmp (v := .s (.int _ _)) rfl (RS_nil), ?_⟩
 exact congrArg (fun b => V.s (S.int .i64 b)) (onM_at s f r)
theorem Step_run (s f r : Int) : RF AM 33 [.s (.int .i64 s), .s (.int .i64 f), .s (.int .i64 r)] (.s (.int .i64 (stepM s f r))) := by
  by_cases h : 0 ≤ s ∧ s < 64
  · exact RF_of (Step_in s f r h)
  · exact RF_of (Step_out s f r h)

/-- Some number below n. -/
def pickM (x n : Int) : Int := if x.tmod n < 0 then x.tmod n + n else x.tmod n

theorem tmod_bd (x : Int) {n : Int} (h : 1 ≤ n) : -n < x.tmod n ∧ x.tmod n < n :=
  ⟨by have h1 := Int.tmod_lt_of_pos (-x) (by omega : (0 : Int) < n); have h2 := Int.neg_tmod x n; omega, Int.tmod_lt_of_pos x (by omega)⟩

theorem pickM_bd (x : Int) {n : Int} (h : 1 ≤ n) : 0 ≤ pickM x n ∧ pickM x n < n := by
  have := tmod_bd x h
  unfold pickM
  split <;> omega

theorem Pick_run (x n : Int) (h1 : 1 ≤ n) (h2 : n ≤ 4611686018427387904) : WR AM 30 [.s (.int .i64 x), .s (.int .i64 n)] [] (fun v _ _ => v = .s (.int .i64 (pickM x n))) := by
 have hb := tmod_bd x h1
 refine WR_fn (a := a30) rfl rfl (entryF _) (entry_E (Nat.le_of_ble_eq_true rfl)) (m := 0) rfl ?_
 refine WP_seq ?_
 refine WP_ops ?_
 refine WO_mv rfl ?_
 refine WO_nil ?_
 refine WP_seq ?_
 refine WP_seq ?_
 refine WP_ops ?_
 refine WO_mv (v := .s (.int _ _)) rfl ?_
 refine WO_bin (r := .bool _) rfl rfl rfl ?_
 refine WO_nil ?_
 refine WP_cond rfl (fun h7 => ?_) (fun h7 => ?_)
 ·try simp only [NM] at h7
  exfalso; omega
 ·try simp only [NM] at h7
  refine WP_skip ?_
  refine WP_seq ?_
  refine WP_ops ?_
  refine WO_mv (v := .s (.int _ _)) rfl ?_
  refine WO_mv (v := .s (.int _ _)) rfl ?_
  refine WO_remT rfl rfl (by omega) ?_
  refine WO_mv (v := .s (.int _ _)) rfl ?_
  refine WO_nil ?_
  refine WP_seq ?_
  refine WP_seq ?_
  refine WP_ops ?_
  refine WO_mv (v := .s (.int _ _)) rfl ?_
  refine WO_bin (r := .bool _) rfl rfl rfl ?_
  refine WO_nil ?_
  refine WP_cond rfl (fun h8 => ?_) (fun h8 => ?_)
  ·try simp only [NM] at h8
   refine WP_ops ?_
   refine WO_mv (v := .s (.int _ _)) rfl ?_
   refine WO_mv (v := .s (.int _ _)) rfl ?_
   refine WO_add rfl rfl (by omega) ?_
   refine WO_mv (v := .s (.int _ _)) rfl ?_
   refine WO_nil ?_
   refine WP_seq ?_
   refine WP_ops ?_
   refine WO_mv (v := .s (.int _ _)) rfl ?_
   refine WO_mv (v := .s (.int _ _)) rfl ?_
   refine WO_nil ?_
   refine WP_ret ?_
   refine ⟨_, RS_tmp (v := .s (.int _ _)) rfl (RS_nil), ?_⟩
   exact congrArg (fun b => V.s (S.int .i64 b)) (by unfold pickM; split <;> first | rfl | (exfalso; omega))
  ·try simp only [NM] at h8
   refine WP_skip ?_
   refine WP_seq ?_
   refine WP_ops ?_
   refine WO_mv (v := .s (.int _ _)) rfl ?_
   refine WO_mv (v := .s (.int _ _)) rfl ?_
   refine WO_nil ?_
   refine WP_ret ?_
   refine ⟨_, RS_tmp (v := .s (.int _ _)) rfl (RS_nil), ?_⟩
   exact congrArg (fun b => V.s (S.int .i64 b)) (by unfold pickM; split <;> first | rfl | (exfalso; omega))
end Go.Proofs.Ytjldefmcnppdoaa
/- The walks of the chapter board: what is right. -/
namespace Go.Proofs.Ytjldefmcnppdoaa
open Go Go.Am
set_option linter.unusedSimpArgs false
set_option linter.unusedVariables false
theorem cast_shr0 {c : Int} (h : 0 ≤ c ∧ c ≤ 15) : binS .shr (.int .i64 c) (.int .i64 0) = some (.int .i64 (c / 1)) := by
  have : c = 0 ∨ c = 1 ∨ c = 2 ∨ c = 3 ∨ c = 4 ∨ c = 5 ∨ c = 6 ∨ c = 7 ∨ c = 8 ∨ c = 9 ∨ c = 10 ∨ c = 11 ∨ c = 12 ∨ c = 13 ∨ c = 14 ∨ c = 15 := by omega
  rcases this with rfl | rfl | rfl | rfl | rfl | rfl | rfl | rfl | rfl | rfl | rfl | rfl | rfl | rfl | rfl | rfl <;> rfl
theorem cast_shr1 {c : Int} (h : 0 ≤ c ∧ c ≤ 15) : binS .shr (.int .i64 c) (.int .i64 1) = some (.int .i64 (c / 2)) := by
  have : c = 0 ∨ c = 1 ∨ c = 2 ∨ c = 3 ∨ c = 4 ∨ c = 5 ∨ c = 6 ∨ c = 7 ∨ c = 8 ∨ c = 9 ∨ c = 10 ∨ c = 11 ∨ c = 12 ∨ c = 13 ∨ c = 14 ∨ c = 15 := by omega
  rcases this with rfl | rfl | rfl | rfl | rfl | rfl | rfl | rfl | rfl | rfl | rfl | rfl | rfl | rfl | rfl | rfl <;> rfl
theorem cast_shr2 {c : Int} (h : 0 ≤ c ∧ c ≤ 15) : binS .shr (.int .i64 c) (.int .i64 2) = some (.int .i64 (c / 4)) := by
  have : c = 0 ∨ c = 1 ∨ c = 2 ∨ c = 3 ∨ c = 4 ∨ c = 5 ∨ c = 6 ∨ c = 7 ∨ c = 8 ∨ c = 9 ∨ c = 10 ∨ c = 11 ∨ c = 12 ∨ c = 13 ∨ c = 14 ∨ c = 15 := by omega
  rcases this with rfl | rfl | rfl | rfl | rfl | rfl | rfl | rfl | rfl | rfl | rfl | rfl | rfl | rfl | rfl | rfl <;> rfl
theorem cast_shr3 {c : Int} (h : 0 ≤ c ∧ c ≤ 15) : binS .shr (.int .i64 c) (.int .i64 3) = some (.int .i64 (c / 8)) := by
  have : c = 0 ∨ c = 1 ∨ c = 2 ∨ c = 3 ∨ c = 4 ∨ c = 5 ∨ c = 6 ∨ c = 7 ∨ c = 8 ∨ c = 9 ∨ c = 10 ∨ c = 11 ∨ c = 12 ∨ c = 13 ∨ c = 14 ∨ c = 15 := by omega
  rcases this with rfl | rfl | rfl | rfl | rfl | rfl | rfl | rfl | rfl | rfl | rfl | rfl | rfl | rfl | rfl | rfl <;> rfl
theorem cast_and1 {c : Int} (h : 0 ≤ c ∧ c ≤ 15) : binS .and (.int .i64 c) (.int .i64 1) = some (.int .i64 (c % 2)) := by
  have : c = 0 ∨ c = 1 ∨ c = 2 ∨ c = 3 ∨ c = 4 ∨ c = 5 ∨ c = 6 ∨ c = 7 ∨ c = 8 ∨ c = 9 ∨ c = 10 ∨ c = 11 ∨ c = 12 ∨ c = 13 ∨ c = 14 ∨ c = 15 := by omega
  rcases this with rfl | rfl | rfl | rfl | rfl | rfl | rfl | rfl | rfl | rfl | rfl | rfl | rfl | rfl | rfl | rfl <;> rfl

/-- A piece stands on a square; nothing does. -/
def standM (P : Nat → Int) (x k c : Int) : Bool := decide (P (sqI x) = k ∧ P (sqI x + 1) = c)
theorem eq_two {X Y : Nat → Int} : eqI 2 X Y = decide (X 0 = Y 0 ∧ X 1 = Y 1) := by
  rw [Bool.eq_iff_iff, eqI_iff, decide_eq_true_eq]
  constructor
  · intro h; exact ⟨h 0 (by omega), h 1 (by omega)⟩
  · rintro ⟨h0, h1⟩ i hi
    have : i = 0 ∨ i = 1 := by omega
    rcases this with rfl | rfl
    · exact h0
    · exact h1
def okM (P : Nat → Int) (s : Nat) : Prop := (P (sqI s) = 0 ∧ P (sqI s + 1) = 0) ∨ ((1 ≤ P (sqI s) ∧ P (sqI s) ≤ 6 ∧ (P (sqI s + 1) = 0 ∨ P (sqI s + 1) = 1)) ∧ ¬ (P (sqI s) = 1 ∧ (s < 8 ∨ 56 ≤ s)))
/-- The kings of a side on the first squares. -/
def kM (P : Nat → Int) (c : Int) : Nat → Int
  | 0 => 0
  | n + 1 => kM P c n + (if P (sqI n) = 6 ∧ P (sqI n + 1) = c then 1 else 0)
theorem kM_bd (P : Nat → Int) (c : Int) : ∀ n : Nat, 0 ≤ kM P c n ∧ kM P c n ≤ n
  | 0 => ⟨Int.le_refl _, Int.le_refl _⟩
  | n + 1 => by
    have := kM_bd P c n
    unfold kM
    split <;> omega
instance (P : Nat → Int) (s : Nat) : Decidable (okM P s) := by unfold okM; infer_instance
def piecesM (P : Nat → Int) : Bool := decide ((∀ s : Nat, s < 64 → okM P s) ∧ kM P 0 64 = 1 ∧ kM P 1 64 = 1 ∧ (P 128 = 0 ∨ P 128 = 1))
theorem pieces_no {P : Nat → Int} (h : ¬ ((∀ s : Nat, s < 64 → okM P s) ∧ kM P 0 64 = 1 ∧ kM P 1 64 = 1 ∧ (P 128 = 0 ∨ P 128 = 1))) : piecesM P = false := by
  unfold piecesM; exact decide_eq_false h
theorem pieces_yes {P : Nat → Int} (h : (∀ s : Nat, s < 64 → okM P s) ∧ kM P 0 64 = 1 ∧ kM P 1 64 = 1 ∧ (P 128 = 0 ∨ P 128 = 1)) : piecesM P = true := by
  unfold piecesM; exact decide_eq_true h
theorem pieces_is {P : Nat → Int} (h : piecesM P = true) : (∀ s : Nat, s < 64 → okM P s) ∧ kM P 0 64 = 1 ∧ kM P 1 64 = 1 ∧ (P 128 = 0 ∨ P 128 = 1) := by
  unfold piecesM at h; exact of_decide_eq_true h
theorem ok_next {P : Nat → Int} {i : Nat} (h : ∀ s : Nat, s < i → okM P s) (hi : okM P i) : ∀ s : Nat, s < i + 1 → okM P s := fun s hs => by
  by_cases e : s = i
  · subst e; exact hi
  · exact h s (by omega)
theorem kings_no {P C : Nat → Int} {i : Nat} (h0 : C 0 = kM P 0 i) (h1 : C 1 = kM P 1 i) (hk : ¬ P (sqI i) = 6) : C 0 = kM P 0 (i + 1) ∧ C 1 = kM P 1 (i + 1) := by
  unfold kM
  rw [if_neg (fun q => hk q.1), if_neg (fun q => hk q.1)]
  omega
theorem kings_yes {P C : Nat → Int} {i : Nat} (h0 : C 0 = kM P 0 i) (h1 : C 1 = kM P 1 i) (hk : P (sqI i) = 6) (hc : P (sqI i + 1) = 0 ∨ P (sqI i + 1) = 1) : ov C (0 + (P (sqI i + 1)).toNat * 1) (C (0 + (P (sqI i + 1)).toNat * 1) + 1) 0 = kM P 0 (i + 1) ∧ ov C (0 + (P (sqI i + 1)).toNat * 1) (C (0 + (P (sqI i + 1)).toNat * 1) + 1) 1 = kM P 1 (i + 1) := by
  unfold kM
  rcases hc with hc | hc
  · rw [if_pos ⟨hk, hc⟩, if_neg (by omega), hc]
    exact ⟨by show C 0 + 1 = _; omega, by show C 1 = _; omega⟩
  · rw [if_neg (by omega), if_pos ⟨hk, hc⟩, hc]
    exact ⟨by show C 0 = _; omega, by show C 1 + 1 = _; omega⟩
theorem king_bd {P C : Nat → Int} {i : Nat} (h0 : C 0 = kM P 0 i) (h1 : C 1 = kM P 1 i) (hi : i ≤ 64) (hc : P (sqI i + 1) = 0 ∨ P (sqI i + 1) = 1) : -9223372036854775808 ≤ C (0 + (P (sqI i + 1)).toNat * 1) + 1 ∧ C (0 + (P (sqI i + 1)).toNat * 1) + 1 ≤ 9223372036854775807 := by
  have := kM_bd P 0 i
  have := kM_bd P 1 i
  rcases hc with hc | hc
  · rw [hc]; show _ ≤ C 0 + 1 ∧ C 0 + 1 ≤ _; omega
  · rw [hc]; show _ ≤ C 1 + 1 ∧ C 1 + 1 ≤ _; omega
theorem dp_ix {P : Nat → Int} {i : Nat} : (fun j => ia P ((i : Int).toNat * 2 + j)) = ia (dp P (sqI i)) := by
  funext j
  show _ = ia P (0 + (i : Int).toNat * 2 + j)
  rw [Nat.zero_add]
theorem ovA2 {F X : Nat → Int} : ovA F 0 2 X 0 = X 0 ∧ ovA F 0 2 X 1 = X 1 := ⟨rfl, rfl⟩
def homeM (P : Nat → Int) (s a b : Int) : Bool := decide (P (sqI a) = 6 ∧ P (sqI a + 1) = s ∧ P (sqI b) = 4 ∧ P (sqI b + 1) = s)
def castlesM (P : Nat → Int) : Bool := decide ((0 ≤ P 129 ∧ P 129 ≤ 15) ∧ (P 129 % 2 = 0 ∨ homeM P 0 4 7 = true) ∧ (P 129 / 2 % 2 = 0 ∨ homeM P 0 4 0 = true) ∧ (P 129 / 4 % 2 = 0 ∨ homeM P 1 60 63 = true) ∧ (P 129 / 8 = 0 ∨ homeM P 1 60 56 = true))
def overOK (P : Nat → Int) : Bool := decide (P 130 = -1 ∨ ((0 ≤ P 130 ∧ P 130 < 64) ∧ P 131 = 0 ∧ ((P 128 = 1 ∧ P 130 / 8 = 2 ∧ standM P (P 130) 0 0 = true ∧ standM P (P 130 - 8) 0 0 = true ∧ standM P (P 130 + 8) 1 0 = true) ∨ (P 128 = 0 ∧ P 130 / 8 = 5 ∧ standM P (P 130) 0 0 = true ∧ standM P (P 130 + 8) 0 0 = true ∧ standM P (P 130 - 8) 1 1 = true))))
def rightM (P : Nat → Int) : Bool := piecesM P && castlesM P && overOK P && decide (0 ≤ P 131 ∧ P 131 ≤ 1024 ∧ 1 ≤ P 132 ∧ P 132 ≤ 16384)
theorem rank_in {x r : Int} (h : rankM x = r) (hr : 0 ≤ r) : (0 ≤ x ∧ x < 64) ∧ x / 8 = r := by
  unfold rankM at h
  split at h
  · exact ⟨by assumption, h⟩
  · omega
theorem step_is {x d : Int} (hx : 0 ≤ x ∧ x < 64) (h : 0 ≤ x / 8 + d ∧ x / 8 + d < 8) : stepM x 0 d = x + 8 * d := by
  unfold stepM atM
  rw [if_pos ⟨hx, by omega, by omega⟩, if_pos (by omega)]
  omega

theorem stands_run (P : Nat → Int) (k s x : Int) (hx : 0 ≤ x ∧ x < 64) : WR AM 112 [.agg 133 (ia P), .s (.int .i64 k), .s (.int .i64 s), .s (.int .i64 x)] [] (fun v _ _ => v = .s (.bool (standM P x k s))) := by
 refine WR_fn (a := a112) rfl rfl (entryF _) (entry_E (Nat.le_of_ble_eq_true rfl)) (m := 0) rfl ?_
 refine WP_seq ?_
 refine WP_ops ?_
 refine WO_boxA rfl ?_
 refine WO_mv rfl ?_
 refine WO_nil ?_
 refine WP_seq ?_
 refine WP_ops ?_
 refine WO_mv (v := .s (.int _ _)) rfl ?_
 refine WO_fa (o' := 0) rfl rfl rfl ?_
 refine WO_fa (o' := 0) rfl rfl rfl ?_
 refine WO_ixa rfl rfl rfl (by omega) ?_
 first | refine WO_ldA0 rfl rfl (.head _) ?_ | refine WO_ldAI rfl rfl (.head _) ?_
 refine WO_mv (v := .s (.int _ _)) rfl ?_
 refine WO_mv (v := .s (.int _ _)) rfl ?_
 refine WO_buildI rfl (.one rfl (.one rfl .nil)) ?_
 refine WO_eqa rfl rfl ?_
 refine WO_mv (v := .s (.bool _)) rfl ?_
 refine WO_nil ?_
 refine WP_ret ?_
 refine ⟨_, RS_tmp (v := .s (.bool _)) rfl (RS_nil), ?_⟩
 refine congrArg (fun b => V.s (S.bool b)) ?_
 exact eq_two
theorem free_run {md : Md} (P : Nat → Int) (x : Int) (hx : 0 ≤ x ∧ x < 64) : WR AM 113 [.s (.int .i64 x), .ptr 0 0 133] [.sc md 133 (ia P)] (fun v _ L => v = .s (.bool (standM P x 0 0)) ∧ (0, Blk.sc md 133 (ia P)) ∈ L) := by
 refine WR_fn (a := a113) rfl rfl (entryF _) (entry_E (Nat.le_of_ble_eq_true rfl)) (m := 1) rfl ?_
 refine WP_seq ?_
 refine WP_ops ?_
 refine WO_mv rfl ?_
 refine WO_nil ?_
 refine WP_seq ?_
 refine WP_ops ?_
 refine WO_mv (v := .s (.int _ _)) rfl ?_
 refine WO_fa (o' := 0) rfl rfl rfl ?_
 refine WO_fa (o' := 0) rfl rfl rfl ?_
 refine WO_ixa rfl rfl rfl (by omega) ?_
 first | refine WO_ldA0 rfl rfl (.head _) ?_ | refine WO_ldAI rfl rfl (.head _) ?_
 refine WO_buildI rfl .nil ?_
 refine WO_eqa rfl rfl ?_
 refine WO_mv (v := .s (.bool _)) rfl ?_
 refine WO_nil ?_
 refine WP_ret ?_
 refine ⟨_, RS_tmp (v := .s (.bool _)) rfl (RS_nil), ?_⟩
 refine ⟨congrArg (fun b => V.s (S.bool b)) ?_, (.head _)⟩
 exact eq_two
theorem castles_ok (P : Nat → Int) : WR AM 90 [.agg 133 (ia P)] [] (fun v _ _ => v = .s (.bool (castlesM P))) := by
 refine WR_fn (a := a90) rfl rfl (entryF _) (entry_E (Nat.le_of_ble_eq_true rfl)) (m := 0) rfl ?_
 refine WP_seq ?_
 refine WP_ops ?_
 refine WO_boxA rfl ?_
 refine WO_mv rfl ?_
 refine WO_nil ?_
 refine WP_seq ?_
 refine WP_seq ?_
 refine WP_ops ?_
 refine WO_fa (o' := 0) rfl rfl rfl ?_
 refine WO_fa (o' := 129) rfl rfl rfl ?_
 refine WO_ldI rfl rfl (.head _) rfl ?_
 refine WO_bin (r := .bool _) rfl rfl rfl ?_
 refine WO_mv (v := .s (.bool _)) rfl ?_
 refine WO_case (t := 10) rfl (fun h26 => ?_) (fun h26 => ?_)
 ·try simp only [NM] at h26
  try simp only [decide_eq_true_eq, decide_eq_false_iff_not] at h26
  refine WO_gf rfl rfl ?_
  refine WO_gf rfl rfl ?_
  refine WO_gf rfl rfl ?_
  refine WO_gf rfl rfl ?_
  refine WO_pick (v := .s (.bool _)) rfl rfl ?_
  refine WO_nil ?_
  refine WP_cond rfl (fun _ => ?_) (fun h => nomatch h)
  refine WP_seq ?_
  refine WP_ops ?_
  refine WO_mv rfl ?_
  refine WO_nil ?_
  refine WP_ret ?_
  refine ⟨_, RS_tmp (v := .s (.bool _)) rfl (RS_nil), ?_⟩
  refine congrArg (fun b => V.s (S.bool b)) ?_
  rw [Bool.eq_iff_iff]
  simp only [castlesM, homeM, standM, decide_eq_true_eq, decide_eq_false_iff_not, Bool.false_eq_true, false_iff, true_iff] at *
  omega
 ·try simp only [NM] at h26
  try simp only [decide_eq_true_eq, decide_eq_false_iff_not] at h26
  refine WO_gt rfl ?_
  refine WO_fa (o' := 0) rfl rfl rfl ?_
  refine WO_gt rfl ?_
  refine WO_fa (o' := 129) rfl rfl rfl ?_
  refine WO_gt rfl ?_
  refine WO_ldI rfl rfl (.head _) rfl ?_
  refine WO_gt rfl ?_
  refine WO_bin (r := .bool _) rfl rfl rfl ?_
  refine WO_pick (v := .s (.bool _)) rfl rfl ?_
  refine WO_nil ?_
  refine WP_cond rfl (fun h27 => ?_) (fun h27 => ?_)
  ·try simp only [NM] at h27
   try simp only [decide_eq_true_eq, decide_eq_false_iff_not] at h27
   refine WP_seq ?_
   refine WP_ops ?_
   refine WO_mv rfl ?_
   refine WO_nil ?_
   refine WP_ret ?_
   refine ⟨_, RS_tmp (v := .s (.bool _)) rfl (RS_nil), ?_⟩
   refine congrArg (fun b => V.s (S.bool b)) ?_
   rw [Bool.eq_iff_iff]
   simp only [castlesM, homeM, standM, decide_eq_true_eq, decide_eq_false_iff_not, Bool.false_eq_true, false_iff, true_iff] at *
   omega
  ·try simp only [NM] at h27
   try simp only [decide_eq_true_eq, decide_eq_false_iff_not] at h27
   refine WP_skip ?_
   refine WP_seq ?_
   refine WP_seq ?_
   refine WP_ops ?_
   refine WO_buildI rfl (.one rfl (.one rfl (.one rfl (.one rfl .nil)))) ?_
   refine WO_mv rfl ?_
   refine WO_nil ?_
   refine WP_block ?_
   refine WP_unrollI (fun f n L => (0 ≤ P 129 ∧ P 129 ≤ 15) ∧ (P 129 / 1 % 2 = 0 ∨ (P (sqI 4) = 6 ∧ P (sqI 4 + 1) = 0 ∧ P (sqI 7) = 4 ∧ P (sqI 7 + 1) = 0)) ∧ (f 1 = .ptr 0 0 133) ∧ (f 16 = .agg 4 (ia (ov (ov (ov (ov (fun _ => 0) 0 7) 1 0) 2 63) 3 56))) ∧ (f 17 = .s (.int .i64 1)) ∧ (L = [(0, .sc .var 133 (ia P))]) ∧ (n = 1)) ?_ (fun f nb L hI => ?_)
   ·skip
    refine WP_seq ?_
    refine WP_ops ?_
    refine WO_bin (r := .bool _) rfl rfl rfl ?_
    refine WO_nil ?_
    refine WP_seq ?_
    refine WP_cond rfl (fun h28 => ?_) (fun h28 => ?_)
    ·try simp only [NM] at h28
     try simp only [decide_eq_true_eq, decide_eq_false_iff_not] at h28
     refine WP_skip ?_
     refine WP_seq ?_
     refine WP_block ?_
     refine WP_seq ?_
     refine WP_ops ?_
     refine WO_mv (v := .s (.int _ _)) rfl ?_
     refine WO_ixS (a := .int .i64 7) rfl rfl rfl (by omega) rfl ?_
     refine WO_mv (v := .s (.int _ _)) rfl ?_
     refine WO_mv (v := .s (.int _ _)) rfl ?_
     refine WO_nil ?_
     refine WP_seq ?_
     refine WP_seq ?_
     refine WP_ops ?_
     refine WO_fa (o' := 0) rfl rfl rfl ?_
     refine WO_fa (o' := 129) rfl rfl rfl ?_
     refine WO_ldI rfl rfl (.head _) rfl ?_
     refine WO_mv (v := .s (.int _ _)) rfl ?_
     refine WO_bin rfl rfl (cast_shr0 ⟨by omega, by omega⟩) ?_
     refine WO_bin rfl rfl (cast_and1 ⟨by omega, by omega⟩) ?_
     refine WO_bin (r := .bool _) rfl rfl rfl ?_
     refine WO_nil ?_
     refine WP_cond rfl (fun h29 => ?_) (fun h29 => ?_)
     ·try simp only [NM] at h29
      try simp only [decide_eq_true_eq, decide_eq_false_iff_not] at h29
      refine WP_exit ?_
      refine xhere ?_
      refine WP_ops ?_
      refine WO_bin (r := .int .i64 1) rfl rfl rfl ?_
      refine WO_mv (v := .s (.int _ _)) rfl ?_
      refine WO_nil ?_
      refine ⟨_, (.cons_cons _ .slnil), ⟨by omega, by omega⟩, ?_, rfl, rfl, rfl, rfl, rfl⟩
      try simp only [standM, decide_eq_true_eq, decide_eq_false_iff_not] at *
      omega
     ·try simp only [NM] at h29
      try simp only [decide_eq_true_eq, decide_eq_false_iff_not] at h29
      refine WP_skip ?_
      refine WP_seq ?_
      refine WP_ops ?_
      refine WO_mv (v := .s (.int _ _)) rfl ?_
      refine WO_bin (r := .int .i64 0) rfl rfl rfl ?_
      refine WO_mv (v := .s (.int _ _)) rfl ?_
      refine WO_nil ?_
      refine WP_seq ?_
      refine WP_ops ?_
      first | refine WO_ldA0 rfl rfl (.head _) ?_ | refine WO_ldAI rfl rfl (.head _) ?_
      refine WO_mv (v := .s (.int _ _)) rfl ?_
      refine WO_mv (v := .s (.int _ _)) rfl ?_
      refine WO_call0 rfl (RF_of (stands_run _ _ _ _ (by omega))) rfl rfl rfl ?_
      refine WO_un (r := .bool _) rfl rfl ?_
      refine WO_mv (v := .s (.bool _)) rfl ?_
      refine WO_case (t := 35) rfl (fun h30 => ?_) (fun h30 => ?_)
      ·try simp only [NM] at h30
       try simp only [decide_eq_true_eq, decide_eq_false_iff_not] at h30
       refine WO_gf rfl rfl ?_
       refine WO_gf rfl rfl ?_
       refine WO_gf rfl rfl ?_
       refine WO_gf rfl rfl ?_
       refine WO_gf rfl rfl ?_
       refine WO_gf rfl rfl ?_
       refine WO_gf rfl rfl ?_
       refine WO_gf rfl rfl ?_
       refine WO_pick (v := .s (.bool _)) rfl rfl ?_
       refine WO_nil ?_
       refine WP_cond rfl (fun _ => ?_) (fun h => nomatch h)
       refine WP_seq ?_
       refine WP_ops ?_
       refine WO_mv rfl ?_
       refine WO_nil ?_
       refine WP_ret ?_
       refine ⟨_, RS_tmp (v := .s (.bool _)) rfl (RS_nil), ?_⟩
       refine congrArg (fun b => V.s (S.bool b)) ?_
       rw [Bool.eq_iff_iff]
       simp only [castlesM, homeM, standM, decide_eq_true_eq, decide_eq_false_iff_not, Bool.false_eq_true, false_iff, true_iff] at *
       omega
      ·try simp only [NM] at h30
       try simp only [decide_eq_true_eq, decide_eq_false_iff_not] at h30
       refine WO_gt rfl ?_
       first | refine WO_ldA0 rfl rfl (.head _) ?_ | refine WO_ldAI rfl rfl (.head _) ?_
       refine WO_gt rfl ?_
       refine WO_mv (v := .s (.int _ _)) rfl ?_
       refine WO_gt rfl ?_
       refine WO_mv (v := .s (.int _ _)) rfl ?_
       refine WO_gt rfl ?_
       refine WO_bin (r := .int .i64 0) rfl rfl rfl ?_
       refine WO_gt rfl ?_
       refine WO_bin (r := .int .i64 0) rfl rfl rfl ?_
       refine WO_gt rfl ?_
       refine WO_bin (r := .int .i64 4) rfl rfl rfl ?_
       refine WO_gt rfl ?_
       refine WO_call0 rfl (RF_of (stands_run _ _ _ _ (by omega))) rfl rfl rfl ?_
       refine WO_gt rfl ?_
       refine WO_un (r := .bool _) rfl rfl ?_
       refine WO_pick (v := .s (.bool _)) rfl rfl ?_
       refine WO_nil ?_
       refine WP_cond rfl (fun h31 => ?_) (fun h31 => ?_)
       ·try simp only [NM] at h31
        try simp only [decide_eq_true_eq, decide_eq_false_iff_not] at h31
        refine WP_seq ?_
        refine WP_ops ?_
        refine WO_mv rfl ?_
        refine WO_nil ?_
        refine WP_ret ?_
        refine ⟨_, RS_tmp (v := .s (.bool _)) rfl (RS_nil), ?_⟩
        refine congrArg (fun b => V.s (S.bool b)) ?_
        rw [Bool.eq_iff_iff]
        simp only [castlesM, homeM, standM, decide_eq_true_eq, decide_eq_false_iff_not, Bool.false_eq_true, false_iff, true_iff] at *
        omega
       ·try simp only [NM] at h31
        try simp only [decide_eq_true_eq, decide_eq_false_iff_not] at h31
        refine WP_skip ?_
        refine WP_ops ?_
        refine WO_bin (r := .int .i64 1) rfl rfl rfl ?_
        refine WO_mv (v := .s (.int _ _)) rfl ?_
        refine WO_nil ?_
        refine ⟨_, (.cons_cons _ .slnil), ⟨by omega, by omega⟩, ?_, rfl, rfl, rfl, rfl, rfl⟩
        try simp only [standM, decide_eq_true_eq, decide_eq_false_iff_not] at *
        omega
    ·try simp only [NM] at h28
     try simp only [decide_eq_true_eq, decide_eq_false_iff_not] at h28
     exfalso; omega
   ·skip
    obtain ⟨hC, hf0, k1, k16, k17, rfl, rfl⟩ := hI
    refine WP_know (d := 1) (v := .ptr 0 0 133) k1 ?_
    refine WP_know (d := 16) (v := .agg 4 (ia (ov (ov (ov (ov (fun _ => 0) 0 7) 1 0) 2 63) 3 56))) k16 ?_
    refine WP_know (d := 17) (v := .s (.int .i64 1)) k17 ?_
    refine WP_unrollI (fun f n L => (P 129 / 2 % 2 = 0 ∨ (P (sqI 4) = 6 ∧ P (sqI 4 + 1) = 0 ∧ P (sqI 0) = 4 ∧ P (sqI 0 + 1) = 0)) ∧ (f 1 = .ptr 0 0 133) ∧ (f 16 = .agg 4 (ia (ov (ov (ov (ov (fun _ => 0) 0 7) 1 0) 2 63) 3 56))) ∧ (f 17 = .s (.int .i64 2)) ∧ (L = [(0, .sc .var 133 (ia P))]) ∧ (n = 1)) ?_ (fun f nb L hI => ?_)
    ·skip
     refine WP_seq ?_
     refine WP_ops ?_
     refine WO_bin (r := .bool _) rfl rfl rfl ?_
     refine WO_nil ?_
     refine WP_seq ?_
     refine WP_cond rfl (fun h32 => ?_) (fun h32 => ?_)
     ·try simp only [NM] at h32
      try simp only [decide_eq_true_eq, decide_eq_false_iff_not] at h32
      refine WP_skip ?_
      refine WP_seq ?_
      refine WP_block ?_
      refine WP_seq ?_
      refine WP_ops ?_
      refine WO_mv (v := .s (.int _ _)) rfl ?_
      refine WO_ixS (a := .int .i64 0) rfl rfl rfl (by omega) rfl ?_
      refine WO_mv (v := .s (.int _ _)) rfl ?_
      refine WO_mv (v := .s (.int _ _)) rfl ?_
      refine WO_nil ?_
      refine WP_seq ?_
      refine WP_seq ?_
      refine WP_ops ?_
      refine WO_fa (o' := 0) rfl rfl rfl ?_
      refine WO_fa (o' := 129) rfl rfl rfl ?_
      refine WO_ldI rfl rfl (.head _) rfl ?_
      refine WO_mv (v := .s (.int _ _)) rfl ?_
      refine WO_bin rfl rfl (cast_shr1 ⟨by omega, by omega⟩) ?_
      refine WO_bin rfl rfl (cast_and1 ⟨by omega, by omega⟩) ?_
      refine WO_bin (r := .bool _) rfl rfl rfl ?_
      refine WO_nil ?_
      refine WP_cond rfl (fun h33 => ?_) (fun h33 => ?_)
      ·try simp only [NM] at h33
       try simp only [decide_eq_true_eq, decide_eq_false_iff_not] at h33
       refine WP_exit ?_
       refine xhere ?_
       refine WP_ops ?_
       refine WO_bin (r := .int .i64 2) rfl rfl rfl ?_
       refine WO_mv (v := .s (.int _ _)) rfl ?_
       refine WO_nil ?_
       refine ⟨_, (.cons_cons _ .slnil), ?_, rfl, rfl, rfl, rfl, rfl⟩
       try simp only [standM, decide_eq_true_eq, decide_eq_false_iff_not] at *
       omega
      ·try simp only [NM] at h33
       try simp only [decide_eq_true_eq, decide_eq_false_iff_not] at h33
       refine WP_skip ?_
       refine WP_seq ?_
       refine WP_ops ?_
       refine WO_mv (v := .s (.int _ _)) rfl ?_
       refine WO_bin (r := .int .i64 0) rfl rfl rfl ?_
       refine WO_mv (v := .s (.int _ _)) rfl ?_
       refine WO_nil ?_
       refine WP_seq ?_
       refine WP_ops ?_
       first | refine WO_ldA0 rfl rfl (.head _) ?_ | refine WO_ldAI rfl rfl (.head _) ?_
       refine WO_mv (v := .s (.int _ _)) rfl ?_
       refine WO_mv (v := .s (.int _ _)) rfl ?_
       refine WO_call0 rfl (RF_of (stands_run _ _ _ _ (by omega))) rfl rfl rfl ?_
       refine WO_un (r := .bool _) rfl rfl ?_
       refine WO_mv (v := .s (.bool _)) rfl ?_
       refine WO_case (t := 35) rfl (fun h34 => ?_) (fun h34 => ?_)
       ·try simp only [NM] at h34
        try simp only [decide_eq_true_eq, decide_eq_false_iff_not] at h34
        refine WO_gf rfl rfl ?_
        refine WO_gf rfl rfl ?_
        refine WO_gf rfl rfl ?_
        refine WO_gf rfl rfl ?_
        refine WO_gf rfl rfl ?_
        refine WO_gf rfl rfl ?_
        refine WO_gf rfl rfl ?_
        refine WO_gf rfl rfl ?_
        refine WO_pick (v := .s (.bool _)) rfl rfl ?_
        refine WO_nil ?_
        refine WP_cond rfl (fun _ => ?_) (fun h => nomatch h)
        refine WP_seq ?_
        refine WP_ops ?_
        refine WO_mv rfl ?_
        refine WO_nil ?_
        refine WP_ret ?_
        refine ⟨_, RS_tmp (v := .s (.bool _)) rfl (RS_nil), ?_⟩
        refine congrArg (fun b => V.s (S.bool b)) ?_
        rw [Bool.eq_iff_iff]
        simp only [castlesM, homeM, standM, decide_eq_true_eq, decide_eq_false_iff_not, Bool.false_eq_true, false_iff, true_iff] at *
        omega
       ·try simp only [NM] at h34
        try simp only [decide_eq_true_eq, decide_eq_false_iff_not] at h34
        refine WO_gt rfl ?_
        first | refine WO_ldA0 rfl rfl (.head _) ?_ | refine WO_ldAI rfl rfl (.head _) ?_
        refine WO_gt rfl ?_
        refine WO_mv (v := .s (.int _ _)) rfl ?_
        refine WO_gt rfl ?_
        refine WO_mv (v := .s (.int _ _)) rfl ?_
        refine WO_gt rfl ?_
        refine WO_bin (r := .int .i64 0) rfl rfl rfl ?_
        refine WO_gt rfl ?_
        refine WO_bin (r := .int .i64 0) rfl rfl rfl ?_
        refine WO_gt rfl ?_
        refine WO_bin (r := .int .i64 4) rfl rfl rfl ?_
        refine WO_gt rfl ?_
        refine WO_call0 rfl (RF_of (stands_run _ _ _ _ (by omega))) rfl rfl rfl ?_
        refine WO_gt rfl ?_
        refine WO_un (r := .bool _) rfl rfl ?_
        refine WO_pick (v := .s (.bool _)) rfl rfl ?_
        refine WO_nil ?_
        refine WP_cond rfl (fun h35 => ?_) (fun h35 => ?_)
        ·try simp only [NM] at h35
         try simp only [decide_eq_true_eq, decide_eq_false_iff_not] at h35
         refine WP_seq ?_
         refine WP_ops ?_
         refine WO_mv rfl ?_
         refine WO_nil ?_
         refine WP_ret ?_
         refine ⟨_, RS_tmp (v := .s (.bool _)) rfl (RS_nil), ?_⟩
         refine congrArg (fun b => V.s (S.bool b)) ?_
         rw [Bool.eq_iff_iff]
         simp only [castlesM, homeM, standM, decide_eq_true_eq, decide_eq_false_iff_not, Bool.false_eq_true, false_iff, true_iff] at *
         omega
        ·try simp only [NM] at h35
         try simp only [decide_eq_true_eq, decide_eq_false_iff_not] at h35
         refine WP_skip ?_
         refine WP_ops ?_
         refine WO_bin (r := .int .i64 2) rfl rfl rfl ?_
         refine WO_mv (v := .s (.int _ _)) rfl ?_
         refine WO_nil ?_
         refine ⟨_, (.cons_cons _ .slnil), ?_, rfl, rfl, rfl, rfl, rfl⟩
         try simp only [standM, decide_eq_true_eq, decide_eq_false_iff_not] at *
         omega
     ·try simp only [NM] at h32
      try simp only [decide_eq_true_eq, decide_eq_false_iff_not] at h32
      exfalso; omega
    ·skip
     obtain ⟨hf1, k1, k16, k17, rfl, rfl⟩ := hI
     refine WP_know (d := 1) (v := .ptr 0 0 133) k1 ?_
     refine WP_know (d := 16) (v := .agg 4 (ia (ov (ov (ov (ov (fun _ => 0) 0 7) 1 0) 2 63) 3 56))) k16 ?_
     refine WP_know (d := 17) (v := .s (.int .i64 2)) k17 ?_
     refine WP_unrollI (fun f n L => (P 129 / 4 % 2 = 0 ∨ (P (sqI 60) = 6 ∧ P (sqI 60 + 1) = 1 ∧ P (sqI 63) = 4 ∧ P (sqI 63 + 1) = 1)) ∧ (f 1 = .ptr 0 0 133) ∧ (f 16 = .agg 4 (ia (ov (ov (ov (ov (fun _ => 0) 0 7) 1 0) 2 63) 3 56))) ∧ (f 17 = .s (.int .i64 3)) ∧ (L = [(0, .sc .var 133 (ia P))]) ∧ (n = 1)) ?_ (fun f nb L hI => ?_)
     ·skip
      refine WP_seq ?_
      refine WP_ops ?_
      refine WO_bin (r := .bool _) rfl rfl rfl ?_
      refine WO_nil ?_
      refine WP_seq ?_
      refine WP_cond rfl (fun h36 => ?_) (fun h36 => ?_)
      ·try simp only [NM] at h36
       try simp only [decide_eq_true_eq, decide_eq_false_iff_not] at h36
       refine WP_skip ?_
       refine WP_seq ?_
       refine WP_block ?_
       refine WP_seq ?_
       refine WP_ops ?_
       refine WO_mv (v := .s (.int _ _)) rfl ?_
       refine WO_ixS (a := .int .i64 63) rfl rfl rfl (by omega) rfl ?_
       refine WO_mv (v := .s (.int _ _)) rfl ?_
       refine WO_mv (v := .s (.int _ _)) rfl ?_
       refine WO_nil ?_
       refine WP_seq ?_
       refine WP_seq ?_
       refine WP_ops ?_
       refine WO_fa (o' := 0) rfl rfl rfl ?_
       refine WO_fa (o' := 129) rfl rfl rfl ?_
       refine WO_ldI rfl rfl (.head _) rfl ?_
       refine WO_mv (v := .s (.int _ _)) rfl ?_
       refine WO_bin rfl rfl (cast_shr2 ⟨by omega, by omega⟩) ?_
       refine WO_bin rfl rfl (cast_and1 ⟨by omega, by omega⟩) ?_
       refine WO_bin (r := .bool _) rfl rfl rfl ?_
       refine WO_nil ?_
       refine WP_cond rfl (fun h37 => ?_) (fun h37 => ?_)
       ·try simp only [NM] at h37
        try simp only [decide_eq_true_eq, decide_eq_false_iff_not] at h37
        refine WP_exit ?_
        refine xhere ?_
        refine WP_ops ?_
        refine WO_bin (r := .int .i64 3) rfl rfl rfl ?_
        refine WO_mv (v := .s (.int _ _)) rfl ?_
        refine WO_nil ?_
        refine ⟨_, (.cons_cons _ .slnil), ?_, rfl, rfl, rfl, rfl, rfl⟩
        try simp only [standM, decide_eq_true_eq, decide_eq_false_iff_not] at *
        omega
       ·try simp only [NM] at h37
        try simp only [decide_eq_true_eq, decide_eq_false_iff_not] at h37
        refine WP_skip ?_
        refine WP_seq ?_
        refine WP_ops ?_
        refine WO_mv (v := .s (.int _ _)) rfl ?_
        refine WO_bin (r := .int .i64 1) rfl rfl rfl ?_
        refine WO_mv (v := .s (.int _ _)) rfl ?_
        refine WO_nil ?_
        refine WP_seq ?_
        refine WP_ops ?_
        first | refine WO_ldA0 rfl rfl (.head _) ?_ | refine WO_ldAI rfl rfl (.head _) ?_
        refine WO_mv (v := .s (.int _ _)) rfl ?_
        refine WO_mv (v := .s (.int _ _)) rfl ?_
        refine WO_call0 rfl (RF_of (stands_run _ _ _ _ (by omega))) rfl rfl rfl ?_
        refine WO_un (r := .bool _) rfl rfl ?_
        refine WO_mv (v := .s (.bool _)) rfl ?_
        refine WO_case (t := 35) rfl (fun h38 => ?_) (fun h38 => ?_)
        ·try simp only [NM] at h38
         try simp only [decide_eq_true_eq, decide_eq_false_iff_not] at h38
         refine WO_gf rfl rfl ?_
         refine WO_gf rfl rfl ?_
         refine WO_gf rfl rfl ?_
         refine WO_gf rfl rfl ?_
         refine WO_gf rfl rfl ?_
         refine WO_gf rfl rfl ?_
         refine WO_gf rfl rfl ?_
         refine WO_gf rfl rfl ?_
         refine WO_pick (v := .s (.bool _)) rfl rfl ?_
         refine WO_nil ?_
         refine WP_cond rfl (fun _ => ?_) (fun h => nomatch h)
         refine WP_seq ?_
         refine WP_ops ?_
         refine WO_mv rfl ?_
         refine WO_nil ?_
         refine WP_ret ?_
         refine ⟨_, RS_tmp (v := .s (.bool _)) rfl (RS_nil), ?_⟩
         refine congrArg (fun b => V.s (S.bool b)) ?_
         rw [Bool.eq_iff_iff]
         simp only [castlesM, homeM, standM, decide_eq_true_eq, decide_eq_false_iff_not, Bool.false_eq_true, false_iff, true_iff] at *
         omega
        ·try simp only [NM] at h38
         try simp only [decide_eq_true_eq, decide_eq_false_iff_not] at h38
         refine WO_gt rfl ?_
         first | refine WO_ldA0 rfl rfl (.head _) ?_ | refine WO_ldAI rfl rfl (.head _) ?_
         refine WO_gt rfl ?_
         refine WO_mv (v := .s (.int _ _)) rfl ?_
         refine WO_gt rfl ?_
         refine WO_mv (v := .s (.int _ _)) rfl ?_
         refine WO_gt rfl ?_
         refine WO_bin (r := .int .i64 7) rfl rfl rfl ?_
         refine WO_gt rfl ?_
         refine WO_bin (r := .int .i64 56) rfl rfl rfl ?_
         refine WO_gt rfl ?_
         refine WO_bin (r := .int .i64 60) rfl rfl rfl ?_
         refine WO_gt rfl ?_
         refine WO_call0 rfl (RF_of (stands_run _ _ _ _ (by omega))) rfl rfl rfl ?_
         refine WO_gt rfl ?_
         refine WO_un (r := .bool _) rfl rfl ?_
         refine WO_pick (v := .s (.bool _)) rfl rfl ?_
         refine WO_nil ?_
         refine WP_cond rfl (fun h39 => ?_) (fun h39 => ?_)
         ·try simp only [NM] at h39
          try simp only [decide_eq_true_eq, decide_eq_false_iff_not] at h39
          refine WP_seq ?_
          refine WP_ops ?_
          refine WO_mv rfl ?_
          refine WO_nil ?_
          refine WP_ret ?_
          refine ⟨_, RS_tmp (v := .s (.bool _)) rfl (RS_nil), ?_⟩
          refine congrArg (fun b => V.s (S.bool b)) ?_
          rw [Bool.eq_iff_iff]
          simp only [castlesM, homeM, standM, decide_eq_true_eq, decide_eq_false_iff_not, Bool.false_eq_true, false_iff, true_iff] at *
          omega
         ·try simp only [NM] at h39
          try simp only [decide_eq_true_eq, decide_eq_false_iff_not] at h39
          refine WP_skip ?_
          refine WP_ops ?_
          refine WO_bin (r := .int .i64 3) rfl rfl rfl ?_
          refine WO_mv (v := .s (.int _ _)) rfl ?_
          refine WO_nil ?_
          refine ⟨_, (.cons_cons _ .slnil), ?_, rfl, rfl, rfl, rfl, rfl⟩
          try simp only [standM, decide_eq_true_eq, decide_eq_false_iff_not] at *
          omega
      ·try simp only [NM] at h36
       try simp only [decide_eq_true_eq, decide_eq_false_iff_not] at h36
       exfalso; omega
     ·skip
      obtain ⟨hf2, k1, k16, k17, rfl, rfl⟩ := hI
      refine WP_know (d := 1) (v := .ptr 0 0 133) k1 ?_
      refine WP_know (d := 16) (v := .agg 4 (ia (ov (ov (ov (ov (fun _ => 0) 0 7) 1 0) 2 63) 3 56))) k16 ?_
      refine WP_know (d := 17) (v := .s (.int .i64 3)) k17 ?_
      refine WP_unrollI (fun f n L => (P 129 / 8 % 2 = 0 ∨ (P (sqI 60) = 6 ∧ P (sqI 60 + 1) = 1 ∧ P (sqI 56) = 4 ∧ P (sqI 56 + 1) = 1)) ∧ (f 1 = .ptr 0 0 133) ∧ (f 16 = .agg 4 (ia (ov (ov (ov (ov (fun _ => 0) 0 7) 1 0) 2 63) 3 56))) ∧ (f 17 = .s (.int .i64 4)) ∧ (L = [(0, .sc .var 133 (ia P))]) ∧ (n = 1)) ?_ (fun f nb L hI => ?_)
      ·skip
       refine WP_seq ?_
       refine WP_ops ?_
       refine WO_bin (r := .bool _) rfl rfl rfl ?_
       refine WO_nil ?_
       refine WP_seq ?_
       refine WP_cond rfl (fun h40 => ?_) (fun h40 => ?_)
       ·try simp only [NM] at h40
        try simp only [decide_eq_true_eq, decide_eq_false_iff_not] at h40
        refine WP_skip ?_
        refine WP_seq ?_
        refine WP_block ?_
        refine WP_seq ?_
        refine WP_ops ?_
        refine WO_mv (v := .s (.int _ _)) rfl ?_
        refine WO_ixS (a := .int .i64 56) rfl rfl rfl (by omega) rfl ?_
        refine WO_mv (v := .s (.int _ _)) rfl ?_
        refine WO_mv (v := .s (.int _ _)) rfl ?_
        refine WO_nil ?_
        refine WP_seq ?_
        refine WP_seq ?_
        refine WP_ops ?_
        refine WO_fa (o' := 0) rfl rfl rfl ?_
        refine WO_fa (o' := 129) rfl rfl rfl ?_
        refine WO_ldI rfl rfl (.head _) rfl ?_
        refine WO_mv (v := .s (.int _ _)) rfl ?_
        refine WO_bin rfl rfl (cast_shr3 ⟨by omega, by omega⟩) ?_
        refine WO_bin rfl rfl (cast_and1 ⟨by omega, by omega⟩) ?_
        refine WO_bin (r := .bool _) rfl rfl rfl ?_
        refine WO_nil ?_
        refine WP_cond rfl (fun h41 => ?_) (fun h41 => ?_)
        ·try simp only [NM] at h41
         try simp only [decide_eq_true_eq, decide_eq_false_iff_not] at h41
         refine WP_exit ?_
         refine xhere ?_
         refine WP_ops ?_
         refine WO_bin (r := .int .i64 4) rfl rfl rfl ?_
         refine WO_mv (v := .s (.int _ _)) rfl ?_
         refine WO_nil ?_
         refine ⟨_, (.cons_cons _ .slnil), ?_, rfl, rfl, rfl, rfl, rfl⟩
         try simp only [standM, decide_eq_true_eq, decide_eq_false_iff_not] at *
         omega
        ·try simp only [NM] at h41
         try simp only [decide_eq_true_eq, decide_eq_false_iff_not] at h41
         refine WP_skip ?_
         refine WP_seq ?_
         refine WP_ops ?_
         refine WO_mv (v := .s (.int _ _)) rfl ?_
         refine WO_bin (r := .int .i64 1) rfl rfl rfl ?_
         refine WO_mv (v := .s (.int _ _)) rfl ?_
         refine WO_nil ?_
         refine WP_seq ?_
         refine WP_ops ?_
         first | refine WO_ldA0 rfl rfl (.head _) ?_ | refine WO_ldAI rfl rfl (.head _) ?_
         refine WO_mv (v := .s (.int _ _)) rfl ?_
         refine WO_mv (v := .s (.int _ _)) rfl ?_
         refine WO_call0 rfl (RF_of (stands_run _ _ _ _ (by omega))) rfl rfl rfl ?_
         refine WO_un (r := .bool _) rfl rfl ?_
         refine WO_mv (v := .s (.bool _)) rfl ?_
         refine WO_case (t := 35) rfl (fun h42 => ?_) (fun h42 => ?_)
         ·try simp only [NM] at h42
          try simp only [decide_eq_true_eq, decide_eq_false_iff_not] at h42
          refine WO_gf rfl rfl ?_
          refine WO_gf rfl rfl ?_
          refine WO_gf rfl rfl ?_
          refine WO_gf rfl rfl ?_
          refine WO_gf rfl rfl ?_
          refine WO_gf rfl rfl ?_
          refine WO_gf rfl rfl ?_
          refine WO_gf rfl rfl ?_
          refine WO_pick (v := .s (.bool _)) rfl rfl ?_
          refine WO_nil ?_
          refine WP_cond rfl (fun _ => ?_) (fun h => nomatch h)
          refine WP_seq ?_
          refine WP_ops ?_
          refine WO_mv rfl ?_
          refine WO_nil ?_
          refine WP_ret ?_
          refine ⟨_, RS_tmp (v := .s (.bool _)) rfl (RS_nil), ?_⟩
          refine congrArg (fun b => V.s (S.bool b)) ?_
          rw [Bool.eq_iff_iff]
          simp only [castlesM, homeM, standM, decide_eq_true_eq, decide_eq_false_iff_not, Bool.false_eq_true, false_iff, true_iff] at *
          omega
         ·try simp only [NM] at h42
          try simp only [decide_eq_true_eq, decide_eq_false_iff_not] at h42
          refine WO_gt rfl ?_
          first | refine WO_ldA0 rfl rfl (.head _) ?_ | refine WO_ldAI rfl rfl (.head _) ?_
          refine WO_gt rfl ?_
          refine WO_mv (v := .s (.int _ _)) rfl ?_
          refine WO_gt rfl ?_
          refine WO_mv (v := .s (.int _ _)) rfl ?_
          refine WO_gt rfl ?_
          refine WO_bin (r := .int .i64 7) rfl rfl rfl ?_
          refine WO_gt rfl ?_
          refine WO_bin (r := .int .i64 56) rfl rfl rfl ?_
          refine WO_gt rfl ?_
          refine WO_bin (r := .int .i64 60) rfl rfl rfl ?_
          refine WO_gt rfl ?_
          refine WO_call0 rfl (RF_of (stands_run _ _ _ _ (by omega))) rfl rfl rfl ?_
          refine WO_gt rfl ?_
          refine WO_un (r := .bool _) rfl rfl ?_
          refine WO_pick (v := .s (.bool _)) rfl rfl ?_
          refine WO_nil ?_
          refine WP_cond rfl (fun h43 => ?_) (fun h43 => ?_)
          ·try simp only [NM] at h43
           try simp only [decide_eq_true_eq, decide_eq_false_iff_not] at h43
           refine WP_seq ?_
           refine WP_ops ?_
           refine WO_mv rfl ?_
           refine WO_nil ?_
           refine WP_ret ?_
           refine ⟨_, RS_tmp (v := .s (.bool _)) rfl (RS_nil), ?_⟩
           refine congrArg (fun b => V.s (S.bool b)) ?_
           rw [Bool.eq_iff_iff]
           simp only [castlesM, homeM, standM, decide_eq_true_eq, decide_eq_false_iff_not, Bool.false_eq_true, false_iff, true_iff] at *
           omega
          ·try simp only [NM] at h43
           try simp only [decide_eq_true_eq, decide_eq_false_iff_not] at h43
           refine WP_skip ?_
           refine WP_ops ?_
           refine WO_bin (r := .int .i64 4) rfl rfl rfl ?_
           refine WO_mv (v := .s (.int _ _)) rfl ?_
           refine WO_nil ?_
           refine ⟨_, (.cons_cons _ .slnil), ?_, rfl, rfl, rfl, rfl, rfl⟩
           try simp only [standM, decide_eq_true_eq, decide_eq_false_iff_not] at *
           omega
       ·try simp only [NM] at h40
        try simp only [decide_eq_true_eq, decide_eq_false_iff_not] at h40
        exfalso; omega
      ·skip
       obtain ⟨hf3, k1, k16, k17, rfl, rfl⟩ := hI
       refine WP_know (d := 1) (v := .ptr 0 0 133) k1 ?_
       refine WP_know (d := 16) (v := .agg 4 (ia (ov (ov (ov (ov (fun _ => 0) 0 7) 1 0) 2 63) 3 56))) k16 ?_
       refine WP_know (d := 17) (v := .s (.int .i64 4)) k17 ?_
       refine WP_unroll ?_
       refine WP_seq ?_
       refine WP_ops ?_
       refine WO_bin (r := .bool _) rfl rfl rfl ?_
       refine WO_nil ?_
       refine WP_seq ?_
       refine WP_cond rfl (fun h44 => ?_) (fun h44 => ?_)
       ·try simp only [NM] at h44
        try simp only [decide_eq_true_eq, decide_eq_false_iff_not] at h44
        exfalso; omega
       ·try simp only [NM] at h44
        try simp only [decide_eq_true_eq, decide_eq_false_iff_not] at h44
        refine WP_exit ?_
        refine xhere ?_
        refine WP_seq ?_
        refine WP_ops ?_
        refine WO_mv rfl ?_
        refine WO_nil ?_
        refine WP_ret ?_
        refine ⟨_, RS_tmp (v := .s (.bool _)) rfl (RS_nil), ?_⟩
        refine congrArg (fun b => V.s (S.bool b)) ?_
        rw [Bool.eq_iff_iff]
        simp only [castlesM, homeM, standM, decide_eq_true_eq, decide_eq_false_iff_not, Bool.false_eq_true, false_iff, true_iff] at *
        omega
end Go.Proofs.Ytjldefmcnppdoaa
/- The walks of the chapter board: what is right, whole. -/
namespace Go.Proofs.Ytjldefmcnppdoaa
open Go Go.Am
set_option linter.unusedSimpArgs false
set_option linter.unusedVariables false
theorem ovK {F : Nat → Int} {x y : Int} : ov (ov F 0 x) 1 y 0 = x ∧ ov (ov F 0 x) 1 y 1 = y := ⟨rfl, rfl⟩
theorem rank_run (s : Nat) (h : s < 64) : RF AM 38 [.s (.int .i64 (s : Int))] (.s (.int .i64 ((s : Int) / 8))) := by
  have := Rank_run (s : Int)
  rw [rankM, if_pos (by omega)] at this
  exact this

theorem pieces_ok (P : Nat → Int) : WR AM 89 [.agg 133 (ia P)] [] (fun v _ _ => v = .s (.bool (piecesM P))) := by
 refine WR_fn (a := a89) rfl rfl (entryF _) (entry_E (Nat.le_of_ble_eq_true rfl)) (m := 0) rfl ?_
 refine WP_seq ?_
 refine WP_ops ?_
 refine WO_boxA rfl ?_
 refine WO_mv rfl ?_
 refine WO_nil ?_
 refine WP_seq ?_
 refine WP_ops ?_
 refine WO_allocI ?_
 refine WO_nil ?_
 refine WP_seq ?_
 refine WP_seq ?_
 refine WP_ops ?_
 refine WO_fa (o' := 0) rfl rfl rfl ?_
 refine WO_fa (o' := 0) rfl rfl rfl ?_
 first | refine WO_ldA0 rfl rfl (.tail _ (.head _)) ?_ | refine WO_ldAI rfl rfl (.tail _ (.head _)) ?_
 refine WO_mv rfl ?_
 refine WO_nil ?_
 refine WP_block ?_
 refine WP_sub (L' := [_, _]) (.cons_cons _ (.cons_cons _ .slnil)) ?_
 refine WP_loop (fun m f _ L => ∃ (i : Nat) (C : Nat → Int), (i ≤ 64) ∧ (m = 64 - i) ∧ (∀ s : Nat, s < i → okM P s) ∧ (C 0 = kM P 0 i) ∧ (C 1 = kM P 1 i) ∧ (f 1 = .ptr 0 0 133) ∧ (f 3 = .ptr 1 0 2) ∧ (f 9 = .agg 128 (ia P)) ∧ (f 10 = .s (.int .i64 i)) ∧ (L = [(1, .sc .var 2 (ia C)), (0, .sc .var 133 (ia P))])) (fun m f nb L hI => ?_) (64) ⟨0, fun _ => 0, by omega, rfl, fun s h => by omega, rfl, rfl, rfl, rfl, rfl, rfl, rfl⟩
 obtain ⟨i, C, hi, hm, hok, hc0, hc1, k1, k3, k9, k10, rfl⟩ := hI
 refine WP_know (d := 1) (v := .ptr 0 0 133) k1 ?_
 refine WP_know (d := 3) (v := .ptr 1 0 2) k3 ?_
 refine WP_know (d := 9) (v := .agg 128 (ia P)) k9 ?_
 refine WP_know (d := 10) (v := .s (.int .i64 i)) k10 ?_
 refine WP_seq ?_
 refine WP_ops ?_
 refine WO_bin (r := .bool _) rfl rfl rfl ?_
 refine WO_nil ?_
 refine WP_seq ?_
 refine WP_cond rfl (fun h1 => ?_) (fun h1 => ?_)
 ·try simp only [NM] at h1
  try simp only [eq_two, ovA2.1, ovA2.2, ovK.1, ovK.2, decide_eq_true_eq, decide_eq_false_iff_not, mayM, dp, Nat.add_zero] at h1
  refine WP_skip ?_
  refine WP_seq ?_
  refine WP_block ?_
  refine WP_seq ?_
  refine WP_ops ?_
  refine WO_mv (v := .s (.int _ _)) rfl ?_
  refine WO_ixA rfl rfl rfl (by first | omega | (simp only [mayM, decide_eq_true_eq] at *; omega)) ?_
  rw [dp_ix]
  refine WO_allocI ?_
  refine WO_mv (v := .s (.int _ _)) rfl ?_
  refine WO_stA rfl rfl rfl rfl .here ?_
  refine WO_nil ?_
  refine WP_seq ?_
  refine WP_seq ?_
  refine WP_ops ?_
  first | refine WO_ldA0 rfl rfl (.head _) ?_ | refine WO_ldAI rfl rfl (.head _) ?_
  refine WO_buildI rfl .nil ?_
  refine WO_eqa rfl rfl ?_
  refine WO_nil ?_
  refine WP_cond rfl (fun h2 => ?_) (fun h2 => ?_)
  ·try simp only [NM] at h2
   try simp only [eq_two, ovA2.1, ovA2.2, ovK.1, ovK.2, decide_eq_true_eq, decide_eq_false_iff_not, mayM, dp, Nat.add_zero] at h2
   refine WP_exit ?_
   refine xhere ?_
   refine WP_ops ?_
   refine WO_add rfl rfl (by omega) ?_
   refine WO_mv (v := .s (.int _ _)) rfl ?_
   refine WO_nil ?_
   first | (have hk := kings_yes hc0 hc1 (by omega) (by omega); refine ⟨64 - (i + 1), _, by omega, (.cons _ (.cons_cons _ (.cons_cons _ .slnil))), i + 1, _, by omega, rfl, ok_next hok (by unfold okM; omega), hk.1, hk.2, rfl, rfl, rfl, rfl, rfl⟩) | (have hk := kings_no hc0 hc1 (by omega); refine ⟨64 - (i + 1), _, by omega, (.cons _ (.cons_cons _ (.cons_cons _ .slnil))), i + 1, _, by omega, rfl, ok_next hok (by unfold okM; omega), hk.1, hk.2, rfl, rfl, rfl, rfl, rfl⟩)
  ·try simp only [NM] at h2
   try simp only [eq_two, ovA2.1, ovA2.2, ovK.1, ovK.2, decide_eq_true_eq, decide_eq_false_iff_not, mayM, dp, Nat.add_zero] at h2
   refine WP_skip ?_
   refine WP_seq ?_
   refine WP_ops ?_
   refine WO_mv (v := .s (.int _ _)) rfl ?_
   refine WO_call0 rfl (rank_run i (by omega)) rfl rfl rfl ?_
   refine WO_bin (r := .bool _) rfl rfl rfl ?_
   refine WO_mv (v := .s (.bool _)) rfl ?_
   refine WO_case (t := 20) rfl (fun h3 => ?_) (fun h3 => ?_)
   ·try simp only [NM] at h3
    try simp only [eq_two, ovA2.1, ovA2.2, ovK.1, ovK.2, decide_eq_true_eq, decide_eq_false_iff_not, mayM, dp, Nat.add_zero] at h3
    refine WO_gf rfl rfl ?_
    refine WO_gf rfl rfl ?_
    refine WO_gf rfl rfl ?_
    refine WO_pick (v := .s (.bool _)) rfl rfl ?_
    refine WO_mv (v := .s (.bool _)) rfl ?_
    refine WO_nil ?_
    refine WP_seq ?_
    refine WP_seq ?_
    refine WP_ops ?_
    first | refine WO_ldA0 rfl rfl (.head _) ?_ | refine WO_ldAI rfl rfl (.head _) ?_
    refine WO_call0 rfl (show RF AM 88 _ (.s (.bool (mayM (P (sqI i)) (P (sqI i + 1))))) from RF_of (may_run (ovA (fun _ => 0) 0 2 (dp P (sqI i))))) rfl rfl rfl ?_
    refine WO_un (r := .bool _) rfl rfl ?_
    refine WO_mv (v := .s (.bool _)) rfl ?_
    refine WO_case (t := 28) rfl (fun h4 => ?_) (fun h4 => ?_)
    ·try simp only [NM] at h4
     try simp only [eq_two, ovA2.1, ovA2.2, ovK.1, ovK.2, decide_eq_true_eq, decide_eq_false_iff_not, mayM, dp, Nat.add_zero] at h4
     refine WO_gf rfl rfl ?_
     refine WO_gf rfl rfl ?_
     refine WO_gu rfl ?_
     refine WO_gu rfl ?_
     refine WO_gu rfl ?_
     refine WO_gf rfl rfl ?_
     refine WO_pick (v := .s (.bool _)) rfl rfl ?_
     refine WO_nil ?_
     refine WP_cond rfl (fun _ => ?_) (fun h => nomatch h)
     refine WP_seq ?_
     refine WP_ops ?_
     refine WO_mv rfl ?_
     refine WO_nil ?_
     refine WP_ret ?_
     refine ⟨_, RS_tmp (v := .s (.bool _)) rfl (RS_nil), ?_⟩
     exact congrArg (fun b => V.s (S.bool b)) (pieces_no (fun q => absurd (q.1 i (by omega)) (by unfold okM; omega))).symm
    ·try simp only [NM] at h4
     try simp only [eq_two, ovA2.1, ovA2.2, ovK.1, ovK.2, decide_eq_true_eq, decide_eq_false_iff_not, mayM, dp, Nat.add_zero] at h4
     refine WO_gt rfl ?_
     refine WO_mv (v := .s (.bool _)) rfl ?_
     refine WO_gt rfl ?_
     refine WO_mv (v := .s (.bool _)) rfl ?_
     refine WO_gt rfl ?_
     refine WO_fa (o' := 0) rfl rfl rfl ?_
     refine WO_gt rfl ?_
     refine WO_ldI (x := P (sqI i)) rfl rfl (.head _) (rfl) ?_
     refine WO_gt rfl ?_
     refine WO_bin (r := .bool _) rfl rfl rfl ?_
     refine WO_gt rfl ?_
     refine WO_pick (v := .s (.bool _)) rfl rfl ?_
     refine WO_pick (v := .s (.bool _)) rfl rfl ?_
     refine WO_nil ?_
     refine WP_cond rfl (fun h5 => ?_) (fun h5 => ?_)
     ·try simp only [NM] at h5
      try simp only [eq_two, ovA2.1, ovA2.2, ovK.1, ovK.2, decide_eq_true_eq, decide_eq_false_iff_not, mayM, dp, Nat.add_zero] at h5
      refine WP_seq ?_
      refine WP_ops ?_
      refine WO_mv rfl ?_
      refine WO_nil ?_
      refine WP_ret ?_
      refine ⟨_, RS_tmp (v := .s (.bool _)) rfl (RS_nil), ?_⟩
      exact congrArg (fun b => V.s (S.bool b)) (pieces_no (fun q => absurd (q.1 i (by omega)) (by unfold okM; omega))).symm
     ·try simp only [NM] at h5
      try simp only [eq_two, ovA2.1, ovA2.2, ovK.1, ovK.2, decide_eq_true_eq, decide_eq_false_iff_not, mayM, dp, Nat.add_zero] at h5
      refine WP_skip ?_
      refine WP_seq ?_
      refine WP_ops ?_
      refine WO_fa (o' := 0) rfl rfl rfl ?_
      refine WO_ldI (x := P (sqI i)) rfl rfl (.head _) (rfl) ?_
      refine WO_bin (r := .bool _) rfl rfl rfl ?_
      refine WO_nil ?_
      refine WP_cond rfl (fun h6 => ?_) (fun h6 => ?_)
      ·try simp only [NM] at h6
       try simp only [eq_two, ovA2.1, ovA2.2, ovK.1, ovK.2, decide_eq_true_eq, decide_eq_false_iff_not, mayM, dp, Nat.add_zero] at h6
       refine WP_ops ?_
       refine WO_fa (o' := 1) rfl rfl rfl ?_
       refine WO_ldI (x := P (sqI i + 1)) rfl rfl (.head _) (rfl) ?_
       refine WO_ixa rfl rfl rfl (by first | omega | (simp only [mayM, decide_eq_true_eq] at *; omega)) ?_
       refine WO_ldI rfl rfl (.tail _ (.head _)) rfl ?_
       refine WO_add rfl rfl (king_bd hc0 hc1 hi (by omega)) ?_
       refine WO_ixa rfl rfl rfl (by first | omega | (simp only [mayM, decide_eq_true_eq] at *; omega)) ?_
       refine WO_stI rfl rfl rfl rfl (.there .here) ?_
       refine WO_nil ?_
       refine WP_ops ?_
       refine WO_add rfl rfl (by omega) ?_
       refine WO_mv (v := .s (.int _ _)) rfl ?_
       refine WO_nil ?_
       first | (have hk := kings_yes hc0 hc1 (by omega) (by omega); refine ⟨64 - (i + 1), _, by omega, (.cons _ (.cons_cons _ (.cons_cons _ .slnil))), i + 1, _, by omega, rfl, ok_next hok (by unfold okM; omega), hk.1, hk.2, rfl, rfl, rfl, rfl, rfl⟩) | (have hk := kings_no hc0 hc1 (by omega); refine ⟨64 - (i + 1), _, by omega, (.cons _ (.cons_cons _ (.cons_cons _ .slnil))), i + 1, _, by omega, rfl, ok_next hok (by unfold okM; omega), hk.1, hk.2, rfl, rfl, rfl, rfl, rfl⟩)
      ·try simp only [NM] at h6
       try simp only [eq_two, ovA2.1, ovA2.2, ovK.1, ovK.2, decide_eq_true_eq, decide_eq_false_iff_not, mayM, dp, Nat.add_zero] at h6
       refine WP_skip ?_
       refine WP_ops ?_
       refine WO_add rfl rfl (by omega) ?_
       refine WO_mv (v := .s (.int _ _)) rfl ?_
       refine WO_nil ?_
       first | (have hk := kings_yes hc0 hc1 (by omega) (by omega); refine ⟨64 - (i + 1), _, by omega, (.cons _ (.cons_cons _ (.cons_cons _ .slnil))), i + 1, _, by omega, rfl, ok_next hok (by unfold okM; omega), hk.1, hk.2, rfl, rfl, rfl, rfl, rfl⟩) | (have hk := kings_no hc0 hc1 (by omega); refine ⟨64 - (i + 1), _, by omega, (.cons _ (.cons_cons _ (.cons_cons _ .slnil))), i + 1, _, by omega, rfl, ok_next hok (by unfold okM; omega), hk.1, hk.2, rfl, rfl, rfl, rfl, rfl⟩)
   ·try simp only [NM] at h3
    try simp only [eq_two, ovA2.1, ovA2.2, ovK.1, ovK.2, decide_eq_true_eq, decide_eq_false_iff_not, mayM, dp, Nat.add_zero] at h3
    refine WO_gt rfl ?_
    refine WO_mv (v := .s (.int _ _)) rfl ?_
    refine WO_gt rfl ?_
    refine WO_call0 rfl (rank_run i (by omega)) rfl rfl rfl ?_
    refine WO_gt rfl ?_
    refine WO_bin (r := .bool _) rfl rfl rfl ?_
    refine WO_pick (v := .s (.bool _)) rfl rfl ?_
    refine WO_mv (v := .s (.bool _)) rfl ?_
    refine WO_nil ?_
    refine WP_seq ?_
    refine WP_seq ?_
    refine WP_ops ?_
    first | refine WO_ldA0 rfl rfl (.head _) ?_ | refine WO_ldAI rfl rfl (.head _) ?_
    refine WO_call0 rfl (show RF AM 88 _ (.s (.bool (mayM (P (sqI i)) (P (sqI i + 1))))) from RF_of (may_run (ovA (fun _ => 0) 0 2 (dp P (sqI i))))) rfl rfl rfl ?_
    refine WO_un (r := .bool _) rfl rfl ?_
    refine WO_mv (v := .s (.bool _)) rfl ?_
    refine WO_case (t := 28) rfl (fun h7 => ?_) (fun h7 => ?_)
    ·try simp only [NM] at h7
     try simp only [eq_two, ovA2.1, ovA2.2, ovK.1, ovK.2, decide_eq_true_eq, decide_eq_false_iff_not, mayM, dp, Nat.add_zero] at h7
     refine WO_gf rfl rfl ?_
     refine WO_gf rfl rfl ?_
     refine WO_gu rfl ?_
     refine WO_gu rfl ?_
     refine WO_gu rfl ?_
     refine WO_gf rfl rfl ?_
     refine WO_pick (v := .s (.bool _)) rfl rfl ?_
     refine WO_nil ?_
     refine WP_cond rfl (fun _ => ?_) (fun h => nomatch h)
     refine WP_seq ?_
     refine WP_ops ?_
     refine WO_mv rfl ?_
     refine WO_nil ?_
     refine WP_ret ?_
     refine ⟨_, RS_tmp (v := .s (.bool _)) rfl (RS_nil), ?_⟩
     exact congrArg (fun b => V.s (S.bool b)) (pieces_no (fun q => absurd (q.1 i (by omega)) (by unfold okM; omega))).symm
    ·try simp only [NM] at h7
     try simp only [eq_two, ovA2.1, ovA2.2, ovK.1, ovK.2, decide_eq_true_eq, decide_eq_false_iff_not, mayM, dp, Nat.add_zero] at h7
     refine WO_gt rfl ?_
     refine WO_mv (v := .s (.bool _)) rfl ?_
     refine WO_gt rfl ?_
     refine WO_mv (v := .s (.bool _)) rfl ?_
     refine WO_case (t := 30) rfl (fun h8 => ?_) (fun h8 => ?_)
     ·try simp only [NM] at h8
      try simp only [eq_two, ovA2.1, ovA2.2, ovK.1, ovK.2, decide_eq_true_eq, decide_eq_false_iff_not, mayM, dp, Nat.add_zero] at h8
      refine WO_gt rfl ?_
      refine WO_fa (o' := 0) rfl rfl rfl ?_
      refine WO_gt rfl ?_
      refine WO_ldI (x := P (sqI i)) rfl rfl (.head _) (rfl) ?_
      refine WO_gt rfl ?_
      refine WO_bin (r := .bool _) rfl rfl rfl ?_
      refine WO_gt rfl ?_
      refine WO_pick (v := .s (.bool _)) rfl rfl ?_
      refine WO_pick (v := .s (.bool _)) rfl rfl ?_
      refine WO_nil ?_
      refine WP_cond rfl (fun h9 => ?_) (fun h9 => ?_)
      ·try simp only [NM] at h9
       try simp only [eq_two, ovA2.1, ovA2.2, ovK.1, ovK.2, decide_eq_true_eq, decide_eq_false_iff_not, mayM, dp, Nat.add_zero] at h9
       refine WP_seq ?_
       refine WP_ops ?_
       refine WO_mv rfl ?_
       refine WO_nil ?_
       refine WP_ret ?_
       refine ⟨_, RS_tmp (v := .s (.bool _)) rfl (RS_nil), ?_⟩
       exact congrArg (fun b => V.s (S.bool b)) (pieces_no (fun q => absurd (q.1 i (by omega)) (by unfold okM; omega))).symm
      ·try simp only [NM] at h9
       try simp only [eq_two, ovA2.1, ovA2.2, ovK.1, ovK.2, decide_eq_true_eq, decide_eq_false_iff_not, mayM, dp, Nat.add_zero] at h9
       refine WP_skip ?_
       refine WP_seq ?_
       refine WP_ops ?_
       refine WO_fa (o' := 0) rfl rfl rfl ?_
       refine WO_ldI (x := P (sqI i)) rfl rfl (.head _) (rfl) ?_
       refine WO_bin (r := .bool _) rfl rfl rfl ?_
       refine WO_nil ?_
       refine WP_cond rfl (fun h10 => ?_) (fun h10 => ?_)
       ·try simp only [NM] at h10
        try simp only [eq_two, ovA2.1, ovA2.2, ovK.1, ovK.2, decide_eq_true_eq, decide_eq_false_iff_not, mayM, dp, Nat.add_zero] at h10
        refine WP_ops ?_
        refine WO_fa (o' := 1) rfl rfl rfl ?_
        refine WO_ldI (x := P (sqI i + 1)) rfl rfl (.head _) (rfl) ?_
        refine WO_ixa rfl rfl rfl (by first | omega | (simp only [mayM, decide_eq_true_eq] at *; omega)) ?_
        refine WO_ldI rfl rfl (.tail _ (.head _)) rfl ?_
        refine WO_add rfl rfl (king_bd hc0 hc1 hi (by omega)) ?_
        refine WO_ixa rfl rfl rfl (by first | omega | (simp only [mayM, decide_eq_true_eq] at *; omega)) ?_
        refine WO_stI rfl rfl rfl rfl (.there .here) ?_
        refine WO_nil ?_
        refine WP_ops ?_
        refine WO_add rfl rfl (by omega) ?_
        refine WO_mv (v := .s (.int _ _)) rfl ?_
        refine WO_nil ?_
        first | (have hk := kings_yes hc0 hc1 (by omega) (by omega); refine ⟨64 - (i + 1), _, by omega, (.cons _ (.cons_cons _ (.cons_cons _ .slnil))), i + 1, _, by omega, rfl, ok_next hok (by unfold okM; omega), hk.1, hk.2, rfl, rfl, rfl, rfl, rfl⟩) | (have hk := kings_no hc0 hc1 (by omega); refine ⟨64 - (i + 1), _, by omega, (.cons _ (.cons_cons _ (.cons_cons _ .slnil))), i + 1, _, by omega, rfl, ok_next hok (by unfold okM; omega), hk.1, hk.2, rfl, rfl, rfl, rfl, rfl⟩)
       ·try simp only [NM] at h10
        try simp only [eq_two, ovA2.1, ovA2.2, ovK.1, ovK.2, decide_eq_true_eq, decide_eq_false_iff_not, mayM, dp, Nat.add_zero] at h10
        refine WP_skip ?_
        refine WP_ops ?_
        refine WO_add rfl rfl (by omega) ?_
        refine WO_mv (v := .s (.int _ _)) rfl ?_
        refine WO_nil ?_
        first | (have hk := kings_yes hc0 hc1 (by omega) (by omega); refine ⟨64 - (i + 1), _, by omega, (.cons _ (.cons_cons _ (.cons_cons _ .slnil))), i + 1, _, by omega, rfl, ok_next hok (by unfold okM; omega), hk.1, hk.2, rfl, rfl, rfl, rfl, rfl⟩) | (have hk := kings_no hc0 hc1 (by omega); refine ⟨64 - (i + 1), _, by omega, (.cons _ (.cons_cons _ (.cons_cons _ .slnil))), i + 1, _, by omega, rfl, ok_next hok (by unfold okM; omega), hk.1, hk.2, rfl, rfl, rfl, rfl, rfl⟩)
     ·try simp only [NM] at h8
      try simp only [eq_two, ovA2.1, ovA2.2, ovK.1, ovK.2, decide_eq_true_eq, decide_eq_false_iff_not, mayM, dp, Nat.add_zero] at h8
      refine WO_gf rfl rfl ?_
      refine WO_gf rfl rfl ?_
      refine WO_gf rfl rfl ?_
      refine WO_gt rfl ?_
      refine WO_pick (v := .s (.bool _)) rfl rfl ?_
      refine WO_pick (v := .s (.bool _)) rfl rfl ?_
      refine WO_nil ?_
      refine WP_cond rfl (fun h => nomatch h) (fun _ => ?_)
      refine WP_skip ?_
      refine WP_seq ?_
      refine WP_ops ?_
      refine WO_fa (o' := 0) rfl rfl rfl ?_
      refine WO_ldI (x := P (sqI i)) rfl rfl (.head _) (rfl) ?_
      refine WO_bin (r := .bool _) rfl rfl rfl ?_
      refine WO_nil ?_
      refine WP_cond rfl (fun h11 => ?_) (fun h11 => ?_)
      ·try simp only [NM] at h11
       try simp only [eq_two, ovA2.1, ovA2.2, ovK.1, ovK.2, decide_eq_true_eq, decide_eq_false_iff_not, mayM, dp, Nat.add_zero] at h11
       refine WP_ops ?_
       refine WO_fa (o' := 1) rfl rfl rfl ?_
       refine WO_ldI (x := P (sqI i + 1)) rfl rfl (.head _) (rfl) ?_
       refine WO_ixa rfl rfl rfl (by first | omega | (simp only [mayM, decide_eq_true_eq] at *; omega)) ?_
       refine WO_ldI rfl rfl (.tail _ (.head _)) rfl ?_
       refine WO_add rfl rfl (king_bd hc0 hc1 hi (by omega)) ?_
       refine WO_ixa rfl rfl rfl (by first | omega | (simp only [mayM, decide_eq_true_eq] at *; omega)) ?_
       refine WO_stI rfl rfl rfl rfl (.there .here) ?_
       refine WO_nil ?_
       refine WP_ops ?_
       refine WO_add rfl rfl (by omega) ?_
       refine WO_mv (v := .s (.int _ _)) rfl ?_
       refine WO_nil ?_
       first | (have hk := kings_yes hc0 hc1 (by omega) (by omega); refine ⟨64 - (i + 1), _, by omega, (.cons _ (.cons_cons _ (.cons_cons _ .slnil))), i + 1, _, by omega, rfl, ok_next hok (by unfold okM; omega), hk.1, hk.2, rfl, rfl, rfl, rfl, rfl⟩) | (have hk := kings_no hc0 hc1 (by omega); refine ⟨64 - (i + 1), _, by omega, (.cons _ (.cons_cons _ (.cons_cons _ .slnil))), i + 1, _, by omega, rfl, ok_next hok (by unfold okM; omega), hk.1, hk.2, rfl, rfl, rfl, rfl, rfl⟩)
      ·try simp only [NM] at h11
       try simp only [eq_two, ovA2.1, ovA2.2, ovK.1, ovK.2, decide_eq_true_eq, decide_eq_false_iff_not, mayM, dp, Nat.add_zero] at h11
       refine WP_skip ?_
       refine WP_ops ?_
       refine WO_add rfl rfl (by omega) ?_
       refine WO_mv (v := .s (.int _ _)) rfl ?_
       refine WO_nil ?_
       first | (have hk := kings_yes hc0 hc1 (by omega) (by omega); refine ⟨64 - (i + 1), _, by omega, (.cons _ (.cons_cons _ (.cons_cons _ .slnil))), i + 1, _, by omega, rfl, ok_next hok (by unfold okM; omega), hk.1, hk.2, rfl, rfl, rfl, rfl, rfl⟩) | (have hk := kings_no hc0 hc1 (by omega); refine ⟨64 - (i + 1), _, by omega, (.cons _ (.cons_cons _ (.cons_cons _ .slnil))), i + 1, _, by omega, rfl, ok_next hok (by unfold okM; omega), hk.1, hk.2, rfl, rfl, rfl, rfl, rfl⟩)
 ·try simp only [NM] at h1
  try simp only [eq_two, ovA2.1, ovA2.2, ovK.1, ovK.2, decide_eq_true_eq, decide_eq_false_iff_not, mayM, dp, Nat.add_zero] at h1
  refine WP_exit ?_
  refine xhere ?_
  refine WP_seq ?_
  refine WP_ops ?_
  first | refine WO_ldA0 rfl rfl (.head _) ?_ | refine WO_ldAI rfl rfl (.head _) ?_
  refine WO_buildI rfl (.one rfl (.one rfl .nil)) ?_
  refine WO_eqa rfl rfl ?_
  refine WO_mv (v := .s (.bool _)) rfl ?_
  refine WO_case (t := 49) rfl (fun h12 => ?_) (fun h12 => ?_)
  ·try simp only [NM] at h12
   try simp only [eq_two, ovA2.1, ovA2.2, ovK.1, ovK.2, decide_eq_true_eq, decide_eq_false_iff_not, mayM, dp, Nat.add_zero] at h12
   refine WO_gt rfl ?_
   refine WO_fa (o' := 0) rfl rfl rfl ?_
   refine WO_gt rfl ?_
   refine WO_fa (o' := 128) rfl rfl rfl ?_
   refine WO_gt rfl ?_
   refine WO_ldI rfl rfl (.tail _ (.head _)) rfl ?_
   refine WO_gt rfl ?_
   refine WO_bin (r := .bool _) rfl rfl rfl ?_
   refine WO_gt rfl ?_
   refine WO_mv (v := .s (.bool _)) rfl ?_
   refine WO_case (t := 54) rfl (fun h13 => ?_) (fun h13 => ?_)
   ·try simp only [NM] at h13
    try simp only [eq_two, ovA2.1, ovA2.2, ovK.1, ovK.2, decide_eq_true_eq, decide_eq_false_iff_not, mayM, dp, Nat.add_zero] at h13
    refine WO_gf rfl rfl ?_
    refine WO_gf rfl rfl ?_
    refine WO_gf rfl rfl ?_
    refine WO_gf rfl rfl ?_
    refine WO_gt rfl ?_
    refine WO_pick (v := .s (.bool _)) rfl rfl ?_
    refine WO_pick (v := .s (.bool _)) rfl rfl ?_
    refine WO_mv (v := .s (.bool _)) rfl ?_
    refine WO_nil ?_
    refine WP_ret ?_
    refine ⟨_, RS_tmp (v := .s (.bool _)) rfl (RS_nil), ?_⟩
    obtain rfl : i = 64 := by omega
    refine congrArg (fun b => V.s (S.bool b)) ?_
    by_cases hq : (∀ s : Nat, s < 64 → okM P s) ∧ kM P 0 64 = 1 ∧ kM P 1 64 = 1 ∧ (P 128 = 0 ∨ P 128 = 1)
    · refine Eq.trans (b := true) ?_ (pieces_yes hq).symm; have hq2 := hq.2; first | rfl | (exfalso; omega) | exact beq_iff_eq.2 (by omega)
    · refine Eq.trans (b := false) ?_ (pieces_no hq).symm; have hn : ¬ (kM P 0 64 = 1 ∧ kM P 1 64 = 1 ∧ (P 128 = 0 ∨ P 128 = 1)) := fun e => hq ⟨hok, e⟩; first | rfl | (exfalso; omega) | exact beq_eq_false_iff_ne.2 (by omega)
   ·try simp only [NM] at h13
    try simp only [eq_two, ovA2.1, ovA2.2, ovK.1, ovK.2, decide_eq_true_eq, decide_eq_false_iff_not, mayM, dp, Nat.add_zero] at h13
    refine WO_gt rfl ?_
    refine WO_fa (o' := 0) rfl rfl rfl ?_
    refine WO_gt rfl ?_
    refine WO_fa (o' := 128) rfl rfl rfl ?_
    refine WO_gt rfl ?_
    refine WO_ldI rfl rfl (.tail _ (.head _)) rfl ?_
    refine WO_gt rfl ?_
    refine WO_bin (r := .bool _) rfl rfl rfl ?_
    refine WO_gt rfl ?_
    refine WO_pick (v := .s (.bool _)) rfl rfl ?_
    refine WO_pick (v := .s (.bool _)) rfl rfl ?_
    refine WO_mv (v := .s (.bool _)) rfl ?_
    refine WO_nil ?_
    refine WP_ret ?_
    refine ⟨_, RS_tmp (v := .s (.bool _)) rfl (RS_nil), ?_⟩
    obtain rfl : i = 64 := by omega
    refine congrArg (fun b => V.s (S.bool b)) ?_
    by_cases hq : (∀ s : Nat, s < 64 → okM P s) ∧ kM P 0 64 = 1 ∧ kM P 1 64 = 1 ∧ (P 128 = 0 ∨ P 128 = 1)
    · refine Eq.trans (b := true) ?_ (pieces_yes hq).symm; have hq2 := hq.2; first | rfl | (exfalso; omega) | exact beq_iff_eq.2 (by omega)
    · refine Eq.trans (b := false) ?_ (pieces_no hq).symm; have hn : ¬ (kM P 0 64 = 1 ∧ kM P 1 64 = 1 ∧ (P 128 = 0 ∨ P 128 = 1)) := fun e => hq ⟨hok, e⟩; first | rfl | (exfalso; omega) | exact beq_eq_false_iff_ne.2 (by omega)
  ·try simp only [NM] at h12
   try simp only [eq_two, ovA2.1, ovA2.2, ovK.1, ovK.2, decide_eq_true_eq, decide_eq_false_iff_not, mayM, dp, Nat.add_zero] at h12
   refine WO_gf rfl rfl ?_
   refine WO_gf rfl rfl ?_
   refine WO_gf rfl rfl ?_
   refine WO_gf rfl rfl ?_
   refine WO_gf rfl rfl ?_
   refine WO_gu rfl ?_
   refine WO_gu rfl ?_
   refine WO_gu rfl ?_
   refine WO_gu rfl ?_
   refine WO_gf rfl rfl ?_
   refine WO_pick (v := .s (.bool _)) rfl rfl ?_
   refine WO_mv (v := .s (.bool _)) rfl ?_
   refine WO_nil ?_
   refine WP_ret ?_
   refine ⟨_, RS_tmp (v := .s (.bool _)) rfl (RS_nil), ?_⟩
   obtain rfl : i = 64 := by omega
   refine congrArg (fun b => V.s (S.bool b)) ?_
   by_cases hq : (∀ s : Nat, s < 64 → okM P s) ∧ kM P 0 64 = 1 ∧ kM P 1 64 = 1 ∧ (P 128 = 0 ∨ P 128 = 1)
   · refine Eq.trans (b := true) ?_ (pieces_yes hq).symm; have hq2 := hq.2; first | rfl | (exfalso; omega) | exact beq_iff_eq.2 (by omega)
   · refine Eq.trans (b := false) ?_ (pieces_no hq).symm; have hn : ¬ (kM P 0 64 = 1 ∧ kM P 1 64 = 1 ∧ (P 128 = 0 ∨ P 128 = 1)) := fun e => hq ⟨hok, e⟩; first | rfl | (exfalso; omega) | exact beq_eq_false_iff_ne.2 (by omega)
theorem step_up {x : Int} (hx : 0 ≤ x ∧ x < 64) (h : x / 8 < 7) : RF AM 33 [.s (.int .i64 x), .s (.int .i64 0), .s (.int .i64 1)] (.s (.int .i64 (x + 8))) := by
  have := Step_run x 0 1
  rw [step_is hx (by omega)] at this
  exact this
theorem step_dn {x : Int} (hx : 0 ≤ x ∧ x < 64) (h : 1 ≤ x / 8) : RF AM 33 [.s (.int .i64 x), .s (.int .i64 0), .s (.int .i64 (-1))] (.s (.int .i64 (x - 8))) := by
  have := Step_run x 0 (-1)
  rw [step_is hx (by omega)] at this
  exact this
theorem other0 {x : Int} (h : x = 0 ∨ x = 1) : otherM x = 1 - x := by
  unfold otherM; split <;> omega
theorem rank_all (x : Int) : (0 ≤ x ∧ x < 64 ∧ rankM x = x / 8) ∨ (¬ (0 ≤ x ∧ x < 64) ∧ rankM x = -1) := by
  unfold rankM; split
  · exact .inl ⟨by omega, by omega, rfl⟩
  · exact .inr ⟨by assumption, rfl⟩

theorem over_ok (P : Nat → Int) (hs : P 128 = 0 ∨ P 128 = 1) : WR AM 91 [.agg 133 (ia P)] [] (fun v _ _ => v = .s (.bool (overOK P))) := by
 refine WR_fn (a := a91) rfl rfl (entryF _) (entry_E (Nat.le_of_ble_eq_true rfl)) (m := 0) rfl ?_
 refine WP_seq ?_
 refine WP_ops ?_
 refine WO_boxA rfl ?_
 refine WO_mv rfl ?_
 refine WO_nil ?_
 refine WP_seq ?_
 refine WP_seq ?_
 refine WP_ops ?_
 refine WO_fa (o' := 0) rfl rfl rfl ?_
 refine WO_fa (o' := 130) rfl rfl rfl ?_
 refine WO_ldI rfl rfl (.head _) rfl ?_
 refine WO_bin (r := .bool _) rfl rfl rfl ?_
 refine WO_nil ?_
 refine WP_cond rfl (fun h30 => ?_) (fun h30 => ?_)
 ·try simp only [NM] at h30
  try simp only [standM, decide_eq_true_eq, decide_eq_false_iff_not] at h30
  refine WP_seq ?_
  refine WP_ops ?_
  refine WO_mv rfl ?_
  refine WO_nil ?_
  refine WP_ret ?_
  refine ⟨_, RS_tmp (v := .s (.bool _)) rfl (RS_nil), ?_⟩
  refine congrArg (fun b => V.s (S.bool b)) ?_
  have ho := other0 hs
  have hra := rank_all (P 130)
  rw [Bool.eq_iff_iff]
  simp only [overOK, standM, decide_eq_true_eq, Bool.false_eq_true, false_iff, true_iff, ho] at *
  omega
 ·try simp only [NM] at h30
  try simp only [standM, decide_eq_true_eq, decide_eq_false_iff_not] at h30
  refine WP_skip ?_
  refine WP_seq ?_
  refine WP_ops ?_
  refine WO_mv rfl ?_
  refine WO_mv rfl ?_
  refine WO_nil ?_
  refine WP_seq ?_
  refine WP_seq ?_
  refine WP_ops ?_
  refine WO_fa (o' := 0) rfl rfl rfl ?_
  refine WO_fa (o' := 128) rfl rfl rfl ?_
  refine WO_ldI rfl rfl (.head _) rfl ?_
  refine WO_bin (r := .bool _) rfl rfl rfl ?_
  refine WO_nil ?_
  refine WP_cond rfl (fun h31 => ?_) (fun h31 => ?_)
  ·try simp only [NM] at h31
   try simp only [standM, decide_eq_true_eq, decide_eq_false_iff_not] at h31
   refine WP_ops ?_
   refine WO_mv rfl ?_
   refine WO_mv rfl ?_
   refine WO_nil ?_
   refine WP_seq ?_
   refine WP_seq ?_
   refine WP_ops ?_
   refine WO_fa (o' := 0) rfl rfl rfl ?_
   refine WO_fa (o' := 130) rfl rfl rfl ?_
   refine WO_ldI rfl rfl (.head _) rfl ?_
   refine WO_call0 rfl (Rank_run _) rfl rfl rfl ?_
   refine WO_mv (v := .s (.int _ _)) rfl ?_
   refine WO_bin (r := .bool _) rfl rfl rfl ?_
   refine WO_mv (v := .s (.bool _)) rfl ?_
   refine WO_case (t := 20) rfl (fun h32 => ?_) (fun h32 => ?_)
   ·try simp only [NM] at h32
    try simp only [standM, decide_eq_true_eq, decide_eq_false_iff_not] at h32
    refine WO_gf rfl rfl ?_
    refine WO_gf rfl rfl ?_
    refine WO_gf rfl rfl ?_
    refine WO_gf rfl rfl ?_
    refine WO_pick (v := .s (.bool _)) rfl rfl ?_
    refine WO_nil ?_
    refine WP_cond rfl (fun _ => ?_) (fun h => nomatch h)
    refine WP_seq ?_
    refine WP_ops ?_
    refine WO_mv rfl ?_
    refine WO_nil ?_
    refine WP_ret ?_
    refine ⟨_, RS_tmp (v := .s (.bool _)) rfl (RS_nil), ?_⟩
    refine congrArg (fun b => V.s (S.bool b)) ?_
    have ho := other0 hs
    have hra := rank_all (P 130)
    rw [Bool.eq_iff_iff]
    simp only [overOK, standM, decide_eq_true_eq, Bool.false_eq_true, false_iff, true_iff, ho] at *
    omega
   ·try simp only [NM] at h32
    try simp only [standM, decide_eq_true_eq, decide_eq_false_iff_not] at h32
    refine WO_gt rfl ?_
    refine WO_fa (o' := 0) rfl rfl rfl ?_
    refine WO_gt rfl ?_
    refine WO_fa (o' := 131) rfl rfl rfl ?_
    refine WO_gt rfl ?_
    refine WO_ldI rfl rfl (.head _) rfl ?_
    refine WO_gt rfl ?_
    refine WO_bin (r := .bool _) rfl rfl rfl ?_
    refine WO_pick (v := .s (.bool _)) rfl rfl ?_
    refine WO_nil ?_
    refine WP_cond rfl (fun h33 => ?_) (fun h33 => ?_)
    ·try simp only [NM] at h33
     try simp only [standM, decide_eq_true_eq, decide_eq_false_iff_not] at h33
     refine WP_seq ?_
     refine WP_ops ?_
     refine WO_mv rfl ?_
     refine WO_nil ?_
     refine WP_ret ?_
     refine ⟨_, RS_tmp (v := .s (.bool _)) rfl (RS_nil), ?_⟩
     refine congrArg (fun b => V.s (S.bool b)) ?_
     have ho := other0 hs
     have hra := rank_all (P 130)
     rw [Bool.eq_iff_iff]
     simp only [overOK, standM, decide_eq_true_eq, Bool.false_eq_true, false_iff, true_iff, ho] at *
     omega
    ·try simp only [NM] at h33
     try simp only [standM, decide_eq_true_eq, decide_eq_false_iff_not] at h33
     refine WP_skip ?_
     refine WP_seq ?_
     refine WP_ops ?_
     refine WO_mkfn rfl ?_
     refine WO_mv (v := .fn _ _) rfl ?_
     refine WO_nil ?_
     refine WP_seq ?_
     refine WP_ops ?_
     refine WO_mv (v := .fn _ _) rfl ?_
     refine WO_fa (o' := 0) rfl rfl rfl ?_
     refine WO_fa (o' := 130) rfl rfl rfl ?_
     refine WO_ldI rfl rfl (.head _) rfl ?_
     have hin31 := rank_in (x := P 130) (by assumption) (by omega)
     refine WO_callC (rs := [0]) (Bs := [_]) rfl (RB_of1 (free_run (md := .var) P _ (by omega))) rfl rfl (Nat.le_of_ble_eq_true rfl) (fun _ h => h) rfl ⟨(.head _), ⟨_, _, _, rfl⟩, trivial⟩ rfl rfl rfl (.cons .here .nil) ?_
     refine WO_mv (v := .s (.bool _)) rfl ?_
     refine WO_case (t := 32) rfl (fun h34 => ?_) (fun h34 => ?_)
     ·try simp only [NM] at h34
      try simp only [standM, decide_eq_true_eq, decide_eq_false_iff_not] at h34
      refine WO_gt rfl ?_
      refine WO_mv (v := .fn _ _) rfl ?_
      refine WO_gt rfl ?_
      refine WO_fa (o' := 0) rfl rfl rfl ?_
      refine WO_gt rfl ?_
      refine WO_fa (o' := 130) rfl rfl rfl ?_
      refine WO_gt rfl ?_
      refine WO_ldI rfl rfl (.head _) rfl ?_
      refine WO_gt rfl ?_
      refine WO_mv (v := .s (.int _ _)) rfl ?_
      refine WO_gt rfl ?_
      have hin38 := rank_in (x := P 130) (by assumption) (by omega)
      refine WO_call0 rfl (step_dn hin38.1 (by omega)) rfl rfl rfl ?_
      refine WO_gt rfl ?_
      have hin39 := rank_in (x := P 130) (by assumption) (by omega)
      refine WO_callC (rs := [0]) (Bs := [_]) rfl (RB_of1 (free_run (md := .var) P _ (by omega))) rfl rfl (Nat.le_of_ble_eq_true rfl) (fun _ h => h) rfl ⟨(.head _), ⟨_, _, _, rfl⟩, trivial⟩ rfl rfl rfl (.cons .here .nil) ?_
      refine WO_pick (v := .s (.bool _)) rfl rfl ?_
      refine WO_mv (v := .s (.bool _)) rfl ?_
      refine WO_case (t := 41) rfl (fun h35 => ?_) (fun h35 => ?_)
      ·try simp only [NM] at h35
       try simp only [standM, decide_eq_true_eq, decide_eq_false_iff_not] at h35
       refine WO_gt rfl ?_
       first | refine WO_ldA0 rfl rfl (.head _) ?_ | refine WO_ldAI rfl rfl (.head _) ?_
       refine WO_gt rfl ?_
       refine WO_fa (o' := 0) rfl rfl rfl ?_
       refine WO_gt rfl ?_
       refine WO_fa (o' := 128) rfl rfl rfl ?_
       refine WO_gt rfl ?_
       refine WO_ldI rfl rfl (.head _) rfl ?_
       refine WO_gt rfl ?_
       refine WO_callq0 rfl (RF_of (Other_run _)) rfl rfl rfl ?_
       refine WO_gt rfl ?_
       refine WO_fa (o' := 0) rfl rfl rfl ?_
       refine WO_gt rfl ?_
       refine WO_fa (o' := 130) rfl rfl rfl ?_
       refine WO_gt rfl ?_
       refine WO_ldI rfl rfl (.head _) rfl ?_
       refine WO_gt rfl ?_
       refine WO_mv (v := .s (.int _ _)) rfl ?_
       refine WO_gt rfl ?_
       refine WO_neg rfl (by omega) ?_
       refine WO_gt rfl ?_
       have hin52 := rank_in (x := P 130) (by assumption) (by omega)
       refine WO_callq0 rfl (step_up hin52.1 (by omega)) rfl rfl rfl ?_
       refine WO_gt rfl ?_
       refine WO_call0 rfl (RF_of (stands_run _ _ _ _ (by omega))) rfl rfl rfl ?_
       refine WO_pick (v := .s (.bool _)) rfl rfl ?_
       refine WO_mv (v := .s (.bool _)) rfl ?_
       refine WO_nil ?_
       refine WP_ret ?_
       refine ⟨_, RS_tmp (v := .s (.bool _)) rfl (RS_nil), ?_⟩
       refine congrArg (fun b => V.s (S.bool b)) ?_
       have ho := other0 hs
       have hra := rank_all (P 130)
       rw [Bool.eq_iff_iff]
       simp only [overOK, standM, decide_eq_true_eq, Bool.false_eq_true, false_iff, true_iff, ho] at *
       omega
      ·try simp only [NM] at h35
       try simp only [standM, decide_eq_true_eq, decide_eq_false_iff_not] at h35
       refine WO_gf rfl rfl ?_
       refine WO_gf rfl rfl ?_
       refine WO_gf rfl rfl ?_
       refine WO_gf rfl rfl ?_
       refine WO_gf rfl rfl ?_
       refine WO_gf rfl rfl ?_
       refine WO_gf rfl rfl ?_
       refine WO_gf rfl rfl ?_
       refine WO_gf rfl rfl ?_
       refine WO_gf rfl rfl ?_
       refine WO_gf rfl rfl ?_
       refine WO_gf rfl rfl ?_
       refine WO_pick (v := .s (.bool _)) rfl rfl ?_
       refine WO_mv (v := .s (.bool _)) rfl ?_
       refine WO_nil ?_
       refine WP_ret ?_
       refine ⟨_, RS_tmp (v := .s (.bool _)) rfl (RS_nil), ?_⟩
       refine congrArg (fun b => V.s (S.bool b)) ?_
       have ho := other0 hs
       have hra := rank_all (P 130)
       rw [Bool.eq_iff_iff]
       simp only [overOK, standM, decide_eq_true_eq, Bool.false_eq_true, false_iff, true_iff, ho] at *
       omega
     ·try simp only [NM] at h34
      try simp only [standM, decide_eq_true_eq, decide_eq_false_iff_not] at h34
      refine WO_gf rfl rfl ?_
      refine WO_gf rfl rfl ?_
      refine WO_gf rfl rfl ?_
      refine WO_gf rfl rfl ?_
      refine WO_gf rfl rfl ?_
      refine WO_gf rfl rfl ?_
      refine WO_gf rfl rfl ?_
      refine WO_pick (v := .s (.bool _)) rfl rfl ?_
      refine WO_mv (v := .s (.bool _)) rfl ?_
      refine WO_gf rfl rfl ?_
      refine WO_gf rfl rfl ?_
      refine WO_gf rfl rfl ?_
      refine WO_gf rfl rfl ?_
      refine WO_gf rfl rfl ?_
      refine WO_gf rfl rfl ?_
      refine WO_gf rfl rfl ?_
      refine WO_gf rfl rfl ?_
      refine WO_gf rfl rfl ?_
      refine WO_gf rfl rfl ?_
      refine WO_gf rfl rfl ?_
      refine WO_gf rfl rfl ?_
      refine WO_pick (v := .s (.bool _)) rfl rfl ?_
      refine WO_mv (v := .s (.bool _)) rfl ?_
      refine WO_nil ?_
      refine WP_ret ?_
      refine ⟨_, RS_tmp (v := .s (.bool _)) rfl (RS_nil), ?_⟩
      refine congrArg (fun b => V.s (S.bool b)) ?_
      have ho := other0 hs
      have hra := rank_all (P 130)
      rw [Bool.eq_iff_iff]
      simp only [overOK, standM, decide_eq_true_eq, Bool.false_eq_true, false_iff, true_iff, ho] at *
      omega
  ·try simp only [NM] at h31
   try simp only [standM, decide_eq_true_eq, decide_eq_false_iff_not] at h31
   refine WP_skip ?_
   refine WP_seq ?_
   refine WP_seq ?_
   refine WP_ops ?_
   refine WO_fa (o' := 0) rfl rfl rfl ?_
   refine WO_fa (o' := 130) rfl rfl rfl ?_
   refine WO_ldI rfl rfl (.head _) rfl ?_
   refine WO_call0 rfl (Rank_run _) rfl rfl rfl ?_
   refine WO_mv (v := .s (.int _ _)) rfl ?_
   refine WO_bin (r := .bool _) rfl rfl rfl ?_
   refine WO_mv (v := .s (.bool _)) rfl ?_
   refine WO_case (t := 20) rfl (fun h36 => ?_) (fun h36 => ?_)
   ·try simp only [NM] at h36
    try simp only [standM, decide_eq_true_eq, decide_eq_false_iff_not] at h36
    refine WO_gf rfl rfl ?_
    refine WO_gf rfl rfl ?_
    refine WO_gf rfl rfl ?_
    refine WO_gf rfl rfl ?_
    refine WO_pick (v := .s (.bool _)) rfl rfl ?_
    refine WO_nil ?_
    refine WP_cond rfl (fun _ => ?_) (fun h => nomatch h)
    refine WP_seq ?_
    refine WP_ops ?_
    refine WO_mv rfl ?_
    refine WO_nil ?_
    refine WP_ret ?_
    refine ⟨_, RS_tmp (v := .s (.bool _)) rfl (RS_nil), ?_⟩
    refine congrArg (fun b => V.s (S.bool b)) ?_
    have ho := other0 hs
    have hra := rank_all (P 130)
    rw [Bool.eq_iff_iff]
    simp only [overOK, standM, decide_eq_true_eq, Bool.false_eq_true, false_iff, true_iff, ho] at *
    omega
   ·try simp only [NM] at h36
    try simp only [standM, decide_eq_true_eq, decide_eq_false_iff_not] at h36
    refine WO_gt rfl ?_
    refine WO_fa (o' := 0) rfl rfl rfl ?_
    refine WO_gt rfl ?_
    refine WO_fa (o' := 131) rfl rfl rfl ?_
    refine WO_gt rfl ?_
    refine WO_ldI rfl rfl (.head _) rfl ?_
    refine WO_gt rfl ?_
    refine WO_bin (r := .bool _) rfl rfl rfl ?_
    refine WO_pick (v := .s (.bool _)) rfl rfl ?_
    refine WO_nil ?_
    refine WP_cond rfl (fun h37 => ?_) (fun h37 => ?_)
    ·try simp only [NM] at h37
     try simp only [standM, decide_eq_true_eq, decide_eq_false_iff_not] at h37
     refine WP_seq ?_
     refine WP_ops ?_
     refine WO_mv rfl ?_
     refine WO_nil ?_
     refine WP_ret ?_
     refine ⟨_, RS_tmp (v := .s (.bool _)) rfl (RS_nil), ?_⟩
     refine congrArg (fun b => V.s (S.bool b)) ?_
     have ho := other0 hs
     have hra := rank_all (P 130)
     rw [Bool.eq_iff_iff]
     simp only [overOK, standM, decide_eq_true_eq, Bool.false_eq_true, false_iff, true_iff, ho] at *
     omega
    ·try simp only [NM] at h37
     try simp only [standM, decide_eq_true_eq, decide_eq_false_iff_not] at h37
     refine WP_skip ?_
     refine WP_seq ?_
     refine WP_ops ?_
     refine WO_mkfn rfl ?_
     refine WO_mv (v := .fn _ _) rfl ?_
     refine WO_nil ?_
     refine WP_seq ?_
     refine WP_ops ?_
     refine WO_mv (v := .fn _ _) rfl ?_
     refine WO_fa (o' := 0) rfl rfl rfl ?_
     refine WO_fa (o' := 130) rfl rfl rfl ?_
     refine WO_ldI rfl rfl (.head _) rfl ?_
     have hin31 := rank_in (x := P 130) (by assumption) (by omega)
     refine WO_callC (rs := [0]) (Bs := [_]) rfl (RB_of1 (free_run (md := .var) P _ (by omega))) rfl rfl (Nat.le_of_ble_eq_true rfl) (fun _ h => h) rfl ⟨(.head _), ⟨_, _, _, rfl⟩, trivial⟩ rfl rfl rfl (.cons .here .nil) ?_
     refine WO_mv (v := .s (.bool _)) rfl ?_
     refine WO_case (t := 32) rfl (fun h38 => ?_) (fun h38 => ?_)
     ·try simp only [NM] at h38
      try simp only [standM, decide_eq_true_eq, decide_eq_false_iff_not] at h38
      refine WO_gt rfl ?_
      refine WO_mv (v := .fn _ _) rfl ?_
      refine WO_gt rfl ?_
      refine WO_fa (o' := 0) rfl rfl rfl ?_
      refine WO_gt rfl ?_
      refine WO_fa (o' := 130) rfl rfl rfl ?_
      refine WO_gt rfl ?_
      refine WO_ldI rfl rfl (.head _) rfl ?_
      refine WO_gt rfl ?_
      refine WO_mv (v := .s (.int _ _)) rfl ?_
      refine WO_gt rfl ?_
      have hin38 := rank_in (x := P 130) (by assumption) (by omega)
      refine WO_call0 rfl (step_up hin38.1 (by omega)) rfl rfl rfl ?_
      refine WO_gt rfl ?_
      have hin39 := rank_in (x := P 130) (by assumption) (by omega)
      refine WO_callC (rs := [0]) (Bs := [_]) rfl (RB_of1 (free_run (md := .var) P _ (by omega))) rfl rfl (Nat.le_of_ble_eq_true rfl) (fun _ h => h) rfl ⟨(.head _), ⟨_, _, _, rfl⟩, trivial⟩ rfl rfl rfl (.cons .here .nil) ?_
      refine WO_pick (v := .s (.bool _)) rfl rfl ?_
      refine WO_mv (v := .s (.bool _)) rfl ?_
      refine WO_case (t := 41) rfl (fun h39 => ?_) (fun h39 => ?_)
      ·try simp only [NM] at h39
       try simp only [standM, decide_eq_true_eq, decide_eq_false_iff_not] at h39
       refine WO_gt rfl ?_
       first | refine WO_ldA0 rfl rfl (.head _) ?_ | refine WO_ldAI rfl rfl (.head _) ?_
       refine WO_gt rfl ?_
       refine WO_fa (o' := 0) rfl rfl rfl ?_
       refine WO_gt rfl ?_
       refine WO_fa (o' := 128) rfl rfl rfl ?_
       refine WO_gt rfl ?_
       refine WO_ldI rfl rfl (.head _) rfl ?_
       refine WO_gt rfl ?_
       refine WO_callq0 rfl (RF_of (Other_run _)) rfl rfl rfl ?_
       refine WO_gt rfl ?_
       refine WO_fa (o' := 0) rfl rfl rfl ?_
       refine WO_gt rfl ?_
       refine WO_fa (o' := 130) rfl rfl rfl ?_
       refine WO_gt rfl ?_
       refine WO_ldI rfl rfl (.head _) rfl ?_
       refine WO_gt rfl ?_
       refine WO_mv (v := .s (.int _ _)) rfl ?_
       refine WO_gt rfl ?_
       refine WO_neg rfl (by omega) ?_
       refine WO_gt rfl ?_
       have hin52 := rank_in (x := P 130) (by assumption) (by omega)
       refine WO_callq0 rfl (step_dn hin52.1 (by omega)) rfl rfl rfl ?_
       refine WO_gt rfl ?_
       refine WO_call0 rfl (RF_of (stands_run _ _ _ _ (by omega))) rfl rfl rfl ?_
       refine WO_pick (v := .s (.bool _)) rfl rfl ?_
       refine WO_mv (v := .s (.bool _)) rfl ?_
       refine WO_nil ?_
       refine WP_ret ?_
       refine ⟨_, RS_tmp (v := .s (.bool _)) rfl (RS_nil), ?_⟩
       refine congrArg (fun b => V.s (S.bool b)) ?_
       have ho := other0 hs
       have hra := rank_all (P 130)
       rw [Bool.eq_iff_iff]
       simp only [overOK, standM, decide_eq_true_eq, Bool.false_eq_true, false_iff, true_iff, ho] at *
       omega
      ·try simp only [NM] at h39
       try simp only [standM, decide_eq_true_eq, decide_eq_false_iff_not] at h39
       refine WO_gf rfl rfl ?_
       refine WO_gf rfl rfl ?_
       refine WO_gf rfl rfl ?_
       refine WO_gf rfl rfl ?_
       refine WO_gf rfl rfl ?_
       refine WO_gf rfl rfl ?_
       refine WO_gf rfl rfl ?_
       refine WO_gf rfl rfl ?_
       refine WO_gf rfl rfl ?_
       refine WO_gf rfl rfl ?_
       refine WO_gf rfl rfl ?_
       refine WO_gf rfl rfl ?_
       refine WO_pick (v := .s (.bool _)) rfl rfl ?_
       refine WO_mv (v := .s (.bool _)) rfl ?_
       refine WO_nil ?_
       refine WP_ret ?_
       refine ⟨_, RS_tmp (v := .s (.bool _)) rfl (RS_nil), ?_⟩
       refine congrArg (fun b => V.s (S.bool b)) ?_
       have ho := other0 hs
       have hra := rank_all (P 130)
       rw [Bool.eq_iff_iff]
       simp only [overOK, standM, decide_eq_true_eq, Bool.false_eq_true, false_iff, true_iff, ho] at *
       omega
     ·try simp only [NM] at h38
      try simp only [standM, decide_eq_true_eq, decide_eq_false_iff_not] at h38
      refine WO_gf rfl rfl ?_
      refine WO_gf rfl rfl ?_
      refine WO_gf rfl rfl ?_
      refine WO_gf rfl rfl ?_
      refine WO_gf rfl rfl ?_
      refine WO_gf rfl rfl ?_
      refine WO_gf rfl rfl ?_
      refine WO_pick (v := .s (.bool _)) rfl rfl ?_
      refine WO_mv (v := .s (.bool _)) rfl ?_
      refine WO_gf rfl rfl ?_
      refine WO_gf rfl rfl ?_
      refine WO_gf rfl rfl ?_
      refine WO_gf rfl rfl ?_
      refine WO_gf rfl rfl ?_
      refine WO_gf rfl rfl ?_
      refine WO_gf rfl rfl ?_
      refine WO_gf rfl rfl ?_
      refine WO_gf rfl rfl ?_
      refine WO_gf rfl rfl ?_
      refine WO_gf rfl rfl ?_
      refine WO_gf rfl rfl ?_
      refine WO_pick (v := .s (.bool _)) rfl rfl ?_
      refine WO_mv (v := .s (.bool _)) rfl ?_
      refine WO_nil ?_
      refine WP_ret ?_
      refine ⟨_, RS_tmp (v := .s (.bool _)) rfl (RS_nil), ?_⟩
      refine congrArg (fun b => V.s (S.bool b)) ?_
      have ho := other0 hs
      have hra := rank_all (P 130)
      rw [Bool.eq_iff_iff]
      simp only [overOK, standM, decide_eq_true_eq, Bool.false_eq_true, false_iff, true_iff, ho] at *
      omega
theorem kM_same {P Q : Nat → Int} (h : ∀ i, i < 128 → P i = Q i) (c : Int) : ∀ n : Nat, n ≤ 64 → kM P c n = kM Q c n
  | 0, _ => rfl
  | n + 1, hn => by
    have hq : sqI n = 0 + (n : Int).toNat * 2 := rfl
    unfold kM
    rw [kM_same h c n (by omega), h (sqI n) (by omega), h (sqI n + 1) (by omega)]
theorem okM_same {P Q : Nat → Int} (h : ∀ i, i < 128 → P i = Q i) {s : Nat} (hs : s < 64) : okM P s = okM Q s := by
  have hq : sqI s = 0 + (s : Int).toNat * 2 := rfl
  unfold okM
  rw [h (sqI s) (by omega), h (sqI s + 1) (by omega)]
theorem piecesM_same {P Q : Nat → Int} (h : ∀ i, i < 133 → P i = Q i) : piecesM P = piecesM Q := by
  have hl : ∀ i, i < 128 → P i = Q i := fun i hi => h i (by omega)
  have ho : (∀ s : Nat, s < 64 → okM P s) ↔ (∀ s : Nat, s < 64 → okM Q s) := ⟨fun a s hs => (okM_same hl hs) ▸ a s hs, fun a s hs => (okM_same hl hs).symm ▸ a s hs⟩
  unfold piecesM
  rw [Bool.eq_iff_iff, decide_eq_true_eq, decide_eq_true_eq, ho, kM_same hl 0 64 (by omega), kM_same hl 1 64 (by omega), h 128 (by omega)]
theorem standM_same {P Q : Nat → Int} (h : ∀ i, i < 133 → P i = Q i) {x k c : Int} (hx : 0 ≤ x ∧ x < 64) : standM P x k c = standM Q x k c := by
  have hq : sqI x = 0 + x.toNat * 2 := rfl
  unfold standM
  rw [h (sqI x) (by omega), h (sqI x + 1) (by omega)]
theorem homeM_same {P Q : Nat → Int} (h : ∀ i, i < 133 → P i = Q i) {s a b : Int} (ha : 0 ≤ a ∧ a < 64) (hb : 0 ≤ b ∧ b < 64) : homeM P s a b = homeM Q s a b := by
  have hq : sqI a = 0 + a.toNat * 2 := rfl
  have hq2 : sqI b = 0 + b.toNat * 2 := rfl
  unfold homeM
  rw [h (sqI a) (by omega), h (sqI a + 1) (by omega), h (sqI b) (by omega), h (sqI b + 1) (by omega)]
theorem castlesM_same {P Q : Nat → Int} (h : ∀ i, i < 133 → P i = Q i) : castlesM P = castlesM Q := by
  unfold castlesM
  rw [h 129 (by omega), homeM_same h (by omega) (by omega), homeM_same h (by omega) (by omega), homeM_same h (by omega) (by omega), homeM_same h (by omega) (by omega)]
theorem overOK_same {P Q : Nat → Int} (h : ∀ i, i < 133 → P i = Q i) : overOK P = overOK Q := by
  unfold overOK
  rw [h 130 (by omega), h 131 (by omega), h 128 (by omega)]
  by_cases hx : (0 ≤ Q 130 ∧ Q 130 < 64) ∧ (Q 130 / 8 = 2 ∨ Q 130 / 8 = 5)
  · rw [standM_same h (x := Q 130) (by omega), standM_same h (x := Q 130 - 8) (by omega), standM_same h (x := Q 130 + 8) (by omega), standM_same h (x := Q 130 + 8) (by omega), standM_same h (x := Q 130 - 8) (by omega)]
  · rw [Bool.eq_iff_iff, decide_eq_true_eq, decide_eq_true_eq]
    constructor
    · rintro (e | ⟨e, _, ⟨_, f, _⟩ | ⟨_, f, _⟩⟩)
      · exact .inl e
      · exact absurd ⟨e, .inl f⟩ hx
      · exact absurd ⟨e, .inr f⟩ hx
    · rintro (e | ⟨e, _, ⟨_, f, _⟩ | ⟨_, f, _⟩⟩)
      · exact .inl e
      · exact absurd ⟨e, .inl f⟩ hx
      · exact absurd ⟨e, .inr f⟩ hx
theorem cut_same (P : Nat → Int) : ∀ i, i < 133 → ovA (fun _ => 0) 0 133 (ovA (fun _ => 0) 0 133 P) i = P i := fun i hi => by
  rw [ovA_at (by omega), Nat.sub_zero, ovA_at (by omega), Nat.sub_zero]
theorem right_is {P : Nat → Int} {a b c r : Bool} (ha : a = piecesM P) (hb : a = true → b = castlesM P) (hc : a = true → b = true → c = overOK P) (hr : r = (a && b && c && decide (0 ≤ P 131 ∧ P 131 ≤ 1024 ∧ 1 ≤ P 132 ∧ P 132 ≤ 16384))) : r = rightM P := by
  subst hr ha
  unfold rightM
  cases hp : piecesM P with
  | false => simp
  | true =>
    have hb := hb hp
    subst hb
    cases hq : castlesM P with
    | false => simp
    | true =>
      have hc := hc hp hq
      subst hc
      simp

theorem Right_run (P : Nat → Int) : WR AM 56 [.agg 133 (ia P)] [] (fun v _ _ => v = .s (.bool (rightM P))) := by
 refine WR_fn (a := a56) rfl rfl (entryF _) (entry_E (Nat.le_of_ble_eq_true rfl)) (m := 0) rfl ?_
 refine WP_seq ?_
 refine WP_ops ?_
 refine WO_boxA rfl ?_
 refine WO_mv rfl ?_
 refine WO_nil ?_
 refine WP_seq ?_
 refine WP_ops ?_
 first | refine WO_ldA0 rfl rfl (.head _) ?_ | refine WO_ldAI rfl rfl (.head _) ?_
 refine WO_buildI rfl (.agg rfl .nil) ?_
 refine WO_allocI ?_
 refine WO_stA rfl rfl rfl rfl .here ?_
 refine WO_nil ?_
 refine WP_seq ?_
 refine WP_ops ?_
 first | refine WO_ldA0 rfl rfl (.head _) ?_ | refine WO_ldAI rfl rfl (.head _) ?_
 obtain ⟨bp, hbp⟩ : ∃ b, b = piecesM P := ⟨_, rfl⟩
 have hP := RF_of (pieces_ok (ovA (fun _ => 0) 0 133 (ovA (fun _ => 0) 0 133 P)))
 rw [piecesM_same (cut_same P), ← hbp] at hP
 refine WO_call0 rfl (hP) rfl rfl rfl ?_
 refine WO_mv (v := .s (.bool _)) rfl ?_
 refine WO_case (t := 8) rfl (fun h51 => ?_) (fun h51 => ?_)
 ·try simp only [NM] at h51
  refine WO_gt rfl ?_
  first | refine WO_ldA0 rfl rfl (.head _) ?_ | refine WO_ldAI rfl rfl (.head _) ?_
  refine WO_gt rfl ?_
  obtain ⟨bc, hbc⟩ : ∃ b, b = castlesM P := ⟨_, rfl⟩
  have hC := RF_of (castles_ok (ovA (fun _ => 0) 0 133 (ovA (fun _ => 0) 0 133 P)))
  rw [castlesM_same (cut_same P), ← hbc] at hC
  refine WO_call0 rfl (hC) rfl rfl rfl ?_
  refine WO_pick (v := .s (.bool _)) rfl rfl ?_
  refine WO_mv (v := .s (.bool _)) rfl ?_
  refine WO_case (t := 12) rfl (fun h52 => ?_) (fun h52 => ?_)
  ·try simp only [NM] at h52
   refine WO_gt rfl ?_
   first | refine WO_ldA0 rfl rfl (.head _) ?_ | refine WO_ldAI rfl rfl (.head _) ?_
   refine WO_gt rfl ?_
   have hbt : bp = true := by assumption
   have hs := (pieces_is (P := P) (by rw [← hbp]; exact hbt)).2.2.2
   obtain ⟨bo, hbo⟩ : ∃ b, b = overOK P := ⟨_, rfl⟩
   have hO := RF_of (over_ok (ovA (fun _ => 0) 0 133 (ovA (fun _ => 0) 0 133 P)) hs)
   rw [overOK_same (cut_same P), ← hbo] at hO
   refine WO_call0 rfl (hO) rfl rfl rfl ?_
   refine WO_pick (v := .s (.bool _)) rfl rfl ?_
   refine WO_mv (v := .s (.bool _)) rfl ?_
   refine WO_case (t := 16) rfl (fun h53 => ?_) (fun h53 => ?_)
   ·try simp only [NM] at h53
    refine WO_gt rfl ?_
    refine WO_fa (o' := 131) rfl rfl rfl ?_
    refine WO_gt rfl ?_
    refine WO_ldI (x := P 131) rfl rfl (.tail _ (.head _)) (rfl) ?_
    refine WO_gt rfl ?_
    refine WO_bin (r := .bool _) rfl rfl rfl ?_
    refine WO_pick (v := .s (.bool _)) rfl rfl ?_
    refine WO_mv (v := .s (.bool _)) rfl ?_
    refine WO_case (t := 21) rfl (fun h54 => ?_) (fun h54 => ?_)
    ·try simp only [NM] at h54
     refine WO_gt rfl ?_
     refine WO_fa (o' := 131) rfl rfl rfl ?_
     refine WO_gt rfl ?_
     refine WO_ldI (x := P 131) rfl rfl (.tail _ (.head _)) (rfl) ?_
     refine WO_gt rfl ?_
     refine WO_bin (r := .bool _) rfl rfl rfl ?_
     refine WO_pick (v := .s (.bool _)) rfl rfl ?_
     refine WO_mv (v := .s (.bool _)) rfl ?_
     refine WO_case (t := 26) rfl (fun h55 => ?_) (fun h55 => ?_)
     ·try simp only [NM] at h55
      refine WO_gt rfl ?_
      refine WO_fa (o' := 132) rfl rfl rfl ?_
      refine WO_gt rfl ?_
      refine WO_ldI (x := P 132) rfl rfl (.tail _ (.head _)) (rfl) ?_
      refine WO_gt rfl ?_
      refine WO_bin (r := .bool _) rfl rfl rfl ?_
      refine WO_pick (v := .s (.bool _)) rfl rfl ?_
      refine WO_mv (v := .s (.bool _)) rfl ?_
      refine WO_case (t := 31) rfl (fun h56 => ?_) (fun h56 => ?_)
      ·try simp only [NM] at h56
       refine WO_gt rfl ?_
       refine WO_fa (o' := 132) rfl rfl rfl ?_
       refine WO_gt rfl ?_
       refine WO_ldI (x := P 132) rfl rfl (.tail _ (.head _)) (rfl) ?_
       refine WO_gt rfl ?_
       refine WO_bin (r := .bool _) rfl rfl rfl ?_
       refine WO_pick (v := .s (.bool _)) rfl rfl ?_
       refine WO_mv (v := .s (.bool _)) rfl ?_
       refine WO_nil ?_
       refine WP_ret ?_
       refine ⟨_, RS_tmp (v := .s (.bool _)) rfl (RS_nil), ?_⟩
       refine congrArg (fun b => V.s (S.bool b)) (right_is (b := bc) (c := bo) hbp (fun _ => hbc) (fun _ _ => hbo) ?_)
       clear hbp hbc hbo hP hC hO
       first | (simp [*]; done) | (subst_vars; simp only [Bool.true_and]; rw [Bool.eq_iff_iff]; simp only [decide_eq_true_eq, Bool.false_eq_true, false_iff, true_iff]; omega)
      ·try simp only [NM] at h56
       refine WO_gf rfl rfl ?_
       refine WO_gf rfl rfl ?_
       refine WO_gf rfl rfl ?_
       refine WO_pick (v := .s (.bool _)) rfl rfl ?_
       refine WO_mv (v := .s (.bool _)) rfl ?_
       refine WO_nil ?_
       refine WP_ret ?_
       refine ⟨_, RS_tmp (v := .s (.bool _)) rfl (RS_nil), ?_⟩
       refine congrArg (fun b => V.s (S.bool b)) (right_is (b := bc) (c := bo) hbp (fun _ => hbc) (fun _ _ => hbo) ?_)
       clear hbp hbc hbo hP hC hO
       first | (simp [*]; done) | (subst_vars; simp only [Bool.true_and]; rw [Bool.eq_iff_iff]; simp only [decide_eq_true_eq, Bool.false_eq_true, false_iff, true_iff]; omega)
     ·try simp only [NM] at h55
      refine WO_gf rfl rfl ?_
      refine WO_gf rfl rfl ?_
      refine WO_gf rfl rfl ?_
      refine WO_pick (v := .s (.bool _)) rfl rfl ?_
      refine WO_mv (v := .s (.bool _)) rfl ?_
      refine WO_gf rfl rfl ?_
      refine WO_gf rfl rfl ?_
      refine WO_gf rfl rfl ?_
      refine WO_pick (v := .s (.bool _)) rfl rfl ?_
      refine WO_mv (v := .s (.bool _)) rfl ?_
      refine WO_nil ?_
      refine WP_ret ?_
      refine ⟨_, RS_tmp (v := .s (.bool _)) rfl (RS_nil), ?_⟩
      refine congrArg (fun b => V.s (S.bool b)) (right_is (b := bc) (c := bo) hbp (fun _ => hbc) (fun _ _ => hbo) ?_)
      clear hbp hbc hbo hP hC hO
      first | (simp [*]; done) | (subst_vars; simp only [Bool.true_and]; rw [Bool.eq_iff_iff]; simp only [decide_eq_true_eq, Bool.false_eq_true, false_iff, true_iff]; omega)
    ·try simp only [NM] at h54
     refine WO_gf rfl rfl ?_
     refine WO_gf rfl rfl ?_
     refine WO_gf rfl rfl ?_
     refine WO_pick (v := .s (.bool _)) rfl rfl ?_
     refine WO_mv (v := .s (.bool _)) rfl ?_
     refine WO_gf rfl rfl ?_
     refine WO_gf rfl rfl ?_
     refine WO_gf rfl rfl ?_
     refine WO_pick (v := .s (.bool _)) rfl rfl ?_
     refine WO_mv (v := .s (.bool _)) rfl ?_
     refine WO_gf rfl rfl ?_
     refine WO_gf rfl rfl ?_
     refine WO_gf rfl rfl ?_
     refine WO_pick (v := .s (.bool _)) rfl rfl ?_
     refine WO_mv (v := .s (.bool _)) rfl ?_
     refine WO_nil ?_
     refine WP_ret ?_
     refine ⟨_, RS_tmp (v := .s (.bool _)) rfl (RS_nil), ?_⟩
     refine congrArg (fun b => V.s (S.bool b)) (right_is (b := bc) (c := bo) hbp (fun _ => hbc) (fun _ _ => hbo) ?_)
     clear hbp hbc hbo hP hC hO
     first | (simp [*]; done) | (subst_vars; simp only [Bool.true_and]; rw [Bool.eq_iff_iff]; simp only [decide_eq_true_eq, Bool.false_eq_true, false_iff, true_iff]; omega)
   ·try simp only [NM] at h53
    refine WO_gf rfl rfl ?_
    refine WO_gf rfl rfl ?_
    refine WO_gf rfl rfl ?_
    refine WO_pick (v := .s (.bool _)) rfl rfl ?_
    refine WO_mv (v := .s (.bool _)) rfl ?_
    refine WO_gf rfl rfl ?_
    refine WO_gf rfl rfl ?_
    refine WO_gf rfl rfl ?_
    refine WO_pick (v := .s (.bool _)) rfl rfl ?_
    refine WO_mv (v := .s (.bool _)) rfl ?_
    refine WO_gf rfl rfl ?_
    refine WO_gf rfl rfl ?_
    refine WO_gf rfl rfl ?_
    refine WO_pick (v := .s (.bool _)) rfl rfl ?_
    refine WO_mv (v := .s (.bool _)) rfl ?_
    refine WO_gf rfl rfl ?_
    refine WO_gf rfl rfl ?_
    refine WO_gf rfl rfl ?_
    refine WO_pick (v := .s (.bool _)) rfl rfl ?_
    refine WO_mv (v := .s (.bool _)) rfl ?_
    refine WO_nil ?_
    refine WP_ret ?_
    refine ⟨_, RS_tmp (v := .s (.bool _)) rfl (RS_nil), ?_⟩
    refine congrArg (fun b => V.s (S.bool b)) (right_is (b := bc) (c := bo) hbp (fun _ => hbc) (fun _ _ => hbo) ?_)
    clear hbp hbc hbo hP hC hO
    first | (simp [*]; done) | (subst_vars; simp only [Bool.true_and]; rw [Bool.eq_iff_iff]; simp only [decide_eq_true_eq, Bool.false_eq_true, false_iff, true_iff]; omega)
  ·try simp only [NM] at h52
   refine WO_gf rfl rfl ?_
   refine WO_gf rfl rfl ?_
   refine WO_pick (v := .s (.bool _)) rfl rfl ?_
   refine WO_mv (v := .s (.bool _)) rfl ?_
   refine WO_gf rfl rfl ?_
   refine WO_gf rfl rfl ?_
   refine WO_gf rfl rfl ?_
   refine WO_pick (v := .s (.bool _)) rfl rfl ?_
   refine WO_mv (v := .s (.bool _)) rfl ?_
   refine WO_gf rfl rfl ?_
   refine WO_gf rfl rfl ?_
   refine WO_gf rfl rfl ?_
   refine WO_pick (v := .s (.bool _)) rfl rfl ?_
   refine WO_mv (v := .s (.bool _)) rfl ?_
   refine WO_gf rfl rfl ?_
   refine WO_gf rfl rfl ?_
   refine WO_gf rfl rfl ?_
   refine WO_pick (v := .s (.bool _)) rfl rfl ?_
   refine WO_mv (v := .s (.bool _)) rfl ?_
   refine WO_gf rfl rfl ?_
   refine WO_gf rfl rfl ?_
   refine WO_gf rfl rfl ?_
   refine WO_pick (v := .s (.bool _)) rfl rfl ?_
   refine WO_mv (v := .s (.bool _)) rfl ?_
   refine WO_nil ?_
   refine WP_ret ?_
   refine ⟨_, RS_tmp (v := .s (.bool _)) rfl (RS_nil), ?_⟩
   exact congrArg (fun b => V.s (S.bool b)) (right_is (b := bc) (c := overOK P) hbp (fun _ => hbc) (fun _ _ => rfl) (by clear hbp hbc hP hC; simp [*]))
 ·try simp only [NM] at h51
  refine WO_gf rfl rfl ?_
  refine WO_gf rfl rfl ?_
  refine WO_pick (v := .s (.bool _)) rfl rfl ?_
  refine WO_mv (v := .s (.bool _)) rfl ?_
  refine WO_gf rfl rfl ?_
  refine WO_gf rfl rfl ?_
  refine WO_pick (v := .s (.bool _)) rfl rfl ?_
  refine WO_mv (v := .s (.bool _)) rfl ?_
  refine WO_gf rfl rfl ?_
  refine WO_gf rfl rfl ?_
  refine WO_gf rfl rfl ?_
  refine WO_pick (v := .s (.bool _)) rfl rfl ?_
  refine WO_mv (v := .s (.bool _)) rfl ?_
  refine WO_gf rfl rfl ?_
  refine WO_gf rfl rfl ?_
  refine WO_gf rfl rfl ?_
  refine WO_pick (v := .s (.bool _)) rfl rfl ?_
  refine WO_mv (v := .s (.bool _)) rfl ?_
  refine WO_gf rfl rfl ?_
  refine WO_gf rfl rfl ?_
  refine WO_gf rfl rfl ?_
  refine WO_pick (v := .s (.bool _)) rfl rfl ?_
  refine WO_mv (v := .s (.bool _)) rfl ?_
  refine WO_gf rfl rfl ?_
  refine WO_gf rfl rfl ?_
  refine WO_gf rfl rfl ?_
  refine WO_pick (v := .s (.bool _)) rfl rfl ?_
  refine WO_mv (v := .s (.bool _)) rfl ?_
  refine WO_nil ?_
  refine WP_ret ?_
  refine ⟨_, RS_tmp (v := .s (.bool _)) rfl (RS_nil), ?_⟩
  exact congrArg (fun b => V.s (S.bool b)) (right_is (b := castlesM P) (c := overOK P) hbp (fun _ => rfl) (fun _ _ => rfl) (by clear hbp hP; simp [*]))
end Go.Proofs.Ytjldefmcnppdoaa
/- The walks of the chapter board: found, kings, put, turned by the document. -/
namespace Go.Am
open Go
section
variable {A : AP} {N : Nat} {f : FE} {n : Nat} {L : HA} {K : KN} {l : List I} {d : Nat}
end
end Go.Am

namespace Go.Proofs.Ytjldefmcnppdoaa
open Go Go.Am
set_option linter.unusedSimpArgs false
set_option linter.unusedVariables false
/-- The first of n that are so; all of them, listed. -/
def IsFst (S1 : Nat → Bool) (n : Nat) (x : Int) : Prop := (x = -1 ∧ ∀ j : Nat, j < n → S1 j = false) ∨ (∃ i : Nat, i < n ∧ x = i ∧ S1 i = true ∧ ∀ j : Nat, j < i → S1 j = false)
def lstM (S1 : Nat → Bool) : Nat → Nat × (Nat → Int)
  | 0 => (0, fun _ => 0)
  | i + 1 => if S1 i = true then ((lstM S1 i).1 + 1, fun j => if j < (lstM S1 i).1 then (lstM S1 i).2 j else i) else lstM S1 i
theorem lstM_le (S1 : Nat → Bool) : ∀ n, (lstM S1 n).1 ≤ n
  | 0 => Nat.le_refl _
  | i + 1 => by
    have := lstM_le S1 i
    unfold lstM
    split
    · show _ + 1 ≤ _; omega
    · omega
theorem lst_no {S1 : Nat → Bool} {i : Nat} (h : S1 i = false) : lstM S1 (i + 1) = lstM S1 i := by rw [lstM, if_neg (by rw [h]; decide)]
theorem lst_yes {S1 : Nat → Bool} {i : Nat} (h : S1 i = true) : lstM S1 (i + 1) = ((lstM S1 i).1 + 1, fun j => if j < (lstM S1 i).1 then (lstM S1 i).2 j else i) := by rw [lstM, if_pos h]
theorem gw_at {G R : Nat → Int} {c : Nat} {j : Nat} (h : j < c + 1) : (bif Nat.blt j (c * 1) then G (0 + j) else R (0 + (j - c * 1))) = if j < c then G j else R 0 := by
  by_cases k : j < c
  · rw [show Nat.blt j (c * 1) = true from Nat.ble_eq_true_of_le (by omega), if_pos k, Nat.zero_add]; rfl
  · have : Nat.blt j (c * 1) = false := by
      cases hb : Nat.blt j (c * 1) with
      | false => rfl
      | true => have := Nat.le_of_ble_eq_true hb; omega
    rw [this, if_neg k, show 0 + (j - c * 1) = 0 by omega]; rfl
theorem gw_lst {F R G : Nat → Int} {c : Nat} {t : Int} (h : ∀ j : Nat, j < c → F j = G j) (hr : R 0 = t) : ∀ j : Nat, j < c + 1 → (bif Nat.blt j (c * 1) then F (0 + j) else R (0 + (j - c * 1))) = if j < c then G j else t := by
  intro j hj
  rw [gw_at hj]
  by_cases k : j < c
  · rw [if_pos k, if_pos k]; exact h j k
  · rw [if_neg k, if_neg k]; exact hr
/-- A piece stands on a square of a position. -/
def stB (P X : Nat → Int) (s : Nat) : Bool := standM P s (X 0) (X 1)
theorem eq_stB2 {P X : Nat → Int} {i : Nat} : eqI 2 X (dp P (sqI i)) = stB P X i := by
  rw [eq_two, Bool.eq_iff_iff]
  show _ ↔ decide (P (sqI i) = X 0 ∧ P (sqI i + 1) = X 1) = true
  rw [decide_eq_true_eq, decide_eq_true_eq]
  constructor
  · rintro ⟨a, b⟩; exact ⟨a.symm, b.symm⟩
  · rintro ⟨a, b⟩; exact ⟨a.symm, b.symm⟩
theorem eqI_two {X Y X' Y' : Nat → Int} (h0 : X 0 = X' 0) (h1 : X 1 = X' 1) (k0 : Y 0 = Y' 0) (k1 : Y 1 = Y' 1) : eqI 2 X Y = eqI 2 X' Y' := by
  rw [eq_two, eq_two, h0, h1, k0, k1]

theorem Find_walk (P X : Nat → Int) : WR AM 58 [.agg 133 (ia P), .agg 2 (ia X)] [] (fun v _ L => ((lstM (stB P X) 64).1 = 0 ∧ v = .snil) ∨ (0 < (lstM (stB P X) 64).1 ∧ ∃ b q F, v = .sl b 0 (lstM (stB P X) 64).1 1 .whole ∧ (∀ j : Nat, j < (lstM (stB P X) 64).1 → F j = (lstM (stB P X) 64).2 j) ∧ (b, Blk.sc .grow q (ia F)) ∈ L)) := by
 refine WR_fn (a := a58) rfl rfl (entryF _) (entry_E (Nat.le_of_ble_eq_true rfl)) (m := 0) rfl ?_
 refine WP_seq ?_
 refine WP_ops ?_
 refine WO_boxA rfl ?_
 refine WO_boxA rfl ?_
 refine WO_mv rfl ?_
 refine WO_nil ?_
 refine WP_seq ?_
 refine WP_seq ?_
 refine WP_ops ?_
 refine WO_fa (o' := 0) rfl rfl rfl ?_
 first | refine WO_ldA0 rfl rfl (.tail _ (.head _)) ?_ | refine WO_ldAI rfl rfl (.tail _ (.head _)) ?_
 refine WO_mv rfl ?_
 refine WO_nil ?_
 refine WP_block ?_
 refine WP_sub (L' := [_, _]) (.cons_cons _ (.cons_cons _ .slnil)) ?_
 refine WP_loop (fun m f nn L => ∃ (i : Nat), (i ≤ 64) ∧ (m = 64 - i) ∧ (f 8 = .agg 128 (ia P)) ∧ (f 2 = .ptr 0 0 133) ∧ (f 3 = .ptr 1 0 2) ∧ (f 9 = .s (.int .i64 i)) ∧ ((((lstM (stB P X) i).1 = 0) ∧ (f 4 = .snil) ∧ (L = [(1, .sc .var 2 (ia X)), (0, .sc .var 133 (ia P))])) ∨ (∃ (b cnt q : Nat) (F : Nat → Int), (cnt = (lstM (stB P X) i).1 ∧ 0 < cnt) ∧ (∀ j : Nat, j < cnt → F j = (lstM (stB P X) i).2 j) ∧ (f 4 = .sl b 0 cnt 1 .whole) ∧ (L = (b, Blk.sc .grow q (ia F)) :: [(1, .sc .var 2 (ia X)), (0, .sc .var 133 (ia P))])))) (fun m f nb L hI => ?_) (64) ⟨0, by omega, rfl, rfl, rfl, rfl, rfl, .inl ⟨rfl, rfl, rfl⟩⟩
 obtain ⟨i, hi, hm, k8, k2, k3, k9, hI2⟩ := hI
 rcases hI2 with ⟨hc, kS, rfl⟩ | ⟨b, cnt, q, F, hc, hF, kS, rfl⟩
 ·skip
  refine WP_know (d := 8) (v := .agg 128 (ia P)) k8 ?_
  refine WP_know (d := 2) (v := .ptr 0 0 133) k2 ?_
  refine WP_know (d := 3) (v := .ptr 1 0 2) k3 ?_
  refine WP_know (d := 9) (v := .s (.int .i64 i)) k9 ?_
  refine WP_know (d := 4) (v := .snil) kS ?_
  have hle := lstM_le (stB P X) i
  refine WP_seq ?_
  refine WP_ops ?_
  refine WO_bin (r := .bool _) rfl rfl rfl ?_
  refine WO_nil ?_
  refine WP_seq ?_
  refine WP_cond rfl (fun h1 => ?_) (fun h1 => ?_)
  ·try simp only [NM] at h1
   try replace h1 := ((eqI_two (X := X) (X' := X) (Y := ovA (fun _ => 0) 0 2 (dp P (sqI i))) (Y' := dp P (sqI i)) rfl rfl rfl rfl).trans eq_stB2).symm.trans h1
   refine WP_skip ?_
   refine WP_seq ?_
   refine WP_block ?_
   refine WP_seq ?_
   refine WP_ops ?_
   refine WO_mv (v := .s (.int _ _)) rfl ?_
   refine WO_ixA rfl rfl rfl (by omega) ?_
   rw [dp_ix]
   refine WO_allocI ?_
   refine WO_mv (v := .s (.int _ _)) rfl ?_
   refine WO_stA rfl rfl rfl rfl .here ?_
   refine WO_nil ?_
   refine WP_seq ?_
   refine WP_ops ?_
   first | refine WO_ldA0 rfl rfl (.tail _ (.head _)) ?_ | refine WO_ldAI rfl rfl (.tail _ (.head _)) ?_
   first | refine WO_ldA0 rfl rfl (.head _) ?_ | refine WO_ldAI rfl rfl (.head _) ?_
   refine WO_eqa rfl rfl ?_
   refine WO_nil ?_
   refine WP_cond rfl (fun h2 => ?_) (fun h2 => ?_)
   ·try simp only [NM] at h2
    try replace h2 := ((eqI_two (X := X) (X' := X) (Y := ovA (fun _ => 0) 0 2 (dp P (sqI i))) (Y' := dp P (sqI i)) rfl rfl rfl rfl).trans eq_stB2).symm.trans h2
    refine WP_ops ?_
    refine WO_mv (v := .snil) rfl ?_
    refine WO_mv (v := .s (.int _ _)) rfl ?_
    refine WO_mkslS rfl (.one rfl .nil) ?_
    refine WO_appendNil rfl rfl (.head _) (by decide) rfl ?_
    refine WO_mv (v := .sl _ _ _ _ _) rfl ?_
    refine WO_nil ?_
    refine WP_ops ?_
    refine WO_add rfl rfl (by omega) ?_
    refine WO_mv (v := .s (.int _ _)) rfl ?_
    refine WO_nil ?_
    have hr := lst_yes (S1 := stB P X) (i := i) (by assumption)
    refine ⟨64 - (i + 1), _, by omega, (.cons_cons _ (.cons _ (.cons _ (.cons_cons _ (.cons_cons _ .slnil))))), i + 1, by omega, rfl, rfl, rfl, rfl, rfl, .inr ⟨_, 1, _, _, ⟨by rw [hr]; show 1 = _ + 1; omega, by omega⟩, ?_, rfl, rfl⟩⟩
    intro j hj
    obtain rfl : j = 0 := by omega
    rw [hr]
    show _ = if 0 < (lstM (stB P X) i).1 then _ else _
    rw [if_neg (by omega)]; rfl
   ·try simp only [NM] at h2
    try replace h2 := ((eqI_two (X := X) (X' := X) (Y := ovA (fun _ => 0) 0 2 (dp P (sqI i))) (Y' := dp P (sqI i)) rfl rfl rfl rfl).trans eq_stB2).symm.trans h2
    refine WP_skip ?_
    refine WP_ops ?_
    refine WO_add rfl rfl (by omega) ?_
    refine WO_mv (v := .s (.int _ _)) rfl ?_
    refine WO_nil ?_
    have hr := lst_no (S1 := stB P X) (i := i) (by assumption)
    refine ⟨64 - (i + 1), _, by omega, (.cons _ (.cons_cons _ (.cons_cons _ .slnil))), i + 1, by omega, rfl, rfl, rfl, rfl, rfl, .inl ⟨by rw [hr]; exact hc, rfl, rfl⟩⟩
  ·try simp only [NM] at h1
   try replace h1 := ((eqI_two (X := X) (X' := X) (Y := ovA (fun _ => 0) 0 2 (dp P (sqI i))) (Y' := dp P (sqI i)) rfl rfl rfl rfl).trans eq_stB2).symm.trans h1
   refine WP_exit ?_
   refine xhere ?_
   refine WP_seq ?_
   refine WP_ops ?_
   refine WO_mv (v := .snil) rfl ?_
   refine WO_mv (v := .snil) rfl ?_
   refine WO_nil ?_
   refine WP_ret ?_
   refine ⟨_, RS_tmp (v := .snil) rfl (RS_nil), ?_⟩
   obtain rfl : i = 64 := by omega
   exact .inl ⟨hc, rfl⟩
 ·skip
  refine WP_know (d := 8) (v := .agg 128 (ia P)) k8 ?_
  refine WP_know (d := 2) (v := .ptr 0 0 133) k2 ?_
  refine WP_know (d := 3) (v := .ptr 1 0 2) k3 ?_
  refine WP_know (d := 9) (v := .s (.int .i64 i)) k9 ?_
  refine WP_know (d := 4) (v := .sl b 0 cnt 1 .whole) kS ?_
  have hle := lstM_le (stB P X) i
  refine WP_seq ?_
  refine WP_ops ?_
  refine WO_bin (r := .bool _) rfl rfl rfl ?_
  refine WO_nil ?_
  refine WP_seq ?_
  refine WP_cond rfl (fun h3 => ?_) (fun h3 => ?_)
  ·try simp only [NM] at h3
   try replace h3 := ((eqI_two (X := X) (X' := X) (Y := ovA (fun _ => 0) 0 2 (dp P (sqI i))) (Y' := dp P (sqI i)) rfl rfl rfl rfl).trans eq_stB2).symm.trans h3
   refine WP_skip ?_
   refine WP_seq ?_
   refine WP_block ?_
   refine WP_seq ?_
   refine WP_ops ?_
   refine WO_mv (v := .s (.int _ _)) rfl ?_
   refine WO_ixA rfl rfl rfl (by omega) ?_
   rw [dp_ix]
   refine WO_allocI ?_
   refine WO_mv (v := .s (.int _ _)) rfl ?_
   refine WO_stA rfl rfl rfl rfl .here ?_
   refine WO_nil ?_
   refine WP_seq ?_
   refine WP_ops ?_
   first | refine WO_ldA0 rfl rfl (.tail _ (.tail _ (.head _))) ?_ | refine WO_ldAI rfl rfl (.tail _ (.tail _ (.head _))) ?_
   first | refine WO_ldA0 rfl rfl (.head _) ?_ | refine WO_ldAI rfl rfl (.head _) ?_
   refine WO_eqa rfl rfl ?_
   refine WO_nil ?_
   refine WP_cond rfl (fun h4 => ?_) (fun h4 => ?_)
   ·try simp only [NM] at h4
    try replace h4 := ((eqI_two (X := X) (X' := X) (Y := ovA (fun _ => 0) 0 2 (dp P (sqI i))) (Y' := dp P (sqI i)) rfl rfl rfl rfl).trans eq_stB2).symm.trans h4
    refine WP_ops ?_
    refine WO_mv (v := .sl _ _ _ _ _) rfl ?_
    refine WO_mv (v := .s (.int _ _)) rfl ?_
    refine WO_mkslS rfl (.one rfl .nil) ?_
    refine WO_appendW rfl rfl (.head _) (.there (.there .here)) (by simp [roomy]; omega) ?_
    refine WO_mv (v := .sl _ _ _ _ _) rfl ?_
    refine WO_nil ?_
    refine WP_ops ?_
    refine WO_add rfl rfl (by omega) ?_
    refine WO_mv (v := .s (.int _ _)) rfl ?_
    refine WO_nil ?_
    have hr := lst_yes (S1 := stB P X) (i := i) (by assumption)
    obtain ⟨hc1, hc0⟩ := hc
    have hle := lstM_le (stB P X) i
    refine ⟨64 - (i + 1), _, by omega, (.cons_cons _ (.cons _ (.cons _ (.cons _ (.cons_cons _ (.cons_cons _ .slnil)))))), i + 1, by omega, rfl, rfl, rfl, rfl, rfl, .inr ⟨_, cnt + 1, _, _, ⟨by rw [hr, hc1], by omega⟩, ?_, rfl, rfl⟩⟩
    rw [hr]
    rw [← hc1]
    exact gw_lst hF rfl
   ·try simp only [NM] at h4
    try replace h4 := ((eqI_two (X := X) (X' := X) (Y := ovA (fun _ => 0) 0 2 (dp P (sqI i))) (Y' := dp P (sqI i)) rfl rfl rfl rfl).trans eq_stB2).symm.trans h4
    refine WP_skip ?_
    refine WP_ops ?_
    refine WO_add rfl rfl (by omega) ?_
    refine WO_mv (v := .s (.int _ _)) rfl ?_
    refine WO_nil ?_
    have hr := lst_no (S1 := stB P X) (i := i) (by assumption)
    refine ⟨64 - (i + 1), _, by omega, (.cons _ (.cons_cons _ (.cons_cons _ (.cons_cons _ .slnil)))), i + 1, by omega, rfl, rfl, rfl, rfl, rfl, .inr ⟨_, cnt, _, _, by rw [hr]; exact hc, by rw [hr]; exact hF, rfl, rfl⟩⟩
  ·try simp only [NM] at h3
   try replace h3 := ((eqI_two (X := X) (X' := X) (Y := ovA (fun _ => 0) 0 2 (dp P (sqI i))) (Y' := dp P (sqI i)) rfl rfl rfl rfl).trans eq_stB2).symm.trans h3
   refine WP_exit ?_
   refine xhere ?_
   refine WP_seq ?_
   refine WP_ops ?_
   refine WO_mv (v := .sl _ _ _ _ _) rfl ?_
   refine WO_mv (v := .sl _ _ _ _ _) rfl ?_
   refine WO_nil ?_
   refine WP_ret ?_
   refine ⟨_, RS_tmp (v := .sl _ _ _ _ _) rfl (RS_nil), ?_⟩
   obtain rfl : i = 64 := by omega
   obtain ⟨rfl, hc0⟩ := hc
   exact .inr ⟨hc0, _, _, F, rfl, hF, (.head _)⟩
theorem Find_ex (P X : Nat → Int) : ((lstM (stB P X) 64).1 = 0 ∧ RF AM 58 [.agg 133 (ia P), .agg 2 (ia X)] .snil) ∨ (0 < (lstM (stB P X) 64).1 ∧ ∃ q F, (∀ j : Nat, j < (lstM (stB P X) 64).1 → F j = (lstM (stB P X) 64).2 j) ∧ RN AM 58 [.agg 133 (ia P), .agg 2 (ia X)] [] (fun b => .sl b 0 (lstM (stB P X) 64).1 1 .whole) (.sc .grow q (ia F)) []) := by
  obtain ⟨v, σ', n', L', h1, h2, h3⟩ := Find_walk P X
  rcases h3 with ⟨h0, rfl⟩ | ⟨h0, b, q, F, rfl, hF, hm⟩
  · exact .inl ⟨h0, σ', h1⟩
  · exact .inr ⟨h0, q, F, hF, b, σ', h1, Nat.zero_le _, (h2.2.mem hm).2, trivial⟩

/-- A king. -/
abbrev kgX (s : Int) : Nat → Int := ov (ov (fun _ => 0) 0 6) 1 s

end Go.Proofs.Ytjldefmcnppdoaa
/- The walks of the chapter board: pieces put, lists lent and kept. -/
namespace Go.Proofs.Ytjldefmcnppdoaa
open Go Go.Am
set_option linter.unusedSimpArgs false
set_option linter.unusedVariables false
/-- Pieces put, one by one; the error. -/
def putS (P X K : Nat → Int) : Nat → Nat → Int
  | 0 => P
  | n + 1 => ovA (putS P X K n) (0 + (K n).toNat * 2) 2 X
def putE (X K : Nat → Int) (n : Nat) : Int := if ¬ (X 0 = 0 ∧ X 1 = 0) ∧ mayM (X 0) (X 1) = false then 2 else if ∀ j : Nat, j < n → isM (K j) = true then 0 else 6
def putQ (P X K : Nat → Int) (n : Nat) : Nat → Int := ovA (fun _ => 0) 0 133 (if putE X K n = 0 then putS P X K n else fun _ => 0)
end Go.Proofs.Ytjldefmcnppdoaa
/- The walks of squares: names, steps, ways, rings. -/
namespace Go.Am
open Go
section
variable {A : AP} {N : Nat} {f : FE} {n : Nat} {L : HA} {K : KN} {l : List I} {d : Nat}
def bytes2 (a b : Int) : Nat → S := over (over (fun _ => .int .u8 0) (0 * 1) 1 (fun _ => .int .u8 a)) (1 * 1) 1 (fun _ => .int .u8 b)
end
end Go.Am

namespace Go.Proofs.Ytjldefmcnppdoaa
open Go Go.Am
set_option linter.unusedSimpArgs false
set_option linter.unusedVariables false
def darkM (x : Int) : Bool := decide ((0 ≤ x ∧ x < 64) ∧ (x % 8 + x / 8) % 2 = 0)
/-- A square's name. -/
def nameS (x : Int) : ByteArray := if 0 ≤ x ∧ x < 64 then ⟨#[UInt8.ofNat (97 + (x % 8).toNat), UInt8.ofNat (49 + (x / 8).toNat)]⟩ else ⟨#[]⟩
end Go.Proofs.Ytjldefmcnppdoaa
/- The walks of squares: ways, rings, lists that are alike. -/
namespace Go.Proofs.Ytjldefmcnppdoaa
open Go Go.Am
set_option linter.unusedSimpArgs false
set_option linter.unusedVariables false
/-- The squares of a way, one behind the other, and -1 behind the last. -/
def rayF (s f r : Int) : Nat → Int
  | 0 => stepM s f r
  | k + 1 => stepM (rayF s f r k) f r
/-- So many steps are left at most. -/
def muM (s f r : Int) : Nat := if s < 0 then 0 else if 0 < f then (8 - s % 8).toNat else if f < 0 then (s % 8 + 1).toNat else if 0 < r then (8 - s / 8).toNat else (s / 8 + 1).toNat
/-- A way of n squares. -/
structure RayOf (s f r : Int) (n : Nat) : Prop where
  on : ∀ j : Nat, j < n → rayF s f r j ≠ -1
  off : rayF s f r n = -1
theorem neq_same {a b : Int} (h : a = b) : binS .neq (.int .i64 a) (.int .i64 b) = some (.bool false) := by
  subst h
  show (if IntKind.i64 = IntKind.i64 then some (S.bool (a != a)) else none) = _
  simp
/-- The squares at n steps. -/
def ringM (s : Int) (K : Nat → Int) : Nat → Nat × (Nat → Int)
  | 0 => (0, fun _ => 0)
  | i + 1 => if stepM s (dp K (0 + (i : Int).toNat * 2) 0) (dp K (0 + (i : Int).toNat * 2) 1) = -1 then ringM s K i else ((ringM s K i).1 + 1, fun j => if j < (ringM s K i).1 then (ringM s K i).2 j else stepM s (dp K (0 + (i : Int).toNat * 2) 0) (dp K (0 + (i : Int).toNat * 2) 1))
end Go.Proofs.Ytjldefmcnppdoaa
/- What the kernel tells of a run. -/
namespace Go.Proofs.Ytjldefmcnppdoaa
open Go Go.Am
/-- Is the answer this bool? -/
def ansB (b : Bool) : Option (V × Heap) → Bool
  | some (.s (.bool t), _) => t == b
  | _ => false
theorem RF_ans {A : AP} {m : Nat} {fid : FuncId} {xs : List V} {b : Bool} (h : ansB b (runF A m fid xs []) = true) : RF A fid xs (.s (.bool b)) := by
  cases hr : runF A m fid xs [] with
  | none => rw [hr] at h; cases h
  | some r =>
    obtain ⟨v, σ⟩ := r
    rw [hr] at h
    cases v with
    | s x =>
      cases x with
      | bool t =>
        simp only [ansB] at h
        have := eq_of_beq h
        subst this
        exact ⟨σ, Run_of hr⟩
      | _ => cases h
    | _ => cases h
end Go.Proofs.Ytjldefmcnppdoaa
/- What holds of closed calls of the chapter board, told by the kernel. -/
namespace Go.Proofs.Ytjldefmcnppdoaa
open Go Go.Am
theorem boAwake_run : RF AM 54 [] (.s (.bool true)) := RF_ans (m := 100) (by kernel_rfl)
end Go.Proofs.Ytjldefmcnppdoaa
/- The walk of BoardTells. -/
namespace Go.Proofs.Ytjldefmcnppdoaa
open Go Go.Am
set_option linter.unusedSimpArgs false
set_option linter.unusedVariables false
end Go.Proofs.Ytjldefmcnppdoaa
/- The walk of BoardPuts. -/
namespace Go.Proofs.Ytjldefmcnppdoaa
open Go Go.Am
set_option linter.unusedSimpArgs false
set_option linter.unusedVariables false
theorem lst_mem {S1 : Nat → Bool} : ∀ (n s : Nat), s < n → S1 s = true → ∃ j, j < (lstM S1 n).1 ∧ (lstM S1 n).2 j = s
  | 0, s, h, _ => by omega
  | n + 1, s, h, hs => by
    by_cases e : s = n
    · subst e
      rw [lst_yes hs]
      refine ⟨(lstM S1 s).1, Nat.lt_succ_self _, ?_⟩
      show (if (lstM S1 s).1 < (lstM S1 s).1 then _ else _) = _
      rw [if_neg (Nat.lt_irrefl _)]
    · obtain ⟨j, hj, hl⟩ := lst_mem n s (by omega) hs
      cases hn : S1 n with
      | false => rw [lst_no hn]; exact ⟨j, hj, hl⟩
      | true =>
        rw [lst_yes hn]
        refine ⟨j, Nat.lt_succ_of_lt hj, ?_⟩
        show (if j < (lstM S1 n).1 then _ else _) = _
        rw [if_pos hj]; exact hl
theorem eqI_fg {n : Nat} {P Q : Nat → Int} (h : ∀ i, i < n → P i = Q i) : (bif true then !(eqI n P Q) else eqI n P Q) = false := by
  rw [eqI_iff.2 h]; rfl

end Go.Proofs.Ytjldefmcnppdoaa
/- board.Start: its parts, as the machine has them. -/
namespace Go.Proofs.Ytjldefmcnppdoaa
open Go Go.Am
set_option linter.unusedSimpArgs false
set_option linter.unusedVariables false
/-- The machine without a word on board.Start. -/
def AM0 : AP := { fns := AM.fns, prims := fun f => bif Nat.beq f 85 then some idxPrim else none }
def emptyF (i : Nat) : Int := bif Nat.beq i 130 then -1 else bif Nat.beq i 132 then 1 else 0
/-- The position when the files below j are laid, and of file j the ranks in S. -/
def curF (j : Nat) (S : Nat → Bool) (i : Nat) : Int := if i < 128 ∧ ((i / 2) % 8 < j ∨ ((i / 2) % 8 = j ∧ S (i / 16) = true)) then startF i else emptyF i
theorem ovA_whole {P Q : Nat → Int} {m : Nat} (h : ∀ i, m ≤ i → P i = Q i) : ovA P 0 m Q = Q := by
  funext i
  unfold ovA
  cases hb : Nat.blt i (0 + m) with
  | true => rw [show Nat.ble 0 i = true from Nat.ble_eq_true_of_le (Nat.zero_le i)]; simp
  | false =>
    simp only [Bool.and_false, cond_false]
    refine h i (Nat.le_of_not_lt fun hi => ?_)
    rw [show Nat.blt i (0 + m) = true from Nat.ble_eq_true_of_le (by omega)] at hb
    cases hb
theorem emptyF_hi (i : Nat) (h : 133 ≤ i) : emptyF i = 0 := by
  unfold emptyF
  rw [show Nat.beq i 130 = false from Bool.eq_false_iff.2 fun e => by have := Nat.eq_of_beq_eq_true e; omega, show Nat.beq i 132 = false from Bool.eq_false_iff.2 fun e => by have := Nat.eq_of_beq_eq_true e; omega]
  rfl

theorem within_run0 (P : Nat → Int) (ha : -9223372036854775808 ≤ P 0 ∧ P 0 ≤ 9223372036854775807) (hb : -9223372036854775808 ≤ P 1 ∧ P 1 ≤ 9223372036854775807) : WR AM0 86 [.agg 2 (ia P)] [] (fun v _ _ => v = .s (.bool (decide (0 ≤ P 0 ∧ P 0 < 8 ∧ 0 ≤ P 1 ∧ P 1 < 8)))) := by
 refine WR_fn (a := a86) rfl rfl (entryF _) (entry_E (Nat.le_of_ble_eq_true rfl)) (m := 0) rfl ?_
 refine WP_seq ?_
 refine WP_ops ?_
 refine WO_boxA rfl ?_
 refine WO_mv rfl ?_
 refine WO_nil ?_
 refine WP_seq ?_
 refine WP_ops ?_
 refine WO_fa (o' := 0) rfl rfl rfl ?_
 refine WO_ldI rfl rfl (.head _) rfl ?_
 refine WO_convW rfl ?_
 refine WO_bin (r := .bool _) rfl rfl rfl ?_
 refine WO_mv (v := .s (.bool _)) rfl ?_
 refine WO_case (t := 7) rfl (fun h1 => ?_) (fun h1 => ?_)
 ·try simp only [NM] at h1
  refine WO_gt rfl ?_
  refine WO_fa (o' := 1) rfl rfl rfl ?_
  refine WO_gt rfl ?_
  refine WO_ldI rfl rfl (.head _) rfl ?_
  refine WO_gt rfl ?_
  refine WO_convW rfl ?_
  refine WO_gt rfl ?_
  refine WO_bin (r := .bool _) rfl rfl rfl ?_
  refine WO_pick (v := .s (.bool _)) rfl rfl ?_
  refine WO_mv (v := .s (.bool _)) rfl ?_
  refine WO_nil ?_
  refine WP_ret ?_
  refine ⟨_, RS_tmp (v := .s (.bool _)) rfl (RS_nil), ?_⟩
  refine congrArg (fun b => V.s (S.bool b)) ?_
  have e0 := u64_lt8 ha
  have e1 := u64_lt8 hb
  rw [Bool.eq_iff_iff]
  simp only [decide_eq_true_eq, Bool.false_eq_true, false_iff]
  omega
 ·try simp only [NM] at h1
  refine WO_gf rfl rfl ?_
  refine WO_gf rfl rfl ?_
  refine WO_gf rfl rfl ?_
  refine WO_gf rfl rfl ?_
  refine WO_pick (v := .s (.bool _)) rfl rfl ?_
  refine WO_mv (v := .s (.bool _)) rfl ?_
  refine WO_nil ?_
  refine WP_ret ?_
  refine ⟨_, RS_tmp (v := .s (.bool _)) rfl (RS_nil), ?_⟩
  refine congrArg (fun b => V.s (S.bool b)) ?_
  have e0 := u64_lt8 ha
  have e1 := u64_lt8 hb
  rw [Bool.eq_iff_iff]
  simp only [decide_eq_true_eq, Bool.false_eq_true, false_iff]
  omega
theorem number_run0 (P : Nat → Int) (ha : -9223372036854775808 ≤ P 0 ∧ P 0 ≤ 9223372036854775807) (hb : -9223372036854775808 ≤ P 1 ∧ P 1 ≤ 9223372036854775807) : WR AM0 84 [.agg 2 (ia P)] [] (fun v _ _ => v = .s (.int .i64 (atM (P 0) (P 1)))) := by
 refine WR_fn (a := a84) rfl rfl (entryF _) (entry_E (Nat.le_of_ble_eq_true rfl)) (m := 0) rfl ?_
 refine WP_seq ?_
 refine WP_ops ?_
 refine WO_boxA rfl ?_
 refine WO_mv rfl ?_
 refine WO_nil ?_
 refine WP_seq ?_
 refine WP_seq ?_
 refine WP_ops ?_
 first | refine WO_ldA0 rfl rfl (.head _) ?_ | refine WO_ldAI rfl rfl (.head _) ?_
 refine WO_call0 rfl (RF_of (within_run0 _ ha hb)) rfl rfl rfl ?_
 refine WO_un (r := .bool _) rfl rfl ?_
 refine WO_nil ?_
 refine WP_cond rfl (fun h2 => ?_) (fun h2 => ?_)
 ·try simp only [NM] at h2
  refine WP_seq ?_
  refine WP_ops ?_
  refine WO_mv rfl ?_
  refine WO_nil ?_
  refine WP_ret ?_
  refine ⟨_, RS_tmp (v := .s (.int _ _)) rfl (RS_nil), ?_⟩
  refine congrArg (fun b => V.s (S.int .i64 b)) ?_
  unfold atM
  split <;> omega
 ·try simp only [NM] at h2
  refine WP_skip ?_
  refine WP_seq ?_
  refine WP_ops ?_
  refine WO_fa (o' := 1) rfl rfl rfl ?_
  refine WO_ldI rfl rfl (.head _) rfl ?_
  refine WO_mul rfl rfl (by omega) ?_
  refine WO_fa (o' := 0) rfl rfl rfl ?_
  refine WO_ldI rfl rfl (.head _) rfl ?_
  refine WO_add rfl rfl (by omega) ?_
  refine WO_mv (v := .s (.int _ _)) rfl ?_
  refine WO_nil ?_
  refine WP_ret ?_
  refine ⟨_, RS_tmp (v := .s (.int _ _)) rfl (RS_nil), ?_⟩
  refine congrArg (fun b => V.s (S.int .i64 b)) ?_
  unfold atM
  split <;> omega
theorem At_run0 (a b : Int) (ha : -9223372036854775808 ≤ a ∧ a ≤ 9223372036854775807) (hb : -9223372036854775808 ≤ b ∧ b ≤ 9223372036854775807) : WR AM0 36 [.s (.int .i64 a), .s (.int .i64 b)] [] (fun v _ _ => v = .s (.int .i64 (atM a b))) := by
 refine WR_fn (a := a36) rfl rfl (entryF _) (entry_E (Nat.le_of_ble_eq_true rfl)) (m := 0) rfl ?_
 refine WP_seq ?_
 refine WP_ops ?_
 refine WO_mv rfl ?_
 refine WO_nil ?_
 refine WP_seq ?_
 refine WP_ops ?_
 refine WO_mv (v := .s (.int _ _)) rfl ?_
 refine WO_mv (v := .s (.int _ _)) rfl ?_
 refine WO_buildI rfl (.one rfl (.one rfl .nil)) ?_
 refine WO_call0 rfl (RF_of (number_run0 _ ha hb)) rfl rfl rfl ?_
 refine WO_mv (v := .s (.int _ _)) rfl ?_
 refine WO_nil ?_
 refine WP_ret ?_
 refine ⟨_, RS_tmp (v := .s (.int _ _)) rfl (RS_nil), ?_⟩
 rfl
theorem At_in0 (a b : Nat) (ha : a < 8) (hb : b < 8) : RF AM0 36 [.s (.int .i64 (a : Int)), .s (.int .i64 (b : Int))] (.s (.int .i64 ((8 * b + a : Nat) : Int))) := by
  have h := RF_of (At_run0 (a : Int) (b : Int) (by omega) (by omega))
  rw [show atM (a : Int) (b : Int) = ((8 * b + a : Nat) : Int) by unfold atM; split <;> omega] at h
  exact h

theorem Empty_run0  : WR AM0 78 [] [] (fun v _ _ => v = .agg 133 (ia emptyF)) := by
 refine WR_fn (a := a78) rfl rfl (entryF _) (entry_E (Nat.le_of_ble_eq_true rfl)) (m := 0) rfl ?_
 refine WP_seq ?_
 refine WP_ops ?_
 refine WO_allocI ?_
 refine WO_nil ?_
 refine WP_seq ?_
 refine WP_ops ?_
 refine WO_buildI rfl (.one rfl (.one rfl .nil)) ?_
 refine WO_stA rfl rfl rfl rfl .here ?_
 refine WO_nil ?_
 refine WP_ret ?_
 refine ⟨_, RS_cell rfl rfl (.head _) (RS_nil), ?_⟩
 refine congrArg (fun P => V.agg 133 (ia P)) ?_
 have e : (ov (ov (fun _ => 0) 130 (-1)) 132 1) = emptyF := by
  funext i
  unfold emptyF ov
  cases h1 : Nat.beq i 130 with
  | true => rw [Nat.eq_of_beq_eq_true h1]; rfl
  | false => cases Nat.beq i 132 <;> rfl
 first | exact e | (rw [e]; exact ovA_whole fun i hi => (emptyF_hi i hi).symm)
theorem st_r0  (f : FE)   : WP AM0 35 (.ops [⟨some 0, none, .h (.alloc (.ints 133))⟩]) f 0 [] (fun f n L => f 0 = .ptr 0 0 133 ∧ n = 1 ∧ L = [(0, .sc .var 133 (ia fun _ => 0))]) (fun _ _ _ _ => False) (fun _ _ _ => False) := by
 refine WP_ops ?_
 refine WO_allocI ?_
 refine WO_nil ?_
 exact ⟨rfl, rfl, rfl⟩
theorem st_r1  (f : FE)  (k0 : f 0 = .ptr 0 0 133) : WP AM0 35 (.ops [⟨some 6, none, .h (.call (.k (.fn 78 [])) [])⟩, ⟨some 1, none, .h (.alloc (.ints 133))⟩, ⟨none, none, .h (.store 133 (.t 1) (.t 6))⟩]) f 1 [(0, .sc .var 133 (ia fun _ => 0))] (fun f n L => f 0 = .ptr 0 0 133 ∧ f 1 = .ptr 1 0 133 ∧ L = [(1, .sc .var 133 (ia emptyF)), (0, .sc .var 133 (ia fun _ => 0))]) (fun _ _ _ _ => False) (fun _ _ _ => False) := by
 refine WP_know (d := 0) (v := .ptr 0 0 133) k0 ?_
 refine WP_ops ?_
 refine WO_call0 rfl (RF_of Empty_run0) rfl rfl rfl ?_
 refine WO_allocI ?_
 refine WO_stA rfl rfl rfl rfl .here ?_
 refine WO_nil ?_
 refine ⟨rfl, rfl, ?_⟩
 rw [ovA_whole fun i hi => (emptyF_hi i hi).symm]
theorem st_r2 (F : Nat → Int) (f : FE) (nb : Nat) (k0 : f 0 = .ptr 0 0 133) (k1 : f 1 = .ptr 1 0 133) : WP AM0 35 (.ops [⟨some 7, none, .p (.build (.ints 8) [(0, 1, (.k (.s (.int .i64 4)))), (1, 1, (.k (.s (.int .i64 2)))), (2, 1, (.k (.s (.int .i64 3)))), (3, 1, (.k (.s (.int .i64 5)))), (4, 1, (.k (.s (.int .i64 6)))), (5, 1, (.k (.s (.int .i64 3)))), (6, 1, (.k (.s (.int .i64 2)))), (7, 1, (.k (.s (.int .i64 4))))])⟩, ⟨some 8, none, .p (.mv (.k (.s (.int .i64 0))))⟩]) f nb [(1, .sc .var 133 (ia F)), (0, .sc .var 133 (ia fun _ => 0))] (fun f n L => ∃ P, (∀ i, i < 8 → P i = backK i) ∧ f 0 = .ptr 0 0 133 ∧ f 1 = .ptr 1 0 133 ∧ f 7 = .agg 8 (ia P) ∧ f 8 = .s (.int .i64 0) ∧ L = [(1, .sc .var 133 (ia F)), (0, .sc .var 133 (ia fun _ => 0))]) (fun _ _ _ _ => False) (fun _ _ _ => False) := by
 refine WP_know (d := 0) (v := .ptr 0 0 133) k0 ?_
 refine WP_know (d := 1) (v := .ptr 1 0 133) k1 ?_
 refine WP_ops ?_
 refine WO_buildI rfl (.one rfl (.one rfl (.one rfl (.one rfl (.one rfl (.one rfl (.one rfl (.one rfl .nil)))))))) ?_
 refine WO_mv rfl ?_
 refine WO_nil ?_
 exact ⟨_, by decide, rfl, rfl, rfl, rfl, rfl⟩
theorem st_r3 (F P : Nat → Int) (j : Nat)  (f : FE) (nb : Nat) (k0 : f 0 = .ptr 0 0 133) (k1 : f 1 = .ptr 1 0 133) (k7 : f 7 = .agg 8 (ia P)) (k8 : f 8 = .s (.int .i64 (j : Int))) : WP AM0 35 (.ops [⟨some 9, none, .p (.bin .lss (.t 8) (.k (.s (.int .i64 8))))⟩]) f nb [(1, .sc .var 133 (ia F)), (0, .sc .var 133 (ia fun _ => 0))] (fun f n L => f 0 = .ptr 0 0 133 ∧ f 1 = .ptr 1 0 133 ∧ f 7 = .agg 8 (ia P) ∧ f 8 = .s (.int .i64 (j : Int)) ∧ f 9 = .s (.bool (decide ((j : Int) < 8))) ∧ L = [(1, .sc .var 133 (ia F)), (0, .sc .var 133 (ia fun _ => 0))]) (fun _ _ _ _ => False) (fun _ _ _ => False) := by
 refine WP_know (d := 0) (v := .ptr 0 0 133) k0 ?_
 refine WP_know (d := 1) (v := .ptr 1 0 133) k1 ?_
 refine WP_know (d := 7) (v := .agg 8 (ia P)) k7 ?_
 refine WP_know (d := 8) (v := .s (.int .i64 (j : Int))) k8 ?_
 refine WP_ops ?_
 refine WO_bin (r := .bool _) rfl rfl rfl ?_
 refine WO_nil ?_
 exact ⟨rfl, rfl, rfl, rfl, rfl, rfl⟩
theorem st_r4 (F P : Nat → Int) (j : Nat) (hj : j < 8) (c : Int) (hc : P j = c) (f : FE) (nb : Nat) (k0 : f 0 = .ptr 0 0 133) (k1 : f 1 = .ptr 1 0 133) (k7 : f 7 = .agg 8 (ia P)) (k8 : f 8 = .s (.int .i64 (j : Int))) : WP AM0 35 (.ops [⟨some 10, none, .p (.mv (.t 8))⟩, ⟨some 11, none, .p (.ix 8 1 false (.t 7) (.t 8))⟩, ⟨some 2, none, .p (.mv (.t 10))⟩, ⟨some 3, none, .p (.mv (.t 11))⟩]) f nb [(1, .sc .var 133 (ia F)), (0, .sc .var 133 (ia fun _ => 0))] (fun f n L => f 0 = .ptr 0 0 133 ∧ f 1 = .ptr 1 0 133 ∧ f 7 = .agg 8 (ia P) ∧ f 8 = .s (.int .i64 (j : Int)) ∧ f 2 = .s (.int .i64 (j : Int)) ∧ f 3 = .s (.int .i64 c) ∧ L = [(1, .sc .var 133 (ia F)), (0, .sc .var 133 (ia fun _ => 0))]) (fun _ _ _ _ => False) (fun _ _ _ => False) := by
 refine WP_know (d := 0) (v := .ptr 0 0 133) k0 ?_
 refine WP_know (d := 1) (v := .ptr 1 0 133) k1 ?_
 refine WP_know (d := 7) (v := .agg 8 (ia P)) k7 ?_
 refine WP_know (d := 8) (v := .s (.int .i64 (j : Int))) k8 ?_
 refine WP_ops ?_
 refine WO_mv (v := .s (.int _ _)) rfl ?_
 refine WO_ixS (a := .int .i64 c) rfl rfl rfl (by omega) (by rw [show (j : Int).toNat = j from rfl]; simp [hc]) ?_
 refine WO_mv (v := .s (.int _ _)) rfl ?_
 refine WO_mv (v := .s (.int _ _)) rfl ?_
 refine WO_nil ?_
 exact ⟨rfl, rfl, rfl, rfl, rfl, rfl, rfl⟩
theorem st_r5 (F P : Nat → Int) (j : Nat) (c : Int) (f : FE) (nb : Nat) (k0 : f 0 = .ptr 0 0 133) (k1 : f 1 = .ptr 1 0 133) (k7 : f 7 = .agg 8 (ia P)) (k8 : f 8 = .s (.int .i64 (j : Int))) (k2 : f 2 = .s (.int .i64 (j : Int))) (k3 : f 3 = .s (.int .i64 c)) : WO AM0 35 [⟨some 12, none, .h .mkmap⟩, ⟨some 13, none, .p (.mv (.t 3))⟩, ⟨some 14, none, .p (.build (.ints 2) [(0, 1, (.t 13))])⟩, ⟨none, none, .h (.mput (.t 12) (.k (.s (.int .i64 0))) (.t 14))⟩,
  ⟨some 15, none, .p (.build (.ints 2) [(0, 1, (.k (.s (.int .i64 1))))])⟩, ⟨none, none, .h (.mput (.t 12) (.k (.s (.int .i64 1))) (.t 15))⟩,
  ⟨some 16, none, .p (.build (.ints 2) [(0, 1, (.k (.s (.int .i64 1)))), (1, 1, (.k (.s (.int .i64 1))))])⟩, ⟨none, none, .h (.mput (.t 12) (.k (.s (.int .i64 6))) (.t 16))⟩,
  ⟨some 17, none, .p (.mv (.t 3))⟩, ⟨some 18, none, .p (.build (.ints 2) [(0, 1, (.t 17)), (1, 1, (.k (.s (.int .i64 1))))])⟩, ⟨none, none, .h (.mput (.t 12) (.k (.s (.int .i64 7))) (.t 18))⟩, ⟨some 19, none, .p (.mv (.t 12))⟩] f nb [(1, .sc .var 133 (ia F)), (0, .sc .var 133 (ia fun _ => 0))] (fun f n L => f 0 = .ptr 0 0 133 ∧ f 1 = .ptr 1 0 133 ∧ f 7 = .agg 8 (ia P) ∧ f 8 = .s (.int .i64 (j : Int)) ∧ f 2 = .s (.int .i64 (j : Int)) ∧ f 3 = .s (.int .i64 c) ∧ f 19 = .map nb ∧ L = (nb, .mp .var [(.int .i64 0, .agg 2 (ia (ov (fun _ => 0) 0 c))), (.int .i64 1, .agg 2 (ia (ov (fun _ => 0) 0 1))), (.int .i64 6, .agg 2 (ia (ov (ov (fun _ => 0) 0 1) 1 1))), (.int .i64 7, .agg 2 (ia (ov (ov (fun _ => 0) 0 c) 1 1)))]) :: [(1, .sc .var 133 (ia F)), (0, .sc .var 133 (ia fun _ => 0))]) := by
 refine WO_know (d := 0) (v := .ptr 0 0 133) k0 ?_
 refine WO_know (d := 1) (v := .ptr 1 0 133) k1 ?_
 refine WO_know (d := 7) (v := .agg 8 (ia P)) k7 ?_
 refine WO_know (d := 8) (v := .s (.int .i64 (j : Int))) k8 ?_
 refine WO_know (d := 2) (v := .s (.int .i64 (j : Int))) k2 ?_
 refine WO_know (d := 3) (v := .s (.int .i64 c)) k3 ?_
 refine WO_mkmap ?_
 refine WO_mv (v := .s (.int _ _)) rfl ?_
 refine WO_buildI rfl (.one rfl .nil) ?_
 refine WO_mput rfl rfl rfl rfl rfl rfl .here ?_
 refine WO_buildI rfl (.one rfl .nil) ?_
 refine WO_mput rfl rfl rfl rfl rfl rfl .here ?_
 refine WO_buildI rfl (.one rfl (.one rfl .nil)) ?_
 refine WO_mput rfl rfl rfl rfl rfl rfl .here ?_
 refine WO_mv (v := .s (.int _ _)) rfl ?_
 refine WO_buildI rfl (.one rfl (.one rfl .nil)) ?_
 refine WO_mput rfl rfl rfl rfl rfl rfl .here ?_
 refine WO_mv (v := .map _) rfl ?_
 refine WO_nil ?_
 exact ⟨rfl, rfl, rfl, rfl, rfl, rfl, rfl, rfl⟩
theorem st_r7 (F P : Nat → Int) (j : Nat) (bi k : Nat) (Q : Nat → Int) (f : FE) (nb : Nat) (k0 : f 0 = .ptr 0 0 133) (k1 : f 1 = .ptr 1 0 133) (k7 : f 7 = .agg 8 (ia P)) (k8 : f 8 = .s (.int .i64 (j : Int))) (k2 : f 2 = .s (.int .i64 (j : Int))) (k20 : f 20 = .ptr bi 0 0) (k23 : f 23 = .tup [.s (.int .i64 (k : Int)), .agg 2 (ia Q)]) : WO AM0 35 [⟨some 24, none, .p (.ext (.t 23) 0)⟩, ⟨some 25, none, .p (.ext (.t 23) 1)⟩, ⟨some 5, none, .h (.alloc (.ints 2))⟩, ⟨some 4, none, .p (.mv (.t 24))⟩, ⟨none, none, .h (.store 2 (.t 5) (.t 25))⟩] f nb [(1, .sc .var 133 (ia F)), (0, .sc .var 133 (ia fun _ => 0))] (fun f n L => f 0 = .ptr 0 0 133 ∧ f 1 = .ptr 1 0 133 ∧ f 7 = .agg 8 (ia P) ∧ f 8 = .s (.int .i64 (j : Int)) ∧ f 2 = .s (.int .i64 (j : Int)) ∧ f 20 = .ptr bi 0 0 ∧ f 4 = .s (.int .i64 (k : Int)) ∧ f 5 = .ptr nb 0 2 ∧ L = (nb, .sc .var 2 (ia (ovA (fun _ => 0) 0 2 Q))) :: [(1, .sc .var 133 (ia F)), (0, .sc .var 133 (ia fun _ => 0))]) := by
 refine WO_know (d := 0) (v := .ptr 0 0 133) k0 ?_
 refine WO_know (d := 1) (v := .ptr 1 0 133) k1 ?_
 refine WO_know (d := 7) (v := .agg 8 (ia P)) k7 ?_
 refine WO_know (d := 8) (v := .s (.int .i64 (j : Int))) k8 ?_
 refine WO_know (d := 2) (v := .s (.int .i64 (j : Int))) k2 ?_
 refine WO_know (d := 20) (v := .ptr bi 0 0) k20 ?_
 refine WO_know (d := 23) (v := .tup [.s (.int .i64 (k : Int)), .agg 2 (ia Q)]) k23 ?_
 refine WO_ext (v := .s (.int _ _)) rfl rfl ?_
 refine WO_ext (v := .agg _ _) rfl rfl ?_
 refine WO_allocI ?_
 refine WO_mv (v := .s (.int _ _)) rfl ?_
 refine WO_stA rfl rfl rfl rfl .here ?_
 refine WO_nil ?_
 exact ⟨rfl, rfl, rfl, rfl, rfl, rfl, rfl, rfl, rfl⟩
theorem st_r8 (F P : Nat → Int) (j : Nat) (bi k b5 : Nat) (Q : Nat → Int) (hj : j < 8) (hk : k < 8) (f : FE) (nb : Nat) (k0 : f 0 = .ptr 0 0 133) (k1 : f 1 = .ptr 1 0 133) (k7 : f 7 = .agg 8 (ia P)) (k8 : f 8 = .s (.int .i64 (j : Int))) (k2 : f 2 = .s (.int .i64 (j : Int))) (k20 : f 20 = .ptr bi 0 0) (k4 : f 4 = .s (.int .i64 (k : Int))) (k5 : f 5 = .ptr b5 0 2) : WP AM0 35 (.ops [⟨some 26, none, .p (.mv (.t 2))⟩, ⟨some 27, none, .p (.mv (.t 4))⟩, ⟨some 28, none, .h (.callq (.k (.fn 36 [])) [(.t 26), (.t 27)])⟩, ⟨some 29, none, .h (.load true 2 (.t 5))⟩, ⟨some 30, none, .p (.fa 0 128 (.t 1))⟩, ⟨some 31, none, .p (.ixa 64 2 (.t 30) (.t 28))⟩, ⟨none, none, .h (.store 2 (.t 31) (.t 29))⟩]) f nb [(b5, .sc .var 2 (ia Q)), (1, .sc .var 133 (ia F)), (0, .sc .var 133 (ia fun _ => 0))] (fun f n L => f 0 = .ptr 0 0 133 ∧ f 1 = .ptr 1 0 133 ∧ f 7 = .agg 8 (ia P) ∧ f 8 = .s (.int .i64 (j : Int)) ∧ f 2 = .s (.int .i64 (j : Int)) ∧ f 20 = .ptr bi 0 0 ∧ L = (b5, .sc .var 2 (ia Q)) :: [(1, .sc .var 133 (ia (ovA F (0 + ((8 * k + j : Nat) : Int).toNat * 2) 2 Q))), (0, .sc .var 133 (ia fun _ => 0))]) (fun _ _ _ _ => False) (fun _ _ _ => False) := by
 refine WP_know (d := 0) (v := .ptr 0 0 133) k0 ?_
 refine WP_know (d := 1) (v := .ptr 1 0 133) k1 ?_
 refine WP_know (d := 7) (v := .agg 8 (ia P)) k7 ?_
 refine WP_know (d := 8) (v := .s (.int .i64 (j : Int))) k8 ?_
 refine WP_know (d := 2) (v := .s (.int .i64 (j : Int))) k2 ?_
 refine WP_know (d := 20) (v := .ptr bi 0 0) k20 ?_
 refine WP_know (d := 4) (v := .s (.int .i64 (k : Int))) k4 ?_
 refine WP_know (d := 5) (v := .ptr b5 0 2) k5 ?_
 refine WP_ops ?_
 refine WO_mv (v := .s (.int _ _)) rfl ?_
 refine WO_mv (v := .s (.int _ _)) rfl ?_
 refine WO_callq0 rfl (At_in0 j k hj hk) rfl rfl rfl ?_
 first | refine WO_ldA0 rfl rfl (.head _) ?_ | refine WO_ldAI rfl rfl (.head _) ?_
 refine WO_fa (o' := 0) rfl rfl rfl ?_
 refine WO_ixa rfl rfl rfl (by omega) ?_
 refine WO_stA rfl rfl rfl rfl (.there .here) ?_
 refine WO_nil ?_
 exact ⟨rfl, rfl, rfl, rfl, rfl, rfl, rfl⟩
theorem st_r9 (F P : Nat → Int) (j : Nat) (hj : j < 8) (f : FE) (nb : Nat) (k0 : f 0 = .ptr 0 0 133) (k1 : f 1 = .ptr 1 0 133) (k7 : f 7 = .agg 8 (ia P)) (k8 : f 8 = .s (.int .i64 (j : Int))) : WP AM0 35 (.ops [⟨some 32, none, .p (.bin .add (.t 8) (.k (.s (.int .i64 1))))⟩, ⟨some 8, none, .p (.mv (.t 32))⟩]) f nb [(1, .sc .var 133 (ia F)), (0, .sc .var 133 (ia fun _ => 0))] (fun f n L => f 0 = .ptr 0 0 133 ∧ f 1 = .ptr 1 0 133 ∧ f 7 = .agg 8 (ia P) ∧ f 8 = .s (.int .i64 ((j : Int) + 1)) ∧ L = [(1, .sc .var 133 (ia F)), (0, .sc .var 133 (ia fun _ => 0))]) (fun _ _ _ _ => False) (fun _ _ _ => False) := by
 refine WP_know (d := 0) (v := .ptr 0 0 133) k0 ?_
 refine WP_know (d := 1) (v := .ptr 1 0 133) k1 ?_
 refine WP_know (d := 7) (v := .agg 8 (ia P)) k7 ?_
 refine WP_know (d := 8) (v := .s (.int .i64 (j : Int))) k8 ?_
 refine WP_ops ?_
 refine WO_add rfl rfl (by omega) ?_
 refine WO_mv (v := .s (.int _ _)) rfl ?_
 refine WO_nil ?_
 exact ⟨rfl, rfl, rfl, rfl, rfl⟩
theorem st_r10 (F : Nat → Int) (f : FE) (nb : Nat) (k0 : f 0 = .ptr 0 0 133) (k1 : f 1 = .ptr 1 0 133) : WP AM0 35 (.ops [⟨some 33, none, .p (.fa 129 1 (.t 1))⟩, ⟨none, none, .h (.store 1 (.t 33) (.k (.s (.int .i64 15))))⟩]) f nb [(1, .sc .var 133 (ia F)), (0, .sc .var 133 (ia fun _ => 0))] (fun f n L => f 0 = .ptr 0 0 133 ∧ f 1 = .ptr 1 0 133 ∧ L = [(1, .sc .var 133 (ia (ov F 129 15))), (0, .sc .var 133 (ia fun _ => 0))]) (fun _ _ _ _ => False) (fun _ _ _ => False) := by
 refine WP_know (d := 0) (v := .ptr 0 0 133) k0 ?_
 refine WP_know (d := 1) (v := .ptr 1 0 133) k1 ?_
 refine WP_ops ?_
 refine WO_fa (o' := 129) rfl rfl rfl ?_
 refine WO_stI rfl rfl rfl rfl .here ?_
 refine WO_nil ?_
 exact ⟨rfl, rfl, rfl⟩
theorem st_r11 (F : Nat → Int) (f : FE) (nb : Nat) (k0 : f 0 = .ptr 0 0 133) (k1 : f 1 = .ptr 1 0 133) : WP AM0 35 (.ops [⟨some 34, none, .h (.load true 133 (.t 1))⟩, ⟨none, none, .h (.store 133 (.t 0) (.t 34))⟩]) f nb [(1, .sc .var 133 (ia F)), (0, .sc .var 133 (ia fun _ => 0))] (fun f n L => f 0 = .ptr 0 0 133 ∧ L = [(1, .sc .var 133 (ia F)), (0, .sc .var 133 (ia (ovA (fun _ => 0) 0 133 F)))]) (fun _ _ _ _ => False) (fun _ _ _ => False) := by
 refine WP_know (d := 0) (v := .ptr 0 0 133) k0 ?_
 refine WP_know (d := 1) (v := .ptr 1 0 133) k1 ?_
 refine WP_ops ?_
 first | refine WO_ldA0 rfl rfl (.head _) ?_ | refine WO_ldAI rfl rfl (.head _) ?_
 refine WO_stA rfl rfl rfl rfl (.there .here) ?_
 refine WO_nil ?_
 exact ⟨rfl, rfl⟩
end Go.Proofs.Ytjldefmcnppdoaa
