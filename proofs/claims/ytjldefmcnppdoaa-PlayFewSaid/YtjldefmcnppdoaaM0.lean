/- Texts of this seat, joined. -/
import Derived.Test.YtjldefmcnppdoaaAmProg
import Derived.KernelRfl
/- The walks of places and colours. -/
namespace Go.Proofs.Ytjldefmcnppdoaa
open Go Go.Am
set_option linter.unusedSimpArgs false
set_option linter.unusedVariables false
/-- A square's file, rank, and that it is one. -/
def ofL (x : Int) : List S := if 0 ≤ x ∧ x < 64 then [.int .i64 (x % 8), .int .i64 (x / 8), .bool true] else [.int .i64 (-1), .int .i64 (-1), .bool false]

theorem of_run (x : Int) : WR AM 82 [.s (.int .i64 x)] [] (fun v _ _ => v = .agg 3 (lc (ofL x))) := by
 refine WR_fn (a := a82) rfl rfl (entryF _) (entry_E (Nat.le_of_ble_eq_true rfl)) (m := 0) rfl ?_
 refine WP_seq ?_
 refine WP_ops ?_
 refine WO_allocL rfl ?_
 refine WO_nil ?_
 refine WP_seq ?_
 refine WP_seq ?_
 refine WP_ops ?_
 refine WO_mv (v := .s (.int _ _)) rfl ?_
 refine WO_bin (r := .bool _) rfl rfl rfl ?_
 refine WO_mv (v := .s (.bool _)) rfl ?_
 refine WO_case (t := 5) rfl (fun h1 => ?_) (fun h1 => ?_)
 ·try simp only [NM] at h1
  refine WO_gf rfl rfl ?_
  refine WO_gf rfl rfl ?_
  refine WO_pick (v := .s (.bool _)) rfl rfl ?_
  refine WO_nil ?_
  refine WP_cond rfl (fun _ => ?_) (fun h => nomatch h)
  refine WP_seq ?_
  refine WP_ops ?_
  refine WO_buildI rfl (.one rfl (.one rfl .nil)) ?_
  refine WO_buildL rfl rfl (.part (v := .agg _ _) (ys := [_, _, _]) rfl rfl rfl rfl .nil) ?_
  refine WO_st (v := .agg _ _) rfl rfl rfl rfl rfl (over_spl (ys := [_, _, _]) rfl rfl) .here ?_
  refine WO_nil ?_
  refine WP_ret ?_
  refine ⟨_, RS_cell rfl rfl (.head _) (RS_nil), ?_⟩
  first | (rw [show ofL x = [.int .i64 (-1), .int .i64 (-1), .bool false] from if_neg (by omega)]; rfl) | (rw [show ofL x = [.int .i64 (x % 8), .int .i64 (x / 8), .bool true] from if_pos (by omega)]; rfl)
 ·try simp only [NM] at h1
  refine WO_gt rfl ?_
  refine WO_mv (v := .s (.int _ _)) rfl ?_
  refine WO_gt rfl ?_
  refine WO_bin (r := .bool _) rfl rfl rfl ?_
  refine WO_pick (v := .s (.bool _)) rfl rfl ?_
  refine WO_nil ?_
  refine WP_cond rfl (fun h2 => ?_) (fun h2 => ?_)
  ·try simp only [NM] at h2
   refine WP_seq ?_
   refine WP_ops ?_
   refine WO_buildI rfl (.one rfl (.one rfl .nil)) ?_
   refine WO_buildL rfl rfl (.part (v := .agg _ _) (ys := [_, _, _]) rfl rfl rfl rfl .nil) ?_
   refine WO_st (v := .agg _ _) rfl rfl rfl rfl rfl (over_spl (ys := [_, _, _]) rfl rfl) .here ?_
   refine WO_nil ?_
   refine WP_ret ?_
   refine ⟨_, RS_cell rfl rfl (.head _) (RS_nil), ?_⟩
   first | (rw [show ofL x = [.int .i64 (-1), .int .i64 (-1), .bool false] from if_neg (by omega)]; rfl) | (rw [show ofL x = [.int .i64 (x % 8), .int .i64 (x / 8), .bool true] from if_pos (by omega)]; rfl)
  ·try simp only [NM] at h2
   refine WP_skip ?_
   refine WP_seq ?_
   refine WP_ops ?_
   refine WO_mv (v := .s (.int _ _)) rfl ?_
   refine WO_rem rfl rfl (by omega) ?_
   refine WO_mv (v := .s (.int _ _)) rfl ?_
   refine WO_quo rfl rfl (by omega) ?_
   refine WO_buildI rfl (.one rfl (.one rfl .nil)) ?_
   refine WO_buildL rfl rfl (.part (v := .agg _ _) (ys := [_, _, _]) rfl rfl rfl rfl (.part (v := .s (.bool _)) (ys := [_, _, _]) rfl rfl rfl rfl .nil)) ?_
   refine WO_st (v := .agg _ _) rfl rfl rfl rfl rfl (over_spl (ys := [_, _, _]) rfl rfl) .here ?_
   refine WO_nil ?_
   refine WP_ret ?_
   refine ⟨_, RS_cell rfl rfl (.head _) (RS_nil), ?_⟩
   first | (rw [show ofL x = [.int .i64 (-1), .int .i64 (-1), .bool false] from if_neg (by omega)]; rfl) | (rw [show ofL x = [.int .i64 (x % 8), .int .i64 (x / 8), .bool true] from if_pos (by omega)]; rfl)
theorem of_in (x : Int) (h : 0 ≤ x ∧ x < 64) : RF AM 82 [.s (.int .i64 x)] (.agg 3 (lc [.int .i64 (x % 8), .int .i64 (x / 8), .bool true])) := by
  have := RF_of (of_run x)
  rw [ofL, if_pos h] at this
  exact this

end Go.Proofs.Ytjldefmcnppdoaa
/- The walks of squares, and of a position turned. -/
namespace Go.Proofs.Ytjldefmcnppdoaa
open Go Go.Am
set_option linter.unusedSimpArgs false
set_option linter.unusedVariables false
theorem of_out (x : Int) (h : ¬ (0 ≤ x ∧ x < 64)) : RF AM 82 [.s (.int .i64 x)] (.agg 3 (lc [.int .i64 (-1), .int .i64 (-1), .bool false])) := by
  have := RF_of (of_run x)
  rw [ofL, if_neg h] at this
  exact this

/-- A square's file, its rank, and whether it is one. -/
def fileM (x : Int) : Int := if 0 ≤ x ∧ x < 64 then x % 8 else -1
def rankM (x : Int) : Int := if 0 ≤ x ∧ x < 64 then x / 8 else -1
def isM (x : Int) : Bool := decide (0 ≤ x ∧ x < 64)
/-- The square of a file and a rank. -/
def atM (a b : Int) : Int := if 0 ≤ a ∧ a < 8 ∧ 0 ≤ b ∧ b < 8 then b * 8 + a else -1

theorem File_in (x : Int) (h : 0 ≤ x ∧ x < 64) : WR AM 37 [.s (.int .i64 x)] [] (fun v _ _ => v = .s (.int .i64 (fileM x))) := by
 refine WR_fn (a := a37) rfl rfl (entryF _) (entry_E (Nat.le_of_ble_eq_true rfl)) (m := 0) rfl ?_
 refine WP_seq ?_
 refine WP_ops ?_
 refine WO_mv rfl ?_
 refine WO_nil ?_
 refine WP_seq ?_
 refine WP_ops ?_
 refine WO_mv (v := .s (.int _ _)) rfl ?_
 refine WO_call0 rfl (of_in _ h) rfl rfl rfl ?_
 refine WO_fldA rfl rfl ?_
 refine WO_fldS (a := .int _ _) rfl rfl rfl ?_
 first | refine WO_mv (v := .s (.int _ _)) rfl ?_ | refine WO_mv (v := .s _) rfl ?_
 refine WO_nil ?_
 refine WP_ret ?_
 refine ⟨_, RS_tmp (v := _) rfl (RS_nil), ?_⟩
 rw [fileM, if_pos h]; rfl
theorem File_out (x : Int) (h : ¬ (0 ≤ x ∧ x < 64)) : WR AM 37 [.s (.int .i64 x)] [] (fun v _ _ => v = .s (.int .i64 (fileM x))) := by
 refine WR_fn (a := a37) rfl rfl (entryF _) (entry_E (Nat.le_of_ble_eq_true rfl)) (m := 0) rfl ?_
 refine WP_seq ?_
 refine WP_ops ?_
 refine WO_mv rfl ?_
 refine WO_nil ?_
 refine WP_seq ?_
 refine WP_ops ?_
 refine WO_mv (v := .s (.int _ _)) rfl ?_
 refine WO_call0 rfl (of_out _ h) rfl rfl rfl ?_
 refine WO_fldA rfl rfl ?_
 refine WO_fldS (a := .int _ _) rfl rfl rfl ?_
 first | refine WO_mv (v := .s (.int _ _)) rfl ?_ | refine WO_mv (v := .s _) rfl ?_
 refine WO_nil ?_
 refine WP_ret ?_
 refine ⟨_, RS_tmp (v := _) rfl (RS_nil), ?_⟩
 rw [fileM, if_neg h]; rfl
theorem File_run (x : Int) : RF AM 37 [.s (.int .i64 x)] (.s (.int .i64 (fileM x))) := by
  by_cases h : 0 ≤ x ∧ x < 64
  · exact RF_of (File_in x h)
  · exact RF_of (File_out x h)

theorem Rank_in (x : Int) (h : 0 ≤ x ∧ x < 64) : WR AM 38 [.s (.int .i64 x)] [] (fun v _ _ => v = .s (.int .i64 (rankM x))) := by
 refine WR_fn (a := a38) rfl rfl (entryF _) (entry_E (Nat.le_of_ble_eq_true rfl)) (m := 0) rfl ?_
 refine WP_seq ?_
 refine WP_ops ?_
 refine WO_mv rfl ?_
 refine WO_nil ?_
 refine WP_seq ?_
 refine WP_ops ?_
 refine WO_mv (v := .s (.int _ _)) rfl ?_
 refine WO_call0 rfl (of_in _ h) rfl rfl rfl ?_
 refine WO_fldA rfl rfl ?_
 refine WO_fldS (a := .int _ _) rfl rfl rfl ?_
 first | refine WO_mv (v := .s (.int _ _)) rfl ?_ | refine WO_mv (v := .s _) rfl ?_
 refine WO_nil ?_
 refine WP_ret ?_
 refine ⟨_, RS_tmp (v := _) rfl (RS_nil), ?_⟩
 rw [rankM, if_pos h]; rfl
theorem Rank_out (x : Int) (h : ¬ (0 ≤ x ∧ x < 64)) : WR AM 38 [.s (.int .i64 x)] [] (fun v _ _ => v = .s (.int .i64 (rankM x))) := by
 refine WR_fn (a := a38) rfl rfl (entryF _) (entry_E (Nat.le_of_ble_eq_true rfl)) (m := 0) rfl ?_
 refine WP_seq ?_
 refine WP_ops ?_
 refine WO_mv rfl ?_
 refine WO_nil ?_
 refine WP_seq ?_
 refine WP_ops ?_
 refine WO_mv (v := .s (.int _ _)) rfl ?_
 refine WO_call0 rfl (of_out _ h) rfl rfl rfl ?_
 refine WO_fldA rfl rfl ?_
 refine WO_fldS (a := .int _ _) rfl rfl rfl ?_
 first | refine WO_mv (v := .s (.int _ _)) rfl ?_ | refine WO_mv (v := .s _) rfl ?_
 refine WO_nil ?_
 refine WP_ret ?_
 refine ⟨_, RS_tmp (v := _) rfl (RS_nil), ?_⟩
 rw [rankM, if_neg h]; rfl
theorem Rank_run (x : Int) : RF AM 38 [.s (.int .i64 x)] (.s (.int .i64 (rankM x))) := by
  by_cases h : 0 ≤ x ∧ x < 64
  · exact RF_of (Rank_in x h)
  · exact RF_of (Rank_out x h)

theorem Is_in (x : Int) (h : 0 ≤ x ∧ x < 64) : WR AM 39 [.s (.int .i64 x)] [] (fun v _ _ => v = .s (.bool (isM x))) := by
 refine WR_fn (a := a39) rfl rfl (entryF _) (entry_E (Nat.le_of_ble_eq_true rfl)) (m := 0) rfl ?_
 refine WP_seq ?_
 refine WP_ops ?_
 refine WO_mv rfl ?_
 refine WO_nil ?_
 refine WP_seq ?_
 refine WP_ops ?_
 refine WO_mv (v := .s (.int _ _)) rfl ?_
 refine WO_call0 rfl (of_in _ h) rfl rfl rfl ?_
 refine WO_fldS (a := .bool _) rfl rfl rfl ?_
 first | refine WO_mv (v := .s (.int _ _)) rfl ?_ | refine WO_mv (v := .s _) rfl ?_
 refine WO_nil ?_
 refine WP_ret ?_
 refine ⟨_, RS_tmp (v := _) rfl (RS_nil), ?_⟩
 rw [isM, decide_eq_true h]; rfl
theorem Is_out (x : Int) (h : ¬ (0 ≤ x ∧ x < 64)) : WR AM 39 [.s (.int .i64 x)] [] (fun v _ _ => v = .s (.bool (isM x))) := by
 refine WR_fn (a := a39) rfl rfl (entryF _) (entry_E (Nat.le_of_ble_eq_true rfl)) (m := 0) rfl ?_
 refine WP_seq ?_
 refine WP_ops ?_
 refine WO_mv rfl ?_
 refine WO_nil ?_
 refine WP_seq ?_
 refine WP_ops ?_
 refine WO_mv (v := .s (.int _ _)) rfl ?_
 refine WO_call0 rfl (of_out _ h) rfl rfl rfl ?_
 refine WO_fldS (a := .bool _) rfl rfl rfl ?_
 first | refine WO_mv (v := .s (.int _ _)) rfl ?_ | refine WO_mv (v := .s _) rfl ?_
 refine WO_nil ?_
 refine WP_ret ?_
 refine ⟨_, RS_tmp (v := _) rfl (RS_nil), ?_⟩
 rw [isM, decide_eq_false h]; rfl
theorem SqIs_run (x : Int) : RF AM 39 [.s (.int .i64 x)] (.s (.bool (isM x))) := by
  by_cases h : 0 ≤ x ∧ x < 64
  · exact RF_of (Is_in x h)
  · exact RF_of (Is_out x h)

theorem WO_convW {A : AP} {N : Nat} {f : FE} {n : Nat} {L : HA} {K : KN} {l : List I} {d : Nat} {kd kd' : IntKind} {x : O} {a : Int} (hx : x.fv N f = .s (.int kd' a)) (k : WO A N l (upd f d (.s (.int kd (kd.wrap a)))) n L K) : WO A N (⟨some d, none, .p (.conv kd x)⟩ :: l) f n L K :=
  WO_p (v := .s (.int kd (kd.wrap a))) (by simp only [pureV, ev_E, hx]) k

theorem u64_lt8 {a : Int} (h : -9223372036854775808 ≤ a ∧ a ≤ 9223372036854775807) : IntKind.u64.wrap a < 8 ↔ 0 ≤ a ∧ a < 8 := by
  rw [IntKind.wrap_u64]
  omega

theorem within_run (P : Nat → Int) (ha : -9223372036854775808 ≤ P 0 ∧ P 0 ≤ 9223372036854775807) (hb : -9223372036854775808 ≤ P 1 ∧ P 1 ≤ 9223372036854775807) : WR AM 86 [.agg 2 (ia P)] [] (fun v _ _ => v = .s (.bool (decide (0 ≤ P 0 ∧ P 0 < 8 ∧ 0 ≤ P 1 ∧ P 1 < 8)))) := by
 refine WR_fn (a := a86) rfl rfl (entryF _) (entry_E (Nat.le_of_ble_eq_true rfl)) (m := 0) rfl ?_
 refine WP_seq ?_
 refine WP_ops ?_
 refine WO_boxA rfl ?_
 refine WO_mv rfl ?_
 refine WO_nil ?_
 refine WP_seq ?_
 refine WP_ops ?_
 refine WO_fa (o' := 0) rfl rfl rfl ?_
 refine WO_ldI rfl rfl (.head _) rfl ?_
 refine WO_convW rfl ?_
 refine WO_bin (r := .bool _) rfl rfl rfl ?_
 refine WO_mv (v := .s (.bool _)) rfl ?_
 refine WO_case (t := 7) rfl (fun h1 => ?_) (fun h1 => ?_)
 ·try simp only [NM] at h1
  refine WO_gt rfl ?_
  refine WO_fa (o' := 1) rfl rfl rfl ?_
  refine WO_gt rfl ?_
  refine WO_ldI rfl rfl (.head _) rfl ?_
  refine WO_gt rfl ?_
  refine WO_convW rfl ?_
  refine WO_gt rfl ?_
  refine WO_bin (r := .bool _) rfl rfl rfl ?_
  refine WO_pick (v := .s (.bool _)) rfl rfl ?_
  refine WO_mv (v := .s (.bool _)) rfl ?_
  refine WO_nil ?_
  refine WP_ret ?_
  refine ⟨_, RS_tmp (v := .s (.bool _)) rfl (RS_nil), ?_⟩
  refine congrArg (fun b => V.s (S.bool b)) ?_
  have e0 := u64_lt8 ha
  have e1 := u64_lt8 hb
  rw [Bool.eq_iff_iff]
  simp only [decide_eq_true_eq, Bool.false_eq_true, false_iff]
  omega
 ·try simp only [NM] at h1
  refine WO_gf rfl rfl ?_
  refine WO_gf rfl rfl ?_
  refine WO_gf rfl rfl ?_
  refine WO_gf rfl rfl ?_
  refine WO_pick (v := .s (.bool _)) rfl rfl ?_
  refine WO_mv (v := .s (.bool _)) rfl ?_
  refine WO_nil ?_
  refine WP_ret ?_
  refine ⟨_, RS_tmp (v := .s (.bool _)) rfl (RS_nil), ?_⟩
  refine congrArg (fun b => V.s (S.bool b)) ?_
  have e0 := u64_lt8 ha
  have e1 := u64_lt8 hb
  rw [Bool.eq_iff_iff]
  simp only [decide_eq_true_eq, Bool.false_eq_true, false_iff]
  omega
theorem number_run (P : Nat → Int) (ha : -9223372036854775808 ≤ P 0 ∧ P 0 ≤ 9223372036854775807) (hb : -9223372036854775808 ≤ P 1 ∧ P 1 ≤ 9223372036854775807) : WR AM 84 [.agg 2 (ia P)] [] (fun v _ _ => v = .s (.int .i64 (atM (P 0) (P 1)))) := by
 refine WR_fn (a := a84) rfl rfl (entryF _) (entry_E (Nat.le_of_ble_eq_true rfl)) (m := 0) rfl ?_
 refine WP_seq ?_
 refine WP_ops ?_
 refine WO_boxA rfl ?_
 refine WO_mv rfl ?_
 refine WO_nil ?_
 refine WP_seq ?_
 refine WP_seq ?_
 refine WP_ops ?_
 first | refine WO_ldA0 rfl rfl (.head _) ?_ | refine WO_ldAI rfl rfl (.head _) ?_
 refine WO_call0 rfl (RF_of (within_run _ ha hb)) rfl rfl rfl ?_
 refine WO_un (r := .bool _) rfl rfl ?_
 refine WO_nil ?_
 refine WP_cond rfl (fun h2 => ?_) (fun h2 => ?_)
 ·try simp only [NM] at h2
  refine WP_seq ?_
  refine WP_ops ?_
  refine WO_mv rfl ?_
  refine WO_nil ?_
  refine WP_ret ?_
  refine ⟨_, RS_tmp (v := .s (.int _ _)) rfl (RS_nil), ?_⟩
  refine congrArg (fun b => V.s (S.int .i64 b)) ?_
  unfold atM
  split <;> omega
 ·try simp only [NM] at h2
  refine WP_skip ?_
  refine WP_seq ?_
  refine WP_ops ?_
  refine WO_fa (o' := 1) rfl rfl rfl ?_
  refine WO_ldI rfl rfl (.head _) rfl ?_
  refine WO_mul rfl rfl (by omega) ?_
  refine WO_fa (o' := 0) rfl rfl rfl ?_
  refine WO_ldI rfl rfl (.head _) rfl ?_
  refine WO_add rfl rfl (by omega) ?_
  refine WO_mv (v := .s (.int _ _)) rfl ?_
  refine WO_nil ?_
  refine WP_ret ?_
  refine ⟨_, RS_tmp (v := .s (.int _ _)) rfl (RS_nil), ?_⟩
  refine congrArg (fun b => V.s (S.int .i64 b)) ?_
  unfold atM
  split <;> omega
theorem At_run (a b : Int) (ha : -9223372036854775808 ≤ a ∧ a ≤ 9223372036854775807) (hb : -9223372036854775808 ≤ b ∧ b ≤ 9223372036854775807) : WR AM 36 [.s (.int .i64 a), .s (.int .i64 b)] [] (fun v _ _ => v = .s (.int .i64 (atM a b))) := by
 refine WR_fn (a := a36) rfl rfl (entryF _) (entry_E (Nat.le_of_ble_eq_true rfl)) (m := 0) rfl ?_
 refine WP_seq ?_
 refine WP_ops ?_
 refine WO_mv rfl ?_
 refine WO_nil ?_
 refine WP_seq ?_
 refine WP_ops ?_
 refine WO_mv (v := .s (.int _ _)) rfl ?_
 refine WO_mv (v := .s (.int _ _)) rfl ?_
 refine WO_buildI rfl (.one rfl (.one rfl .nil)) ?_
 refine WO_call0 rfl (RF_of (number_run _ ha hb)) rfl rfl rfl ?_
 refine WO_mv (v := .s (.int _ _)) rfl ?_
 refine WO_nil ?_
 refine WP_ret ?_
 refine ⟨_, RS_tmp (v := .s (.int _ _)) rfl (RS_nil), ?_⟩
 rfl
/-- The other side; may a piece be; a square across. -/
def otherM (s : Int) : Int := if s = 0 then 1 else 0
def mayM (k s : Int) : Bool := decide (1 ≤ k ∧ k ≤ 6 ∧ (s = 0 ∨ s = 1))
def acrossM (x : Int) : Int := (7 - x / 8) * 8 + x % 8
def sideT (k s : Int) : Int := if mayM k s = true then otherM s else s

theorem ovA_out {P : Nat → Int} {o m : Nat} {Q : Nat → Int} {i : Nat} (h : i < o ∨ o + m ≤ i) : ovA P o m Q i = P i := by
  have e : (Nat.ble o i && Nat.blt i (o + m)) = false := by
    cases h1 : Nat.ble o i with
    | false => rfl
    | true =>
      cases h2 : Nat.blt i (o + m) with
      | false => rfl
      | true =>
        have := Nat.le_of_ble_eq_true h1
        have := Nat.le_of_ble_eq_true h2
        omega
  show (bif Nat.ble o i && Nat.blt i (o + m) then Q (i - o) else P i) = P i
  rw [e]; rfl

theorem ovA_at {P : Nat → Int} {o m : Nat} {Q : Nat → Int} {i : Nat} (h : o ≤ i ∧ i < o + m) : ovA P o m Q i = Q (i - o) := by
  have e : (Nat.ble o i && Nat.blt i (o + m)) = true := by
    rw [Nat.ble_eq_true_of_le h.1, show Nat.blt i (o + m) = true from Nat.ble_eq_true_of_le h.2]; rfl
  show (bif Nat.ble o i && Nat.blt i (o + m) then Q (i - o) else P i) = Q (i - o)
  rw [e]; rfl

theorem Other_run (s : Int) : WR AM 57 [.s (.int .i64 s)] [] (fun v _ _ => v = .s (.int .i64 (otherM s))) := by
 refine WR_fn (a := a57) rfl rfl (entryF _) (entry_E (Nat.le_of_ble_eq_true rfl)) (m := 0) rfl ?_
 refine WP_seq ?_
 refine WP_ops ?_
 refine WO_mv rfl ?_
 refine WO_nil ?_
 refine WP_seq ?_
 refine WP_seq ?_
 refine WP_ops ?_
 refine WO_mv (v := .s (.int _ _)) rfl ?_
 refine WO_bin (r := .bool _) rfl rfl rfl ?_
 refine WO_nil ?_
 refine WP_cond rfl (fun h3 => ?_) (fun h3 => ?_)
 ·try simp only [NM] at h3
  refine WP_seq ?_
  refine WP_ops ?_
  refine WO_mv rfl ?_
  refine WO_nil ?_
  refine WP_ret ?_
  refine ⟨_, RS_tmp (v := .s (.int _ _)) rfl (RS_nil), ?_⟩
  first | (rw [show otherM s = 1 from if_pos (by omega)]; rfl) | (rw [show otherM s = 0 from if_neg (by omega)]; rfl)
 ·try simp only [NM] at h3
  refine WP_skip ?_
  refine WP_seq ?_
  refine WP_ops ?_
  refine WO_mv rfl ?_
  refine WO_nil ?_
  refine WP_ret ?_
  refine ⟨_, RS_tmp (v := .s (.int _ _)) rfl (RS_nil), ?_⟩
  first | (rw [show otherM s = 1 from if_pos (by omega)]; rfl) | (rw [show otherM s = 0 from if_neg (by omega)]; rfl)
theorem may_run (P : Nat → Int) : WR AM 88 [.agg 2 (ia P)] [] (fun v _ _ => v = .s (.bool (mayM (P 0) (P 1)))) := by
 refine WR_fn (a := a88) rfl rfl (entryF _) (entry_E (Nat.le_of_ble_eq_true rfl)) (m := 0) rfl ?_
 refine WP_seq ?_
 refine WP_ops ?_
 refine WO_boxA rfl ?_
 refine WO_mv rfl ?_
 refine WO_nil ?_
 refine WP_seq ?_
 refine WP_ops ?_
 refine WO_fa (o' := 0) rfl rfl rfl ?_
 refine WO_ldI rfl rfl (.head _) rfl ?_
 refine WO_bin (r := .bool _) rfl rfl rfl ?_
 refine WO_mv (v := .s (.bool _)) rfl ?_
 refine WO_case (t := 6) rfl (fun h4 => ?_) (fun h4 => ?_)
 ·try simp only [NM] at h4
  refine WO_gt rfl ?_
  refine WO_fa (o' := 0) rfl rfl rfl ?_
  refine WO_gt rfl ?_
  refine WO_ldI rfl rfl (.head _) rfl ?_
  refine WO_gt rfl ?_
  refine WO_bin (r := .bool _) rfl rfl rfl ?_
  refine WO_pick (v := .s (.bool _)) rfl rfl ?_
  refine WO_mv (v := .s (.bool _)) rfl ?_
  refine WO_case (t := 11) rfl (fun h5 => ?_) (fun h5 => ?_)
  ·try simp only [NM] at h5
   refine WO_gt rfl ?_
   refine WO_fa (o' := 1) rfl rfl rfl ?_
   refine WO_gt rfl ?_
   refine WO_ldI rfl rfl (.head _) rfl ?_
   refine WO_gt rfl ?_
   refine WO_bin (r := .bool _) rfl rfl rfl ?_
   refine WO_gt rfl ?_
   refine WO_mv (v := .s (.bool _)) rfl ?_
   refine WO_case (t := 15) rfl (fun h6 => ?_) (fun h6 => ?_)
   ·try simp only [NM] at h6
    refine WO_gf rfl rfl ?_
    refine WO_gf rfl rfl ?_
    refine WO_gf rfl rfl ?_
    refine WO_gt rfl ?_
    refine WO_pick (v := .s (.bool _)) rfl rfl ?_
    refine WO_pick (v := .s (.bool _)) rfl rfl ?_
    refine WO_mv (v := .s (.bool _)) rfl ?_
    refine WO_nil ?_
    refine WP_ret ?_
    refine ⟨_, RS_tmp (v := .s (.bool _)) rfl (RS_nil), ?_⟩
    refine congrArg (fun b => V.s (S.bool b)) ?_
    unfold mayM
    rw [Bool.eq_iff_iff]
    simp only [beq_iff_eq, decide_eq_true_eq, Bool.false_eq_true, true_iff, false_iff]
    omega
   ·try simp only [NM] at h6
    refine WO_gt rfl ?_
    refine WO_fa (o' := 1) rfl rfl rfl ?_
    refine WO_gt rfl ?_
    refine WO_ldI rfl rfl (.head _) rfl ?_
    refine WO_gt rfl ?_
    refine WO_bin (r := .bool _) rfl rfl rfl ?_
    refine WO_gt rfl ?_
    refine WO_pick (v := .s (.bool _)) rfl rfl ?_
    refine WO_pick (v := .s (.bool _)) rfl rfl ?_
    refine WO_mv (v := .s (.bool _)) rfl ?_
    refine WO_nil ?_
    refine WP_ret ?_
    refine ⟨_, RS_tmp (v := .s (.bool _)) rfl (RS_nil), ?_⟩
    refine congrArg (fun b => V.s (S.bool b)) ?_
    unfold mayM
    rw [Bool.eq_iff_iff]
    simp only [beq_iff_eq, decide_eq_true_eq, Bool.false_eq_true, true_iff, false_iff]
    omega
  ·try simp only [NM] at h5
   refine WO_gf rfl rfl ?_
   refine WO_gf rfl rfl ?_
   refine WO_gf rfl rfl ?_
   refine WO_gf rfl rfl ?_
   refine WO_gu rfl ?_
   refine WO_gu rfl ?_
   refine WO_gu rfl ?_
   refine WO_gf rfl rfl ?_
   refine WO_pick (v := .s (.bool _)) rfl rfl ?_
   refine WO_mv (v := .s (.bool _)) rfl ?_
   refine WO_nil ?_
   refine WP_ret ?_
   refine ⟨_, RS_tmp (v := .s (.bool _)) rfl (RS_nil), ?_⟩
   refine congrArg (fun b => V.s (S.bool b)) ?_
   unfold mayM
   rw [Bool.eq_iff_iff]
   simp only [beq_iff_eq, decide_eq_true_eq, Bool.false_eq_true, true_iff, false_iff]
   omega
 ·try simp only [NM] at h4
  refine WO_gf rfl rfl ?_
  refine WO_gf rfl rfl ?_
  refine WO_gf rfl rfl ?_
  refine WO_pick (v := .s (.bool _)) rfl rfl ?_
  refine WO_mv (v := .s (.bool _)) rfl ?_
  refine WO_gf rfl rfl ?_
  refine WO_gf rfl rfl ?_
  refine WO_gf rfl rfl ?_
  refine WO_gf rfl rfl ?_
  refine WO_gu rfl ?_
  refine WO_gu rfl ?_
  refine WO_gu rfl ?_
  refine WO_gf rfl rfl ?_
  refine WO_pick (v := .s (.bool _)) rfl rfl ?_
  refine WO_mv (v := .s (.bool _)) rfl ?_
  refine WO_nil ?_
  refine WP_ret ?_
  refine ⟨_, RS_tmp (v := .s (.bool _)) rfl (RS_nil), ?_⟩
  refine congrArg (fun b => V.s (S.bool b)) ?_
  unfold mayM
  rw [Bool.eq_iff_iff]
  simp only [beq_iff_eq, decide_eq_true_eq, Bool.false_eq_true, true_iff, false_iff]
  omega
/-- A position turned: its castlings; the square gone over. -/
def castT (c : Int) : Int := if 0 ≤ c ∧ c ≤ 15 then c / 4 + c % 4 * 4 else c
def overT (x : Int) : Int := if isM x = true then acrossM x else x
def acr (s : Nat) : Nat := (7 - s / 8) * 8 + s % 8

/-- The squares turned, so far. -/
def Turned (P Q : Nat → Int) (i : Nat) : Prop := ∀ s : Nat, s < i → Q (acr s * 2) = P (s * 2) ∧ Q (acr s * 2 + 1) = sideT (P (s * 2)) (P (s * 2 + 1))

theorem ov_out {P : Nat → Int} {o i : Nat} {x : Int} (h : i ≠ o) : ov P o x i = P i := by
  have e : Nat.beq i o = false := by
    cases hb : Nat.beq i o with
    | false => rfl
    | true => exact absurd (Nat.eq_of_beq_eq_true hb) h
  show (bif Nat.beq i o then x else P i) = P i
  rw [e]; rfl

/-- A position and the same turned. -/
structure TurnOf (P Q : Nat → Int) : Prop where
  sq : Turned P Q 64
  side : Q 128 = otherM (P 128)
  castle : Q 129 = castT (P 129)
  over : Q 130 = overT (P 130)
  half : Q 131 = P 131
  full : Q 132 = P 132
  out : ∀ i, 133 ≤ i → Q i = 0

end Go.Proofs.Ytjldefmcnppdoaa
/- The walks of steps. -/
namespace Go.Proofs.Ytjldefmcnppdoaa
open Go Go.Am
set_option linter.unusedSimpArgs false
set_option linter.unusedVariables false
/-- The cell of a square. -/
abbrev sqI (x : Int) : Nat := 0 + x.toNat * 2
theorem ovA_same {P Q X Y : Nat → Int} {o m : Nat} {n : Nat} (h : ∀ i, i < n → P i = Q i) (hx : ∀ j, j < m → X j = Y j) : ∀ i, i < n → ovA P o m X i = ovA Q o m Y i := by
  intro i hi
  by_cases k : o ≤ i ∧ i < o + m
  · rw [ovA_at k, ovA_at k]; exact hx _ (by omega)
  · rw [ovA_out (by omega), ovA_out (by omega)]; exact h i hi

/-- The square so many files and ranks on. -/
def stepM (s f r : Int) : Int := if (0 ≤ s ∧ s < 64) ∧ (-8 < f ∧ f < 8) ∧ (-8 < r ∧ r < 8) then atM (s % 8 + f) (s / 8 + r) else -1
/-- The file and rank so many on. -/
def onM (s f r : Int) : Nat → Int := if (0 ≤ s ∧ s < 64) ∧ (-8 < f ∧ f < 8) ∧ (-8 < r ∧ r < 8) then (fun i => if i = 0 then s % 8 + f else if i = 1 then s / 8 + r else 0) else (fun i => if i = 0 then -1 else if i = 1 then -1 else 0)
theorem two_fn {x y : Int} : ovA (fun _ => 0) 0 2 (ov (ov (fun _ => 0) 0 x) 1 y) = fun i => if i = 0 then x else if i = 1 then y else 0 := by
  funext i
  by_cases h0 : i = 0
  · subst h0; rfl
  · by_cases h1 : i = 1
    · subst h1; rfl
    · rw [ovA_out (by omega), if_neg h0, if_neg h1]

theorem on_in (s f r : Int) (h : 0 ≤ s ∧ s < 64) : WR AM 83 [.agg 3 (lc [.int .i64 (s % 8), .int .i64 (s / 8), .bool true]), .s (.int .i64 f), .s (.int .i64 r)] [] (fun v _ _ => v = .agg 2 (ia (onM s f r))) := by
 refine WR_fn (a := a83) rfl rfl (entryF _) (entry_E (Nat.le_of_ble_eq_true rfl)) (m := 0) rfl ?_
 refine WP_seq ?_
 refine WP_ops ?_
 refine WO_boxA rfl ?_
 refine WO_allocI ?_
 refine WO_nil ?_
 refine WP_seq ?_
 refine WP_seq ?_
 refine WP_ops ?_
 refine WO_fa (o' := 2) rfl rfl rfl ?_
 refine WO_ldS (x := .bool _) rfl rfl (.tail _ (.head _)) rfl ?_
 refine WO_un (r := .bool _) rfl rfl ?_
 refine WO_mv (v := .s (.bool _)) rfl ?_
 refine WO_gt rfl ?_
 refine WO_mv (v := .s (.int _ _)) rfl ?_
 refine WO_gt rfl ?_
 refine WO_mv (v := .s (.int _ _)) rfl ?_
 refine WO_gt rfl ?_
 refine WO_mx2 rfl rfl ?_
 refine WO_gt rfl ?_
 refine WO_bin (r := .bool _) rfl rfl rfl ?_
 refine WO_pick (v := .s (.bool _)) rfl rfl ?_
 refine WO_mv (v := .s (.bool _)) rfl ?_
 refine WO_case (t := 16) rfl (fun h5 => ?_) (fun h5 => ?_)
 ·try simp only [NM] at h5
  refine WO_gf rfl rfl ?_
  refine WO_gf rfl rfl ?_
  refine WO_gf rfl rfl ?_
  refine WO_gf rfl rfl ?_
  refine WO_pick (v := .s (.bool _)) rfl rfl ?_
  refine WO_nil ?_
  refine WP_cond rfl (fun _ => ?_) (fun h => nomatch h)
  refine WP_seq ?_
  refine WP_ops ?_
  refine WO_buildI rfl (.one rfl (.one rfl .nil)) ?_
  refine WO_stA rfl rfl rfl rfl .here ?_
  refine WO_nil ?_
  refine WP_ret ?_
  refine ⟨_, RS_cell rfl rfl (.head _) (RS_nil), ?_⟩
  refine congrArg (fun g => V.agg 2 (ia g)) ?_
  rw [two_fn]
  first | exact (if_pos ⟨h, by omega, by omega⟩).symm | exact (if_neg (fun q => by omega)).symm
 ·try simp only [NM] at h5
  refine WO_gt rfl ?_
  refine WO_mv (v := .s (.int _ _)) rfl ?_
  refine WO_gt rfl ?_
  refine WO_mv (v := .s (.int _ _)) rfl ?_
  refine WO_gt rfl ?_
  refine WO_mn2 rfl rfl ?_
  refine WO_gt rfl ?_
  refine WO_bin (r := .bool _) rfl rfl rfl ?_
  refine WO_pick (v := .s (.bool _)) rfl rfl ?_
  refine WO_nil ?_
  refine WP_cond rfl (fun h6 => ?_) (fun h6 => ?_)
  ·try simp only [NM] at h6
   refine WP_seq ?_
   refine WP_ops ?_
   refine WO_buildI rfl (.one rfl (.one rfl .nil)) ?_
   refine WO_stA rfl rfl rfl rfl .here ?_
   refine WO_nil ?_
   refine WP_ret ?_
   refine ⟨_, RS_cell rfl rfl (.head _) (RS_nil), ?_⟩
   refine congrArg (fun g => V.agg 2 (ia g)) ?_
   rw [two_fn]
   first | exact (if_pos ⟨h, by omega, by omega⟩).symm | exact (if_neg (fun q => by omega)).symm
  ·try simp only [NM] at h6
   refine WP_skip ?_
   refine WP_seq ?_
   refine WP_ops ?_
   refine WO_fa (o' := 0) rfl rfl rfl ?_
   refine WO_fa (o' := 0) rfl rfl rfl ?_
   refine WO_ldS (x := .int _ _) rfl rfl (.tail _ (.head _)) rfl ?_
   refine WO_mv (v := .s (.int _ _)) rfl ?_
   refine WO_add rfl rfl (by omega) ?_
   refine WO_fa (o' := 0) rfl rfl rfl ?_
   refine WO_fa (o' := 1) rfl rfl rfl ?_
   refine WO_ldS (x := .int _ _) rfl rfl (.tail _ (.head _)) rfl ?_
   refine WO_mv (v := .s (.int _ _)) rfl ?_
   refine WO_add rfl rfl (by omega) ?_
   refine WO_buildI rfl (.one rfl (.one rfl .nil)) ?_
   refine WO_stA rfl rfl rfl rfl .here ?_
   refine WO_nil ?_
   refine WP_ret ?_
   refine ⟨_, RS_cell rfl rfl (.head _) (RS_nil), ?_⟩
   refine congrArg (fun g => V.agg 2 (ia g)) ?_
   rw [two_fn]
   first | exact (if_pos ⟨h, by omega, by omega⟩).symm | exact (if_neg (fun q => by omega)).symm
theorem on_out (s f r : Int) (h : ¬ (0 ≤ s ∧ s < 64)) : WR AM 83 [.agg 3 (lc [.int .i64 (-1), .int .i64 (-1), .bool false]), .s (.int .i64 f), .s (.int .i64 r)] [] (fun v _ _ => v = .agg 2 (ia (onM s f r))) := by
 refine WR_fn (a := a83) rfl rfl (entryF _) (entry_E (Nat.le_of_ble_eq_true rfl)) (m := 0) rfl ?_
 refine WP_seq ?_
 refine WP_ops ?_
 refine WO_boxA rfl ?_
 refine WO_allocI ?_
 refine WO_nil ?_
 refine WP_seq ?_
 refine WP_seq ?_
 refine WP_ops ?_
 refine WO_fa (o' := 2) rfl rfl rfl ?_
 refine WO_ldS (x := .bool _) rfl rfl (.tail _ (.head _)) rfl ?_
 refine WO_un (r := .bool _) rfl rfl ?_
 refine WO_mv (v := .s (.bool _)) rfl ?_
 refine WO_gf rfl rfl ?_
 refine WO_gf rfl rfl ?_
 refine WO_gf rfl rfl ?_
 refine WO_gf rfl rfl ?_
 refine WO_pick (v := .s (.bool _)) rfl rfl ?_
 refine WO_mv (v := .s (.bool _)) rfl ?_
 refine WO_gf rfl rfl ?_
 refine WO_gf rfl rfl ?_
 refine WO_gf rfl rfl ?_
 refine WO_gf rfl rfl ?_
 refine WO_pick (v := .s (.bool _)) rfl rfl ?_
 refine WO_nil ?_
 refine WP_cond rfl (fun _ => ?_) (fun h => nomatch h)
 refine WP_seq ?_
 refine WP_ops ?_
 refine WO_buildI rfl (.one rfl (.one rfl .nil)) ?_
 refine WO_stA rfl rfl rfl rfl .here ?_
 refine WO_nil ?_
 refine WP_ret ?_
 refine ⟨_, RS_cell rfl rfl (.head _) (RS_nil), ?_⟩
 refine congrArg (fun g => V.agg 2 (ia g)) ?_
 rw [two_fn]
 first | exact (if_pos ⟨h, by omega, by omega⟩).symm | exact (if_neg (fun q => by omega)).symm
theorem onM_bd (s : Int) {f r : Int} (i : Nat) : -9223372036854775808 ≤ onM s f r i ∧ onM s f r i ≤ 9223372036854775807 := by
  unfold onM
  split
  · dsimp only; split
    · omega
    · split <;> omega
  · dsimp only; split
    · omega
    · split <;> omega
theorem onM_at (s f r : Int) : atM (onM s f r 0) (onM s f r 1) = stepM s f r := by
  unfold onM stepM
  by_cases h : (0 ≤ s ∧ s < 64) ∧ (-8 < f ∧ f < 8) ∧ (-8 < r ∧ r < 8)
  · rw [if_pos h, if_pos h]; rfl
  · rw [if_neg h, if_neg h]; rfl

theorem Step_in (s f r : Int) (h : 0 ≤ s ∧ s < 64) : WR AM 33 [.s (.int .i64 s), .s (.int .i64 f), .s (.int .i64 r)] [] (fun v _ _ => v = .s (.int .i64 (stepM s f r))) := by
 refine WR_fn (a := a33) rfl rfl (entryF _) (entry_E (Nat.le_of_ble_eq_true rfl)) (m := 0) rfl ?_
 refine WP_seq ?_
 refine WP_ops ?_
 refine WO_mv rfl ?_
 refine WO_nil ?_
 refine WP_seq ?_
 refine WP_ops ?_
 refine WO_mv (v := .s (.int _ _)) rfl ?_
 refine WO_call0 rfl (of_in _ h) rfl rfl rfl ?_
 refine WO_mv (v := .s (.int _ _)) rfl ?_
 refine WO_mv (v := .s (.int _ _)) rfl ?_
 refine WO_call0 rfl (RF_of (on_in _ _ _ h)) rfl rfl rfl ?_
 refine WO_call0 rfl (RF_of (number_run _ (onM_bd s 0) (onM_bd s 1))) rfl rfl rfl ?_
 refine WO_mv (v := .s (.int _ _)) rfl ?_
 refine WO_nil ?_
 refine WP_ret ?_
 refine ⟨_, RS_tmp (v := .s (.int _ _)) rfl (RS_nil), ?_⟩
 exact congrArg (fun b => V.s (S.int .i64 b)) (onM_at s f r)
theorem Step_out (s f r : Int) (h : ¬ (0 ≤ s ∧ s < 64)) : WR AM 33 [.s (.int .i64 s), .s (.int .i64 f), .s (.int .i64 r)] [] (fun v _ _ => v = .s (.int .i64 (stepM s f r))) := by
 refine WR_fn (a := a33) rfl rfl (entryF _) (entry_E (Nat.le_of_ble_eq_true rfl)) (m := 0) rfl ?_
 refine WP_seq ?_
 refine WP_ops ?_
 refine WO_mv rfl ?_
 refine WO_nil ?_
 refine WP_seq ?_
 refine WP_ops ?_
 refine WO_mv (v := .s (.int _ _)) rfl ?_
 refine WO_call0 rfl (of_out _ h) rfl rfl rfl ?_
 refine WO_mv (v := .s (.int _ _)) rfl ?_
 refine WO_mv (v := .s (.int _ _)) rfl ?_
 refine WO_call0 rfl (RF_of (on_out _ _ _ h)) rfl rfl rfl ?_
 refine WO_call0 rfl (RF_of (number_run _ (onM_bd s 0) (onM_bd s 1))) rfl rfl rfl ?_
 refine WO_mv (v := .s (.int _ _)) rfl ?_
 refine WO_nil ?_
 refine WP_ret ?_
 refine ⟨_, RS_tmp (v := .s (.int _ _)) rfl (RS_nil), ?_⟩
 exact congrArg (fun b => V.s (S.int .i64 b)) (onM_at s f r)
theorem Step_run (s f r : Int) : RF AM 33 [.s (.int .i64 s), .s (.int .i64 f), .s (.int .i64 r)] (.s (.int .i64 (stepM s f r))) := by
  by_cases h : 0 ≤ s ∧ s < 64
  · exact RF_of (Step_in s f r h)
  · exact RF_of (Step_out s f r h)

/-- Some number below n. -/
def pickM (x n : Int) : Int := if x.tmod n < 0 then x.tmod n + n else x.tmod n

theorem tmod_bd (x : Int) {n : Int} (h : 1 ≤ n) : -n < x.tmod n ∧ x.tmod n < n :=
  ⟨by have h1 := Int.tmod_lt_of_pos (-x) (by omega : (0 : Int) < n); have h2 := Int.neg_tmod x n; omega, Int.tmod_lt_of_pos x (by omega)⟩

theorem pickM_bd (x : Int) {n : Int} (h : 1 ≤ n) : 0 ≤ pickM x n ∧ pickM x n < n := by
  have := tmod_bd x h
  unfold pickM
  split <;> omega

theorem Pick_run (x n : Int) (h1 : 1 ≤ n) (h2 : n ≤ 4611686018427387904) : WR AM 30 [.s (.int .i64 x), .s (.int .i64 n)] [] (fun v _ _ => v = .s (.int .i64 (pickM x n))) := by
 have hb := tmod_bd x h1
 refine WR_fn (a := a30) rfl rfl (entryF _) (entry_E (Nat.le_of_ble_eq_true rfl)) (m := 0) rfl ?_
 refine WP_seq ?_
 refine WP_ops ?_
 refine WO_mv rfl ?_
 refine WO_nil ?_
 refine WP_seq ?_
 refine WP_seq ?_
 refine WP_ops ?_
 refine WO_mv (v := .s (.int _ _)) rfl ?_
 refine WO_bin (r := .bool _) rfl rfl rfl ?_
 refine WO_nil ?_
 refine WP_cond rfl (fun h7 => ?_) (fun h7 => ?_)
 ·try simp only [NM] at h7
  exfalso; omega
 ·try simp only [NM] at h7
  refine WP_skip ?_
  refine WP_seq ?_
  refine WP_ops ?_
  refine WO_mv (v := .s (.int _ _)) rfl ?_
  refine WO_mv (v := .s (.int _ _)) rfl ?_
  refine WO_remT rfl rfl (by omega) ?_
  refine WO_mv (v := .s (.int _ _)) rfl ?_
  refine WO_nil ?_
  refine WP_seq ?_
  refine WP_seq ?_
  refine WP_ops ?_
  refine WO_mv (v := .s (.int _ _)) rfl ?_
  refine WO_bin (r := .bool _) rfl rfl rfl ?_
  refine WO_nil ?_
  refine WP_cond rfl (fun h8 => ?_) (fun h8 => ?_)
  ·try simp only [NM] at h8
   refine WP_ops ?_
   refine WO_mv (v := .s (.int _ _)) rfl ?_
   refine WO_mv (v := .s (.int _ _)) rfl ?_
   refine WO_add rfl rfl (by omega) ?_
   refine WO_mv (v := .s (.int _ _)) rfl ?_
   refine WO_nil ?_
   refine WP_seq ?_
   refine WP_ops ?_
   refine WO_mv (v := .s (.int _ _)) rfl ?_
   refine WO_mv (v := .s (.int _ _)) rfl ?_
   refine WO_nil ?_
   refine WP_ret ?_
   refine ⟨_, RS_tmp (v := .s (.int _ _)) rfl (RS_nil), ?_⟩
   exact congrArg (fun b => V.s (S.int .i64 b)) (by unfold pickM; split <;> first | rfl | (exfalso; omega))
  ·try simp only [NM] at h8
   refine WP_skip ?_
   refine WP_seq ?_
   refine WP_ops ?_
   refine WO_mv (v := .s (.int _ _)) rfl ?_
   refine WO_mv (v := .s (.int _ _)) rfl ?_
   refine WO_nil ?_
   refine WP_ret ?_
   refine ⟨_, RS_tmp (v := .s (.int _ _)) rfl (RS_nil), ?_⟩
   exact congrArg (fun b => V.s (S.int .i64 b)) (by unfold pickM; split <;> first | rfl | (exfalso; omega))
end Go.Proofs.Ytjldefmcnppdoaa
/- The walks of the chapter play: the parts. -/
namespace Go.Proofs.Ytjldefmcnppdoaa
open Go Go.Am
set_option linter.unusedSimpArgs false
set_option linter.unusedVariables false
/-- The cell of a square; is it empty? -/
def emptyM (P : Nat → Int) (x : Int) : Bool := eqI 2 (dp P (sqI x)) (fun _ => 0)
/-- A piece. -/
def pc (k c : Int) : Nat → Int := fun i => if i = 0 then k else c
def nopc : Nat → Int := fun _ => 0

/-- Where a move takes. -/
def atT (P : Nat → Int) (k a t : Int) : Int := if k = 1 ∧ t % 8 ≠ a % 8 ∧ t = P 130 ∧ emptyM P t = true then a / 8 * 8 + t % 8 else t
def takesM (P : Nat → Int) (k a t : Int) : Int := if emptyM P (atT P k a t) = true then -1 else atT P k a t
def shortM (c : Int) : Int := if c = 0 then 1 else 4
def castlingM (k a t c C : Int) : Int := if k = 6 ∧ a = 56 * c + 4 ∧ t = a + 2 ∧ C / shortM c % 2 = 1 then 1 else if k = 6 ∧ a = 56 * c + 4 ∧ t = a - 2 ∧ C / (2 * shortM c) % 2 = 1 then -1 else 0
def longM (k a t c : Int) : Bool := decide (k = 1 ∧ t % 8 = a % 8 ∧ a / 8 = 1 + 5 * c ∧ t / 8 = a / 8 + 2 * (1 - 2 * c))
def castM (P : Nat → Int) : Int := if P 129 < 0 ∨ 15 < P 129 then 0 else P 129
def lostM (s : Int) : Int := if 4 = s then 3 else if 7 = s then 1 else if 0 = s then 2 else if 60 = s then 12 else if 63 = s then 4 else if 56 = s then 8 else 0
def orM (x y : Int) : Int := IntKind.i64.wrap (BitVec.ofInt 64 x ||| BitVec.ofInt 64 y).toNat
def andM (x y : Int) : Int := IntKind.i64.wrap (BitVec.ofInt 64 x &&& BitVec.ofInt 64 y).toNat
def andNotM (x y : Int) : Int := IntKind.i64.wrap (BitVec.ofInt 64 x &&& ~~~(BitVec.ofInt 64 y)).toNat
/-- Castlings without some. -/
def bitM (c s k : Int) : Int := if c / k % 2 = 1 ∧ s / k % 2 = 0 then k else 0
def withoutM (c s : Int) : Int := bitM c s 1 + bitM c s 2 + bitM c s 4 + bitM c s 8
/-- May the move be made? -/
def canM (P : Nat → Int) (a t b : Int) : Bool := decide (1 ≤ P (sqI a) ∧ P (sqI a) ≤ 6 ∧ P (sqI a + 1) = P 128 ∧ (P (sqI a + 1) = 0 ∨ P (sqI a + 1) = 1) ∧ (if P (sqI a) = 1 ∧ t / 8 = 7 * (1 - P (sqI a + 1)) then 2 ≤ b ∧ b ≤ 5 else b = 0))
def errM (P : Nat → Int) (a t b : Int) : Int := if (0 ≤ a ∧ a < 64) ∧ (0 ≤ t ∧ t < 64) ∧ a ≠ t then (if canM P a t b = true then 0 else 8) else 6

/-- The squares behind a move, part by part. -/
def brd1 (P : Nat → Int) (w : Int) : Nat → Int := if 0 ≤ w then ovA P (sqI w) 2 nopc else P
def brd2 (P : Nat → Int) (w a : Int) : Nat → Int := ovA (brd1 P w) (sqI a) 2 nopc
def brd3 (P : Nat → Int) (w a t k c b : Int) : Nat → Int := ovA (brd2 P w a) (sqI t) 2 (pc (if b = 0 then k else b) c)
def brd4 (P : Nat → Int) (w a t k c b g : Int) : Nat → Int :=
  if g = 1 then ovA (ovA (brd3 P w a t k c b) (sqI (a + 3)) 2 nopc) (sqI (a + 1)) 2 (pc 4 c)
  else if g = -1 then ovA (ovA (brd3 P w a t k c b) (sqI (a - 4)) 2 nopc) (sqI (a - 1)) 2 (pc 4 c) else brd3 P w a t k c b
def overM (k a t c : Int) : Int := if longM k a t c = true then (a + t) / 2 else -1
def halfM (P : Nat → Int) (k w : Int) : Int := if k = 1 ∨ 0 ≤ w then 0 else IntKind.i64.wrap (min (P 131) 1023 + 1)
def fullM (P : Nat → Int) : Int := if P 128 = 1 then IntKind.i64.wrap (min (P 132) 16383 + 1) else P 132
/-- The position behind a move that can be made. -/
def afterM (P : Nat → Int) (k c a t b C : Int) : Nat → Int := fun i =>
  if i < 128 then brd4 P (takesM P k a t) a t k c b (castlingM k a t c C) i else if i = 128 then otherM (P 128) else if i = 129 then andNotM C (orM (orM 0 (lostM a)) (lostM t))
  else if i = 130 then overM k a t c else if i = 131 then halfM P k (takesM P k a t) else if i = 132 then fullM P else 0
def moveM (P : Nat → Int) (a t b : Int) : Nat → Int := if errM P a t b = 0 then afterM P (P (sqI a)) (P (sqI a + 1)) a t b (castM P) else fun _ => 0

theorem errM_out {P : Nat → Int} {a t b : Int} (h : ¬ ((0 ≤ a ∧ a < 64) ∧ (0 ≤ t ∧ t < 64) ∧ a ≠ t)) : errM P a t b = 6 := if_neg h
theorem errM_not {P : Nat → Int} {a t b : Int} (h : (0 ≤ a ∧ a < 64) ∧ (0 ≤ t ∧ t < 64) ∧ a ≠ t) (hc : canM P a t b = false) : errM P a t b = 8 := by
  rw [errM, if_pos h, hc]; rfl
theorem errM_ok {P : Nat → Int} {a t b : Int} (h : (0 ≤ a ∧ a < 64) ∧ (0 ≤ t ∧ t < 64) ∧ a ≠ t) (hc : canM P a t b = true) : errM P a t b = 0 := by
  rw [errM, if_pos h, hc]; rfl
theorem atT_bd {P : Nat → Int} {k a t : Int} (ha : 0 ≤ a ∧ a < 64) (ht : 0 ≤ t ∧ t < 64) : 0 ≤ atT P k a t ∧ atT P k a t < 64 := by
  unfold atT; split <;> omega
theorem takesM_bd {P : Nat → Int} {k a t : Int} (ha : 0 ≤ a ∧ a < 64) (ht : 0 ≤ t ∧ t < 64) : -1 ≤ takesM P k a t ∧ takesM P k a t < 64 := by
  have := atT_bd (P := P) (k := k) ha ht
  unfold takesM; split <;> omega
theorem cast_shl1 {c : Int} (h : c = 0 ∨ c = 1) : binS .shl (.int .i64 1) (.int .i64 (2 * c)) = some (.int .i64 (shortM c)) := by
  rcases h with rfl | rfl <;> rfl
theorem cast_shl2 {c : Int} (h : c = 0 ∨ c = 1) : binS .shl (.int .i64 (shortM c)) (.int .u64 1) = some (.int .i64 (2 * shortM c)) := by
  rcases h with rfl | rfl <;> rfl
theorem and_bit : ∀ C : Fin 16, ∀ s ∈ [1, 2, 4, 8], (andM (C.val : Int) s ≠ 0 ↔ (C.val : Int) / s % 2 = 1) := by decide +kernel
theorem and_is {C s : Int} (h : 0 ≤ C ∧ C ≤ 15) (hs : s = 1 ∨ s = 2 ∨ s = 4 ∨ s = 8) : andM C s ≠ 0 ↔ C / s % 2 = 1 := by
  obtain ⟨n, rfl⟩ : ∃ n : Nat, C = n := ⟨C.toNat, by omega⟩
  exact and_bit ⟨n, by omega⟩ s (by simp; omega)
theorem lost_in (s : Int) : lostM s ∈ [0, 1, 2, 3, 4, 8, 12] := by
  unfold lostM
  repeat' split
  all_goals decide
theorem castM_bd (P : Nat → Int) : 0 ≤ castM P ∧ castM P ≤ 15 := by
  unfold castM; split <;> omega
theorem emptyM_iff {P : Nat → Int} {x : Int} : emptyM P x = true ↔ P (sqI x) = 0 ∧ P (sqI x + 1) = 0 := by
  unfold emptyM
  rw [eqI_iff]
  constructor
  · intro h; exact ⟨h 0 (by omega), h 1 (by omega)⟩
  · rintro ⟨h0, h1⟩ i hi
    have : i = 0 ∨ i = 1 := by omega
    rcases this with rfl | rfl
    · exact h0
    · exact h1
theorem emptyM_same {P Q : Nat → Int} {x : Int} (hx : 0 ≤ x ∧ x < 64) (h : ∀ i, i < 128 → P i = Q i) : emptyM P x = emptyM Q x := by
  have e : sqI x + 1 < 128 := by show 0 + x.toNat * 2 + 1 < 128; omega
  rw [Bool.eq_iff_iff, emptyM_iff, emptyM_iff, h _ (by omega), h _ e]
theorem atT_same {P Q : Nat → Int} {k a t : Int} (ht : 0 ≤ t ∧ t < 64) (h : ∀ i, i < 128 → P i = Q i) (h130 : P 130 = Q 130) : atT P k a t = atT Q k a t := by
  unfold atT
  rw [emptyM_same ht h, h130]
theorem takesM_same {P Q : Nat → Int} {k a t : Int} (ha : 0 ≤ a ∧ a < 64) (ht : 0 ≤ t ∧ t < 64) (h : ∀ i, i < 128 → P i = Q i) (h130 : P 130 = Q 130) : takesM P k a t = takesM Q k a t := by
  unfold takesM
  rw [atT_same ht h h130, emptyM_same (atT_bd ha ht) h]

theorem File_sq {x : Int} (h : 0 ≤ x ∧ x < 64) : RF AM 37 [.s (.int .i64 x)] (.s (.int .i64 (x % 8))) := by
  have := File_run x
  rw [fileM, if_pos h] at this
  exact this
theorem Rank_sq {x : Int} (h : 0 ≤ x ∧ x < 64) : RF AM 38 [.s (.int .i64 x)] (.s (.int .i64 (x / 8))) := by
  have := Rank_run x
  rw [rankM, if_pos h] at this
  exact this

/-- The bits below k. -/
def upM (c s k : Int) : Int := if k ≤ 1 then 0 else if k ≤ 2 then bitM c s 1 else if k ≤ 4 then bitM c s 1 + bitM c s 2 else if k ≤ 8 then bitM c s 1 + bitM c s 2 + bitM c s 4 else withoutM c s
end Go.Proofs.Ytjldefmcnppdoaa
/- The walks of the chapter play: the hand. -/
namespace Go.Proofs.Ytjldefmcnppdoaa
open Go Go.Am
set_option linter.unusedSimpArgs false
set_option linter.unusedVariables false
theorem turns_run {md : Md} (H : Nat → Int) (ha : 0 ≤ H 133 ∧ H 133 < 64) (ht : 0 ≤ H 134 ∧ H 134 < 64) : WR AM 119 [.ptr 0 0 138] [.sc md 138 (ia H)] (fun v _ L => v = .s (.int .i64 (H 134 % 8 - H 133 % 8)) ∧ (0, Blk.sc md 138 (ia H)) ∈ L) := by
 refine WR_fn (a := a119) rfl rfl (entryF _) (entry_E (Nat.le_of_ble_eq_true rfl)) (m := 1) rfl ?_
 refine WP_seq ?_
 refine WP_ops ?_
 refine WO_mv rfl ?_
 refine WO_nil ?_
 refine WP_seq ?_
 refine WP_ops ?_
 refine WO_mv (v := .ptr _ _ _) rfl ?_
 refine WO_nilckP rfl ?_
 refine WO_fa (o' := 133) rfl rfl rfl ?_
 refine WO_fa (o' := 134) rfl rfl rfl ?_
 refine WO_ldI rfl rfl (.head _) rfl ?_
 refine WO_callq0 rfl (File_sq (by omega)) rfl rfl rfl ?_
 refine WO_mv (v := .ptr _ _ _) rfl ?_
 refine WO_nilckP rfl ?_
 refine WO_fa (o' := 133) rfl rfl rfl ?_
 refine WO_fa (o' := 133) rfl rfl rfl ?_
 refine WO_ldI rfl rfl (.head _) rfl ?_
 refine WO_call0 rfl (File_sq (by omega)) rfl rfl rfl ?_
 refine WO_sub rfl rfl (by omega) ?_
 refine WO_mv (v := .s (.int _ _)) rfl ?_
 refine WO_nil ?_
 refine WP_ret ?_
 refine ⟨_, RS_tmp (v := .s (.int _ _)) rfl (RS_nil), ?_⟩
 exact ⟨rfl, (.head _)⟩
theorem takes_run {md : Md} (H : Nat → Int) (ha : 0 ≤ H 133 ∧ H 133 < 64) (ht : 0 ≤ H 134 ∧ H 134 < 64) : WR AM 104 [.ptr 0 0 138] [.sc md 138 (ia H)] (fun v _ L => v = .s (.int .i64 (takesM H (H 136) (H 133) (H 134))) ∧ (0, Blk.sc md 138 (ia H)) ∈ L) := by
 refine WR_fn (a := a104) rfl rfl (entryF _) (entry_E (Nat.le_of_ble_eq_true rfl)) (m := 1) rfl ?_
 refine WP_seq ?_
 refine WP_ops ?_
 refine WO_mv rfl ?_
 refine WO_nil ?_
 refine WP_seq ?_
 refine WP_ops ?_
 refine WO_mv (v := .ptr _ _ _) rfl ?_
 refine WO_nilckP rfl ?_
 refine WO_fa (o' := 133) rfl rfl rfl ?_
 refine WO_fa (o' := 134) rfl rfl rfl ?_
 refine WO_ldI rfl rfl (.head _) rfl ?_
 refine WO_mv (v := .s (.int _ _)) rfl ?_
 refine WO_nil ?_
 refine WP_cut (fun f n L => (f 0 = .ptr 0 0 138) ∧ (f 3 = .s (.int .i64 (atT H (H 136) (H 133) (H 134)))) ∧ (L = [(0, .sc md 138 (ia H))]) ∧ (n = 1)) ?_ (fun f nb L hI => ?_)
 ·skip
  refine WP_seq ?_
  refine WP_ops ?_
  refine WO_mv (v := .ptr _ _ _) rfl ?_
  refine WO_nilckP rfl ?_
  refine WO_fa (o' := 136) rfl rfl rfl ?_
  refine WO_fa (o' := 136) rfl rfl rfl ?_
  refine WO_ldI rfl rfl (.head _) rfl ?_
  refine WO_bin (r := .bool _) rfl rfl rfl ?_
  refine WO_mv (v := .s (.bool _)) rfl ?_
  refine WO_case (t := 15) rfl (fun h1 => ?_) (fun h1 => ?_)
  ·try simp only [NM] at h1
   try simp only [isM, decide_eq_true_eq, decide_eq_false_iff_not] at h1
   refine WO_gt rfl ?_
   refine WO_mv (v := .ptr _ _ _) rfl ?_
   refine WO_gt rfl ?_
   refine WO_callP rfl (RB_of1 (turns_run H ha ht)) rfl rfl rfl .here ?_
   refine WO_gt rfl ?_
   refine WO_bin (r := .bool _) rfl rfl rfl ?_
   refine WO_pick (v := .s (.bool _)) rfl rfl ?_
   refine WO_mv (v := .s (.bool _)) rfl ?_
   refine WO_case (t := 20) rfl (fun h2 => ?_) (fun h2 => ?_)
   ·try simp only [NM] at h2
    try simp only [isM, decide_eq_true_eq, decide_eq_false_iff_not] at h2
    refine WO_gt rfl ?_
    refine WO_mv (v := .s (.int _ _)) rfl ?_
    refine WO_gt rfl ?_
    refine WO_mv (v := .ptr _ _ _) rfl ?_
    refine WO_gt rfl ?_
    refine WO_nilckP rfl ?_
    refine WO_gt rfl ?_
    refine WO_fa (o' := 0) rfl rfl rfl ?_
    refine WO_gt rfl ?_
    refine WO_fa (o' := 130) rfl rfl rfl ?_
    refine WO_gt rfl ?_
    refine WO_ldI rfl rfl (.head _) rfl ?_
    refine WO_gt rfl ?_
    refine WO_bin (r := .bool _) rfl rfl rfl ?_
    refine WO_pick (v := .s (.bool _)) rfl rfl ?_
    refine WO_mv (v := .s (.bool _)) rfl ?_
    refine WO_case (t := 29) rfl (fun h3 => ?_) (fun h3 => ?_)
    ·try simp only [NM] at h3
     try simp only [isM, decide_eq_true_eq, decide_eq_false_iff_not] at h3
     refine WO_gt rfl ?_
     refine WO_mv (v := .ptr _ _ _) rfl ?_
     refine WO_gt rfl ?_
     refine WO_mv (v := .s (.int _ _)) rfl ?_
     refine WO_gt rfl ?_
     refine WO_nilckP rfl ?_
     refine WO_gt rfl ?_
     refine WO_fa (o' := 0) rfl rfl rfl ?_
     refine WO_gt rfl ?_
     refine WO_fa (o' := 0) rfl rfl rfl ?_
     refine WO_gt rfl ?_
     refine WO_ixa rfl rfl rfl (by omega) ?_
     refine WO_gt rfl ?_
     first | refine WO_ldA0 rfl rfl (.head _) ?_ | refine WO_ldAI rfl rfl (.head _) ?_
     refine WO_gt rfl ?_
     refine WO_buildI rfl .nil ?_
     refine WO_gt rfl ?_
     refine WO_eqa rfl rfl ?_
     refine WO_pick (v := .s (.bool _)) rfl rfl ?_
     refine WO_nil ?_
     refine WP_cond rfl (fun h4 => ?_) (fun h4 => ?_)
     ·try simp only [NM] at h4
      try simp only [isM, decide_eq_true_eq, decide_eq_false_iff_not] at h4
      refine WP_ops ?_
      refine WO_mv (v := .s (.int _ _)) rfl ?_
      refine WO_callq0 rfl (File_sq (by omega)) rfl rfl rfl ?_
      refine WO_mv (v := .ptr _ _ _) rfl ?_
      refine WO_nilckP rfl ?_
      refine WO_fa (o' := 133) rfl rfl rfl ?_
      refine WO_fa (o' := 133) rfl rfl rfl ?_
      refine WO_ldI rfl rfl (.head _) rfl ?_
      refine WO_call0 rfl (Rank_sq (by omega)) rfl rfl rfl ?_
      refine WO_call0 rfl (RF_of (At_run _ _ (by omega) (by omega))) rfl rfl rfl ?_
      refine WO_mv (v := .s (.int _ _)) rfl ?_
      refine WO_nil ?_
      refine ⟨_, (.cons_cons _ .slnil), rfl, ?_, rfl, rfl⟩
      refine congrArg (fun b => V.s (S.int .i64 b)) ?_
      first | (rw [atT, if_pos ⟨by omega, by omega, by omega, by assumption⟩, atM, if_pos (by omega)]; done) | (rw [atT, if_neg (fun q => by omega)]; done) | (rw [atT, if_neg (fun q => Bool.false_ne_true ((show emptyM H (H 134) = false from (by assumption)).symm.trans q.2.2.2))]; done)
     ·try simp only [NM] at h4
      try simp only [isM, decide_eq_true_eq, decide_eq_false_iff_not] at h4
      refine WP_skip ?_
      refine ⟨_, (.cons_cons _ .slnil), rfl, ?_, rfl, rfl⟩
      refine congrArg (fun b => V.s (S.int .i64 b)) ?_
      first | (rw [atT, if_pos ⟨by omega, by omega, by omega, by assumption⟩, atM, if_pos (by omega)]; done) | (rw [atT, if_neg (fun q => by omega)]; done) | (rw [atT, if_neg (fun q => Bool.false_ne_true ((show emptyM H (H 134) = false from (by assumption)).symm.trans q.2.2.2))]; done)
    ·try simp only [NM] at h3
     try simp only [isM, decide_eq_true_eq, decide_eq_false_iff_not] at h3
     refine WO_gf rfl rfl ?_
     refine WO_gf rfl rfl ?_
     refine WO_gf rfl rfl ?_
     refine WO_gf rfl rfl ?_
     refine WO_gf rfl rfl ?_
     refine WO_gf rfl rfl ?_
     refine WO_gf rfl rfl ?_
     refine WO_gf rfl rfl ?_
     refine WO_gf rfl rfl ?_
     refine WO_pick (v := .s (.bool _)) rfl rfl ?_
     refine WO_nil ?_
     refine WP_cond rfl (fun h => nomatch h) (fun _ => ?_)
     refine WP_skip ?_
     refine ⟨_, (.cons_cons _ .slnil), rfl, ?_, rfl, rfl⟩
     refine congrArg (fun b => V.s (S.int .i64 b)) ?_
     first | (rw [atT, if_pos ⟨by omega, by omega, by omega, by assumption⟩, atM, if_pos (by omega)]; done) | (rw [atT, if_neg (fun q => by omega)]; done) | (rw [atT, if_neg (fun q => Bool.false_ne_true ((show emptyM H (H 134) = false from (by assumption)).symm.trans q.2.2.2))]; done)
   ·try simp only [NM] at h2
    try simp only [isM, decide_eq_true_eq, decide_eq_false_iff_not] at h2
    refine WO_gf rfl rfl ?_
    refine WO_gf rfl rfl ?_
    refine WO_gf rfl rfl ?_
    refine WO_gf rfl rfl ?_
    refine WO_gf rfl rfl ?_
    refine WO_gf rfl rfl ?_
    refine WO_gf rfl rfl ?_
    refine WO_pick (v := .s (.bool _)) rfl rfl ?_
    refine WO_mv (v := .s (.bool _)) rfl ?_
    refine WO_gf rfl rfl ?_
    refine WO_gf rfl rfl ?_
    refine WO_gf rfl rfl ?_
    refine WO_gf rfl rfl ?_
    refine WO_gf rfl rfl ?_
    refine WO_gf rfl rfl ?_
    refine WO_gf rfl rfl ?_
    refine WO_gf rfl rfl ?_
    refine WO_gf rfl rfl ?_
    refine WO_pick (v := .s (.bool _)) rfl rfl ?_
    refine WO_nil ?_
    refine WP_cond rfl (fun h => nomatch h) (fun _ => ?_)
    refine WP_skip ?_
    refine ⟨_, (.cons_cons _ .slnil), rfl, ?_, rfl, rfl⟩
    refine congrArg (fun b => V.s (S.int .i64 b)) ?_
    first | (rw [atT, if_pos ⟨by omega, by omega, by omega, by assumption⟩, atM, if_pos (by omega)]; done) | (rw [atT, if_neg (fun q => by omega)]; done) | (rw [atT, if_neg (fun q => Bool.false_ne_true ((show emptyM H (H 134) = false from (by assumption)).symm.trans q.2.2.2))]; done)
  ·try simp only [NM] at h1
   try simp only [isM, decide_eq_true_eq, decide_eq_false_iff_not] at h1
   refine WO_gf rfl rfl ?_
   refine WO_gf rfl rfl ?_
   refine WO_gf rfl rfl ?_
   refine WO_pick (v := .s (.bool _)) rfl rfl ?_
   refine WO_mv (v := .s (.bool _)) rfl ?_
   refine WO_gf rfl rfl ?_
   refine WO_gf rfl rfl ?_
   refine WO_gf rfl rfl ?_
   refine WO_gf rfl rfl ?_
   refine WO_gf rfl rfl ?_
   refine WO_gf rfl rfl ?_
   refine WO_gf rfl rfl ?_
   refine WO_pick (v := .s (.bool _)) rfl rfl ?_
   refine WO_mv (v := .s (.bool _)) rfl ?_
   refine WO_gf rfl rfl ?_
   refine WO_gf rfl rfl ?_
   refine WO_gf rfl rfl ?_
   refine WO_gf rfl rfl ?_
   refine WO_gf rfl rfl ?_
   refine WO_gf rfl rfl ?_
   refine WO_gf rfl rfl ?_
   refine WO_gf rfl rfl ?_
   refine WO_gf rfl rfl ?_
   refine WO_pick (v := .s (.bool _)) rfl rfl ?_
   refine WO_nil ?_
   refine WP_cond rfl (fun h => nomatch h) (fun _ => ?_)
   refine WP_skip ?_
   refine ⟨_, (.cons_cons _ .slnil), rfl, ?_, rfl, rfl⟩
   refine congrArg (fun b => V.s (S.int .i64 b)) ?_
   first | (rw [atT, if_pos ⟨by omega, by omega, by omega, by assumption⟩, atM, if_pos (by omega)]; done) | (rw [atT, if_neg (fun q => by omega)]; done) | (rw [atT, if_neg (fun q => Bool.false_ne_true ((show emptyM H (H 134) = false from (by assumption)).symm.trans q.2.2.2))]; done)
 ·skip
  obtain ⟨k0, k3, rfl, rfl⟩ := hI
  refine WP_know (d := 0) (v := .ptr 0 0 138) k0 ?_
  refine WP_know (d := 3) (v := .s (.int .i64 (atT H (H 136) (H 133) (H 134)))) k3 ?_
  have hat := atT_bd (P := H) (k := H 136) ha ht
  refine WP_seq ?_
  refine WP_seq ?_
  refine WP_ops ?_
  refine WO_mv (v := .ptr _ _ _) rfl ?_
  refine WO_mv (v := .s (.int _ _)) rfl ?_
  refine WO_nilckP rfl ?_
  refine WO_fa (o' := 0) rfl rfl rfl ?_
  refine WO_fa (o' := 0) rfl rfl rfl ?_
  refine WO_ixa rfl rfl rfl (by omega) ?_
  first | refine WO_ldA0 rfl rfl (.head _) ?_ | refine WO_ldAI rfl rfl (.head _) ?_
  refine WO_buildI rfl .nil ?_
  refine WO_eqa rfl rfl ?_
  refine WO_nil ?_
  refine WP_cond rfl (fun h5 => ?_) (fun h5 => ?_)
  ·try simp only [NM] at h5
   try simp only [isM, decide_eq_true_eq, decide_eq_false_iff_not] at h5
   refine WP_seq ?_
   refine WP_ops ?_
   refine WO_mv rfl ?_
   refine WO_nil ?_
   refine WP_ret ?_
   refine ⟨_, RS_tmp (v := .s (.int _ _)) rfl (RS_nil), ?_⟩
   refine ⟨congrArg (fun b => V.s (S.int .i64 b)) ?_, (.head _)⟩
   first | (rw [takesM, show emptyM H (atT H (H 136) (H 133) (H 134)) = true from (by assumption)]; rfl) | (rw [takesM, show emptyM H (atT H (H 136) (H 133) (H 134)) = false from (by assumption)]; rfl)
  ·try simp only [NM] at h5
   try simp only [isM, decide_eq_true_eq, decide_eq_false_iff_not] at h5
   refine WP_skip ?_
   refine WP_seq ?_
   refine WP_ops ?_
   refine WO_mv (v := .s (.int _ _)) rfl ?_
   refine WO_mv (v := .s (.int _ _)) rfl ?_
   refine WO_nil ?_
   refine WP_ret ?_
   refine ⟨_, RS_tmp (v := .s (.int _ _)) rfl (RS_nil), ?_⟩
   refine ⟨congrArg (fun b => V.s (S.int .i64 b)) ?_, (.head _)⟩
   first | (rw [takesM, show emptyM H (atT H (H 136) (H 133) (H 134)) = true from (by assumption)]; rfl) | (rw [takesM, show emptyM H (atT H (H 136) (H 133) (H 134)) = false from (by assumption)]; rfl)
/-- From where and to where a rook goes. -/
def RookOf (k a t c C x y : Int) (z : Bool) : Prop := (castlingM k a t c C = 1 ∧ z = true ∧ x = a + 3 ∧ y = a + 1) ∨ (castlingM k a t c C = -1 ∧ z = true ∧ x = a - 4 ∧ y = a - 1) ∨ (castlingM k a t c C = 0 ∧ z = false)
theorem rook_none {k a t c C x y : Int} (h : ¬ (k = 6 ∧ a = 56 * c + 4 ∧ (t = a + 2 ∨ t = a - 2))) : RookOf k a t c C x y false := by
  refine .inr (.inr ⟨?_, rfl⟩)
  rw [castlingM, if_neg (fun q => h ⟨q.1, q.2.1, .inl q.2.2.1⟩), if_neg (fun q => h ⟨q.1, q.2.1, .inr q.2.2.1⟩)]
theorem shortM_in {c : Int} : shortM c = 1 ∨ shortM c = 4 := by unfold shortM; split <;> omega
theorem bne_and {C s : Int} (h : 0 ≤ C ∧ C ≤ 15) (hs : s = 1 ∨ s = 2 ∨ s = 4 ∨ s = 8) : (andM C s != 0) = decide (C / s % 2 = 1) := by
  rw [Bool.eq_iff_iff, decide_eq_true_eq, ← and_is h hs, bne_iff_ne]
theorem rook_short {k a t c C : Int} (hC : 0 ≤ C ∧ C ≤ 15) (hk : k = 6) (ha : a = 56 * c + 4) (ht : t = a + 2) : RookOf k a t c C (56 * c + 4 + 3) (56 * c + 4 + 1) (andM C (shortM c) != 0) := by
  have hs := shortM_in (c := c)
  rw [bne_and hC (by omega)]
  by_cases h : C / shortM c % 2 = 1
  · refine .inl ⟨?_, decide_eq_true h, by omega, by omega⟩
    rw [castlingM, if_pos ⟨hk, ha, ht, h⟩]
  · refine .inr (.inr ⟨?_, decide_eq_false h⟩)
    rw [castlingM, if_neg (fun q => h q.2.2.2), if_neg (fun q => by omega)]
theorem rook_long {k a t c C : Int} (hC : 0 ≤ C ∧ C ≤ 15) (hk : k = 6) (ha : a = 56 * c + 4) (ht : t = a - 2) : RookOf k a t c C (56 * c + 4 - 4) (56 * c + 4 - 1) (andM C (2 * shortM c) != 0) := by
  have hs := shortM_in (c := c)
  rw [bne_and hC (by omega)]
  by_cases h : C / (2 * shortM c) % 2 = 1
  · refine .inr (.inl ⟨?_, decide_eq_true h, by omega, by omega⟩)
    rw [castlingM, if_neg (fun q => by omega), if_pos ⟨hk, ha, ht, h⟩]
  · refine .inr (.inr ⟨?_, decide_eq_false h⟩)
    rw [castlingM, if_neg (fun q => by omega), if_neg (fun q => h q.2.2.2)]

theorem rook_run {md : Md} (H : Nat → Int) (ha : 0 ≤ H 133 ∧ H 133 < 64) (ht : 0 ≤ H 134 ∧ H 134 < 64) (hc : H 137 = 0 ∨ H 137 = 1) (hC : 0 ≤ H 129 ∧ H 129 ≤ 15) : WR AM 115 [.ptr 0 0 138] [.sc md 138 (ia H)] (fun v _ L => (∃ x y z, v = .tup [.s (.int .i64 x), .s (.int .i64 y), .s (.bool z)] ∧ RookOf (H 136) (H 133) (H 134) (H 137) (H 129) x y z) ∧ (0, Blk.sc md 138 (ia H)) ∈ L) := by
 refine WR_fn (a := a115) rfl rfl (entryF _) (entry_E (Nat.le_of_ble_eq_true rfl)) (m := 1) rfl ?_
 refine WP_seq ?_
 refine WP_ops ?_
 refine WO_mv rfl ?_
 refine WO_mv rfl ?_
 refine WO_mv rfl ?_
 refine WO_nil ?_
 refine WP_seq ?_
 refine WP_ops ?_
 refine WO_mv (v := .ptr _ _ _) rfl ?_
 refine WO_nilckP rfl ?_
 refine WO_fa (o' := 136) rfl rfl rfl ?_
 refine WO_fa (o' := 137) rfl rfl rfl ?_
 refine WO_ldI rfl rfl (.head _) rfl ?_
 refine WO_mul rfl rfl (by omega) ?_
 refine WO_add rfl rfl (by omega) ?_
 refine WO_mv (v := .s (.int _ _)) rfl ?_
 refine WO_nil ?_
 refine WP_seq ?_
 refine WP_ops ?_
 refine WO_mv (v := .ptr _ _ _) rfl ?_
 refine WO_nilckP rfl ?_
 refine WO_fa (o' := 136) rfl rfl rfl ?_
 refine WO_fa (o' := 137) rfl rfl rfl ?_
 refine WO_ldI rfl rfl (.head _) rfl ?_
 refine WO_mul rfl rfl (by omega) ?_
 refine WO_bin rfl rfl (cast_shl1 hc) ?_
 refine WO_mv (v := .s (.int _ _)) rfl ?_
 refine WO_nil ?_
 refine WP_seq ?_
 refine WP_block ?_
 refine WP_seq ?_
 refine WP_ops ?_
 refine WO_mv (v := .ptr _ _ _) rfl ?_
 refine WO_nilckP rfl ?_
 refine WO_fa (o' := 136) rfl rfl rfl ?_
 refine WO_fa (o' := 136) rfl rfl rfl ?_
 refine WO_ldI rfl rfl (.head _) rfl ?_
 refine WO_bin (r := .bool _) rfl rfl rfl ?_
 refine WO_mv (v := .s (.bool _)) rfl ?_
 refine WO_case (t := 28) rfl (fun h6 => ?_) (fun h6 => ?_)
 ·try simp only [NM] at h6
  try simp only [isM, decide_eq_true_eq, decide_eq_false_iff_not] at h6
  refine WO_gf rfl rfl ?_
  refine WO_gf rfl rfl ?_
  refine WO_gf rfl rfl ?_
  refine WO_gf rfl rfl ?_
  refine WO_gf rfl rfl ?_
  refine WO_gf rfl rfl ?_
  refine WO_gf rfl rfl ?_
  refine WO_pick (v := .s (.bool _)) rfl rfl ?_
  refine WO_mv (v := .s (.bool _)) rfl ?_
  refine WO_nil ?_
  refine WP_cond rfl (fun _ => ?_) (fun h => nomatch h)
  refine WP_seq ?_
  refine WP_ops ?_
  refine WO_mv rfl ?_
  refine WO_mv rfl ?_
  refine WO_mv rfl ?_
  refine WO_nil ?_
  refine WP_ret ?_
  refine ⟨_, RS_tmp (v := .s (.int _ _)) rfl (RS_tmp (v := .s (.int _ _)) rfl (RS_tmp (v := .s (.bool _)) rfl (RS_nil))), ?_⟩
  refine ⟨⟨_, _, _, rfl, ?_⟩, (.head _)⟩
  first | exact rook_none (by omega) | exact rook_short hC (by omega) (by omega) (by omega) | exact rook_long hC (by omega) (by omega) (by omega)
 ·try simp only [NM] at h6
  try simp only [isM, decide_eq_true_eq, decide_eq_false_iff_not] at h6
  refine WO_gt rfl ?_
  refine WO_mv (v := .ptr _ _ _) rfl ?_
  refine WO_gt rfl ?_
  refine WO_nilckP rfl ?_
  refine WO_gt rfl ?_
  refine WO_fa (o' := 133) rfl rfl rfl ?_
  refine WO_gt rfl ?_
  refine WO_fa (o' := 133) rfl rfl rfl ?_
  refine WO_gt rfl ?_
  refine WO_ldI rfl rfl (.head _) rfl ?_
  refine WO_gt rfl ?_
  refine WO_mv (v := .s (.int _ _)) rfl ?_
  refine WO_gt rfl ?_
  refine WO_bin (r := .bool _) rfl rfl rfl ?_
  refine WO_pick (v := .s (.bool _)) rfl rfl ?_
  refine WO_mv (v := .s (.bool _)) rfl ?_
  refine WO_nil ?_
  refine WP_cond rfl (fun h7 => ?_) (fun h7 => ?_)
  ·try simp only [NM] at h7
   try simp only [isM, decide_eq_true_eq, decide_eq_false_iff_not] at h7
   refine WP_seq ?_
   refine WP_ops ?_
   refine WO_mv rfl ?_
   refine WO_mv rfl ?_
   refine WO_mv rfl ?_
   refine WO_nil ?_
   refine WP_ret ?_
   refine ⟨_, RS_tmp (v := .s (.int _ _)) rfl (RS_tmp (v := .s (.int _ _)) rfl (RS_tmp (v := .s (.bool _)) rfl (RS_nil))), ?_⟩
   refine ⟨⟨_, _, _, rfl, ?_⟩, (.head _)⟩
   first | exact rook_none (by omega) | exact rook_short hC (by omega) (by omega) (by omega) | exact rook_long hC (by omega) (by omega) (by omega)
  ·try simp only [NM] at h7
   try simp only [isM, decide_eq_true_eq, decide_eq_false_iff_not] at h7
   refine WP_seq ?_
   refine WP_ops ?_
   refine WO_mv (v := .ptr _ _ _) rfl ?_
   refine WO_nilckP rfl ?_
   refine WO_fa (o' := 133) rfl rfl rfl ?_
   refine WO_fa (o' := 134) rfl rfl rfl ?_
   refine WO_ldI rfl rfl (.head _) rfl ?_
   refine WO_mv (v := .s (.int _ _)) rfl ?_
   refine WO_add rfl rfl (by omega) ?_
   refine WO_bin (r := .bool _) rfl rfl rfl ?_
   refine WO_mv (v := .s (.bool _)) rfl ?_
   refine WO_nil ?_
   refine WP_cond rfl (fun h8 => ?_) (fun h8 => ?_)
   ·try simp only [NM] at h8
    try simp only [isM, decide_eq_true_eq, decide_eq_false_iff_not] at h8
    refine WP_seq ?_
    refine WP_ops ?_
    refine WO_mv (v := .s (.int _ _)) rfl ?_
    refine WO_add rfl rfl (by omega) ?_
    refine WO_mv (v := .s (.int _ _)) rfl ?_
    refine WO_add rfl rfl (by omega) ?_
    refine WO_mv (v := .ptr _ _ _) rfl ?_
    refine WO_nilckP rfl ?_
    refine WO_fa (o' := 0) rfl rfl rfl ?_
    refine WO_fa (o' := 129) rfl rfl rfl ?_
    refine WO_ldI rfl rfl (.head _) rfl ?_
    refine WO_mv (v := .s (.int _ _)) rfl ?_
    refine WO_bin (r := .int .i64 (andM (H 129) (shortM (H 137)))) rfl rfl rfl ?_
    refine WO_bin (r := .bool _) rfl rfl rfl ?_
    refine WO_mv (v := .s (.int _ _)) rfl ?_
    refine WO_mv (v := .s (.int _ _)) rfl ?_
    refine WO_mv (v := .s (.bool _)) rfl ?_
    refine WO_nil ?_
    refine WP_ret ?_
    refine ⟨_, RS_tmp (v := .s (.int _ _)) rfl (RS_tmp (v := .s (.int _ _)) rfl (RS_tmp (v := .s (.bool _)) rfl (RS_nil))), ?_⟩
    refine ⟨⟨_, _, _, rfl, ?_⟩, (.head _)⟩
    first | exact rook_none (by omega) | exact rook_short hC (by omega) (by omega) (by omega) | exact rook_long hC (by omega) (by omega) (by omega)
   ·try simp only [NM] at h8
    try simp only [isM, decide_eq_true_eq, decide_eq_false_iff_not] at h8
    refine WP_seq ?_
    refine WP_ops ?_
    refine WO_mv (v := .ptr _ _ _) rfl ?_
    refine WO_nilckP rfl ?_
    refine WO_fa (o' := 133) rfl rfl rfl ?_
    refine WO_fa (o' := 134) rfl rfl rfl ?_
    refine WO_ldI rfl rfl (.head _) rfl ?_
    refine WO_mv (v := .s (.int _ _)) rfl ?_
    refine WO_sub rfl rfl (by omega) ?_
    refine WO_bin (r := .bool _) rfl rfl rfl ?_
    refine WO_mv (v := .s (.bool _)) rfl ?_
    refine WO_nil ?_
    refine WP_cond rfl (fun h9 => ?_) (fun h9 => ?_)
    ·try simp only [NM] at h9
     try simp only [isM, decide_eq_true_eq, decide_eq_false_iff_not] at h9
     refine WP_seq ?_
     refine WP_ops ?_
     refine WO_mv (v := .s (.int _ _)) rfl ?_
     refine WO_sub rfl rfl (by omega) ?_
     refine WO_mv (v := .s (.int _ _)) rfl ?_
     refine WO_sub rfl rfl (by omega) ?_
     refine WO_mv (v := .ptr _ _ _) rfl ?_
     refine WO_nilckP rfl ?_
     refine WO_fa (o' := 0) rfl rfl rfl ?_
     refine WO_fa (o' := 129) rfl rfl rfl ?_
     refine WO_ldI rfl rfl (.head _) rfl ?_
     refine WO_mv (v := .s (.int _ _)) rfl ?_
     refine WO_bin rfl rfl (cast_shl2 hc) ?_
     refine WO_bin (r := .int .i64 (andM (H 129) (2 * shortM (H 137)))) rfl rfl rfl ?_
     refine WO_bin (r := .bool _) rfl rfl rfl ?_
     refine WO_mv (v := .s (.int _ _)) rfl ?_
     refine WO_mv (v := .s (.int _ _)) rfl ?_
     refine WO_mv (v := .s (.bool _)) rfl ?_
     refine WO_nil ?_
     refine WP_ret ?_
     refine ⟨_, RS_tmp (v := .s (.int _ _)) rfl (RS_tmp (v := .s (.int _ _)) rfl (RS_tmp (v := .s (.bool _)) rfl (RS_nil))), ?_⟩
     refine ⟨⟨_, _, _, rfl, ?_⟩, (.head _)⟩
     first | exact rook_none (by omega) | exact rook_short hC (by omega) (by omega) (by omega) | exact rook_long hC (by omega) (by omega) (by omega)
    ·try simp only [NM] at h9
     try simp only [isM, decide_eq_true_eq, decide_eq_false_iff_not] at h9
     refine WP_skip ?_
     refine WP_seq ?_
     refine WP_ops ?_
     refine WO_mv rfl ?_
     refine WO_mv rfl ?_
     refine WO_mv rfl ?_
     refine WO_nil ?_
     refine WP_ret ?_
     refine ⟨_, RS_tmp (v := .s (.int _ _)) rfl (RS_tmp (v := .s (.int _ _)) rfl (RS_tmp (v := .s (.bool _)) rfl (RS_nil))), ?_⟩
     refine ⟨⟨_, _, _, rfl, ?_⟩, (.head _)⟩
     first | exact rook_none (by omega) | exact rook_short hC (by omega) (by omega) (by omega) | exact rook_long hC (by omega) (by omega) (by omega)
theorem long_run {md : Md} (H : Nat → Int) (ha : 0 ≤ H 133 ∧ H 133 < 64) (ht : 0 ≤ H 134 ∧ H 134 < 64) (hc : H 137 = 0 ∨ H 137 = 1) : WR AM 116 [.ptr 0 0 138] [.sc md 138 (ia H)] (fun v _ L => v = .s (.bool (longM (H 136) (H 133) (H 134) (H 137))) ∧ (0, Blk.sc md 138 (ia H)) ∈ L) := by
 refine WR_fn (a := a116) rfl rfl (entryF _) (entry_E (Nat.le_of_ble_eq_true rfl)) (m := 1) rfl ?_
 refine WP_seq ?_
 refine WP_ops ?_
 refine WO_mv rfl ?_
 refine WO_nil ?_
 refine WP_seq ?_
 refine WP_ops ?_
 refine WO_mv (v := .ptr _ _ _) rfl ?_
 refine WO_nilckP rfl ?_
 refine WO_fa (o' := 136) rfl rfl rfl ?_
 refine WO_fa (o' := 137) rfl rfl rfl ?_
 refine WO_ldI rfl rfl (.head _) rfl ?_
 refine WO_mul rfl rfl (by omega) ?_
 refine WO_sub rfl rfl (by omega) ?_
 refine WO_mv (v := .s (.int _ _)) rfl ?_
 refine WO_nil ?_
 refine WP_seq ?_
 refine WP_ops ?_
 refine WO_mv (v := .ptr _ _ _) rfl ?_
 refine WO_nilckP rfl ?_
 refine WO_fa (o' := 133) rfl rfl rfl ?_
 refine WO_fa (o' := 133) rfl rfl rfl ?_
 refine WO_ldI rfl rfl (.head _) rfl ?_
 refine WO_callq0 rfl (Rank_sq (by omega)) rfl rfl rfl ?_
 refine WO_mv (v := .ptr _ _ _) rfl ?_
 refine WO_nilckP rfl ?_
 refine WO_fa (o' := 133) rfl rfl rfl ?_
 refine WO_fa (o' := 134) rfl rfl rfl ?_
 refine WO_ldI rfl rfl (.head _) rfl ?_
 refine WO_call0 rfl (Rank_sq (by omega)) rfl rfl rfl ?_
 refine WO_mv (v := .s (.int _ _)) rfl ?_
 refine WO_mv (v := .s (.int _ _)) rfl ?_
 refine WO_nil ?_
 refine WP_seq ?_
 refine WP_ops ?_
 refine WO_mv (v := .ptr _ _ _) rfl ?_
 refine WO_nilckP rfl ?_
 refine WO_fa (o' := 136) rfl rfl rfl ?_
 refine WO_fa (o' := 136) rfl rfl rfl ?_
 refine WO_ldI rfl rfl (.head _) rfl ?_
 refine WO_bin (r := .bool _) rfl rfl rfl ?_
 refine WO_mv (v := .s (.bool _)) rfl ?_
 refine WO_case (t := 31) rfl (fun h10 => ?_) (fun h10 => ?_)
 ·try simp only [NM] at h10
  try simp only [isM, decide_eq_true_eq, decide_eq_false_iff_not] at h10
  refine WO_gt rfl ?_
  refine WO_mv (v := .ptr _ _ _) rfl ?_
  refine WO_gt rfl ?_
  refine WO_callP rfl (RB_of1 (turns_run H ha ht)) rfl rfl rfl .here ?_
  refine WO_gt rfl ?_
  refine WO_bin (r := .bool _) rfl rfl rfl ?_
  refine WO_pick (v := .s (.bool _)) rfl rfl ?_
  refine WO_mv (v := .s (.bool _)) rfl ?_
  refine WO_case (t := 36) rfl (fun h11 => ?_) (fun h11 => ?_)
  ·try simp only [NM] at h11
   try simp only [isM, decide_eq_true_eq, decide_eq_false_iff_not] at h11
   refine WO_gt rfl ?_
   refine WO_mv (v := .s (.int _ _)) rfl ?_
   refine WO_gt rfl ?_
   refine WO_mv (v := .ptr _ _ _) rfl ?_
   refine WO_gt rfl ?_
   refine WO_nilckP rfl ?_
   refine WO_gt rfl ?_
   refine WO_fa (o' := 136) rfl rfl rfl ?_
   refine WO_gt rfl ?_
   refine WO_fa (o' := 137) rfl rfl rfl ?_
   refine WO_gt rfl ?_
   refine WO_ldI rfl rfl (.head _) rfl ?_
   refine WO_gt rfl ?_
   refine WO_mul rfl rfl (by omega) ?_
   refine WO_gt rfl ?_
   refine WO_add rfl rfl (by omega) ?_
   refine WO_gt rfl ?_
   refine WO_bin (r := .bool _) rfl rfl rfl ?_
   refine WO_pick (v := .s (.bool _)) rfl rfl ?_
   refine WO_mv (v := .s (.bool _)) rfl ?_
   refine WO_case (t := 47) rfl (fun h12 => ?_) (fun h12 => ?_)
   ·try simp only [NM] at h12
    try simp only [isM, decide_eq_true_eq, decide_eq_false_iff_not] at h12
    refine WO_gt rfl ?_
    refine WO_mv (v := .s (.int _ _)) rfl ?_
    refine WO_gt rfl ?_
    refine WO_mv (v := .s (.int _ _)) rfl ?_
    refine WO_gt rfl ?_
    refine WO_mv (v := .s (.int _ _)) rfl ?_
    refine WO_gt rfl ?_
    refine WO_mul rfl rfl (by omega) ?_
    refine WO_gt rfl ?_
    refine WO_add rfl rfl (by omega) ?_
    refine WO_gt rfl ?_
    refine WO_bin (r := .bool _) rfl rfl rfl ?_
    refine WO_pick (v := .s (.bool _)) rfl rfl ?_
    refine WO_mv (v := .s (.bool _)) rfl ?_
    refine WO_nil ?_
    refine WP_ret ?_
    refine ⟨_, RS_tmp (v := .s (.bool _)) rfl (RS_nil), ?_⟩
    refine ⟨congrArg (fun b => V.s (S.bool b)) ?_, (.head _)⟩
    unfold longM
    rw [Bool.eq_iff_iff]
    simp only [beq_iff_eq, decide_eq_true_eq, Bool.false_eq_true, true_iff, false_iff, iff_true, iff_false]
    omega
   ·try simp only [NM] at h12
    try simp only [isM, decide_eq_true_eq, decide_eq_false_iff_not] at h12
    refine WO_gf rfl rfl ?_
    refine WO_gf rfl rfl ?_
    refine WO_gf rfl rfl ?_
    refine WO_gf rfl rfl ?_
    refine WO_gf rfl rfl ?_
    refine WO_gf rfl rfl ?_
    refine WO_pick (v := .s (.bool _)) rfl rfl ?_
    refine WO_mv (v := .s (.bool _)) rfl ?_
    refine WO_nil ?_
    refine WP_ret ?_
    refine ⟨_, RS_tmp (v := .s (.bool _)) rfl (RS_nil), ?_⟩
    refine ⟨congrArg (fun b => V.s (S.bool b)) ?_, (.head _)⟩
    unfold longM
    rw [Bool.eq_iff_iff]
    simp only [beq_iff_eq, decide_eq_true_eq, Bool.false_eq_true, true_iff, false_iff, iff_true, iff_false]
    omega
  ·try simp only [NM] at h11
   try simp only [isM, decide_eq_true_eq, decide_eq_false_iff_not] at h11
   refine WO_gf rfl rfl ?_
   refine WO_gf rfl rfl ?_
   refine WO_gf rfl rfl ?_
   refine WO_gf rfl rfl ?_
   refine WO_gf rfl rfl ?_
   refine WO_gf rfl rfl ?_
   refine WO_gf rfl rfl ?_
   refine WO_gf rfl rfl ?_
   refine WO_gf rfl rfl ?_
   refine WO_pick (v := .s (.bool _)) rfl rfl ?_
   refine WO_mv (v := .s (.bool _)) rfl ?_
   refine WO_gf rfl rfl ?_
   refine WO_gf rfl rfl ?_
   refine WO_gf rfl rfl ?_
   refine WO_gf rfl rfl ?_
   refine WO_gf rfl rfl ?_
   refine WO_gf rfl rfl ?_
   refine WO_pick (v := .s (.bool _)) rfl rfl ?_
   refine WO_mv (v := .s (.bool _)) rfl ?_
   refine WO_nil ?_
   refine WP_ret ?_
   refine ⟨_, RS_tmp (v := .s (.bool _)) rfl (RS_nil), ?_⟩
   refine ⟨congrArg (fun b => V.s (S.bool b)) ?_, (.head _)⟩
   unfold longM
   rw [Bool.eq_iff_iff]
   simp only [beq_iff_eq, decide_eq_true_eq, Bool.false_eq_true, true_iff, false_iff, iff_true, iff_false]
   omega
 ·try simp only [NM] at h10
  try simp only [isM, decide_eq_true_eq, decide_eq_false_iff_not] at h10
  refine WO_gf rfl rfl ?_
  refine WO_gf rfl rfl ?_
  refine WO_gf rfl rfl ?_
  refine WO_pick (v := .s (.bool _)) rfl rfl ?_
  refine WO_mv (v := .s (.bool _)) rfl ?_
  refine WO_gf rfl rfl ?_
  refine WO_gf rfl rfl ?_
  refine WO_gf rfl rfl ?_
  refine WO_gf rfl rfl ?_
  refine WO_gf rfl rfl ?_
  refine WO_gf rfl rfl ?_
  refine WO_gf rfl rfl ?_
  refine WO_gf rfl rfl ?_
  refine WO_gf rfl rfl ?_
  refine WO_pick (v := .s (.bool _)) rfl rfl ?_
  refine WO_mv (v := .s (.bool _)) rfl ?_
  refine WO_gf rfl rfl ?_
  refine WO_gf rfl rfl ?_
  refine WO_gf rfl rfl ?_
  refine WO_gf rfl rfl ?_
  refine WO_gf rfl rfl ?_
  refine WO_gf rfl rfl ?_
  refine WO_pick (v := .s (.bool _)) rfl rfl ?_
  refine WO_mv (v := .s (.bool _)) rfl ?_
  refine WO_nil ?_
  refine WP_ret ?_
  refine ⟨_, RS_tmp (v := .s (.bool _)) rfl (RS_nil), ?_⟩
  refine ⟨congrArg (fun b => V.s (S.bool b)) ?_, (.head _)⟩
  unfold longM
  rw [Bool.eq_iff_iff]
  simp only [beq_iff_eq, decide_eq_true_eq, Bool.false_eq_true, true_iff, false_iff, iff_true, iff_false]
  omega
/-- Pieces set on squares, one by one. -/
def setM (H X K : Nat → Int) : Nat → Nat → Int
  | 0 => H
  | n + 1 => if isM (K (0 + (n : Int).toNat * 1)) = true then ovA (setM H X K n) (0 + (K (0 + (n : Int).toNat * 1)).toNat * 2) 2 X else setM H X K n
theorem setM_out {H X K : Nat → Int} : ∀ (n : Nat) (i : Nat), 128 ≤ i → setM H X K n i = H i
  | 0, _, _ => rfl
  | n + 1, i, hi => by
    have ih := setM_out (H := H) (X := X) (K := K) n i hi
    unfold setM
    split
    · rename_i hs
      simp only [isM, decide_eq_true_eq] at hs
      rw [ovA_out (by omega)]
      exact ih
    · exact ih
theorem setM_of {H X K : Nat → Int} {n : Nat} {s : Int} (hs : K (0 + (n : Int).toNat * 1) = s) (h : 0 ≤ s ∧ s < 64) : setM H X K (n + 1) = ovA (setM H X K n) (sqI s) 2 X := by
  rw [setM, hs, if_pos (show isM s = true from decide_eq_true h)]
theorem setM_no {H X K : Nat → Int} {n : Nat} {s : Int} (hs : K (0 + (n : Int).toNat * 1) = s) (h : ¬ (0 ≤ s ∧ s < 64)) : setM H X K (n + 1) = setM H X K n := by
  rw [setM, hs, if_neg (by rw [isM, decide_eq_false h]; decide)]

theorem set_run {md md2 : Md} (hmd : md.mut = true) {q : Nat} {c : Cp} (H X K : Nat → Int) (n : Nat) (hn : n ≤ 1000) : WR AM 117 [.ptr 0 0 138, .agg 2 (ia X), .sl 1 0 n 1 c] [.sc md 138 (ia H), .sc md2 q (ia K)] (fun v _ L => v = .tup [] ∧ (0, Blk.sc md 138 (ia (setM H X K n))) ∈ L ∧ (1, Blk.sc md2 q (ia K)) ∈ L) := by
 refine WR_fn (a := a117) rfl rfl (entryF _) (entry_E (Nat.le_of_ble_eq_true rfl)) (m := 2) rfl ?_
 refine WP_seq ?_
 refine WP_ops ?_
 refine WO_boxA rfl ?_
 refine WO_nil ?_
 refine WP_seq ?_
 refine WP_ops ?_
 refine WO_mv (v := .sl _ _ _ _ _) rfl ?_
 refine WO_len rfl ?_
 refine WO_mv rfl ?_
 refine WO_nil ?_
 refine WP_block ?_
 refine WP_sub (L' := [_, _, _]) (.cons_cons _ (.cons_cons _ (.cons_cons _ .slnil))) ?_
 refine WP_loop (fun m f _ L => ∃ (i : Nat), (i ≤ n) ∧ (m = n - i) ∧ (f 0 = .ptr 0 0 138) ∧ (f 4 = .ptr 2 0 2) ∧ (f 8 = .sl 1 0 n 1 c) ∧ (f 9 = .s (.int .i64 n)) ∧ (f 10 = .s (.int .i64 i)) ∧ (L = [(2, .sc .var 2 (ia X)), (0, .sc md 138 (ia (setM H X K i))), (1, .sc md2 q (ia K))])) (fun m f nb L hI => ?_) (n) ⟨0, by omega, rfl, rfl, rfl, rfl, rfl, rfl, rfl⟩
 obtain ⟨i, hi, hm, k0, k4, k8, k9, k10, rfl⟩ := hI
 refine WP_know (d := 0) (v := .ptr 0 0 138) k0 ?_
 refine WP_know (d := 4) (v := .ptr 2 0 2) k4 ?_
 refine WP_know (d := 8) (v := .sl 1 0 n 1 c) k8 ?_
 refine WP_know (d := 9) (v := .s (.int .i64 n)) k9 ?_
 refine WP_know (d := 10) (v := .s (.int .i64 i)) k10 ?_
 refine WP_seq ?_
 refine WP_ops ?_
 refine WO_bin (r := .bool _) rfl rfl rfl ?_
 refine WO_nil ?_
 refine WP_seq ?_
 refine WP_cond rfl (fun h13 => ?_) (fun h13 => ?_)
 ·try simp only [NM] at h13
  try simp only [isM, decide_eq_true_eq, decide_eq_false_iff_not] at h13
  refine WP_skip ?_
  refine WP_seq ?_
  refine WP_block ?_
  refine WP_seq ?_
  refine WP_ops ?_
  refine WO_ixs rfl rfl (by omega) ?_
  refine WO_ldI (x := K (0 + (i : Int).toNat * 1)) rfl rfl (.tail _ (.tail _ (.head _))) (rfl) ?_
  refine WO_mv (v := .s (.int _ _)) rfl ?_
  refine WO_nil ?_
  refine WP_seq ?_
  refine WP_ops ?_
  refine WO_mv (v := .s (.int _ _)) rfl ?_
  refine WO_call0 rfl (SqIs_run _) rfl rfl rfl ?_
  refine WO_nil ?_
  refine WP_cond rfl (fun h14 => ?_) (fun h14 => ?_)
  ·try simp only [NM] at h14
   try simp only [isM, decide_eq_true_eq, decide_eq_false_iff_not] at h14
   refine WP_ops ?_
   refine WO_mv (v := .ptr _ _ _) rfl ?_
   refine WO_mv (v := .s (.int _ _)) rfl ?_
   first | refine WO_ldA0 rfl rfl (.head _) ?_ | refine WO_ldAI rfl rfl (.head _) ?_
   refine WO_nilckP rfl ?_
   refine WO_fa (o' := 0) rfl rfl rfl ?_
   refine WO_fa (o' := 0) rfl rfl rfl ?_
   refine WO_ixa rfl rfl rfl (by omega) ?_
   refine WO_stA rfl rfl rfl hmd (.there .here) ?_
   refine WO_nil ?_
   refine WP_ops ?_
   refine WO_add rfl rfl (by omega) ?_
   refine WO_mv (v := .s (.int _ _)) rfl ?_
   refine WO_nil ?_
   refine ⟨n - (i + 1), _, by omega, (.cons_cons _ (.cons_cons _ (.cons_cons _ .slnil))), i + 1, by omega, rfl, rfl, rfl, rfl, rfl, rfl, ?_⟩
   first | (rw [setM_of (n := i) (s := K (0 + (i : Int).toNat * 1)) rfl (by assumption)]; done) | (rw [setM_no (n := i) (s := K (0 + (i : Int).toNat * 1)) rfl (by assumption)]; done)
  ·try simp only [NM] at h14
   try simp only [isM, decide_eq_true_eq, decide_eq_false_iff_not] at h14
   refine WP_skip ?_
   refine WP_ops ?_
   refine WO_add rfl rfl (by omega) ?_
   refine WO_mv (v := .s (.int _ _)) rfl ?_
   refine WO_nil ?_
   refine ⟨n - (i + 1), _, by omega, (.cons_cons _ (.cons_cons _ (.cons_cons _ .slnil))), i + 1, by omega, rfl, rfl, rfl, rfl, rfl, rfl, ?_⟩
   first | (rw [setM_of (n := i) (s := K (0 + (i : Int).toNat * 1)) rfl (by assumption)]; done) | (rw [setM_no (n := i) (s := K (0 + (i : Int).toNat * 1)) rfl (by assumption)]; done)
 ·try simp only [NM] at h13
  try simp only [isM, decide_eq_true_eq, decide_eq_false_iff_not] at h13
  refine WP_exit ?_
  refine xhere ?_
  refine ⟨_, RS_nil, ?_⟩
  obtain rfl : i = n := by omega
  exact ⟨rfl, (.tail _ (.head _)), (.tail _ (.tail _ (.head _)))⟩
def lostL : List (S × V) := [(.int .i64 4, .s (.int .i64 3)), (.int .i64 7, .s (.int .i64 1)), (.int .i64 0, .s (.int .i64 2)), (.int .i64 60, .s (.int .i64 12)), (.int .i64 63, .s (.int .i64 4)), (.int .i64 56, .s (.int .i64 8))]
theorem find_lost (s : Int) : (mfind (.int .i64 s) lostL).getD (Z.v (.one (.s (.int .i64 0)))) = .s (.int .i64 (lostM s)) := by
  simp only [lostL, mfind, S.eqB, lostM]
  by_cases h4 : 4 = s
  · simp [h4]
  by_cases h7 : 7 = s
  · simp [h4, h7]
  by_cases h0 : 0 = s
  · simp [h4, h7, h0]
  by_cases h60 : 60 = s
  · simp [h4, h7, h0, h60]
  by_cases h63 : 63 = s
  · simp [h4, h7, h0, h60, h63]
  by_cases h56 : 56 = s
  · simp [h4, h7, h0, h60, h63, h56]
  simp [h4, h7, h0, h60, h63, h56, Z.v]
/-- The castlings that are lost by squares. -/
def lostsM (K : Nat → Int) : Nat → Int
  | 0 => 0
  | n + 1 => orM (lostsM K n) (lostM (K (0 + (n : Int).toNat * 1)))

theorem losts_run {md : Md} {q : Nat} {c : Cp} (K : Nat → Int) (n : Nat) (hn : n ≤ 1000) : WR AM 118 [.sl 0 0 n 1 c] [.sc md q (ia K)] (fun v _ L => v = .s (.int .i64 (lostsM K n)) ∧ (0, Blk.sc md q (ia K)) ∈ L) := by
 refine WR_fn (a := a118) rfl rfl (entryF _) (entry_E (Nat.le_of_ble_eq_true rfl)) (m := 1) rfl ?_
 refine WP_seq ?_
 refine WP_ops ?_
 refine WO_mv rfl ?_
 refine WO_nil ?_
 refine WP_seq ?_
 refine WP_ops ?_
 refine WO_mkmap ?_
 refine WO_mput rfl rfl rfl rfl rfl rfl .here ?_
 refine WO_mput rfl rfl rfl rfl rfl rfl .here ?_
 refine WO_mput rfl rfl rfl rfl rfl rfl .here ?_
 refine WO_mput rfl rfl rfl rfl rfl rfl .here ?_
 refine WO_mput rfl rfl rfl rfl rfl rfl .here ?_
 refine WO_mput rfl rfl rfl rfl rfl rfl .here ?_
 refine WO_mv (v := .map _) rfl ?_
 refine WO_mv (v := .map _) rfl ?_
 refine WO_nil ?_
 refine WP_seq ?_
 refine WP_seq ?_
 refine WP_ops ?_
 refine WO_mv (v := .sl _ _ _ _ _) rfl ?_
 refine WO_len rfl ?_
 refine WO_mv rfl ?_
 refine WO_nil ?_
 refine WP_block ?_
 refine WP_sub (L' := [_, _]) (.cons_cons _ (.cons_cons _ .slnil)) ?_
 refine WP_loop (fun m f _ L => ∃ (i : Nat), (i ≤ n) ∧ (m = n - i) ∧ (f 2 = .s (.int .i64 (lostsM K i))) ∧ (f 3 = .map 1) ∧ (f 8 = .sl 0 0 n 1 c) ∧ (f 9 = .s (.int .i64 n)) ∧ (f 10 = .s (.int .i64 i)) ∧ (L = [(1, .mp .var lostL), (0, .sc md q (ia K))])) (fun m f nb L hI => ?_) (n) ⟨0, by omega, rfl, rfl, rfl, rfl, rfl, rfl, rfl⟩
 obtain ⟨i, hi, hm, k2, k3, k8, k9, k10, rfl⟩ := hI
 refine WP_know (d := 2) (v := .s (.int .i64 (lostsM K i))) k2 ?_
 refine WP_know (d := 3) (v := .map 1) k3 ?_
 refine WP_know (d := 8) (v := .sl 0 0 n 1 c) k8 ?_
 refine WP_know (d := 9) (v := .s (.int .i64 n)) k9 ?_
 refine WP_know (d := 10) (v := .s (.int .i64 i)) k10 ?_
 refine WP_seq ?_
 refine WP_ops ?_
 refine WO_bin (r := .bool _) rfl rfl rfl ?_
 refine WO_nil ?_
 refine WP_seq ?_
 refine WP_cond rfl (fun h15 => ?_) (fun h15 => ?_)
 ·try simp only [NM] at h15
  try simp only [isM, decide_eq_true_eq, decide_eq_false_iff_not] at h15
  refine WP_skip ?_
  refine WP_seq ?_
  refine WP_block ?_
  refine WP_seq ?_
  refine WP_ops ?_
  refine WO_ixs rfl rfl (by omega) ?_
  refine WO_ldI (x := K (0 + (i : Int).toNat * 1)) rfl rfl (.tail _ (.head _)) (rfl) ?_
  refine WO_mv (v := .s (.int _ _)) rfl ?_
  refine WO_nil ?_
  refine WP_ops ?_
  refine WO_mv (v := .s (.int _ _)) rfl ?_
  refine WO_mv (v := .map _) rfl ?_
  refine WO_mv (v := .s (.int _ _)) rfl ?_
  refine WO_mget rfl rfl (.head _) rfl (find_lost _) ?_
  refine WO_bin (r := .int .i64 (orM _ _)) rfl rfl rfl ?_
  refine WO_mv (v := .s (.int _ _)) rfl ?_
  refine WO_nil ?_
  refine WP_ops ?_
  refine WO_add rfl rfl (by omega) ?_
  refine WO_mv (v := .s (.int _ _)) rfl ?_
  refine WO_nil ?_
  exact ⟨n - (i + 1), _, by omega, (.cons_cons _ (.cons_cons _ .slnil)), i + 1, by omega, rfl, rfl, rfl, rfl, rfl, rfl, rfl⟩
 ·try simp only [NM] at h15
  try simp only [isM, decide_eq_true_eq, decide_eq_false_iff_not] at h15
  refine WP_exit ?_
  refine xhere ?_
  refine WP_seq ?_
  refine WP_ops ?_
  refine WO_mv (v := .s (.int _ _)) rfl ?_
  refine WO_mv (v := .s (.int _ _)) rfl ?_
  refine WO_nil ?_
  refine WP_ret ?_
  refine ⟨_, RS_tmp (v := .s (.int _ _)) rfl (RS_nil), ?_⟩
  obtain rfl : i = n := by omega
  exact ⟨rfl, (.tail _ (.head _))⟩
end Go.Proofs.Ytjldefmcnppdoaa
/- The walks of the chapter play: a move made. -/
namespace Go.Proofs.Ytjldefmcnppdoaa
open Go Go.Am
set_option linter.unusedSimpArgs false
set_option linter.unusedVariables false
theorem rook_ex {md : Md} (H : Nat → Int) (ha : 0 ≤ H 133 ∧ H 133 < 64) (ht : 0 ≤ H 134 ∧ H 134 < 64) (hc : H 137 = 0 ∨ H 137 = 1) (hC : 0 ≤ H 129 ∧ H 129 ≤ 15) :
    ∃ x y z, RookOf (H 136) (H 133) (H 134) (H 137) (H 129) x y z ∧ RB AM 115 [.ptr 0 0 138] [.sc md 138 (ia H)] (.tup [.s (.int .i64 x), .s (.int .i64 y), .s (.bool z)]) [.sc md 138 (ia H)] := by
  obtain ⟨v, σ', n', L', h1, h2, ⟨x, y, z, rfl, hr⟩, h3⟩ := rook_run (md := md) H ha ht hc hC
  exact ⟨x, y, z, hr, σ', h1, (h2.2.mem h3).2, ⟨_, _, _, rfl⟩, trivial⟩
/-- Squares as they are behind some of the sets. -/
structure Same (H J : Nat → Int) (B : Nat → Int) : Prop where
  lo : ∀ i, i < 128 → J i = B i
  hi : ∀ i, 128 ≤ i → J i = H i
theorem set_ex {md md2 : Md} (hmd : md.mut = true) {q : Nat} {c : Cp} (H X K : Nat → Int) (n : Nat) (hn : n ≤ 1000) : ∃ J, J = setM H X K n ∧ RB AM 117 [.ptr 0 0 138, .agg 2 (ia X), .sl 1 0 n 1 c] [.sc md 138 (ia H), .sc md2 q (ia K)] (.tup []) [.sc md 138 (ia J), .sc md2 q (ia K)] :=
  ⟨_, rfl, RB_of2 (set_run hmd H X K n hn)⟩

theorem set_two {H J : Nat → Int} {w a : Int} (e : J = setM H (fun _ => 0) (ov (ov (fun _ => 0) (0 * 1) w) (1 * 1) a) 2) (ha : 0 ≤ a ∧ a < 64) (hw : -1 ≤ w ∧ w < 64) : Same H J (brd2 H w a) := by
  have h2 := setM_of (H := H) (X := fun _ => 0) (K := ov (ov (fun _ => 0) (0 * 1) w) (1 * 1) a) (n := 1) (s := a) rfl ha
  refine ⟨fun i _ => ?_, fun i hi => by rw [e]; exact setM_out 2 i hi⟩
  rw [e, h2, brd2, brd1]
  by_cases h : 0 ≤ w
  · rw [setM_of (H := H) (X := fun _ => 0) (K := ov (ov (fun _ => 0) (0 * 1) w) (1 * 1) a) (n := 0) (s := w) rfl (by omega), if_pos h]; rfl
  · rw [setM_no (H := H) (X := fun _ => 0) (K := ov (ov (fun _ => 0) (0 * 1) w) (1 * 1) a) (n := 0) (s := w) rfl (by omega), if_neg h]; rfl

theorem set_next {H J J' B X Y : Nat → Int} {t : Int} (j : Same H J B) (e : J' = setM J X (ov (fun _ => 0) (0 * 1) t) 1) (ht : 0 ≤ t ∧ t < 64) (hx : ∀ i, i < 2 → X i = Y i) : Same H J' (ovA B (sqI t) 2 Y) := by
  have h1 := setM_of (H := J) (X := X) (K := ov (fun _ => 0) (0 * 1) t) (n := 0) (s := t) rfl ht
  refine ⟨fun i hi => ?_, fun i hi => by rw [e, setM_out 1 i hi]; exact j.hi i hi⟩
  rw [e, h1]
  exact ovA_same (n := 128) j.lo hx i hi

theorem two {X Y : Nat → Int} (h0 : X 0 = Y 0) (h1 : X 1 = Y 1) : ∀ i, i < 2 → X i = Y i
  | 0, _ => h0
  | 1, _ => h1
  | n + 2, h => by omega

theorem castling_a {k a t c C : Int} (h : castlingM k a t c C ≠ 0) : a = 56 * c + 4 := by
  unfold castlingM at h
  split at h
  · omega
  · split at h
    · omega
    · exact absurd rfl h

theorem set_rook {H J2 J3 J4 X : Nat → Int} {w k a t c b C x y : Int} {z : Bool} (j : Same H J2 (brd3 H w a t k c b)) (e3 : J3 = setM J2 (fun _ => 0) (ov (fun _ => 0) (0 * 1) x) 1) (e4 : J4 = setM J3 (ov (ov (fun _ => 0) 0 4) 1 (X 1)) (ov (fun _ => 0) (0 * 1) y) 1)
    (hr : RookOf k a t c C x y z) (hz : z = true) (hc : c = 0 ∨ c = 1) (hx1 : X 1 = c) : Same H J4 (brd4 H w a t k c b (castlingM k a t c C)) := by
  rcases hr with ⟨hg, _, rfl, rfl⟩ | ⟨hg, _, rfl, rfl⟩ | ⟨_, hf⟩
  · have := castling_a (h := by rw [hg]; decide)
    rw [hg, brd4, if_pos rfl]
    exact set_next (set_next j e3 (by omega) (fun _ _ => rfl)) e4 (by omega) (two rfl hx1)
  · have := castling_a (h := by rw [hg]; decide)
    rw [hg, brd4, if_neg (by decide), if_pos rfl]
    exact set_next (set_next j e3 (by omega) (fun _ _ => rfl)) e4 (by omega) (two rfl hx1)
  · rw [hz] at hf; cases hf

theorem set_norook {H J2 : Nat → Int} {w k a t c b C x y : Int} {z : Bool} (j : Same H J2 (brd3 H w a t k c b)) (hr : RookOf k a t c C x y z) (hz : z = false) : Same H J2 (brd4 H w a t k c b (castlingM k a t c C)) := by
  rcases hr with ⟨_, h, _⟩ | ⟨_, h, _⟩ | ⟨hg, _⟩
  · rw [hz] at h; cases h
  · rw [hz] at h; cases h
  · rw [hg, brd4, if_neg (by decide), if_neg (by decide)]; exact j

/-- The hand, done but for its side. -/
structure Done (H J B : Nat → Int) (cs ovr hf fl : Int) : Prop where
  lo : ∀ i, i < 128 → J i = B i
  s : J 128 = H 128
  c : J 129 = cs
  o : J 130 = ovr
  h : J 131 = hf
  f : J 132 = fl
theorem done_is {H J : Nat → Int} {k c a t b C : Int} (h : Done H J (brd4 H (takesM H k a t) a t k c b (castlingM k a t c C)) (andNotM C (orM (orM 0 (lostM a)) (lostM t))) (overM k a t c) (halfM H k (takesM H k a t)) (fullM H)) (i : Nat) : ovA (fun _ => 0) 0 133 (ov J 128 (otherM (H 128))) i = afterM H k c a t b C i := by
  unfold afterM
  by_cases hi : i < 133
  · rw [ovA_at (by omega), Nat.sub_zero]
    by_cases h1 : i < 128
    · rw [if_pos h1, ov_out (by omega)]; exact h.lo i h1
    · rw [if_neg h1]
      have hc : i = 128 ∨ i = 129 ∨ i = 130 ∨ i = 131 ∨ i = 132 := by omega
      rcases hc with rfl | rfl | rfl | rfl | rfl
      · rfl
      · exact h.c
      · exact h.o
      · exact h.h
      · exact h.f
  · rw [ovA_out (by omega), if_neg (by omega), if_neg (by omega), if_neg (by omega), if_neg (by omega), if_neg (by omega), if_neg (by omega)]

theorem made_run (H : Nat → Int) (ha : 0 ≤ H 133 ∧ H 133 < 64) (ht : 0 ≤ H 134 ∧ H 134 < 64) (hc : H 137 = 0 ∨ H 137 = 1) (hC : 0 ≤ H 129 ∧ H 129 ≤ 15) : WR AM 96 [.ptr 0 0 138] [.sc .var 138 (ia H)] (fun v _ L => ∃ J, v = .agg 133 (ia (afterM H (H 136) (H 137) (H 133) (H 134) (H 135) (H 129))) ∧ (0, Blk.sc .var 138 (ia J)) ∈ L) := by
 refine WR_fn (a := a96) rfl rfl (entryF _) (entry_E (Nat.le_of_ble_eq_true rfl)) (m := 1) rfl ?_
 refine WP_seq ?_
 refine WP_ops ?_
 refine WO_allocI ?_
 refine WO_nil ?_
 refine WP_seq ?_
 refine WP_ops ?_
 refine WO_mv (v := .ptr _ _ _) rfl ?_
 refine WO_callP rfl (RB_of1 (takes_run H ha ht)) rfl rfl rfl (.there .here) ?_
 refine WO_mv (v := .s (.int _ _)) rfl ?_
 refine WO_nil ?_
 refine WP_seq ?_
 refine WP_ops ?_
 refine WO_mv (v := .ptr _ _ _) rfl ?_
 obtain ⟨x, y, z, hr, hR⟩ := rook_ex (md := .var) H ha ht hc hC
 refine WO_callP rfl (hR) rfl rfl rfl (.there .here) ?_
 refine WO_mv (v := .tup _) rfl ?_
 refine WO_ext (v := .s (.int _ _)) rfl rfl ?_
 refine WO_ext (v := .s (.int _ _)) rfl rfl ?_
 refine WO_ext (v := .s (.bool _)) rfl rfl ?_
 refine WO_mv (v := .s (.int _ _)) rfl ?_
 refine WO_mv (v := .s (.int _ _)) rfl ?_
 refine WO_mv (v := .s (.bool _)) rfl ?_
 refine WO_nil ?_
 refine WP_seq ?_
 refine WP_ops ?_
 refine WO_mv rfl ?_
 refine WO_nil ?_
 refine WP_cut (fun f n L => (f 0 = .ptr 0 0 138) ∧ (f 2 = .ptr 1 0 133) ∧ (f 3 = .s (.int .i64 (takesM H (H 136) (H 133) (H 134)))) ∧ (f 4 = .s (.int .i64 x)) ∧ (f 5 = .s (.int .i64 y)) ∧ (f 6 = .s (.bool z)) ∧ (f 7 = .s (.int .i64 (overM (H 136) (H 133) (H 134) (H 137)))) ∧ (L = [(1, .sc .var 133 (ia fun _ => 0)), (0, .sc .var 138 (ia H))]) ∧ (n = 2)) ?_ (fun f nb L hI => ?_)
 ·skip
  refine WP_seq ?_
  refine WP_ops ?_
  refine WO_mv (v := .ptr _ _ _) rfl ?_
  refine WO_callP rfl (RB_of1 (long_run H ha ht hc)) rfl rfl rfl (.there .here) ?_
  refine WO_nil ?_
  refine WP_cond rfl (fun h1 => ?_) (fun h1 => ?_)
  ·try simp only [NM] at h1
   try simp only [isM, decide_eq_true_eq, decide_eq_false_iff_not] at h1
   refine WP_ops ?_
   refine WO_mv (v := .ptr _ _ _) rfl ?_
   refine WO_nilckP rfl ?_
   refine WO_fa (o' := 133) rfl rfl rfl ?_
   refine WO_fa (o' := 133) rfl rfl rfl ?_
   refine WO_ldI rfl rfl (.tail _ (.head _)) rfl ?_
   refine WO_mv (v := .ptr _ _ _) rfl ?_
   refine WO_nilckP rfl ?_
   refine WO_fa (o' := 133) rfl rfl rfl ?_
   refine WO_fa (o' := 134) rfl rfl rfl ?_
   refine WO_ldI rfl rfl (.tail _ (.head _)) rfl ?_
   refine WO_add rfl rfl (by omega) ?_
   refine WO_quo rfl rfl (by omega) ?_
   refine WO_mv (v := .s (.int _ _)) rfl ?_
   refine WO_nil ?_
   refine ⟨_, (.cons_cons _ (.cons_cons _ .slnil)), rfl, rfl, rfl, rfl, rfl, rfl, ?_, rfl, rfl⟩
   refine congrArg (fun b => V.s (S.int .i64 b)) ?_
   rw [overM]
   first | exact (if_pos (by assumption)).symm | exact (if_neg (Bool.eq_false_iff.1 (by assumption))).symm
  ·try simp only [NM] at h1
   try simp only [isM, decide_eq_true_eq, decide_eq_false_iff_not] at h1
   refine WP_skip ?_
   refine ⟨_, (.cons_cons _ (.cons_cons _ .slnil)), rfl, rfl, rfl, rfl, rfl, rfl, ?_, rfl, rfl⟩
   refine congrArg (fun b => V.s (S.int .i64 b)) ?_
   rw [overM]
   first | exact (if_pos (by assumption)).symm | exact (if_neg (Bool.eq_false_iff.1 (by assumption))).symm
 ·skip
  obtain ⟨k0, k2, k3, k4, k5, k6, k7, rfl, rfl⟩ := hI
  refine WP_know (d := 0) (v := .ptr 0 0 138) k0 ?_
  refine WP_know (d := 2) (v := .ptr 1 0 133) k2 ?_
  refine WP_know (d := 3) (v := .s (.int .i64 (takesM H (H 136) (H 133) (H 134)))) k3 ?_
  refine WP_know (d := 4) (v := .s (.int .i64 x)) k4 ?_
  refine WP_know (d := 5) (v := .s (.int .i64 y)) k5 ?_
  refine WP_know (d := 6) (v := .s (.bool z)) k6 ?_
  refine WP_know (d := 7) (v := .s (.int .i64 (overM (H 136) (H 133) (H 134) (H 137)))) k7 ?_
  refine WP_seq ?_
  refine WP_ops ?_
  refine WO_mv (v := .ptr _ _ _) rfl ?_
  refine WO_nilckP rfl ?_
  refine WO_fa (o' := 136) rfl rfl rfl ?_
  first | refine WO_ldA0 rfl rfl (.tail _ (.head _)) ?_ | refine WO_ldAI rfl rfl (.tail _ (.head _)) ?_
  refine WO_allocI ?_
  refine WO_stA rfl rfl rfl rfl .here ?_
  refine WO_nil ?_
  refine WP_cut (fun f n L => ∃ (X : Nat → Int), (X 0 = (if H 135 = 0 then H 136 else H 135)) ∧ (X 1 = H 137) ∧ (f 0 = .ptr 0 0 138) ∧ (f 2 = .ptr 1 0 133) ∧ (f 3 = .s (.int .i64 (takesM H (H 136) (H 133) (H 134)))) ∧ (f 4 = .s (.int .i64 x)) ∧ (f 5 = .s (.int .i64 y)) ∧ (f 6 = .s (.bool z)) ∧ (f 7 = .s (.int .i64 (overM (H 136) (H 133) (H 134) (H 137)))) ∧ (f 8 = .ptr 2 0 2) ∧ (L = [(2, .sc .var 2 (ia X)), (1, .sc .var 133 (ia fun _ => 0)), (0, .sc .var 138 (ia H))]) ∧ (n = 3)) ?_ (fun f nb L hI => ?_)
  ·skip
   refine WP_seq ?_
   refine WP_ops ?_
   refine WO_mv (v := .ptr _ _ _) rfl ?_
   refine WO_nilckP rfl ?_
   refine WO_fa (o' := 133) rfl rfl rfl ?_
   refine WO_fa (o' := 135) rfl rfl rfl ?_
   refine WO_ldI rfl rfl (.tail _ (.tail _ (.head _))) rfl ?_
   refine WO_bin (r := .bool _) rfl rfl rfl ?_
   refine WO_nil ?_
   refine WP_cond rfl (fun h2 => ?_) (fun h2 => ?_)
   ·try simp only [NM] at h2
    try simp only [isM, decide_eq_true_eq, decide_eq_false_iff_not] at h2
    refine WP_ops ?_
    refine WO_mv (v := .ptr _ _ _) rfl ?_
    refine WO_nilckP rfl ?_
    refine WO_fa (o' := 133) rfl rfl rfl ?_
    refine WO_fa (o' := 135) rfl rfl rfl ?_
    refine WO_ldI rfl rfl (.tail _ (.tail _ (.head _))) rfl ?_
    refine WO_fa (o' := 0) rfl rfl rfl ?_
    refine WO_stI rfl rfl rfl rfl .here ?_
    refine WO_nil ?_
    refine ⟨_, (.cons_cons _ (.cons_cons _ (.cons_cons _ .slnil))), _, ?_, ?_, rfl, rfl, rfl, rfl, rfl, rfl, rfl, rfl, rfl, rfl⟩
    · first | exact (if_pos (by assumption)).symm | exact (if_neg (by assumption)).symm
    · rfl
   ·try simp only [NM] at h2
    try simp only [isM, decide_eq_true_eq, decide_eq_false_iff_not] at h2
    refine WP_skip ?_
    refine ⟨_, (.cons_cons _ (.cons_cons _ (.cons_cons _ .slnil))), _, ?_, ?_, rfl, rfl, rfl, rfl, rfl, rfl, rfl, rfl, rfl, rfl⟩
    · first | exact (if_pos (by assumption)).symm | exact (if_neg (by assumption)).symm
    · rfl
  ·skip
   obtain ⟨X, hx0, hx1, k0, k2, k3, k4, k5, k6, k7, k8, rfl, rfl⟩ := hI
   refine WP_know (d := 0) (v := .ptr 0 0 138) k0 ?_
   refine WP_know (d := 2) (v := .ptr 1 0 133) k2 ?_
   refine WP_know (d := 3) (v := .s (.int .i64 (takesM H (H 136) (H 133) (H 134)))) k3 ?_
   refine WP_know (d := 4) (v := .s (.int .i64 x)) k4 ?_
   refine WP_know (d := 5) (v := .s (.int .i64 y)) k5 ?_
   refine WP_know (d := 6) (v := .s (.bool z)) k6 ?_
   refine WP_know (d := 7) (v := .s (.int .i64 (overM (H 136) (H 133) (H 134) (H 137)))) k7 ?_
   refine WP_know (d := 8) (v := .ptr 2 0 2) k8 ?_
   refine WP_seq ?_
   refine WP_ops ?_
   refine WO_mv (v := .ptr _ _ _) rfl ?_
   refine WO_buildI rfl .nil ?_
   refine WO_mv (v := .s (.int _ _)) rfl ?_
   refine WO_mv (v := .ptr _ _ _) rfl ?_
   refine WO_nilckP rfl ?_
   refine WO_fa (o' := 133) rfl rfl rfl ?_
   refine WO_fa (o' := 133) rfl rfl rfl ?_
   refine WO_ldI (x := H 133) rfl rfl (.tail _ (.tail _ (.head _))) (rfl) ?_
   refine WO_mkslS rfl (.one rfl (.one rfl .nil)) ?_
   obtain ⟨J1, eJ1, hSJ1⟩ := set_ex (md := .var) (md2 := .var) (q := 2) (c := .ex 2) rfl H (fun _ => 0) (ov (ov (fun _ => 0) (0 * 1) (takesM H (H 136) (H 133) (H 134))) (1 * 1) (H 133)) 2 (by omega)
   have j1 : Same H J1 (brd2 H (takesM H (H 136) (H 133) (H 134)) (H 133)) := set_two eJ1 ha (takesM_bd ha ht)
   refine WO_call (rs := [0, 3]) (Bs := [_, _]) rfl (hSJ1) rfl rfl (Nat.le_of_ble_eq_true rfl) (fun _ h => h) rfl ⟨(.tail _ (.tail _ (.tail _ (.head _)))), ⟨_, _, _, rfl⟩, ⟨(.head _), ⟨_, _, _, rfl⟩, trivial⟩⟩ rfl rfl rfl (.cons (.there (.there (.there .here))) (.cons .here .nil)) ?_
   refine WO_nil ?_
   refine WP_seq ?_
   refine WP_ops ?_
   refine WO_mv (v := .ptr _ _ _) rfl ?_
   first | refine WO_ldA0 rfl rfl (.tail _ (.head _)) ?_ | refine WO_ldAI rfl rfl (.tail _ (.head _)) ?_
   refine WO_mv (v := .ptr _ _ _) rfl ?_
   refine WO_nilckP rfl ?_
   refine WO_fa (o' := 133) rfl rfl rfl ?_
   refine WO_fa (o' := 134) rfl rfl rfl ?_
   refine WO_ldI (x := H 134) rfl rfl (.tail _ (.tail _ (.tail _ (.head _)))) (j1.hi 134 (by omega)) ?_
   refine WO_mkslS rfl (.one rfl .nil) ?_
   obtain ⟨J2, eJ2, hSJ2⟩ := set_ex (md := .var) (md2 := .var) (q := 1) (c := .ex 1) rfl J1 X (ov (fun _ => 0) (0 * 1) (H 134)) 1 (by omega)
   have j2 : Same H J2 (brd3 H (takesM H (H 136) (H 133) (H 134)) (H 133) (H 134) (H 136) (H 137) (H 135)) := set_next j1 eJ2 ht (two hx0 hx1)
   refine WO_call (rs := [0, 4]) (Bs := [_, _]) rfl (hSJ2) rfl rfl (Nat.le_of_ble_eq_true rfl) (fun _ h => h) rfl ⟨(.tail _ (.tail _ (.tail _ (.tail _ (.head _))))), ⟨_, _, _, rfl⟩, ⟨(.head _), ⟨_, _, _, rfl⟩, trivial⟩⟩ rfl rfl rfl (.cons (.there (.there (.there (.there .here)))) (.cons .here .nil)) ?_
   refine WO_nil ?_
   refine WP_cut (fun f n L => ∃ (X J : Nat → Int), (3 ≤ n) ∧ (Same H J (brd4 H (takesM H (H 136) (H 133) (H 134)) (H 133) (H 134) (H 136) (H 137) (H 135) (castlingM (H 136) (H 133) (H 134) (H 137) (H 129)))) ∧ (f 0 = .ptr 0 0 138) ∧ (f 2 = .ptr 1 0 133) ∧ (f 3 = .s (.int .i64 (takesM H (H 136) (H 133) (H 134)))) ∧ (f 7 = .s (.int .i64 (overM (H 136) (H 133) (H 134) (H 137)))) ∧ (L = [(2, .sc .var 2 (ia X)), (1, .sc .var 133 (ia fun _ => 0)), (0, .sc .var 138 (ia J))])) ?_ (fun f nb L hI => ?_)
   ·skip
    refine WP_seq ?_
    refine WP_ops ?_
    refine WO_mv (v := .s (.bool _)) rfl ?_
    refine WO_nil ?_
    refine WP_cond rfl (fun h3 => ?_) (fun h3 => ?_)
    ·try simp only [NM] at h3
     try simp only [isM, decide_eq_true_eq, decide_eq_false_iff_not] at h3
     refine WP_seq ?_
     refine WP_ops ?_
     refine WO_mv (v := .ptr _ _ _) rfl ?_
     refine WO_buildI rfl .nil ?_
     refine WO_mv (v := .s (.int _ _)) rfl ?_
     refine WO_mkslS rfl (.one rfl .nil) ?_
     obtain ⟨J3, eJ3, hSJ3⟩ := set_ex (md := .var) (md2 := .var) (q := 1) (c := .ex 1) rfl J2 (fun _ => 0) (ov (fun _ => 0) (0 * 1) x) 1 (by omega)
     refine WO_call (rs := [0, 5]) (Bs := [_, _]) rfl (hSJ3) rfl rfl (Nat.le_of_ble_eq_true rfl) (fun _ h => h) rfl ⟨(.tail _ (.tail _ (.tail _ (.tail _ (.tail _ (.head _)))))), ⟨_, _, _, rfl⟩, ⟨(.head _), ⟨_, _, _, rfl⟩, trivial⟩⟩ rfl rfl rfl (.cons (.there (.there (.there (.there (.there .here))))) (.cons .here .nil)) ?_
     refine WO_nil ?_
     refine WP_ops ?_
     refine WO_mv (v := .ptr _ _ _) rfl ?_
     refine WO_fa (o' := 1) rfl rfl rfl ?_
     refine WO_ldI rfl rfl (.tail _ (.tail _ (.tail _ (.head _)))) rfl ?_
     refine WO_buildI rfl (.one rfl (.one rfl .nil)) ?_
     refine WO_mv (v := .s (.int _ _)) rfl ?_
     refine WO_mkslS rfl (.one rfl .nil) ?_
     obtain ⟨J4, eJ4, hSJ4⟩ := set_ex (md := .var) (md2 := .var) (q := 1) (c := .ex 1) rfl J3 (ov (ov (fun _ => 0) 0 4) 1 (X 1)) (ov (fun _ => 0) (0 * 1) y) 1 (by omega)
     have j4 : Same H J4 (brd4 H (takesM H (H 136) (H 133) (H 134)) (H 133) (H 134) (H 136) (H 137) (H 135) (castlingM (H 136) (H 133) (H 134) (H 137) (H 129))) := set_rook j2 eJ3 eJ4 hr (by assumption) hc hx1
     refine WO_call (rs := [0, 6]) (Bs := [_, _]) rfl (hSJ4) rfl rfl (Nat.le_of_ble_eq_true rfl) (fun _ h => h) rfl ⟨(.tail _ (.tail _ (.tail _ (.tail _ (.tail _ (.tail _ (.head _))))))), ⟨_, _, _, rfl⟩, ⟨(.head _), ⟨_, _, _, rfl⟩, trivial⟩⟩ rfl rfl rfl (.cons (.there (.there (.there (.there (.there (.there .here)))))) (.cons .here .nil)) ?_
     refine WO_nil ?_
     exact ⟨_, (.cons _ (.cons _ (.cons _ (.cons _ (.cons_cons _ (.cons_cons _ (.cons_cons _ .slnil))))))), X, J4, by omega, j4, rfl, rfl, rfl, rfl, rfl⟩
    ·try simp only [NM] at h3
     try simp only [isM, decide_eq_true_eq, decide_eq_false_iff_not] at h3
     refine WP_skip ?_
     exact ⟨_, (.cons _ (.cons _ (.cons_cons _ (.cons_cons _ (.cons_cons _ .slnil))))), X, J2, by omega, set_norook j2 hr (by assumption), rfl, rfl, rfl, rfl, rfl⟩
   ·skip
    obtain ⟨X, J, hn3, hJ, k0, k2, k3, k7, rfl⟩ := hI
    refine WP_know (d := 0) (v := .ptr 0 0 138) k0 ?_
    refine WP_know (d := 2) (v := .ptr 1 0 133) k2 ?_
    refine WP_know (d := 3) (v := .s (.int .i64 (takesM H (H 136) (H 133) (H 134)))) k3 ?_
    refine WP_know (d := 7) (v := .s (.int .i64 (overM (H 136) (H 133) (H 134) (H 137)))) k7 ?_
    refine WP_seq ?_
    refine WP_ops ?_
    refine WO_mv (v := .ptr _ _ _) rfl ?_
    refine WO_mv (v := .s (.int _ _)) rfl ?_
    refine WO_nilckP rfl ?_
    refine WO_fa (o' := 0) rfl rfl rfl ?_
    refine WO_fa (o' := 130) rfl rfl rfl ?_
    refine WO_stI rfl rfl rfl rfl (.there (.there .here)) ?_
    refine WO_nil ?_
    refine WP_seq ?_
    refine WP_ops ?_
    refine WO_mv (v := .ptr _ _ _) rfl ?_
    refine WO_nilckP rfl ?_
    refine WO_fa (o' := 0) rfl rfl rfl ?_
    refine WO_fa (o' := 129) rfl rfl rfl ?_
    refine WO_ldI (x := H 129) rfl rfl (.tail _ (.tail _ (.head _))) (hJ.hi 129 (by omega)) ?_
    refine WO_mv (v := .ptr _ _ _) rfl ?_
    refine WO_nilckP rfl ?_
    refine WO_fa (o' := 133) rfl rfl rfl ?_
    refine WO_fa (o' := 133) rfl rfl rfl ?_
    refine WO_ldI (x := H 133) rfl rfl (.tail _ (.tail _ (.head _))) (hJ.hi 133 (by omega)) ?_
    refine WO_mv (v := .ptr _ _ _) rfl ?_
    refine WO_nilckP rfl ?_
    refine WO_fa (o' := 133) rfl rfl rfl ?_
    refine WO_fa (o' := 134) rfl rfl rfl ?_
    refine WO_ldI (x := H 134) rfl rfl (.tail _ (.tail _ (.head _))) (hJ.hi 134 (by omega)) ?_
    refine WO_mkslS rfl (.one rfl (.one rfl .nil)) ?_
    refine WO_callq (rs := [nb]) (Bs := [_]) (av := [.sl nb 0 2 1 (.ex 2)]) (v := .s (.int .i64 (lostsM (ov (ov (fun _ => 0) (0 * 1) (H 133)) (1 * 1) (H 134)) 2))) rfl (RB_of1 (losts_run (md := .ro) (q := 2) (c := .ex 2) (ov (ov (fun _ => 0) (0 * 1) (H 133)) (1 * 1) (H 134)) 2 (by omega))) rfl (by simp [V.refsL, V.refs, dedup]) (by simp [V.refsL, V.refs]) (by simp [V.refsL, V.refs]) (by simp [rnL, V.renL, V.ren, pos]) ⟨(.head _), ⟨_, _, _, rfl⟩, trivial⟩ rfl rfl rfl ?_
    refine WO_bin (r := .int .i64 (andNotM (H 129) _)) rfl rfl rfl ?_
    refine WO_nilckP rfl ?_
    refine WO_fa (o' := 0) rfl rfl rfl ?_
    refine WO_fa (o' := 129) rfl rfl rfl ?_
    refine WO_stI rfl rfl rfl rfl (.there (.there (.there .here))) ?_
    refine WO_nil ?_
    refine WP_seq ?_
    refine WP_ops ?_
    refine WO_mv (v := .ptr _ _ _) rfl ?_
    refine WO_mv (v := .ptr _ _ _) rfl ?_
    refine WO_nilckP rfl ?_
    refine WO_fa (o' := 0) rfl rfl rfl ?_
    refine WO_fa (o' := 131) rfl rfl rfl ?_
    refine WO_ldI (x := H 131) rfl rfl (.tail _ (.tail _ (.tail _ (.head _)))) (hJ.hi 131 (by omega)) ?_
    refine WO_mn2 rfl rfl ?_
    refine WO_bin rfl rfl rfl ?_
    refine WO_nilckP rfl ?_
    refine WO_fa (o' := 0) rfl rfl rfl ?_
    refine WO_fa (o' := 131) rfl rfl rfl ?_
    refine WO_stI rfl rfl rfl rfl (.there (.there (.there .here))) ?_
    refine WO_nil ?_
    refine WP_cut (fun f n L => ∃ (J : Nat → Int), (Done H J (brd4 H (takesM H (H 136) (H 133) (H 134)) (H 133) (H 134) (H 136) (H 137) (H 135) (castlingM (H 136) (H 133) (H 134) (H 137) (H 129))) (andNotM (H 129) (orM (orM 0 (lostM (H 133))) (lostM (H 134)))) (overM (H 136) (H 133) (H 134) (H 137)) (halfM H (H 136) (takesM H (H 136) (H 133) (H 134))) (H 132)) ∧ (f 0 = .ptr 0 0 138) ∧ (f 2 = .ptr 1 0 133) ∧ (L = [(1, .sc .var 133 (ia fun _ => 0)), (0, .sc .var 138 (ia J))])) ?_ (fun f nb L hI => ?_)
    ·skip
     refine WP_seq ?_
     refine WP_ops ?_
     refine WO_mv (v := .s (.int _ _)) rfl ?_
     refine WO_bin (r := .bool _) rfl rfl rfl ?_
     refine WO_mv (v := .s (.bool _)) rfl ?_
     refine WO_case (t := 118) rfl (fun h4 => ?_) (fun h4 => ?_)
     ·try simp only [NM] at h4
      try simp only [isM, decide_eq_true_eq, decide_eq_false_iff_not] at h4
      refine WO_gf rfl rfl ?_
      refine WO_gf rfl rfl ?_
      refine WO_gf rfl rfl ?_
      refine WO_gf rfl rfl ?_
      refine WO_gf rfl rfl ?_
      refine WO_gf rfl rfl ?_
      refine WO_pick (v := .s (.bool _)) rfl rfl ?_
      refine WO_nil ?_
      refine WP_cond rfl (fun _ => ?_) (fun h => nomatch h)
      refine WP_ops ?_
      refine WO_mv (v := .ptr _ _ _) rfl ?_
      refine WO_nilckP rfl ?_
      refine WO_fa (o' := 0) rfl rfl rfl ?_
      refine WO_fa (o' := 131) rfl rfl rfl ?_
      refine WO_stI rfl rfl rfl rfl (.there (.there (.there .here))) ?_
      refine WO_nil ?_
      refine ⟨_, (.cons _ (.cons _ (.cons_cons _ (.cons_cons _ .slnil)))), _, ?_, rfl, rfl, rfl⟩
      refine ⟨(by intro i hi; (repeat rw [ov_out (by omega)]); exact hJ.lo i hi), hJ.hi 128 (by omega), rfl, rfl, ?_, hJ.hi 132 (by omega)⟩
      have hb := takesM_bd (P := H) (k := H 136) ha ht
      rw [halfM]
      first | exact (if_pos (by omega)).symm | exact (if_neg (by omega)).symm
     ·try simp only [NM] at h4
      try simp only [isM, decide_eq_true_eq, decide_eq_false_iff_not] at h4
      refine WO_gt rfl ?_
      refine WO_mv (v := .ptr _ _ _) rfl ?_
      refine WO_gt rfl ?_
      refine WO_nilckP rfl ?_
      refine WO_gt rfl ?_
      refine WO_fa (o' := 136) rfl rfl rfl ?_
      refine WO_gt rfl ?_
      refine WO_fa (o' := 136) rfl rfl rfl ?_
      refine WO_gt rfl ?_
      refine WO_ldI (x := H 136) rfl rfl (.tail _ (.tail _ (.tail _ (.head _)))) (hJ.hi 136 (by omega)) ?_
      refine WO_gt rfl ?_
      refine WO_bin (r := .bool _) rfl rfl rfl ?_
      refine WO_pick (v := .s (.bool _)) rfl rfl ?_
      refine WO_nil ?_
      refine WP_cond rfl (fun h5 => ?_) (fun h5 => ?_)
      ·try simp only [NM] at h5
       try simp only [isM, decide_eq_true_eq, decide_eq_false_iff_not] at h5
       refine WP_ops ?_
       refine WO_mv (v := .ptr _ _ _) rfl ?_
       refine WO_nilckP rfl ?_
       refine WO_fa (o' := 0) rfl rfl rfl ?_
       refine WO_fa (o' := 131) rfl rfl rfl ?_
       refine WO_stI rfl rfl rfl rfl (.there (.there (.there .here))) ?_
       refine WO_nil ?_
       refine ⟨_, (.cons _ (.cons _ (.cons_cons _ (.cons_cons _ .slnil)))), _, ?_, rfl, rfl, rfl⟩
       refine ⟨(by intro i hi; (repeat rw [ov_out (by omega)]); exact hJ.lo i hi), hJ.hi 128 (by omega), rfl, rfl, ?_, hJ.hi 132 (by omega)⟩
       have hb := takesM_bd (P := H) (k := H 136) ha ht
       rw [halfM]
       first | exact (if_pos (by omega)).symm | exact (if_neg (by omega)).symm
      ·try simp only [NM] at h5
       try simp only [isM, decide_eq_true_eq, decide_eq_false_iff_not] at h5
       refine WP_skip ?_
       refine ⟨_, (.cons _ (.cons _ (.cons_cons _ (.cons_cons _ .slnil)))), _, ?_, rfl, rfl, rfl⟩
       refine ⟨(by intro i hi; (repeat rw [ov_out (by omega)]); exact hJ.lo i hi), hJ.hi 128 (by omega), rfl, rfl, ?_, hJ.hi 132 (by omega)⟩
       have hb := takesM_bd (P := H) (k := H 136) ha ht
       rw [halfM]
       first | exact (if_pos (by omega)).symm | exact (if_neg (by omega)).symm
    ·skip
     obtain ⟨J, hD, k0, k2, rfl⟩ := hI
     refine WP_know (d := 0) (v := .ptr 0 0 138) k0 ?_
     refine WP_know (d := 2) (v := .ptr 1 0 133) k2 ?_
     refine WP_cut (fun f n L => ∃ (J : Nat → Int), (Done H J (brd4 H (takesM H (H 136) (H 133) (H 134)) (H 133) (H 134) (H 136) (H 137) (H 135) (castlingM (H 136) (H 133) (H 134) (H 137) (H 129))) (andNotM (H 129) (orM (orM 0 (lostM (H 133))) (lostM (H 134)))) (overM (H 136) (H 133) (H 134) (H 137)) (halfM H (H 136) (takesM H (H 136) (H 133) (H 134))) (fullM H)) ∧ (f 0 = .ptr 0 0 138) ∧ (f 2 = .ptr 1 0 133) ∧ (L = [(1, .sc .var 133 (ia fun _ => 0)), (0, .sc .var 138 (ia J))])) ?_ (fun f nb L hI => ?_)
     ·skip
      refine WP_seq ?_
      refine WP_ops ?_
      refine WO_mv (v := .ptr _ _ _) rfl ?_
      refine WO_nilckP rfl ?_
      refine WO_fa (o' := 0) rfl rfl rfl ?_
      refine WO_fa (o' := 128) rfl rfl rfl ?_
      refine WO_ldI (x := H 128) rfl rfl (.tail _ (.head _)) (hD.s) ?_
      refine WO_bin (r := .bool _) rfl rfl rfl ?_
      refine WO_nil ?_
      refine WP_cond rfl (fun h6 => ?_) (fun h6 => ?_)
      ·try simp only [NM] at h6
       try simp only [isM, decide_eq_true_eq, decide_eq_false_iff_not] at h6
       refine WP_ops ?_
       refine WO_mv (v := .ptr _ _ _) rfl ?_
       refine WO_mv (v := .ptr _ _ _) rfl ?_
       refine WO_nilckP rfl ?_
       refine WO_fa (o' := 0) rfl rfl rfl ?_
       refine WO_fa (o' := 132) rfl rfl rfl ?_
       refine WO_ldI (x := H 132) rfl rfl (.tail _ (.head _)) (hD.f) ?_
       refine WO_mn2 rfl rfl ?_
       refine WO_bin rfl rfl rfl ?_
       refine WO_nilckP rfl ?_
       refine WO_fa (o' := 0) rfl rfl rfl ?_
       refine WO_fa (o' := 132) rfl rfl rfl ?_
       refine WO_stI rfl rfl rfl rfl (.there .here) ?_
       refine WO_nil ?_
       refine ⟨_, (.cons_cons _ (.cons_cons _ .slnil)), _, ?_, rfl, rfl, rfl⟩
       refine ⟨(by intro i hi; (repeat rw [ov_out (by omega)]); exact hD.lo i hi), hD.s, hD.c, hD.o, hD.h, ?_⟩
       rw [fullM]
       first | exact (if_pos (by assumption)).symm | exact hD.f.trans (if_neg (by assumption)).symm
      ·try simp only [NM] at h6
       try simp only [isM, decide_eq_true_eq, decide_eq_false_iff_not] at h6
       refine WP_skip ?_
       refine ⟨_, (.cons_cons _ (.cons_cons _ .slnil)), _, ?_, rfl, rfl, rfl⟩
       refine ⟨(by intro i hi; (repeat rw [ov_out (by omega)]); exact hD.lo i hi), hD.s, hD.c, hD.o, hD.h, ?_⟩
       rw [fullM]
       first | exact (if_pos (by assumption)).symm | exact hD.f.trans (if_neg (by assumption)).symm
     ·skip
      obtain ⟨J, hE, k0, k2, rfl⟩ := hI
      refine WP_know (d := 0) (v := .ptr 0 0 138) k0 ?_
      refine WP_know (d := 2) (v := .ptr 1 0 133) k2 ?_
      refine WP_seq ?_
      refine WP_ops ?_
      refine WO_mv (v := .ptr _ _ _) rfl ?_
      refine WO_mv (v := .ptr _ _ _) rfl ?_
      refine WO_nilckP rfl ?_
      refine WO_fa (o' := 0) rfl rfl rfl ?_
      refine WO_fa (o' := 128) rfl rfl rfl ?_
      refine WO_ldI (x := H 128) rfl rfl (.tail _ (.head _)) (hE.s) ?_
      refine WO_call0 rfl (RF_of (Other_run _)) rfl rfl rfl ?_
      refine WO_nilckP rfl ?_
      refine WO_fa (o' := 0) rfl rfl rfl ?_
      refine WO_fa (o' := 128) rfl rfl rfl ?_
      refine WO_stI rfl rfl rfl rfl (.there .here) ?_
      refine WO_nil ?_
      refine WP_seq ?_
      refine WP_ops ?_
      refine WO_mv (v := .ptr _ _ _) rfl ?_
      refine WO_nilckP rfl ?_
      refine WO_fa (o' := 0) rfl rfl rfl ?_
      first | refine WO_ldA0 rfl rfl (.tail _ (.head _)) ?_ | refine WO_ldAI rfl rfl (.tail _ (.head _)) ?_
      refine WO_stA rfl rfl rfl rfl .here ?_
      refine WO_nil ?_
      refine WP_ret ?_
      refine ⟨_, RS_cell rfl rfl (.head _) (RS_nil), ?_⟩
      refine ⟨_, congrArg (fun g => V.agg 133 (ia g)) (funext fun i => ?_), (.tail _ (.head _))⟩
      exact done_is hE i
/-- A hand of a position and a move. -/
structure HandOf (P m H : Nat → Int) : Prop where
  lo : ∀ i, i < 129 → H i = P i
  c : H 129 = castM P
  hi : ∀ i, 130 ≤ i → i < 133 → H i = P i
  a : H 133 = m 0
  t : H 134 = m 1
  b : H 135 = m 2
  k : H 136 = P (sqI (m 0))
  s : H 137 = P (sqI (m 0) + 1)

/-- What is first laid. -/
def hand0 (P m : Nat → Int) : Nat → Int := ovA (ovA (ovA (fun _ => 0) 0 133 P) 133 3 m) 136 2 (dp P (sqI (m 0)))

theorem hand0_lo {P m : Nat → Int} {i : Nat} (h : i < 133) : hand0 P m i = P i := by
  unfold hand0
  rw [ovA_out (by omega), ovA_out (by omega), ovA_at (by omega), Nat.sub_zero]

theorem hand_keep {P m : Nat → Int} (h : 0 ≤ P 129 ∧ P 129 ≤ 15) : HandOf P m (hand0 P m) :=
  ⟨fun i hi => hand0_lo (by omega), by rw [hand0_lo (by omega), castM, if_neg (by omega)], fun i _ hi => hand0_lo hi, rfl, rfl, rfl, rfl, rfl⟩

theorem hand_none {P m : Nat → Int} (h : P 129 < 0 ∨ 15 < P 129) : HandOf P m (ov (hand0 P m) 129 0) :=
  ⟨fun i hi => by rw [ov_out (by omega)]; exact hand0_lo (by omega), by rw [castM, if_pos h]; rfl, fun i h1 hi => by rw [ov_out (by omega)]; exact hand0_lo hi, rfl, rfl, rfl, rfl, rfl⟩

theorem can_no {P : Nat → Int} {a t b : Int} (h : ¬ (1 ≤ P (sqI a) ∧ P (sqI a) ≤ 6 ∧ P (sqI a + 1) = P 128 ∧ (P (sqI a + 1) = 0 ∨ P (sqI a + 1) = 1) ∧ (if P (sqI a) = 1 ∧ t / 8 = 7 * (1 - P (sqI a + 1)) then 2 ≤ b ∧ b ≤ 5 else b = 0))) : canM P a t b = false := decide_eq_false h
theorem can_yes {P : Nat → Int} {a t b : Int} (h : 1 ≤ P (sqI a) ∧ P (sqI a) ≤ 6 ∧ P (sqI a + 1) = P 128 ∧ (P (sqI a + 1) = 0 ∨ P (sqI a + 1) = 1) ∧ (if P (sqI a) = 1 ∧ t / 8 = 7 * (1 - P (sqI a + 1)) then 2 ≤ b ∧ b ≤ 5 else b = 0)) : canM P a t b = true := decide_eq_true h

theorem taken_run (P m : Nat → Int) : WR AM 95 [.agg 133 (ia P), .agg 3 (ia m)] [] (fun v _ L => (v = .tup [.pnil, .s (.int .i64 (errM P (m 0) (m 1) (m 2)))] ∧ errM P (m 0) (m 1) (m 2) ≠ 0) ∨ (errM P (m 0) (m 1) (m 2) = 0 ∧ ∃ b H, v = .tup [.ptr b 0 138, .s (.int .i64 (errM P (m 0) (m 1) (m 2)))] ∧ HandOf P m H ∧ (b, Blk.sc .var 138 (ia H)) ∈ L)) := by
 refine WR_fn (a := a95) rfl rfl (entryF _) (entry_E (Nat.le_of_ble_eq_true rfl)) (m := 0) rfl ?_
 refine WP_seq ?_
 refine WP_ops ?_
 refine WO_boxA rfl ?_
 refine WO_boxA rfl ?_
 refine WO_mv rfl ?_
 refine WO_mv rfl ?_
 refine WO_nil ?_
 refine WP_seq ?_
 refine WP_seq ?_
 refine WP_ops ?_
 refine WO_fa (o' := 0) rfl rfl rfl ?_
 refine WO_ldI rfl rfl (.head _) rfl ?_
 refine WO_call0 rfl (SqIs_run _) rfl rfl rfl ?_
 refine WO_un (r := .bool _) rfl rfl ?_
 refine WO_mv (v := .s (.bool _)) rfl ?_
 refine WO_case (t := 13) rfl (fun h7 => ?_) (fun h7 => ?_)
 ·try simp only [NM] at h7
  try simp only [isM, decide_eq_true_eq, decide_eq_false_iff_not] at h7
  refine WO_gf rfl rfl ?_
  refine WO_gf rfl rfl ?_
  refine WO_gf rfl rfl ?_
  refine WO_gf rfl rfl ?_
  refine WO_pick (v := .s (.bool _)) rfl rfl ?_
  refine WO_mv (v := .s (.bool _)) rfl ?_
  refine WO_gf rfl rfl ?_
  refine WO_gf rfl rfl ?_
  refine WO_gf rfl rfl ?_
  refine WO_gf rfl rfl ?_
  refine WO_gf rfl rfl ?_
  refine WO_pick (v := .s (.bool _)) rfl rfl ?_
  refine WO_nil ?_
  refine WP_cond rfl (fun _ => ?_) (fun h => nomatch h)
  refine WP_seq ?_
  refine WP_ops ?_
  refine WO_mv rfl ?_
  refine WO_mv rfl ?_
  refine WO_nil ?_
  refine WP_ret ?_
  refine ⟨_, RS_tmp (v := .pnil) rfl (RS_tmp (v := .s (.int _ _)) rfl (RS_nil)), ?_⟩
  have he := errM_out (P := P) (a := m 0) (t := m 1) (b := m 2) (by omega)
  rw [he]
  exact .inl ⟨rfl, by decide⟩
 ·try simp only [NM] at h7
  try simp only [isM, decide_eq_true_eq, decide_eq_false_iff_not] at h7
  refine WO_gt rfl ?_
  refine WO_fa (o' := 1) rfl rfl rfl ?_
  refine WO_gt rfl ?_
  refine WO_ldI rfl rfl (.head _) rfl ?_
  refine WO_gt rfl ?_
  refine WO_call0 rfl (SqIs_run _) rfl rfl rfl ?_
  refine WO_gt rfl ?_
  refine WO_un (r := .bool _) rfl rfl ?_
  refine WO_pick (v := .s (.bool _)) rfl rfl ?_
  refine WO_mv (v := .s (.bool _)) rfl ?_
  refine WO_case (t := 19) rfl (fun h8 => ?_) (fun h8 => ?_)
  ·try simp only [NM] at h8
   try simp only [isM, decide_eq_true_eq, decide_eq_false_iff_not] at h8
   refine WO_gf rfl rfl ?_
   refine WO_gf rfl rfl ?_
   refine WO_gf rfl rfl ?_
   refine WO_gf rfl rfl ?_
   refine WO_gf rfl rfl ?_
   refine WO_pick (v := .s (.bool _)) rfl rfl ?_
   refine WO_nil ?_
   refine WP_cond rfl (fun _ => ?_) (fun h => nomatch h)
   refine WP_seq ?_
   refine WP_ops ?_
   refine WO_mv rfl ?_
   refine WO_mv rfl ?_
   refine WO_nil ?_
   refine WP_ret ?_
   refine ⟨_, RS_tmp (v := .pnil) rfl (RS_tmp (v := .s (.int _ _)) rfl (RS_nil)), ?_⟩
   have he := errM_out (P := P) (a := m 0) (t := m 1) (b := m 2) (by omega)
   rw [he]
   exact .inl ⟨rfl, by decide⟩
  ·try simp only [NM] at h8
   try simp only [isM, decide_eq_true_eq, decide_eq_false_iff_not] at h8
   refine WO_gt rfl ?_
   refine WO_fa (o' := 0) rfl rfl rfl ?_
   refine WO_gt rfl ?_
   refine WO_ldI rfl rfl (.head _) rfl ?_
   refine WO_gt rfl ?_
   refine WO_fa (o' := 1) rfl rfl rfl ?_
   refine WO_gt rfl ?_
   refine WO_ldI rfl rfl (.head _) rfl ?_
   refine WO_gt rfl ?_
   refine WO_bin (r := .bool _) rfl rfl rfl ?_
   refine WO_pick (v := .s (.bool _)) rfl rfl ?_
   refine WO_nil ?_
   refine WP_cond rfl (fun h9 => ?_) (fun h9 => ?_)
   ·try simp only [NM] at h9
    try simp only [isM, decide_eq_true_eq, decide_eq_false_iff_not] at h9
    refine WP_seq ?_
    refine WP_ops ?_
    refine WO_mv rfl ?_
    refine WO_mv rfl ?_
    refine WO_nil ?_
    refine WP_ret ?_
    refine ⟨_, RS_tmp (v := .pnil) rfl (RS_tmp (v := .s (.int _ _)) rfl (RS_nil)), ?_⟩
    have he := errM_out (P := P) (a := m 0) (t := m 1) (b := m 2) (by omega)
    rw [he]
    exact .inl ⟨rfl, by decide⟩
   ·try simp only [NM] at h9
    try simp only [isM, decide_eq_true_eq, decide_eq_false_iff_not] at h9
    refine WP_skip ?_
    refine WP_seq ?_
    refine WP_ops ?_
    first | refine WO_ldA0 rfl rfl (.tail _ (.head _)) ?_ | refine WO_ldAI rfl rfl (.tail _ (.head _)) ?_
    first | refine WO_ldA0 rfl rfl (.head _) ?_ | refine WO_ldAI rfl rfl (.head _) ?_
    refine WO_fa (o' := 0) rfl rfl rfl ?_
    refine WO_ldI rfl rfl (.head _) rfl ?_
    refine WO_fa (o' := 0) rfl rfl rfl ?_
    refine WO_ixa rfl rfl rfl (by omega) ?_
    first | refine WO_ldA0 rfl rfl (.tail _ (.head _)) ?_ | refine WO_ldAI rfl rfl (.tail _ (.head _)) ?_
    refine WO_buildI rfl (.agg rfl (.agg rfl (.agg rfl .nil))) ?_
    refine WO_boxA rfl ?_
    refine WO_mv (v := .ptr _ _ _) rfl ?_
    refine WO_nil ?_
    refine WP_cut (fun f n L => ∃ (H : Nat → Int), (HandOf P m H) ∧ (0 ≤ m 0 ∧ m 0 < 64) ∧ (0 ≤ m 1 ∧ m 1 < 64) ∧ (m 0 ≠ m 1) ∧ (f 2 = .ptr 0 0 133) ∧ (f 3 = .ptr 1 0 3) ∧ (f 6 = .ptr 2 0 138) ∧ (L = [(2, .sc .var 138 (ia H)), (1, .sc .var 3 (ia m)), (0, .sc .var 133 (ia P))]) ∧ (n = 3)) ?_ (fun f nb L hI => ?_)
    ·skip
     refine WP_seq ?_
     refine WP_ops ?_
     refine WO_mv (v := .ptr _ _ _) rfl ?_
     refine WO_nilckP rfl ?_
     refine WO_fa (o' := 0) rfl rfl rfl ?_
     refine WO_fa (o' := 129) rfl rfl rfl ?_
     refine WO_ldI (x := P 129) rfl rfl (.head _) (rfl) ?_
     refine WO_bin (r := .bool _) rfl rfl rfl ?_
     refine WO_mv (v := .s (.bool _)) rfl ?_
     refine WO_case (t := 41) rfl (fun h10 => ?_) (fun h10 => ?_)
     ·try simp only [NM] at h10
      try simp only [isM, decide_eq_true_eq, decide_eq_false_iff_not] at h10
      refine WO_gf rfl rfl ?_
      refine WO_gf rfl rfl ?_
      refine WO_gf rfl rfl ?_
      refine WO_gf rfl rfl ?_
      refine WO_gf rfl rfl ?_
      refine WO_gf rfl rfl ?_
      refine WO_pick (v := .s (.bool _)) rfl rfl ?_
      refine WO_nil ?_
      refine WP_cond rfl (fun _ => ?_) (fun h => nomatch h)
      refine WP_ops ?_
      refine WO_mv (v := .ptr _ _ _) rfl ?_
      refine WO_nilckP rfl ?_
      refine WO_fa (o' := 0) rfl rfl rfl ?_
      refine WO_fa (o' := 129) rfl rfl rfl ?_
      refine WO_stI rfl rfl rfl rfl .here ?_
      refine WO_nil ?_
      refine ⟨_, (.cons_cons _ (.cons_cons _ (.cons_cons _ .slnil))), _, ?_, by omega, by omega, by omega, rfl, rfl, rfl, rfl, rfl⟩
      first | exact hand_none (.inl (by assumption)) | exact hand_none (.inr (by assumption)) | exact hand_keep ⟨by omega, by omega⟩
     ·try simp only [NM] at h10
      try simp only [isM, decide_eq_true_eq, decide_eq_false_iff_not] at h10
      refine WO_gt rfl ?_
      refine WO_mv (v := .ptr _ _ _) rfl ?_
      refine WO_gt rfl ?_
      refine WO_nilckP rfl ?_
      refine WO_gt rfl ?_
      refine WO_fa (o' := 0) rfl rfl rfl ?_
      refine WO_gt rfl ?_
      refine WO_fa (o' := 129) rfl rfl rfl ?_
      refine WO_gt rfl ?_
      refine WO_ldI (x := P 129) rfl rfl (.head _) (rfl) ?_
      refine WO_gt rfl ?_
      refine WO_bin (r := .bool _) rfl rfl rfl ?_
      refine WO_pick (v := .s (.bool _)) rfl rfl ?_
      refine WO_nil ?_
      refine WP_cond rfl (fun h11 => ?_) (fun h11 => ?_)
      ·try simp only [NM] at h11
       try simp only [isM, decide_eq_true_eq, decide_eq_false_iff_not] at h11
       refine WP_ops ?_
       refine WO_mv (v := .ptr _ _ _) rfl ?_
       refine WO_nilckP rfl ?_
       refine WO_fa (o' := 0) rfl rfl rfl ?_
       refine WO_fa (o' := 129) rfl rfl rfl ?_
       refine WO_stI rfl rfl rfl rfl .here ?_
       refine WO_nil ?_
       refine ⟨_, (.cons_cons _ (.cons_cons _ (.cons_cons _ .slnil))), _, ?_, by omega, by omega, by omega, rfl, rfl, rfl, rfl, rfl⟩
       first | exact hand_none (.inl (by assumption)) | exact hand_none (.inr (by assumption)) | exact hand_keep ⟨by omega, by omega⟩
      ·try simp only [NM] at h11
       try simp only [isM, decide_eq_true_eq, decide_eq_false_iff_not] at h11
       refine WP_skip ?_
       refine ⟨_, (.cons_cons _ (.cons_cons _ (.cons_cons _ .slnil))), _, ?_, by omega, by omega, by omega, rfl, rfl, rfl, rfl, rfl⟩
       first | exact hand_none (.inl (by assumption)) | exact hand_none (.inr (by assumption)) | exact hand_keep ⟨by omega, by omega⟩
    ·skip
     obtain ⟨H, hH, ha, ht, hat, k2, k3, k6, rfl, rfl⟩ := hI
     refine WP_know (d := 2) (v := .ptr 0 0 133) k2 ?_
     refine WP_know (d := 3) (v := .ptr 1 0 3) k3 ?_
     refine WP_know (d := 6) (v := .ptr 2 0 138) k6 ?_
     refine WP_seq ?_
     refine WP_ops ?_
     refine WO_mv (v := .ptr _ _ _) rfl ?_
     refine WO_nilckP rfl ?_
     refine WO_fa (o' := 136) rfl rfl rfl ?_
     first | refine WO_ldA0 rfl rfl (.head _) ?_ | refine WO_ldAI rfl rfl (.head _) ?_
     refine WO_allocI ?_
     refine WO_stA rfl rfl rfl rfl .here ?_
     refine WO_nil ?_
     refine WP_seq ?_
     refine WP_seq ?_
     refine WP_ops ?_
     refine WO_fa (o' := 0) rfl rfl rfl ?_
     refine WO_ldI (x := P (sqI (m 0))) rfl rfl (.head _) (hH.k) ?_
     refine WO_bin (r := .bool _) rfl rfl rfl ?_
     refine WO_mv (v := .s (.bool _)) rfl ?_
     refine WO_case (t := 60) rfl (fun h12 => ?_) (fun h12 => ?_)
     ·try simp only [NM] at h12
      try simp only [isM, decide_eq_true_eq, decide_eq_false_iff_not] at h12
      refine WO_gf rfl rfl ?_
      refine WO_gf rfl rfl ?_
      refine WO_gf rfl rfl ?_
      refine WO_pick (v := .s (.bool _)) rfl rfl ?_
      refine WO_mv (v := .s (.bool _)) rfl ?_
      refine WO_gf rfl rfl ?_
      refine WO_gf rfl rfl ?_
      refine WO_gf rfl rfl ?_
      refine WO_gf rfl rfl ?_
      refine WO_gf rfl rfl ?_
      refine WO_pick (v := .s (.bool _)) rfl rfl ?_
      refine WO_mv (v := .s (.bool _)) rfl ?_
      refine WO_gf rfl rfl ?_
      refine WO_gf rfl rfl ?_
      refine WO_gf rfl rfl ?_
      refine WO_gf rfl rfl ?_
      refine WO_gu rfl ?_
      refine WO_gu rfl ?_
      refine WO_gu rfl ?_
      refine WO_gf rfl rfl ?_
      refine WO_pick (v := .s (.bool _)) rfl rfl ?_
      refine WO_nil ?_
      refine WP_cond rfl (fun _ => ?_) (fun h => nomatch h)
      refine WP_seq ?_
      refine WP_ops ?_
      refine WO_mv rfl ?_
      refine WO_mv rfl ?_
      refine WO_nil ?_
      refine WP_ret ?_
      refine ⟨_, RS_tmp (v := .pnil) rfl (RS_tmp (v := .s (.int _ _)) rfl (RS_nil)), ?_⟩
      have hh : canM P (m 0) (m 1) (m 2) = false := can_no (by first | omega | (split <;> omega))
      have he := errM_not (by omega) hh
      rw [he]
      exact .inl ⟨rfl, by decide⟩
     ·try simp only [NM] at h12
      try simp only [isM, decide_eq_true_eq, decide_eq_false_iff_not] at h12
      refine WO_gt rfl ?_
      refine WO_fa (o' := 0) rfl rfl rfl ?_
      refine WO_gt rfl ?_
      refine WO_ldI (x := P (sqI (m 0))) rfl rfl (.head _) (hH.k) ?_
      refine WO_gt rfl ?_
      refine WO_bin (r := .bool _) rfl rfl rfl ?_
      refine WO_pick (v := .s (.bool _)) rfl rfl ?_
      refine WO_mv (v := .s (.bool _)) rfl ?_
      refine WO_case (t := 65) rfl (fun h13 => ?_) (fun h13 => ?_)
      ·try simp only [NM] at h13
       try simp only [isM, decide_eq_true_eq, decide_eq_false_iff_not] at h13
       refine WO_gf rfl rfl ?_
       refine WO_gf rfl rfl ?_
       refine WO_gf rfl rfl ?_
       refine WO_gf rfl rfl ?_
       refine WO_gf rfl rfl ?_
       refine WO_pick (v := .s (.bool _)) rfl rfl ?_
       refine WO_mv (v := .s (.bool _)) rfl ?_
       refine WO_gf rfl rfl ?_
       refine WO_gf rfl rfl ?_
       refine WO_gf rfl rfl ?_
       refine WO_gf rfl rfl ?_
       refine WO_gu rfl ?_
       refine WO_gu rfl ?_
       refine WO_gu rfl ?_
       refine WO_gf rfl rfl ?_
       refine WO_pick (v := .s (.bool _)) rfl rfl ?_
       refine WO_nil ?_
       refine WP_cond rfl (fun _ => ?_) (fun h => nomatch h)
       refine WP_seq ?_
       refine WP_ops ?_
       refine WO_mv rfl ?_
       refine WO_mv rfl ?_
       refine WO_nil ?_
       refine WP_ret ?_
       refine ⟨_, RS_tmp (v := .pnil) rfl (RS_tmp (v := .s (.int _ _)) rfl (RS_nil)), ?_⟩
       have hh : canM P (m 0) (m 1) (m 2) = false := can_no (by first | omega | (split <;> omega))
       have he := errM_not (by omega) hh
       rw [he]
       exact .inl ⟨rfl, by decide⟩
      ·try simp only [NM] at h13
       try simp only [isM, decide_eq_true_eq, decide_eq_false_iff_not] at h13
       refine WO_gt rfl ?_
       refine WO_fa (o' := 1) rfl rfl rfl ?_
       refine WO_gt rfl ?_
       refine WO_ldI (x := P (sqI (m 0) + 1)) rfl rfl (.head _) (hH.s) ?_
       refine WO_gt rfl ?_
       refine WO_fa (o' := 128) rfl rfl rfl ?_
       refine WO_gt rfl ?_
       refine WO_ldI rfl rfl (.tail _ (.tail _ (.tail _ (.head _)))) rfl ?_
       refine WO_gt rfl ?_
       refine WO_bin (r := .bool _) rfl rfl rfl ?_
       refine WO_pick (v := .s (.bool _)) rfl rfl ?_
       refine WO_mv (v := .s (.bool _)) rfl ?_
       refine WO_case (t := 72) rfl (fun h14 => ?_) (fun h14 => ?_)
       ·try simp only [NM] at h14
        try simp only [isM, decide_eq_true_eq, decide_eq_false_iff_not] at h14
        refine WO_gf rfl rfl ?_
        refine WO_gf rfl rfl ?_
        refine WO_gf rfl rfl ?_
        refine WO_gf rfl rfl ?_
        refine WO_gu rfl ?_
        refine WO_gu rfl ?_
        refine WO_gu rfl ?_
        refine WO_gf rfl rfl ?_
        refine WO_pick (v := .s (.bool _)) rfl rfl ?_
        refine WO_nil ?_
        refine WP_cond rfl (fun _ => ?_) (fun h => nomatch h)
        refine WP_seq ?_
        refine WP_ops ?_
        refine WO_mv rfl ?_
        refine WO_mv rfl ?_
        refine WO_nil ?_
        refine WP_ret ?_
        refine ⟨_, RS_tmp (v := .pnil) rfl (RS_tmp (v := .s (.int _ _)) rfl (RS_nil)), ?_⟩
        have hh : canM P (m 0) (m 1) (m 2) = false := can_no (by first | omega | (split <;> omega))
        have he := errM_not (by omega) hh
        rw [he]
        exact .inl ⟨rfl, by decide⟩
       ·try simp only [NM] at h14
        try simp only [isM, decide_eq_true_eq, decide_eq_false_iff_not] at h14
        refine WO_gt rfl ?_
        refine WO_fa (o' := 1) rfl rfl rfl ?_
        refine WO_gt rfl ?_
        refine WO_ldI (x := P (sqI (m 0) + 1)) rfl rfl (.head _) (hH.s) ?_
        refine WO_gt rfl ?_
        refine WO_bin (r := .bool _) rfl rfl rfl ?_
        refine WO_gt rfl ?_
        refine WO_mv (v := .s (.bool _)) rfl ?_
        refine WO_case (t := 76) rfl (fun h15 => ?_) (fun h15 => ?_)
        ·try simp only [NM] at h15
         try simp only [isM, decide_eq_true_eq, decide_eq_false_iff_not] at h15
         refine WO_gt rfl ?_
         refine WO_fa (o' := 1) rfl rfl rfl ?_
         refine WO_gt rfl ?_
         refine WO_ldI (x := P (sqI (m 0) + 1)) rfl rfl (.head _) (hH.s) ?_
         refine WO_gt rfl ?_
         refine WO_bin (r := .bool _) rfl rfl rfl ?_
         refine WO_gt rfl ?_
         refine WO_pick (v := .s (.bool _)) rfl rfl ?_
         refine WO_pick (v := .s (.bool _)) rfl rfl ?_
         refine WO_nil ?_
         refine WP_cond rfl (fun h16 => ?_) (fun h16 => ?_)
         ·try simp only [NM] at h16
          try simp only [isM, decide_eq_true_eq, decide_eq_false_iff_not] at h16
          refine WP_seq ?_
          refine WP_ops ?_
          refine WO_mv rfl ?_
          refine WO_mv rfl ?_
          refine WO_nil ?_
          refine WP_ret ?_
          refine ⟨_, RS_tmp (v := .pnil) rfl (RS_tmp (v := .s (.int _ _)) rfl (RS_nil)), ?_⟩
          have hh : canM P (m 0) (m 1) (m 2) = false := can_no (by first | omega | (split <;> omega))
          have he := errM_not (by omega) hh
          rw [he]
          exact .inl ⟨rfl, by decide⟩
         ·try simp only [NM] at h16
          try simp only [isM, decide_eq_true_eq, decide_eq_false_iff_not] at h16
          refine WP_skip ?_
          refine WP_seq ?_
          refine WP_ops ?_
          refine WO_fa (o' := 0) rfl rfl rfl ?_
          refine WO_ldI (x := P (sqI (m 0))) rfl rfl (.head _) (hH.k) ?_
          refine WO_bin (r := .bool _) rfl rfl rfl ?_
          refine WO_mv (v := .s (.bool _)) rfl ?_
          refine WO_case (t := 85) rfl (fun h17 => ?_) (fun h17 => ?_)
          ·try simp only [NM] at h17
           try simp only [isM, decide_eq_true_eq, decide_eq_false_iff_not] at h17
           refine WO_gt rfl ?_
           refine WO_fa (o' := 1) rfl rfl rfl ?_
           refine WO_gt rfl ?_
           refine WO_ldI rfl rfl (.tail _ (.tail _ (.head _))) rfl ?_
           refine WO_gt rfl ?_
           refine WO_callq0 rfl (Rank_sq (by omega)) rfl rfl rfl ?_
           refine WO_gt rfl ?_
           refine WO_fa (o' := 1) rfl rfl rfl ?_
           refine WO_gt rfl ?_
           refine WO_ldI (x := P (sqI (m 0) + 1)) rfl rfl (.head _) (hH.s) ?_
           refine WO_gt rfl ?_
           refine WO_sub rfl rfl (by omega) ?_
           refine WO_gt rfl ?_
           refine WO_mul rfl rfl (by omega) ?_
           refine WO_gt rfl ?_
           refine WO_bin (r := .bool _) rfl rfl rfl ?_
           refine WO_pick (v := .s (.bool _)) rfl rfl ?_
           refine WO_mv (v := .s (.bool _)) rfl ?_
           refine WO_nil ?_
           refine WP_seq ?_
           refine WP_seq ?_
           refine WP_ops ?_
           refine WO_mv (v := .s (.bool _)) rfl ?_
           refine WO_mv (v := .s (.bool _)) rfl ?_
           refine WO_case (t := 96) rfl (fun h18 => ?_) (fun h18 => ?_)
           ·try simp only [NM] at h18
            try simp only [isM, decide_eq_true_eq, decide_eq_false_iff_not] at h18
            refine WO_gt rfl ?_
            refine WO_fa (o' := 2) rfl rfl rfl ?_
            refine WO_gt rfl ?_
            refine WO_ldI rfl rfl (.tail _ (.tail _ (.head _))) rfl ?_
            refine WO_gt rfl ?_
            refine WO_bin (r := .bool _) rfl rfl rfl ?_
            refine WO_gt rfl ?_
            refine WO_mv (v := .s (.bool _)) rfl ?_
            refine WO_case (t := 100) rfl (fun h19 => ?_) (fun h19 => ?_)
            ·try simp only [NM] at h19
             try simp only [isM, decide_eq_true_eq, decide_eq_false_iff_not] at h19
             refine WO_gf rfl rfl ?_
             refine WO_gf rfl rfl ?_
             refine WO_gf rfl rfl ?_
             refine WO_gt rfl ?_
             refine WO_pick (v := .s (.bool _)) rfl rfl ?_
             refine WO_pick (v := .s (.bool _)) rfl rfl ?_
             refine WO_mv (v := .s (.bool _)) rfl ?_
             refine WO_gf rfl rfl ?_
             refine WO_gf rfl rfl ?_
             refine WO_gf rfl rfl ?_
             refine WO_gu rfl ?_
             refine WO_gu rfl ?_
             refine WO_gu rfl ?_
             refine WO_gf rfl rfl ?_
             refine WO_pick (v := .s (.bool _)) rfl rfl ?_
             refine WO_nil ?_
             refine WP_cond rfl (fun _ => ?_) (fun h => nomatch h)
             refine WP_seq ?_
             refine WP_ops ?_
             refine WO_mv rfl ?_
             refine WO_mv rfl ?_
             refine WO_nil ?_
             refine WP_ret ?_
             refine ⟨_, RS_tmp (v := .pnil) rfl (RS_tmp (v := .s (.int _ _)) rfl (RS_nil)), ?_⟩
             have hh : canM P (m 0) (m 1) (m 2) = false := can_no (by first | omega | (split <;> omega))
             have he := errM_not (by omega) hh
             rw [he]
             exact .inl ⟨rfl, by decide⟩
            ·try simp only [NM] at h19
             try simp only [isM, decide_eq_true_eq, decide_eq_false_iff_not] at h19
             refine WO_gt rfl ?_
             refine WO_fa (o' := 2) rfl rfl rfl ?_
             refine WO_gt rfl ?_
             refine WO_ldI rfl rfl (.tail _ (.tail _ (.head _))) rfl ?_
             refine WO_gt rfl ?_
             refine WO_bin (r := .bool _) rfl rfl rfl ?_
             refine WO_gt rfl ?_
             refine WO_pick (v := .s (.bool _)) rfl rfl ?_
             refine WO_pick (v := .s (.bool _)) rfl rfl ?_
             refine WO_mv (v := .s (.bool _)) rfl ?_
             refine WO_case (t := 106) rfl (fun h20 => ?_) (fun h20 => ?_)
             ·try simp only [NM] at h20
              try simp only [isM, decide_eq_true_eq, decide_eq_false_iff_not] at h20
              refine WO_gf rfl rfl ?_
              refine WO_gf rfl rfl ?_
              refine WO_gf rfl rfl ?_
              refine WO_gu rfl ?_
              refine WO_gu rfl ?_
              refine WO_gu rfl ?_
              refine WO_gf rfl rfl ?_
              refine WO_pick (v := .s (.bool _)) rfl rfl ?_
              refine WO_nil ?_
              refine WP_cond rfl (fun _ => ?_) (fun h => nomatch h)
              refine WP_seq ?_
              refine WP_ops ?_
              refine WO_mv rfl ?_
              refine WO_mv rfl ?_
              refine WO_nil ?_
              refine WP_ret ?_
              refine ⟨_, RS_tmp (v := .pnil) rfl (RS_tmp (v := .s (.int _ _)) rfl (RS_nil)), ?_⟩
              have hh : canM P (m 0) (m 1) (m 2) = false := can_no (by first | omega | (split <;> omega))
              have he := errM_not (by omega) hh
              rw [he]
              exact .inl ⟨rfl, by decide⟩
             ·try simp only [NM] at h20
              try simp only [isM, decide_eq_true_eq, decide_eq_false_iff_not] at h20
              refine WO_gt rfl ?_
              refine WO_mv (v := .s (.bool _)) rfl ?_
              refine WO_gt rfl ?_
              refine WO_un (r := .bool _) rfl rfl ?_
              refine WO_gt rfl ?_
              refine WO_mv (v := .s (.bool _)) rfl ?_
              refine WO_case (t := 109) rfl (fun h21 => ?_) (fun h21 => ?_)
              ·try simp only [NM] at h21
               try simp only [isM, decide_eq_true_eq, decide_eq_false_iff_not] at h21
               refine WO_gt rfl ?_
               refine WO_fa (o' := 2) rfl rfl rfl ?_
               refine WO_gt rfl ?_
               refine WO_ldI rfl rfl (.tail _ (.tail _ (.head _))) rfl ?_
               refine WO_gt rfl ?_
               refine WO_bin (r := .bool _) rfl rfl rfl ?_
               refine WO_gt rfl ?_
               refine WO_pick (v := .s (.bool _)) rfl rfl ?_
               refine WO_pick (v := .s (.bool _)) rfl rfl ?_
               refine WO_nil ?_
               refine WP_cond rfl (fun h22 => ?_) (fun h22 => ?_)
               ·try simp only [NM] at h22
                try simp only [isM, decide_eq_true_eq, decide_eq_false_iff_not] at h22
                refine WP_seq ?_
                refine WP_ops ?_
                refine WO_mv rfl ?_
                refine WO_mv rfl ?_
                refine WO_nil ?_
                refine WP_ret ?_
                refine ⟨_, RS_tmp (v := .pnil) rfl (RS_tmp (v := .s (.int _ _)) rfl (RS_nil)), ?_⟩
                have hh : canM P (m 0) (m 1) (m 2) = false := can_no (by first | omega | (split <;> omega))
                have he := errM_not (by omega) hh
                rw [he]
                exact .inl ⟨rfl, by decide⟩
               ·try simp only [NM] at h22
                try simp only [isM, decide_eq_true_eq, decide_eq_false_iff_not] at h22
                refine WP_skip ?_
                refine WP_seq ?_
                refine WP_ops ?_
                refine WO_mv (v := .ptr _ _ _) rfl ?_
                refine WO_mv (v := .ptr _ _ _) rfl ?_
                refine WO_mv rfl ?_
                refine WO_nil ?_
                refine WP_ret ?_
                refine ⟨_, RS_tmp (v := .ptr _ _ _) rfl (RS_tmp (v := .s (.int _ _)) rfl (RS_nil)), ?_⟩
                have hh : canM P (m 0) (m 1) (m 2) = true := can_yes (by refine ⟨by omega, by omega, by omega, by omega, ?_⟩; first | omega | (split <;> omega))
                have he := errM_ok (by omega) hh
                rw [he]
                exact .inr ⟨rfl, _, H, rfl, hH, (.tail _ (.head _))⟩
              ·try simp only [NM] at h21
               try simp only [isM, decide_eq_true_eq, decide_eq_false_iff_not] at h21
               refine WO_gf rfl rfl ?_
               refine WO_gf rfl rfl ?_
               refine WO_gf rfl rfl ?_
               refine WO_gt rfl ?_
               refine WO_pick (v := .s (.bool _)) rfl rfl ?_
               refine WO_pick (v := .s (.bool _)) rfl rfl ?_
               refine WO_nil ?_
               refine WP_cond rfl (fun h => nomatch h) (fun _ => ?_)
               refine WP_skip ?_
               refine WP_seq ?_
               refine WP_ops ?_
               refine WO_mv (v := .ptr _ _ _) rfl ?_
               refine WO_mv (v := .ptr _ _ _) rfl ?_
               refine WO_mv rfl ?_
               refine WO_nil ?_
               refine WP_ret ?_
               refine ⟨_, RS_tmp (v := .ptr _ _ _) rfl (RS_tmp (v := .s (.int _ _)) rfl (RS_nil)), ?_⟩
               have hh : canM P (m 0) (m 1) (m 2) = true := can_yes (by refine ⟨by omega, by omega, by omega, by omega, ?_⟩; first | omega | (split <;> omega))
               have he := errM_ok (by omega) hh
               rw [he]
               exact .inr ⟨rfl, _, H, rfl, hH, (.tail _ (.head _))⟩
           ·try simp only [NM] at h18
            try simp only [isM, decide_eq_true_eq, decide_eq_false_iff_not] at h18
            refine WO_gf rfl rfl ?_
            refine WO_gf rfl rfl ?_
            refine WO_gf rfl rfl ?_
            refine WO_gf rfl rfl ?_
            refine WO_gu rfl ?_
            refine WO_gu rfl ?_
            refine WO_gu rfl ?_
            refine WO_gf rfl rfl ?_
            refine WO_pick (v := .s (.bool _)) rfl rfl ?_
            refine WO_mv (v := .s (.bool _)) rfl ?_
            refine WO_gt rfl ?_
            refine WO_mv (v := .s (.bool _)) rfl ?_
            refine WO_gt rfl ?_
            refine WO_un (r := .bool _) rfl rfl ?_
            refine WO_gt rfl ?_
            refine WO_mv (v := .s (.bool _)) rfl ?_
            refine WO_case (t := 109) rfl (fun h23 => ?_) (fun h23 => ?_)
            ·try simp only [NM] at h23
             try simp only [isM, decide_eq_true_eq, decide_eq_false_iff_not] at h23
             refine WO_gt rfl ?_
             refine WO_fa (o' := 2) rfl rfl rfl ?_
             refine WO_gt rfl ?_
             refine WO_ldI rfl rfl (.tail _ (.tail _ (.head _))) rfl ?_
             refine WO_gt rfl ?_
             refine WO_bin (r := .bool _) rfl rfl rfl ?_
             refine WO_gt rfl ?_
             refine WO_pick (v := .s (.bool _)) rfl rfl ?_
             refine WO_pick (v := .s (.bool _)) rfl rfl ?_
             refine WO_nil ?_
             refine WP_cond rfl (fun h24 => ?_) (fun h24 => ?_)
             ·try simp only [NM] at h24
              try simp only [isM, decide_eq_true_eq, decide_eq_false_iff_not] at h24
              refine WP_seq ?_
              refine WP_ops ?_
              refine WO_mv rfl ?_
              refine WO_mv rfl ?_
              refine WO_nil ?_
              refine WP_ret ?_
              refine ⟨_, RS_tmp (v := .pnil) rfl (RS_tmp (v := .s (.int _ _)) rfl (RS_nil)), ?_⟩
              have hh : canM P (m 0) (m 1) (m 2) = false := can_no (by first | omega | (split <;> omega))
              have he := errM_not (by omega) hh
              rw [he]
              exact .inl ⟨rfl, by decide⟩
             ·try simp only [NM] at h24
              try simp only [isM, decide_eq_true_eq, decide_eq_false_iff_not] at h24
              refine WP_skip ?_
              refine WP_seq ?_
              refine WP_ops ?_
              refine WO_mv (v := .ptr _ _ _) rfl ?_
              refine WO_mv (v := .ptr _ _ _) rfl ?_
              refine WO_mv rfl ?_
              refine WO_nil ?_
              refine WP_ret ?_
              refine ⟨_, RS_tmp (v := .ptr _ _ _) rfl (RS_tmp (v := .s (.int _ _)) rfl (RS_nil)), ?_⟩
              have hh : canM P (m 0) (m 1) (m 2) = true := can_yes (by refine ⟨by omega, by omega, by omega, by omega, ?_⟩; first | omega | (split <;> omega))
              have he := errM_ok (by omega) hh
              rw [he]
              exact .inr ⟨rfl, _, H, rfl, hH, (.tail _ (.head _))⟩
            ·try simp only [NM] at h23
             try simp only [isM, decide_eq_true_eq, decide_eq_false_iff_not] at h23
             refine WO_gf rfl rfl ?_
             refine WO_gf rfl rfl ?_
             refine WO_gf rfl rfl ?_
             refine WO_gt rfl ?_
             refine WO_pick (v := .s (.bool _)) rfl rfl ?_
             refine WO_pick (v := .s (.bool _)) rfl rfl ?_
             refine WO_nil ?_
             refine WP_cond rfl (fun h => nomatch h) (fun _ => ?_)
             refine WP_skip ?_
             refine WP_seq ?_
             refine WP_ops ?_
             refine WO_mv (v := .ptr _ _ _) rfl ?_
             refine WO_mv (v := .ptr _ _ _) rfl ?_
             refine WO_mv rfl ?_
             refine WO_nil ?_
             refine WP_ret ?_
             refine ⟨_, RS_tmp (v := .ptr _ _ _) rfl (RS_tmp (v := .s (.int _ _)) rfl (RS_nil)), ?_⟩
             have hh : canM P (m 0) (m 1) (m 2) = true := can_yes (by refine ⟨by omega, by omega, by omega, by omega, ?_⟩; first | omega | (split <;> omega))
             have he := errM_ok (by omega) hh
             rw [he]
             exact .inr ⟨rfl, _, H, rfl, hH, (.tail _ (.head _))⟩
          ·try simp only [NM] at h17
           try simp only [isM, decide_eq_true_eq, decide_eq_false_iff_not] at h17
           refine WO_gf rfl rfl ?_
           refine WO_gf rfl rfl ?_
           refine WO_gf rfl rfl ?_
           refine WO_gf rfl rfl ?_
           refine WO_gf rfl rfl ?_
           refine WO_gf rfl rfl ?_
           refine WO_gf rfl rfl ?_
           refine WO_gf rfl rfl ?_
           refine WO_pick (v := .s (.bool _)) rfl rfl ?_
           refine WO_mv (v := .s (.bool _)) rfl ?_
           refine WO_nil ?_
           refine WP_seq ?_
           refine WP_seq ?_
           refine WP_ops ?_
           refine WO_mv (v := .s (.bool _)) rfl ?_
           refine WO_mv (v := .s (.bool _)) rfl ?_
           refine WO_gf rfl rfl ?_
           refine WO_gf rfl rfl ?_
           refine WO_gf rfl rfl ?_
           refine WO_gf rfl rfl ?_
           refine WO_gu rfl ?_
           refine WO_gu rfl ?_
           refine WO_gu rfl ?_
           refine WO_gf rfl rfl ?_
           refine WO_pick (v := .s (.bool _)) rfl rfl ?_
           refine WO_mv (v := .s (.bool _)) rfl ?_
           refine WO_gt rfl ?_
           refine WO_mv (v := .s (.bool _)) rfl ?_
           refine WO_gt rfl ?_
           refine WO_un (r := .bool _) rfl rfl ?_
           refine WO_gt rfl ?_
           refine WO_mv (v := .s (.bool _)) rfl ?_
           refine WO_gt rfl ?_
           refine WO_fa (o' := 2) rfl rfl rfl ?_
           refine WO_gt rfl ?_
           refine WO_ldI rfl rfl (.tail _ (.tail _ (.head _))) rfl ?_
           refine WO_gt rfl ?_
           refine WO_bin (r := .bool _) rfl rfl rfl ?_
           refine WO_gt rfl ?_
           refine WO_pick (v := .s (.bool _)) rfl rfl ?_
           refine WO_pick (v := .s (.bool _)) rfl rfl ?_
           refine WO_nil ?_
           refine WP_cond rfl (fun h25 => ?_) (fun h25 => ?_)
           ·try simp only [NM] at h25
            try simp only [isM, decide_eq_true_eq, decide_eq_false_iff_not] at h25
            refine WP_seq ?_
            refine WP_ops ?_
            refine WO_mv rfl ?_
            refine WO_mv rfl ?_
            refine WO_nil ?_
            refine WP_ret ?_
            refine ⟨_, RS_tmp (v := .pnil) rfl (RS_tmp (v := .s (.int _ _)) rfl (RS_nil)), ?_⟩
            have hh : canM P (m 0) (m 1) (m 2) = false := can_no (by first | omega | (split <;> omega))
            have he := errM_not (by omega) hh
            rw [he]
            exact .inl ⟨rfl, by decide⟩
           ·try simp only [NM] at h25
            try simp only [isM, decide_eq_true_eq, decide_eq_false_iff_not] at h25
            refine WP_skip ?_
            refine WP_seq ?_
            refine WP_ops ?_
            refine WO_mv (v := .ptr _ _ _) rfl ?_
            refine WO_mv (v := .ptr _ _ _) rfl ?_
            refine WO_mv rfl ?_
            refine WO_nil ?_
            refine WP_ret ?_
            refine ⟨_, RS_tmp (v := .ptr _ _ _) rfl (RS_tmp (v := .s (.int _ _)) rfl (RS_nil)), ?_⟩
            have hh : canM P (m 0) (m 1) (m 2) = true := can_yes (by refine ⟨by omega, by omega, by omega, by omega, ?_⟩; first | omega | (split <;> omega))
            have he := errM_ok (by omega) hh
            rw [he]
            exact .inr ⟨rfl, _, H, rfl, hH, (.tail _ (.head _))⟩
        ·try simp only [NM] at h15
         try simp only [isM, decide_eq_true_eq, decide_eq_false_iff_not] at h15
         refine WO_gf rfl rfl ?_
         refine WO_gf rfl rfl ?_
         refine WO_gf rfl rfl ?_
         refine WO_gt rfl ?_
         refine WO_pick (v := .s (.bool _)) rfl rfl ?_
         refine WO_pick (v := .s (.bool _)) rfl rfl ?_
         refine WO_nil ?_
         refine WP_cond rfl (fun h => nomatch h) (fun _ => ?_)
         refine WP_skip ?_
         refine WP_seq ?_
         refine WP_ops ?_
         refine WO_fa (o' := 0) rfl rfl rfl ?_
         refine WO_ldI (x := P (sqI (m 0))) rfl rfl (.head _) (hH.k) ?_
         refine WO_bin (r := .bool _) rfl rfl rfl ?_
         refine WO_mv (v := .s (.bool _)) rfl ?_
         refine WO_case (t := 85) rfl (fun h26 => ?_) (fun h26 => ?_)
         ·try simp only [NM] at h26
          try simp only [isM, decide_eq_true_eq, decide_eq_false_iff_not] at h26
          refine WO_gt rfl ?_
          refine WO_fa (o' := 1) rfl rfl rfl ?_
          refine WO_gt rfl ?_
          refine WO_ldI rfl rfl (.tail _ (.tail _ (.head _))) rfl ?_
          refine WO_gt rfl ?_
          refine WO_callq0 rfl (Rank_sq (by omega)) rfl rfl rfl ?_
          refine WO_gt rfl ?_
          refine WO_fa (o' := 1) rfl rfl rfl ?_
          refine WO_gt rfl ?_
          refine WO_ldI (x := P (sqI (m 0) + 1)) rfl rfl (.head _) (hH.s) ?_
          refine WO_gt rfl ?_
          refine WO_sub rfl rfl (by omega) ?_
          refine WO_gt rfl ?_
          refine WO_mul rfl rfl (by omega) ?_
          refine WO_gt rfl ?_
          refine WO_bin (r := .bool _) rfl rfl rfl ?_
          refine WO_pick (v := .s (.bool _)) rfl rfl ?_
          refine WO_mv (v := .s (.bool _)) rfl ?_
          refine WO_nil ?_
          refine WP_seq ?_
          refine WP_seq ?_
          refine WP_ops ?_
          refine WO_mv (v := .s (.bool _)) rfl ?_
          refine WO_mv (v := .s (.bool _)) rfl ?_
          refine WO_case (t := 96) rfl (fun h27 => ?_) (fun h27 => ?_)
          ·try simp only [NM] at h27
           try simp only [isM, decide_eq_true_eq, decide_eq_false_iff_not] at h27
           refine WO_gt rfl ?_
           refine WO_fa (o' := 2) rfl rfl rfl ?_
           refine WO_gt rfl ?_
           refine WO_ldI rfl rfl (.tail _ (.tail _ (.head _))) rfl ?_
           refine WO_gt rfl ?_
           refine WO_bin (r := .bool _) rfl rfl rfl ?_
           refine WO_gt rfl ?_
           refine WO_mv (v := .s (.bool _)) rfl ?_
           refine WO_case (t := 100) rfl (fun h28 => ?_) (fun h28 => ?_)
           ·try simp only [NM] at h28
            try simp only [isM, decide_eq_true_eq, decide_eq_false_iff_not] at h28
            refine WO_gf rfl rfl ?_
            refine WO_gf rfl rfl ?_
            refine WO_gf rfl rfl ?_
            refine WO_gt rfl ?_
            refine WO_pick (v := .s (.bool _)) rfl rfl ?_
            refine WO_pick (v := .s (.bool _)) rfl rfl ?_
            refine WO_mv (v := .s (.bool _)) rfl ?_
            refine WO_gf rfl rfl ?_
            refine WO_gf rfl rfl ?_
            refine WO_gf rfl rfl ?_
            refine WO_gu rfl ?_
            refine WO_gu rfl ?_
            refine WO_gu rfl ?_
            refine WO_gf rfl rfl ?_
            refine WO_pick (v := .s (.bool _)) rfl rfl ?_
            refine WO_nil ?_
            refine WP_cond rfl (fun _ => ?_) (fun h => nomatch h)
            refine WP_seq ?_
            refine WP_ops ?_
            refine WO_mv rfl ?_
            refine WO_mv rfl ?_
            refine WO_nil ?_
            refine WP_ret ?_
            refine ⟨_, RS_tmp (v := .pnil) rfl (RS_tmp (v := .s (.int _ _)) rfl (RS_nil)), ?_⟩
            have hh : canM P (m 0) (m 1) (m 2) = false := can_no (by first | omega | (split <;> omega))
            have he := errM_not (by omega) hh
            rw [he]
            exact .inl ⟨rfl, by decide⟩
           ·try simp only [NM] at h28
            try simp only [isM, decide_eq_true_eq, decide_eq_false_iff_not] at h28
            refine WO_gt rfl ?_
            refine WO_fa (o' := 2) rfl rfl rfl ?_
            refine WO_gt rfl ?_
            refine WO_ldI rfl rfl (.tail _ (.tail _ (.head _))) rfl ?_
            refine WO_gt rfl ?_
            refine WO_bin (r := .bool _) rfl rfl rfl ?_
            refine WO_gt rfl ?_
            refine WO_pick (v := .s (.bool _)) rfl rfl ?_
            refine WO_pick (v := .s (.bool _)) rfl rfl ?_
            refine WO_mv (v := .s (.bool _)) rfl ?_
            refine WO_case (t := 106) rfl (fun h29 => ?_) (fun h29 => ?_)
            ·try simp only [NM] at h29
             try simp only [isM, decide_eq_true_eq, decide_eq_false_iff_not] at h29
             refine WO_gf rfl rfl ?_
             refine WO_gf rfl rfl ?_
             refine WO_gf rfl rfl ?_
             refine WO_gu rfl ?_
             refine WO_gu rfl ?_
             refine WO_gu rfl ?_
             refine WO_gf rfl rfl ?_
             refine WO_pick (v := .s (.bool _)) rfl rfl ?_
             refine WO_nil ?_
             refine WP_cond rfl (fun _ => ?_) (fun h => nomatch h)
             refine WP_seq ?_
             refine WP_ops ?_
             refine WO_mv rfl ?_
             refine WO_mv rfl ?_
             refine WO_nil ?_
             refine WP_ret ?_
             refine ⟨_, RS_tmp (v := .pnil) rfl (RS_tmp (v := .s (.int _ _)) rfl (RS_nil)), ?_⟩
             have hh : canM P (m 0) (m 1) (m 2) = false := can_no (by first | omega | (split <;> omega))
             have he := errM_not (by omega) hh
             rw [he]
             exact .inl ⟨rfl, by decide⟩
            ·try simp only [NM] at h29
             try simp only [isM, decide_eq_true_eq, decide_eq_false_iff_not] at h29
             refine WO_gt rfl ?_
             refine WO_mv (v := .s (.bool _)) rfl ?_
             refine WO_gt rfl ?_
             refine WO_un (r := .bool _) rfl rfl ?_
             refine WO_gt rfl ?_
             refine WO_mv (v := .s (.bool _)) rfl ?_
             refine WO_case (t := 109) rfl (fun h30 => ?_) (fun h30 => ?_)
             ·try simp only [NM] at h30
              try simp only [isM, decide_eq_true_eq, decide_eq_false_iff_not] at h30
              refine WO_gt rfl ?_
              refine WO_fa (o' := 2) rfl rfl rfl ?_
              refine WO_gt rfl ?_
              refine WO_ldI rfl rfl (.tail _ (.tail _ (.head _))) rfl ?_
              refine WO_gt rfl ?_
              refine WO_bin (r := .bool _) rfl rfl rfl ?_
              refine WO_gt rfl ?_
              refine WO_pick (v := .s (.bool _)) rfl rfl ?_
              refine WO_pick (v := .s (.bool _)) rfl rfl ?_
              refine WO_nil ?_
              refine WP_cond rfl (fun h31 => ?_) (fun h31 => ?_)
              ·try simp only [NM] at h31
               try simp only [isM, decide_eq_true_eq, decide_eq_false_iff_not] at h31
               refine WP_seq ?_
               refine WP_ops ?_
               refine WO_mv rfl ?_
               refine WO_mv rfl ?_
               refine WO_nil ?_
               refine WP_ret ?_
               refine ⟨_, RS_tmp (v := .pnil) rfl (RS_tmp (v := .s (.int _ _)) rfl (RS_nil)), ?_⟩
               have hh : canM P (m 0) (m 1) (m 2) = false := can_no (by first | omega | (split <;> omega))
               have he := errM_not (by omega) hh
               rw [he]
               exact .inl ⟨rfl, by decide⟩
              ·try simp only [NM] at h31
               try simp only [isM, decide_eq_true_eq, decide_eq_false_iff_not] at h31
               refine WP_skip ?_
               refine WP_seq ?_
               refine WP_ops ?_
               refine WO_mv (v := .ptr _ _ _) rfl ?_
               refine WO_mv (v := .ptr _ _ _) rfl ?_
               refine WO_mv rfl ?_
               refine WO_nil ?_
               refine WP_ret ?_
               refine ⟨_, RS_tmp (v := .ptr _ _ _) rfl (RS_tmp (v := .s (.int _ _)) rfl (RS_nil)), ?_⟩
               have hh : canM P (m 0) (m 1) (m 2) = true := can_yes (by refine ⟨by omega, by omega, by omega, by omega, ?_⟩; first | omega | (split <;> omega))
               have he := errM_ok (by omega) hh
               rw [he]
               exact .inr ⟨rfl, _, H, rfl, hH, (.tail _ (.head _))⟩
             ·try simp only [NM] at h30
              try simp only [isM, decide_eq_true_eq, decide_eq_false_iff_not] at h30
              refine WO_gf rfl rfl ?_
              refine WO_gf rfl rfl ?_
              refine WO_gf rfl rfl ?_
              refine WO_gt rfl ?_
              refine WO_pick (v := .s (.bool _)) rfl rfl ?_
              refine WO_pick (v := .s (.bool _)) rfl rfl ?_
              refine WO_nil ?_
              refine WP_cond rfl (fun h => nomatch h) (fun _ => ?_)
              refine WP_skip ?_
              refine WP_seq ?_
              refine WP_ops ?_
              refine WO_mv (v := .ptr _ _ _) rfl ?_
              refine WO_mv (v := .ptr _ _ _) rfl ?_
              refine WO_mv rfl ?_
              refine WO_nil ?_
              refine WP_ret ?_
              refine ⟨_, RS_tmp (v := .ptr _ _ _) rfl (RS_tmp (v := .s (.int _ _)) rfl (RS_nil)), ?_⟩
              have hh : canM P (m 0) (m 1) (m 2) = true := can_yes (by refine ⟨by omega, by omega, by omega, by omega, ?_⟩; first | omega | (split <;> omega))
              have he := errM_ok (by omega) hh
              rw [he]
              exact .inr ⟨rfl, _, H, rfl, hH, (.tail _ (.head _))⟩
          ·try simp only [NM] at h27
           try simp only [isM, decide_eq_true_eq, decide_eq_false_iff_not] at h27
           refine WO_gf rfl rfl ?_
           refine WO_gf rfl rfl ?_
           refine WO_gf rfl rfl ?_
           refine WO_gf rfl rfl ?_
           refine WO_gu rfl ?_
           refine WO_gu rfl ?_
           refine WO_gu rfl ?_
           refine WO_gf rfl rfl ?_
           refine WO_pick (v := .s (.bool _)) rfl rfl ?_
           refine WO_mv (v := .s (.bool _)) rfl ?_
           refine WO_gt rfl ?_
           refine WO_mv (v := .s (.bool _)) rfl ?_
           refine WO_gt rfl ?_
           refine WO_un (r := .bool _) rfl rfl ?_
           refine WO_gt rfl ?_
           refine WO_mv (v := .s (.bool _)) rfl ?_
           refine WO_case (t := 109) rfl (fun h32 => ?_) (fun h32 => ?_)
           ·try simp only [NM] at h32
            try simp only [isM, decide_eq_true_eq, decide_eq_false_iff_not] at h32
            refine WO_gt rfl ?_
            refine WO_fa (o' := 2) rfl rfl rfl ?_
            refine WO_gt rfl ?_
            refine WO_ldI rfl rfl (.tail _ (.tail _ (.head _))) rfl ?_
            refine WO_gt rfl ?_
            refine WO_bin (r := .bool _) rfl rfl rfl ?_
            refine WO_gt rfl ?_
            refine WO_pick (v := .s (.bool _)) rfl rfl ?_
            refine WO_pick (v := .s (.bool _)) rfl rfl ?_
            refine WO_nil ?_
            refine WP_cond rfl (fun h33 => ?_) (fun h33 => ?_)
            ·try simp only [NM] at h33
             try simp only [isM, decide_eq_true_eq, decide_eq_false_iff_not] at h33
             refine WP_seq ?_
             refine WP_ops ?_
             refine WO_mv rfl ?_
             refine WO_mv rfl ?_
             refine WO_nil ?_
             refine WP_ret ?_
             refine ⟨_, RS_tmp (v := .pnil) rfl (RS_tmp (v := .s (.int _ _)) rfl (RS_nil)), ?_⟩
             have hh : canM P (m 0) (m 1) (m 2) = false := can_no (by first | omega | (split <;> omega))
             have he := errM_not (by omega) hh
             rw [he]
             exact .inl ⟨rfl, by decide⟩
            ·try simp only [NM] at h33
             try simp only [isM, decide_eq_true_eq, decide_eq_false_iff_not] at h33
             refine WP_skip ?_
             refine WP_seq ?_
             refine WP_ops ?_
             refine WO_mv (v := .ptr _ _ _) rfl ?_
             refine WO_mv (v := .ptr _ _ _) rfl ?_
             refine WO_mv rfl ?_
             refine WO_nil ?_
             refine WP_ret ?_
             refine ⟨_, RS_tmp (v := .ptr _ _ _) rfl (RS_tmp (v := .s (.int _ _)) rfl (RS_nil)), ?_⟩
             have hh : canM P (m 0) (m 1) (m 2) = true := can_yes (by refine ⟨by omega, by omega, by omega, by omega, ?_⟩; first | omega | (split <;> omega))
             have he := errM_ok (by omega) hh
             rw [he]
             exact .inr ⟨rfl, _, H, rfl, hH, (.tail _ (.head _))⟩
           ·try simp only [NM] at h32
            try simp only [isM, decide_eq_true_eq, decide_eq_false_iff_not] at h32
            refine WO_gf rfl rfl ?_
            refine WO_gf rfl rfl ?_
            refine WO_gf rfl rfl ?_
            refine WO_gt rfl ?_
            refine WO_pick (v := .s (.bool _)) rfl rfl ?_
            refine WO_pick (v := .s (.bool _)) rfl rfl ?_
            refine WO_nil ?_
            refine WP_cond rfl (fun h => nomatch h) (fun _ => ?_)
            refine WP_skip ?_
            refine WP_seq ?_
            refine WP_ops ?_
            refine WO_mv (v := .ptr _ _ _) rfl ?_
            refine WO_mv (v := .ptr _ _ _) rfl ?_
            refine WO_mv rfl ?_
            refine WO_nil ?_
            refine WP_ret ?_
            refine ⟨_, RS_tmp (v := .ptr _ _ _) rfl (RS_tmp (v := .s (.int _ _)) rfl (RS_nil)), ?_⟩
            have hh : canM P (m 0) (m 1) (m 2) = true := can_yes (by refine ⟨by omega, by omega, by omega, by omega, ?_⟩; first | omega | (split <;> omega))
            have he := errM_ok (by omega) hh
            rw [he]
            exact .inr ⟨rfl, _, H, rfl, hH, (.tail _ (.head _))⟩
         ·try simp only [NM] at h26
          try simp only [isM, decide_eq_true_eq, decide_eq_false_iff_not] at h26
          refine WO_gf rfl rfl ?_
          refine WO_gf rfl rfl ?_
          refine WO_gf rfl rfl ?_
          refine WO_gf rfl rfl ?_
          refine WO_gf rfl rfl ?_
          refine WO_gf rfl rfl ?_
          refine WO_gf rfl rfl ?_
          refine WO_gf rfl rfl ?_
          refine WO_pick (v := .s (.bool _)) rfl rfl ?_
          refine WO_mv (v := .s (.bool _)) rfl ?_
          refine WO_nil ?_
          refine WP_seq ?_
          refine WP_seq ?_
          refine WP_ops ?_
          refine WO_mv (v := .s (.bool _)) rfl ?_
          refine WO_mv (v := .s (.bool _)) rfl ?_
          refine WO_gf rfl rfl ?_
          refine WO_gf rfl rfl ?_
          refine WO_gf rfl rfl ?_
          refine WO_gf rfl rfl ?_
          refine WO_gu rfl ?_
          refine WO_gu rfl ?_
          refine WO_gu rfl ?_
          refine WO_gf rfl rfl ?_
          refine WO_pick (v := .s (.bool _)) rfl rfl ?_
          refine WO_mv (v := .s (.bool _)) rfl ?_
          refine WO_gt rfl ?_
          refine WO_mv (v := .s (.bool _)) rfl ?_
          refine WO_gt rfl ?_
          refine WO_un (r := .bool _) rfl rfl ?_
          refine WO_gt rfl ?_
          refine WO_mv (v := .s (.bool _)) rfl ?_
          refine WO_gt rfl ?_
          refine WO_fa (o' := 2) rfl rfl rfl ?_
          refine WO_gt rfl ?_
          refine WO_ldI rfl rfl (.tail _ (.tail _ (.head _))) rfl ?_
          refine WO_gt rfl ?_
          refine WO_bin (r := .bool _) rfl rfl rfl ?_
          refine WO_gt rfl ?_
          refine WO_pick (v := .s (.bool _)) rfl rfl ?_
          refine WO_pick (v := .s (.bool _)) rfl rfl ?_
          refine WO_nil ?_
          refine WP_cond rfl (fun h34 => ?_) (fun h34 => ?_)
          ·try simp only [NM] at h34
           try simp only [isM, decide_eq_true_eq, decide_eq_false_iff_not] at h34
           refine WP_seq ?_
           refine WP_ops ?_
           refine WO_mv rfl ?_
           refine WO_mv rfl ?_
           refine WO_nil ?_
           refine WP_ret ?_
           refine ⟨_, RS_tmp (v := .pnil) rfl (RS_tmp (v := .s (.int _ _)) rfl (RS_nil)), ?_⟩
           have hh : canM P (m 0) (m 1) (m 2) = false := can_no (by first | omega | (split <;> omega))
           have he := errM_not (by omega) hh
           rw [he]
           exact .inl ⟨rfl, by decide⟩
          ·try simp only [NM] at h34
           try simp only [isM, decide_eq_true_eq, decide_eq_false_iff_not] at h34
           refine WP_skip ?_
           refine WP_seq ?_
           refine WP_ops ?_
           refine WO_mv (v := .ptr _ _ _) rfl ?_
           refine WO_mv (v := .ptr _ _ _) rfl ?_
           refine WO_mv rfl ?_
           refine WO_nil ?_
           refine WP_ret ?_
           refine ⟨_, RS_tmp (v := .ptr _ _ _) rfl (RS_tmp (v := .s (.int _ _)) rfl (RS_nil)), ?_⟩
           have hh : canM P (m 0) (m 1) (m 2) = true := can_yes (by refine ⟨by omega, by omega, by omega, by omega, ?_⟩; first | omega | (split <;> omega))
           have he := errM_ok (by omega) hh
           rw [he]
           exact .inr ⟨rfl, _, H, rfl, hH, (.tail _ (.head _))⟩
end Go.Proofs.Ytjldefmcnppdoaa
/- The walks of the chapter play: moves. -/
namespace Go.Proofs.Ytjldefmcnppdoaa
open Go Go.Am
set_option linter.unusedSimpArgs false
set_option linter.unusedVariables false
theorem errM_zero {P : Nat → Int} {a t b : Int} (h : errM P a t b = 0) : ((0 ≤ a ∧ a < 64) ∧ (0 ≤ t ∧ t < 64) ∧ a ≠ t) ∧ canM P a t b = true := by
  unfold errM at h
  split at h
  · rename_i h1
    split at h
    · rename_i h2; exact ⟨h1, h2⟩
    · omega
  · omega
theorem canM_side {P : Nat → Int} {a t b : Int} (h : canM P a t b = true) : P (sqI a + 1) = 0 ∨ P (sqI a + 1) = 1 := (of_decide_eq_true h).2.2.2.1
theorem canM_kind {P : Nat → Int} {a t b : Int} (h : canM P a t b = true) : 1 ≤ P (sqI a) ∧ P (sqI a) ≤ 6 := ⟨(of_decide_eq_true h).1, (of_decide_eq_true h).2.1⟩

theorem ovA_zero : ovA (fun _ => 0) 0 133 (fun _ => 0) = (fun _ => 0 : Nat → Int) := by
  funext i
  by_cases h : i < 133
  · rw [ovA_at (by omega)]
  · rw [ovA_out (by omega)]

theorem ovA_id {Q : Nat → Int} (h : ∀ i, 133 ≤ i → Q i = 0) : ovA (fun _ => 0) 0 133 Q = Q := by
  funext i
  by_cases hi : i < 133
  · rw [ovA_at (by omega), Nat.sub_zero]
  · rw [ovA_out (by omega), h i (by omega)]

theorem afterM_out {P : Nat → Int} {k c a t b C : Int} {i : Nat} (hi : 133 ≤ i) : afterM P k c a t b C i = 0 := by
  unfold afterM
  rw [if_neg (by omega), if_neg (by omega), if_neg (by omega), if_neg (by omega), if_neg (by omega), if_neg (by omega)]

theorem moveM_out {P : Nat → Int} {a t b : Int} {i : Nat} (hi : 133 ≤ i) : moveM P a t b i = 0 := by
  unfold moveM
  split
  · exact afterM_out hi
  · rfl

theorem brd_same {P Q : Nat → Int} {w a t k c b g : Int} (h : ∀ i, i < 128 → P i = Q i) : ∀ i, i < 128 → brd4 P w a t k c b g i = brd4 Q w a t k c b g i := by
  have h1 : ∀ i, i < 128 → brd1 P w i = brd1 Q w i := by
    unfold brd1
    split
    · exact ovA_same h fun _ _ => rfl
    · exact h
  have h3 : ∀ i, i < 128 → brd3 P w a t k c b i = brd3 Q w a t k c b i := ovA_same (ovA_same h1 fun _ _ => rfl) fun _ _ => rfl
  unfold brd4
  split
  · exact ovA_same (ovA_same h3 fun _ _ => rfl) fun _ _ => rfl
  · split
    · exact ovA_same (ovA_same h3 fun _ _ => rfl) fun _ _ => rfl
    · exact h3

theorem afterM_same {P Q : Nat → Int} {k c a t b C : Int} (ha : 0 ≤ a ∧ a < 64) (ht : 0 ≤ t ∧ t < 64) (h : ∀ i, i < 133 → i ≠ 129 → P i = Q i) : afterM P k c a t b C = afterM Q k c a t b C := by
  funext i
  have ht2 : takesM P k a t = takesM Q k a t := takesM_same ha ht (fun i hi => h i (by omega) (by omega)) (h 130 (by omega) (by omega))
  unfold afterM
  rw [ht2]
  by_cases h1 : i < 128
  · rw [if_pos h1, if_pos h1]
    exact brd_same (fun i hi => h i (by omega) (by omega)) i h1
  · rw [if_neg h1, if_neg h1, h 128 (by omega) (by omega)]
    have hh : halfM P k (takesM Q k a t) = halfM Q k (takesM Q k a t) := by unfold halfM; rw [h 131 (by omega) (by omega)]
    have hf : fullM P = fullM Q := by unfold fullM; rw [h 128 (by omega) (by omega), h 132 (by omega) (by omega)]
    rw [hh, hf]

theorem HandOf.all {P m H : Nat → Int} (h : HandOf P m H) : ∀ i, i < 133 → i ≠ 129 → H i = P i := fun i hi hn => by
  by_cases hl : i < 129
  · exact h.lo i hl
  · exact h.hi i (by omega) hi

theorem after_hand {P m H : Nat → Int} (h : HandOf P m H) (he : errM P (m 0) (m 1) (m 2) = 0) : ovA (fun _ => 0) 0 133 (afterM H (H 136) (H 137) (H 133) (H 134) (H 135) (H 129)) = moveM P (m 0) (m 1) (m 2) := by
  have ⟨hs, _⟩ := errM_zero he
  rw [ovA_id (fun i hi => afterM_out hi), h.a, h.t, h.b, h.k, h.s, h.c, moveM, if_pos he]
  exact afterM_same hs.1 hs.2.1 h.all

theorem taken_ex (P m : Nat → Int) : (errM P (m 0) (m 1) (m 2) ≠ 0 ∧ RF AM 95 [.agg 133 (ia P), .agg 3 (ia m)] (.tup [.pnil, .s (.int .i64 (errM P (m 0) (m 1) (m 2)))])) ∨
    (errM P (m 0) (m 1) (m 2) = 0 ∧ ∃ H, HandOf P m H ∧ RN AM 95 [.agg 133 (ia P), .agg 3 (ia m)] [] (fun b => .tup [.ptr b 0 138, .s (.int .i64 0)]) (.sc .var 138 (ia H)) []) := by
  obtain ⟨v, σ', n', L', h1, h2, h3⟩ := taken_run P m
  rcases h3 with ⟨rfl, he⟩ | ⟨he, b, H, rfl, hH, hm⟩
  · exact .inl ⟨he, σ', h1⟩
  · rw [he] at h1
    exact .inr ⟨he, H, hH, b, σ', h1, Nat.zero_le _, (h2.2.mem hm).2, trivial⟩

theorem made_ex {P m H : Nat → Int} (h : HandOf P m H) (he : errM P (m 0) (m 1) (m 2) = 0) : ∃ J, RB AM 96 [.ptr 0 0 138] [.sc .var 138 (ia H)] (.agg 133 (ia (afterM H (H 136) (H 137) (H 133) (H 134) (H 135) (H 129)))) [.sc .var 138 (ia J)] := by
  have ⟨hs, hc⟩ := errM_zero he
  obtain ⟨v, σ', n', L', h1, h2, J, rfl, hm⟩ := made_run H (by rw [h.a]; exact hs.1) (by rw [h.t]; exact hs.2.1) (by rw [h.s]; exact canM_side hc) (by rw [h.c]; exact castM_bd P)
  exact ⟨J, σ', h1, (h2.2.mem hm).2, ⟨_, _, _, rfl⟩, trivial⟩

theorem takes_hand {P m H : Nat → Int} (h : HandOf P m H) (he : errM P (m 0) (m 1) (m 2) = 0) : RB AM 104 [.ptr 0 0 138] [.sc .var 138 (ia H)] (.s (.int .i64 (takesM P (P (sqI (m 0))) (m 0) (m 1)))) [.sc .var 138 (ia H)] := by
  have ⟨hs, hc⟩ := errM_zero he
  have hr := RB_of1 (takes_run (md := .var) H (by rw [h.a]; exact hs.1) (by rw [h.t]; exact hs.2.1))
  rw [h.a, h.t, h.k, takesM_same hs.1 hs.2.1 (fun i hi => h.lo i (by omega)) (h.hi 130 (by omega) (by omega))] at hr
  exact hr

theorem Move_walk (P m : Nat → Int) : WR AM 64 [.agg 133 (ia P), .agg 3 (ia m)] [] (fun v _ _ => v = .tup [.agg 133 (ia (moveM P (m 0) (m 1) (m 2))), .s (.int .i64 (errM P (m 0) (m 1) (m 2)))]) := by
 refine WR_fn (a := a64) rfl rfl (entryF _) (entry_E (Nat.le_of_ble_eq_true rfl)) (m := 0) rfl ?_
 refine WP_seq ?_
 refine WP_ops ?_
 refine WO_boxA rfl ?_
 refine WO_boxA rfl ?_
 refine WO_allocI ?_
 refine WO_mv rfl ?_
 refine WO_nil ?_
 refine WP_seq ?_
 refine WP_ops ?_
 first | refine WO_ldA0 rfl rfl (.tail _ (.tail _ (.head _))) ?_ | refine WO_ldAI rfl rfl (.tail _ (.tail _ (.head _))) ?_
 first | refine WO_ldA0 rfl rfl (.tail _ (.head _)) ?_ | refine WO_ldAI rfl rfl (.tail _ (.head _)) ?_
 rcases taken_ex P m with ⟨he, hT⟩ | ⟨he, H, hH, hT⟩
 ·skip
  refine WO_call0 rfl (hT) rfl rfl rfl ?_
  refine WO_mv (v := .tup _) rfl ?_
  refine WO_ext (v := .pnil) rfl rfl ?_
  refine WO_ext (v := .s (.int _ _)) rfl rfl ?_
  refine WO_mv (v := .pnil) rfl ?_
  refine WO_mv (v := .s (.int _ _)) rfl ?_
  refine WO_nil ?_
  refine WP_seq ?_
  refine WP_seq ?_
  refine WP_ops ?_
  refine WO_mv (v := .s (.int _ _)) rfl ?_
  refine WO_bin (r := .bool _) rfl rfl rfl ?_
  refine WO_nil ?_
  refine WP_cond rfl (fun h1 => ?_) (fun h1 => ?_)
  ·try simp only [NM] at h1
   try simp only [isM, decide_eq_true_eq, decide_eq_false_iff_not] at h1
   refine WP_seq ?_
   refine WP_ops ?_
   refine WO_buildI rfl .nil ?_
   refine WO_mv (v := .s (.int _ _)) rfl ?_
   refine WO_stA rfl rfl rfl rfl .here ?_
   refine WO_mv (v := .s (.int _ _)) rfl ?_
   refine WO_nil ?_
   refine WP_ret ?_
   refine ⟨_, RS_cell rfl rfl (.head _) (RS_tmp (v := .s (.int _ _)) rfl (RS_nil)), ?_⟩
   rw [moveM, if_neg he]
   exact congrArg (fun g => V.tup [V.agg 133 (ia g), V.s (.int .i64 (errM P (m 0) (m 1) (m 2)))]) ovA_zero
  ·try simp only [NM] at h1
   try simp only [isM, decide_eq_true_eq, decide_eq_false_iff_not] at h1
   exfalso; first | omega | (simp at h1)
 ·skip
  refine WO_callN (mk := fun b => .tup [.ptr b 0 138, .s (.int .i64 0)]) (rs := []) (Bs := []) One_ptrS rfl hT rfl rfl (Nat.le_of_ble_eq_true rfl) (fun _ h => h) rfl trivial rfl rfl .nil ?_
  refine WO_mv (v := .tup _) rfl ?_
  refine WO_ext (v := .ptr _ _ _) rfl rfl ?_
  refine WO_ext (v := .s (.int _ _)) rfl rfl ?_
  refine WO_mv (v := .ptr _ _ _) rfl ?_
  refine WO_mv (v := .s (.int _ _)) rfl ?_
  refine WO_nil ?_
  refine WP_seq ?_
  refine WP_seq ?_
  refine WP_ops ?_
  refine WO_mv (v := .s (.int _ _)) rfl ?_
  refine WO_bin (r := .bool _) rfl rfl rfl ?_
  refine WO_nil ?_
  refine WP_cond rfl (fun h2 => ?_) (fun h2 => ?_)
  ·try simp only [NM] at h2
   try simp only [isM, decide_eq_true_eq, decide_eq_false_iff_not] at h2
   exfalso; first | omega | (simp at h2)
  ·try simp only [NM] at h2
   try simp only [isM, decide_eq_true_eq, decide_eq_false_iff_not] at h2
   refine WP_skip ?_
   refine WP_seq ?_
   refine WP_ops ?_
   refine WO_mv (v := .ptr _ _ _) rfl ?_
   obtain ⟨J, hJ⟩ := made_ex hH he
   refine WO_callP rfl (hJ) rfl rfl rfl .here ?_
   refine WO_stA rfl rfl rfl rfl (.there .here) ?_
   refine WO_mv rfl ?_
   refine WO_nil ?_
   refine WP_ret ?_
   refine ⟨_, RS_cell rfl rfl (.tail _ (.head _)) (RS_tmp (v := .s (.int _ _)) rfl (RS_nil)), ?_⟩
   rw [he, ← after_hand hH he]
   rfl
theorem Takes_walk (P m : Nat → Int) : WR AM 66 [.agg 133 (ia P), .agg 3 (ia m)] [] (fun v _ _ => v = .s (.int .i64 (if errM P (m 0) (m 1) (m 2) = 0 then takesM P (P (sqI (m 0))) (m 0) (m 1) else -1))) := by
 refine WR_fn (a := a66) rfl rfl (entryF _) (entry_E (Nat.le_of_ble_eq_true rfl)) (m := 0) rfl ?_
 refine WP_seq ?_
 refine WP_ops ?_
 refine WO_boxA rfl ?_
 refine WO_boxA rfl ?_
 refine WO_mv rfl ?_
 refine WO_nil ?_
 refine WP_seq ?_
 refine WP_ops ?_
 first | refine WO_ldA0 rfl rfl (.tail _ (.head _)) ?_ | refine WO_ldAI rfl rfl (.tail _ (.head _)) ?_
 first | refine WO_ldA0 rfl rfl (.head _) ?_ | refine WO_ldAI rfl rfl (.head _) ?_
 rcases taken_ex P m with ⟨he, hT⟩ | ⟨he, H, hH, hT⟩
 ·skip
  refine WO_call0 rfl (hT) rfl rfl rfl ?_
  refine WO_mv (v := .tup _) rfl ?_
  refine WO_ext (v := .pnil) rfl rfl ?_
  refine WO_ext (v := .s (.int _ _)) rfl rfl ?_
  refine WO_mv (v := .pnil) rfl ?_
  refine WO_mv (v := .s (.int _ _)) rfl ?_
  refine WO_nil ?_
  refine WP_seq ?_
  refine WP_seq ?_
  refine WP_ops ?_
  refine WO_mv (v := .s (.int _ _)) rfl ?_
  refine WO_bin (r := .bool _) rfl rfl rfl ?_
  refine WO_nil ?_
  refine WP_cond rfl (fun h3 => ?_) (fun h3 => ?_)
  ·try simp only [NM] at h3
   try simp only [isM, decide_eq_true_eq, decide_eq_false_iff_not] at h3
   refine WP_seq ?_
   refine WP_ops ?_
   refine WO_mv rfl ?_
   refine WO_nil ?_
   refine WP_ret ?_
   refine ⟨_, RS_tmp (v := .s (.int _ _)) rfl (RS_nil), ?_⟩
   rw [if_neg he]
   rfl
  ·try simp only [NM] at h3
   try simp only [isM, decide_eq_true_eq, decide_eq_false_iff_not] at h3
   exfalso; first | omega | (simp at h3)
 ·skip
  refine WO_callN (mk := fun b => .tup [.ptr b 0 138, .s (.int .i64 0)]) (rs := []) (Bs := []) One_ptrS rfl hT rfl rfl (Nat.le_of_ble_eq_true rfl) (fun _ h => h) rfl trivial rfl rfl .nil ?_
  refine WO_mv (v := .tup _) rfl ?_
  refine WO_ext (v := .ptr _ _ _) rfl rfl ?_
  refine WO_ext (v := .s (.int _ _)) rfl rfl ?_
  refine WO_mv (v := .ptr _ _ _) rfl ?_
  refine WO_mv (v := .s (.int _ _)) rfl ?_
  refine WO_nil ?_
  refine WP_seq ?_
  refine WP_seq ?_
  refine WP_ops ?_
  refine WO_mv (v := .s (.int _ _)) rfl ?_
  refine WO_bin (r := .bool _) rfl rfl rfl ?_
  refine WO_nil ?_
  refine WP_cond rfl (fun h4 => ?_) (fun h4 => ?_)
  ·try simp only [NM] at h4
   try simp only [isM, decide_eq_true_eq, decide_eq_false_iff_not] at h4
   exfalso; first | omega | (simp at h4)
  ·try simp only [NM] at h4
   try simp only [isM, decide_eq_true_eq, decide_eq_false_iff_not] at h4
   refine WP_skip ?_
   refine WP_seq ?_
   refine WP_ops ?_
   refine WO_mv (v := .ptr _ _ _) rfl ?_
   refine WO_callP rfl (takes_hand hH he) rfl rfl rfl .here ?_
   refine WO_mv (v := .s (.int _ _)) rfl ?_
   refine WO_nil ?_
   refine WP_ret ?_
   refine ⟨_, RS_tmp (v := .s (.int _ _)) rfl (RS_nil), ?_⟩
   rw [if_pos he]
   rfl
structure SameP (P J B : Nat → Int) : Prop where
  lo : ∀ i, i < 128 → J i = B i
  hi : ∀ i, 128 ≤ i → i < 133 → J i = P i
theorem SameP.put {P J B X Y : Nat → Int} {t : Int} (j : SameP P J B) (ht : 0 ≤ t ∧ t < 64) (hx : ∀ i, i < 2 → X i = Y i) : SameP P (ovA J (0 + t.toNat * 2) 2 X) (ovA B (sqI t) 2 Y) :=
  ⟨ovA_same j.lo hx, fun i h1 h2 => by rw [ovA_out (by omega)]; exact j.hi i h1 h2⟩
theorem SameP.kind {P J B X Y : Nat → Int} {t b : Int} (j : SameP P (ovA J (0 + t.toNat * 2) 2 X) (ovA B (sqI t) 2 X)) (ht : 0 ≤ t ∧ t < 64) (h0 : Y 0 = b) (h1 : Y 1 = X 1) : SameP P (ov (ovA J (0 + t.toNat * 2) 2 X) (0 + t.toNat * 2 + 0) b) (ovA B (sqI t) 2 Y) := by
  have hsq : sqI t = 0 + t.toNat * 2 := rfl
  refine ⟨fun i hi => ?_, fun i h1 h2 => by rw [ov_out (by omega)]; exact j.hi i h1 h2⟩
  have hj := j.lo i hi
  by_cases q : i = 0 + t.toNat * 2 + 0
  · subst q
    rw [ovA_at (by omega), show 0 + t.toNat * 2 + 0 - sqI t = 0 from by show 0 + t.toNat * 2 + 0 - (0 + t.toNat * 2) = 0; omega, h0]
    show (bif Nat.beq _ _ then b else _) = b
    rw [show Nat.beq (0 + t.toNat * 2 + 0) (0 + t.toNat * 2 + 0) = true from by simp]
    rfl
  · rw [ov_out q, hj]
    by_cases r : sqI t ≤ i ∧ i < sqI t + 2
    · have e : i - sqI t = 1 := by
        have : sqI t = 0 + t.toNat * 2 := rfl
        omega
      rw [ovA_at r, ovA_at r, e, h1]
    · rw [ovA_out (by omega), ovA_out (by omega)]
/-- What is done, so far. -/
structure DoneP (P J B : Nat → Int) (s cs ovr hf fl : Int) : Prop where
  lo : ∀ i, i < 128 → J i = B i
  s : J 128 = s
  c : J 129 = cs
  o : J 130 = ovr
  h : J 131 = hf
  f : J 132 = fl
end Go.Proofs.Ytjldefmcnppdoaa
/- What the kernel tells of a run. -/
namespace Go.Proofs.Ytjldefmcnppdoaa
open Go Go.Am
/-- Is the answer this bool? -/
def ansB (b : Bool) : Option (V × Heap) → Bool
  | some (.s (.bool t), _) => t == b
  | _ => false
theorem RF_ans {A : AP} {m : Nat} {fid : FuncId} {xs : List V} {b : Bool} (h : ansB b (runF A m fid xs []) = true) : RF A fid xs (.s (.bool b)) := by
  cases hr : runF A m fid xs [] with
  | none => rw [hr] at h; cases h
  | some r =>
    obtain ⟨v, σ⟩ := r
    rw [hr] at h
    cases v with
    | s x =>
      cases x with
      | bool t =>
        simp only [ansB] at h
        have := eq_of_beq h
        subst this
        exact ⟨σ, Run_of hr⟩
      | _ => cases h
    | _ => cases h
end Go.Proofs.Ytjldefmcnppdoaa
/- What holds of closed calls of the chapter play, told by the kernel. -/
namespace Go.Proofs.Ytjldefmcnppdoaa
open Go Go.Am
theorem playAwake_run : RF AM 61 [] (.s (.bool true)) := RF_ans (m := 400) (by kernel_rfl)
end Go.Proofs.Ytjldefmcnppdoaa
/- The walks of the chapter play: many moves, and PlayTells. -/
namespace Go.Proofs.Ytjldefmcnppdoaa
open Go Go.Am
set_option linter.unusedSimpArgs false
set_option linter.unusedVariables false
/-- The position behind n moves, and the error. -/
def mvP (P K : Nat → Int) : Nat → (Nat → Int) × Int
  | 0 => (P, 0)
  | n + 1 => if (mvP P K n).2 = 0 then (moveM (mvP P K n).1 (dp K (0 + (n : Int).toNat * 3) 0) (dp K (0 + (n : Int).toNat * 3) 1) (dp K (0 + (n : Int).toNat * 3) 2), errM (mvP P K n).1 (dp K (0 + (n : Int).toNat * 3) 0) (dp K (0 + (n : Int).toNat * 3) 1) (dp K (0 + (n : Int).toNat * 3) 2)) else (fun _ => 0, (mvP P K n).2)
def cutP (Q : Nat → Int) : Nat → Int := ovA (fun _ => 0) 0 133 Q
theorem eqI_f {n : Nat} {P Q : Nat → Int} (h : ∀ i, i < n → P i = Q i) : (bif true then !(eqI n P Q) else eqI n P Q) = false := by
  rw [eqI_iff.2 h]; rfl
theorem Move_is {P m : Nat → Int} : RF AM 64 [.agg 133 (ia P), .agg 3 (ia m)] (.tup [.agg 133 (ia (moveM P (m 0) (m 1) (m 2))), .s (.int .i64 (errM P (m 0) (m 1) (m 2)))]) := RF_of (Move_walk P m)
end Go.Proofs.Ytjldefmcnppdoaa
/- The walks of the chapter board: what is right. -/
namespace Go.Proofs.Ytjldefmcnppdoaa
open Go Go.Am
set_option linter.unusedSimpArgs false
set_option linter.unusedVariables false
theorem cast_shr0 {c : Int} (h : 0 ≤ c ∧ c ≤ 15) : binS .shr (.int .i64 c) (.int .i64 0) = some (.int .i64 (c / 1)) := by
  have : c = 0 ∨ c = 1 ∨ c = 2 ∨ c = 3 ∨ c = 4 ∨ c = 5 ∨ c = 6 ∨ c = 7 ∨ c = 8 ∨ c = 9 ∨ c = 10 ∨ c = 11 ∨ c = 12 ∨ c = 13 ∨ c = 14 ∨ c = 15 := by omega
  rcases this with rfl | rfl | rfl | rfl | rfl | rfl | rfl | rfl | rfl | rfl | rfl | rfl | rfl | rfl | rfl | rfl <;> rfl
theorem cast_shr1 {c : Int} (h : 0 ≤ c ∧ c ≤ 15) : binS .shr (.int .i64 c) (.int .i64 1) = some (.int .i64 (c / 2)) := by
  have : c = 0 ∨ c = 1 ∨ c = 2 ∨ c = 3 ∨ c = 4 ∨ c = 5 ∨ c = 6 ∨ c = 7 ∨ c = 8 ∨ c = 9 ∨ c = 10 ∨ c = 11 ∨ c = 12 ∨ c = 13 ∨ c = 14 ∨ c = 15 := by omega
  rcases this with rfl | rfl | rfl | rfl | rfl | rfl | rfl | rfl | rfl | rfl | rfl | rfl | rfl | rfl | rfl | rfl <;> rfl
theorem cast_shr2 {c : Int} (h : 0 ≤ c ∧ c ≤ 15) : binS .shr (.int .i64 c) (.int .i64 2) = some (.int .i64 (c / 4)) := by
  have : c = 0 ∨ c = 1 ∨ c = 2 ∨ c = 3 ∨ c = 4 ∨ c = 5 ∨ c = 6 ∨ c = 7 ∨ c = 8 ∨ c = 9 ∨ c = 10 ∨ c = 11 ∨ c = 12 ∨ c = 13 ∨ c = 14 ∨ c = 15 := by omega
  rcases this with rfl | rfl | rfl | rfl | rfl | rfl | rfl | rfl | rfl | rfl | rfl | rfl | rfl | rfl | rfl | rfl <;> rfl
theorem cast_shr3 {c : Int} (h : 0 ≤ c ∧ c ≤ 15) : binS .shr (.int .i64 c) (.int .i64 3) = some (.int .i64 (c / 8)) := by
  have : c = 0 ∨ c = 1 ∨ c = 2 ∨ c = 3 ∨ c = 4 ∨ c = 5 ∨ c = 6 ∨ c = 7 ∨ c = 8 ∨ c = 9 ∨ c = 10 ∨ c = 11 ∨ c = 12 ∨ c = 13 ∨ c = 14 ∨ c = 15 := by omega
  rcases this with rfl | rfl | rfl | rfl | rfl | rfl | rfl | rfl | rfl | rfl | rfl | rfl | rfl | rfl | rfl | rfl <;> rfl
theorem cast_and1 {c : Int} (h : 0 ≤ c ∧ c ≤ 15) : binS .and (.int .i64 c) (.int .i64 1) = some (.int .i64 (c % 2)) := by
  have : c = 0 ∨ c = 1 ∨ c = 2 ∨ c = 3 ∨ c = 4 ∨ c = 5 ∨ c = 6 ∨ c = 7 ∨ c = 8 ∨ c = 9 ∨ c = 10 ∨ c = 11 ∨ c = 12 ∨ c = 13 ∨ c = 14 ∨ c = 15 := by omega
  rcases this with rfl | rfl | rfl | rfl | rfl | rfl | rfl | rfl | rfl | rfl | rfl | rfl | rfl | rfl | rfl | rfl <;> rfl

/-- A piece stands on a square; nothing does. -/
def standM (P : Nat → Int) (x k c : Int) : Bool := decide (P (sqI x) = k ∧ P (sqI x + 1) = c)
theorem eq_two {X Y : Nat → Int} : eqI 2 X Y = decide (X 0 = Y 0 ∧ X 1 = Y 1) := by
  rw [Bool.eq_iff_iff, eqI_iff, decide_eq_true_eq]
  constructor
  · intro h; exact ⟨h 0 (by omega), h 1 (by omega)⟩
  · rintro ⟨h0, h1⟩ i hi
    have : i = 0 ∨ i = 1 := by omega
    rcases this with rfl | rfl
    · exact h0
    · exact h1
def okM (P : Nat → Int) (s : Nat) : Prop := (P (sqI s) = 0 ∧ P (sqI s + 1) = 0) ∨ ((1 ≤ P (sqI s) ∧ P (sqI s) ≤ 6 ∧ (P (sqI s + 1) = 0 ∨ P (sqI s + 1) = 1)) ∧ ¬ (P (sqI s) = 1 ∧ (s < 8 ∨ 56 ≤ s)))
/-- The kings of a side on the first squares. -/
def kM (P : Nat → Int) (c : Int) : Nat → Int
  | 0 => 0
  | n + 1 => kM P c n + (if P (sqI n) = 6 ∧ P (sqI n + 1) = c then 1 else 0)
theorem kM_bd (P : Nat → Int) (c : Int) : ∀ n : Nat, 0 ≤ kM P c n ∧ kM P c n ≤ n
  | 0 => ⟨Int.le_refl _, Int.le_refl _⟩
  | n + 1 => by
    have := kM_bd P c n
    unfold kM
    split <;> omega
instance (P : Nat → Int) (s : Nat) : Decidable (okM P s) := by unfold okM; infer_instance
def piecesM (P : Nat → Int) : Bool := decide ((∀ s : Nat, s < 64 → okM P s) ∧ kM P 0 64 = 1 ∧ kM P 1 64 = 1 ∧ (P 128 = 0 ∨ P 128 = 1))
theorem pieces_no {P : Nat → Int} (h : ¬ ((∀ s : Nat, s < 64 → okM P s) ∧ kM P 0 64 = 1 ∧ kM P 1 64 = 1 ∧ (P 128 = 0 ∨ P 128 = 1))) : piecesM P = false := by
  unfold piecesM; exact decide_eq_false h
theorem pieces_yes {P : Nat → Int} (h : (∀ s : Nat, s < 64 → okM P s) ∧ kM P 0 64 = 1 ∧ kM P 1 64 = 1 ∧ (P 128 = 0 ∨ P 128 = 1)) : piecesM P = true := by
  unfold piecesM; exact decide_eq_true h
theorem pieces_is {P : Nat → Int} (h : piecesM P = true) : (∀ s : Nat, s < 64 → okM P s) ∧ kM P 0 64 = 1 ∧ kM P 1 64 = 1 ∧ (P 128 = 0 ∨ P 128 = 1) := by
  unfold piecesM at h; exact of_decide_eq_true h
theorem ok_next {P : Nat → Int} {i : Nat} (h : ∀ s : Nat, s < i → okM P s) (hi : okM P i) : ∀ s : Nat, s < i + 1 → okM P s := fun s hs => by
  by_cases e : s = i
  · subst e; exact hi
  · exact h s (by omega)
theorem kings_no {P C : Nat → Int} {i : Nat} (h0 : C 0 = kM P 0 i) (h1 : C 1 = kM P 1 i) (hk : ¬ P (sqI i) = 6) : C 0 = kM P 0 (i + 1) ∧ C 1 = kM P 1 (i + 1) := by
  unfold kM
  rw [if_neg (fun q => hk q.1), if_neg (fun q => hk q.1)]
  omega
theorem kings_yes {P C : Nat → Int} {i : Nat} (h0 : C 0 = kM P 0 i) (h1 : C 1 = kM P 1 i) (hk : P (sqI i) = 6) (hc : P (sqI i + 1) = 0 ∨ P (sqI i + 1) = 1) : ov C (0 + (P (sqI i + 1)).toNat * 1) (C (0 + (P (sqI i + 1)).toNat * 1) + 1) 0 = kM P 0 (i + 1) ∧ ov C (0 + (P (sqI i + 1)).toNat * 1) (C (0 + (P (sqI i + 1)).toNat * 1) + 1) 1 = kM P 1 (i + 1) := by
  unfold kM
  rcases hc with hc | hc
  · rw [if_pos ⟨hk, hc⟩, if_neg (by omega), hc]
    exact ⟨by show C 0 + 1 = _; omega, by show C 1 = _; omega⟩
  · rw [if_neg (by omega), if_pos ⟨hk, hc⟩, hc]
    exact ⟨by show C 0 = _; omega, by show C 1 + 1 = _; omega⟩
theorem king_bd {P C : Nat → Int} {i : Nat} (h0 : C 0 = kM P 0 i) (h1 : C 1 = kM P 1 i) (hi : i ≤ 64) (hc : P (sqI i + 1) = 0 ∨ P (sqI i + 1) = 1) : -9223372036854775808 ≤ C (0 + (P (sqI i + 1)).toNat * 1) + 1 ∧ C (0 + (P (sqI i + 1)).toNat * 1) + 1 ≤ 9223372036854775807 := by
  have := kM_bd P 0 i
  have := kM_bd P 1 i
  rcases hc with hc | hc
  · rw [hc]; show _ ≤ C 0 + 1 ∧ C 0 + 1 ≤ _; omega
  · rw [hc]; show _ ≤ C 1 + 1 ∧ C 1 + 1 ≤ _; omega
theorem dp_ix {P : Nat → Int} {i : Nat} : (fun j => ia P ((i : Int).toNat * 2 + j)) = ia (dp P (sqI i)) := by
  funext j
  show _ = ia P (0 + (i : Int).toNat * 2 + j)
  rw [Nat.zero_add]
theorem ovA2 {F X : Nat → Int} : ovA F 0 2 X 0 = X 0 ∧ ovA F 0 2 X 1 = X 1 := ⟨rfl, rfl⟩
def homeM (P : Nat → Int) (s a b : Int) : Bool := decide (P (sqI a) = 6 ∧ P (sqI a + 1) = s ∧ P (sqI b) = 4 ∧ P (sqI b + 1) = s)
def castlesM (P : Nat → Int) : Bool := decide ((0 ≤ P 129 ∧ P 129 ≤ 15) ∧ (P 129 % 2 = 0 ∨ homeM P 0 4 7 = true) ∧ (P 129 / 2 % 2 = 0 ∨ homeM P 0 4 0 = true) ∧ (P 129 / 4 % 2 = 0 ∨ homeM P 1 60 63 = true) ∧ (P 129 / 8 = 0 ∨ homeM P 1 60 56 = true))
def overOK (P : Nat → Int) : Bool := decide (P 130 = -1 ∨ ((0 ≤ P 130 ∧ P 130 < 64) ∧ P 131 = 0 ∧ ((P 128 = 1 ∧ P 130 / 8 = 2 ∧ standM P (P 130) 0 0 = true ∧ standM P (P 130 - 8) 0 0 = true ∧ standM P (P 130 + 8) 1 0 = true) ∨ (P 128 = 0 ∧ P 130 / 8 = 5 ∧ standM P (P 130) 0 0 = true ∧ standM P (P 130 + 8) 0 0 = true ∧ standM P (P 130 - 8) 1 1 = true))))
def rightM (P : Nat → Int) : Bool := piecesM P && castlesM P && overOK P && decide (0 ≤ P 131 ∧ P 131 ≤ 1024 ∧ 1 ≤ P 132 ∧ P 132 ≤ 16384)
theorem rank_in {x r : Int} (h : rankM x = r) (hr : 0 ≤ r) : (0 ≤ x ∧ x < 64) ∧ x / 8 = r := by
  unfold rankM at h
  split at h
  · exact ⟨by assumption, h⟩
  · omega
theorem step_is {x d : Int} (hx : 0 ≤ x ∧ x < 64) (h : 0 ≤ x / 8 + d ∧ x / 8 + d < 8) : stepM x 0 d = x + 8 * d := by
  unfold stepM atM
  rw [if_pos ⟨hx, by omega, by omega⟩, if_pos (by omega)]
  omega

theorem stands_run (P : Nat → Int) (k s x : Int) (hx : 0 ≤ x ∧ x < 64) : WR AM 112 [.agg 133 (ia P), .s (.int .i64 k), .s (.int .i64 s), .s (.int .i64 x)] [] (fun v _ _ => v = .s (.bool (standM P x k s))) := by
 refine WR_fn (a := a112) rfl rfl (entryF _) (entry_E (Nat.le_of_ble_eq_true rfl)) (m := 0) rfl ?_
 refine WP_seq ?_
 refine WP_ops ?_
 refine WO_boxA rfl ?_
 refine WO_mv rfl ?_
 refine WO_nil ?_
 refine WP_seq ?_
 refine WP_ops ?_
 refine WO_mv (v := .s (.int _ _)) rfl ?_
 refine WO_fa (o' := 0) rfl rfl rfl ?_
 refine WO_fa (o' := 0) rfl rfl rfl ?_
 refine WO_ixa rfl rfl rfl (by omega) ?_
 first | refine WO_ldA0 rfl rfl (.head _) ?_ | refine WO_ldAI rfl rfl (.head _) ?_
 refine WO_mv (v := .s (.int _ _)) rfl ?_
 refine WO_mv (v := .s (.int _ _)) rfl ?_
 refine WO_buildI rfl (.one rfl (.one rfl .nil)) ?_
 refine WO_eqa rfl rfl ?_
 refine WO_mv (v := .s (.bool _)) rfl ?_
 refine WO_nil ?_
 refine WP_ret ?_
 refine ⟨_, RS_tmp (v := .s (.bool _)) rfl (RS_nil), ?_⟩
 refine congrArg (fun b => V.s (S.bool b)) ?_
 exact eq_two
theorem free_run {md : Md} (P : Nat → Int) (x : Int) (hx : 0 ≤ x ∧ x < 64) : WR AM 113 [.s (.int .i64 x), .ptr 0 0 133] [.sc md 133 (ia P)] (fun v _ L => v = .s (.bool (standM P x 0 0)) ∧ (0, Blk.sc md 133 (ia P)) ∈ L) := by
 refine WR_fn (a := a113) rfl rfl (entryF _) (entry_E (Nat.le_of_ble_eq_true rfl)) (m := 1) rfl ?_
 refine WP_seq ?_
 refine WP_ops ?_
 refine WO_mv rfl ?_
 refine WO_nil ?_
 refine WP_seq ?_
 refine WP_ops ?_
 refine WO_mv (v := .s (.int _ _)) rfl ?_
 refine WO_fa (o' := 0) rfl rfl rfl ?_
 refine WO_fa (o' := 0) rfl rfl rfl ?_
 refine WO_ixa rfl rfl rfl (by omega) ?_
 first | refine WO_ldA0 rfl rfl (.head _) ?_ | refine WO_ldAI rfl rfl (.head _) ?_
 refine WO_buildI rfl .nil ?_
 refine WO_eqa rfl rfl ?_
 refine WO_mv (v := .s (.bool _)) rfl ?_
 refine WO_nil ?_
 refine WP_ret ?_
 refine ⟨_, RS_tmp (v := .s (.bool _)) rfl (RS_nil), ?_⟩
 refine ⟨congrArg (fun b => V.s (S.bool b)) ?_, (.head _)⟩
 exact eq_two
theorem castles_ok (P : Nat → Int) : WR AM 90 [.agg 133 (ia P)] [] (fun v _ _ => v = .s (.bool (castlesM P))) := by
 refine WR_fn (a := a90) rfl rfl (entryF _) (entry_E (Nat.le_of_ble_eq_true rfl)) (m := 0) rfl ?_
 refine WP_seq ?_
 refine WP_ops ?_
 refine WO_boxA rfl ?_
 refine WO_mv rfl ?_
 refine WO_nil ?_
 refine WP_seq ?_
 refine WP_seq ?_
 refine WP_ops ?_
 refine WO_fa (o' := 0) rfl rfl rfl ?_
 refine WO_fa (o' := 129) rfl rfl rfl ?_
 refine WO_ldI rfl rfl (.head _) rfl ?_
 refine WO_bin (r := .bool _) rfl rfl rfl ?_
 refine WO_mv (v := .s (.bool _)) rfl ?_
 refine WO_case (t := 10) rfl (fun h26 => ?_) (fun h26 => ?_)
 ·try simp only [NM] at h26
  try simp only [decide_eq_true_eq, decide_eq_false_iff_not] at h26
  refine WO_gf rfl rfl ?_
  refine WO_gf rfl rfl ?_
  refine WO_gf rfl rfl ?_
  refine WO_gf rfl rfl ?_
  refine WO_pick (v := .s (.bool _)) rfl rfl ?_
  refine WO_nil ?_
  refine WP_cond rfl (fun _ => ?_) (fun h => nomatch h)
  refine WP_seq ?_
  refine WP_ops ?_
  refine WO_mv rfl ?_
  refine WO_nil ?_
  refine WP_ret ?_
  refine ⟨_, RS_tmp (v := .s (.bool _)) rfl (RS_nil), ?_⟩
  refine congrArg (fun b => V.s (S.bool b)) ?_
  rw [Bool.eq_iff_iff]
  simp only [castlesM, homeM, standM, decide_eq_true_eq, decide_eq_false_iff_not, Bool.false_eq_true, false_iff, true_iff] at *
  omega
 ·try simp only [NM] at h26
  try simp only [decide_eq_true_eq, decide_eq_false_iff_not] at h26
  refine WO_gt rfl ?_
  refine WO_fa (o' := 0) rfl rfl rfl ?_
  refine WO_gt rfl ?_
  refine WO_fa (o' := 129) rfl rfl rfl ?_
  refine WO_gt rfl ?_
  refine WO_ldI rfl rfl (.head _) rfl ?_
  refine WO_gt rfl ?_
  refine WO_bin (r := .bool _) rfl rfl rfl ?_
  refine WO_pick (v := .s (.bool _)) rfl rfl ?_
  refine WO_nil ?_
  refine WP_cond rfl (fun h27 => ?_) (fun h27 => ?_)
  ·try simp only [NM] at h27
   try simp only [decide_eq_true_eq, decide_eq_false_iff_not] at h27
   refine WP_seq ?_
   refine WP_ops ?_
   refine WO_mv rfl ?_
   refine WO_nil ?_
   refine WP_ret ?_
   refine ⟨_, RS_tmp (v := .s (.bool _)) rfl (RS_nil), ?_⟩
   refine congrArg (fun b => V.s (S.bool b)) ?_
   rw [Bool.eq_iff_iff]
   simp only [castlesM, homeM, standM, decide_eq_true_eq, decide_eq_false_iff_not, Bool.false_eq_true, false_iff, true_iff] at *
   omega
  ·try simp only [NM] at h27
   try simp only [decide_eq_true_eq, decide_eq_false_iff_not] at h27
   refine WP_skip ?_
   refine WP_seq ?_
   refine WP_seq ?_
   refine WP_ops ?_
   refine WO_buildI rfl (.one rfl (.one rfl (.one rfl (.one rfl .nil)))) ?_
   refine WO_mv rfl ?_
   refine WO_nil ?_
   refine WP_block ?_
   refine WP_unrollI (fun f n L => (0 ≤ P 129 ∧ P 129 ≤ 15) ∧ (P 129 / 1 % 2 = 0 ∨ (P (sqI 4) = 6 ∧ P (sqI 4 + 1) = 0 ∧ P (sqI 7) = 4 ∧ P (sqI 7 + 1) = 0)) ∧ (f 1 = .ptr 0 0 133) ∧ (f 16 = .agg 4 (ia (ov (ov (ov (ov (fun _ => 0) 0 7) 1 0) 2 63) 3 56))) ∧ (f 17 = .s (.int .i64 1)) ∧ (L = [(0, .sc .var 133 (ia P))]) ∧ (n = 1)) ?_ (fun f nb L hI => ?_)
   ·skip
    refine WP_seq ?_
    refine WP_ops ?_
    refine WO_bin (r := .bool _) rfl rfl rfl ?_
    refine WO_nil ?_
    refine WP_seq ?_
    refine WP_cond rfl (fun h28 => ?_) (fun h28 => ?_)
    ·try simp only [NM] at h28
     try simp only [decide_eq_true_eq, decide_eq_false_iff_not] at h28
     refine WP_skip ?_
     refine WP_seq ?_
     refine WP_block ?_
     refine WP_seq ?_
     refine WP_ops ?_
     refine WO_mv (v := .s (.int _ _)) rfl ?_
     refine WO_ixS (a := .int .i64 7) rfl rfl rfl (by omega) rfl ?_
     refine WO_mv (v := .s (.int _ _)) rfl ?_
     refine WO_mv (v := .s (.int _ _)) rfl ?_
     refine WO_nil ?_
     refine WP_seq ?_
     refine WP_seq ?_
     refine WP_ops ?_
     refine WO_fa (o' := 0) rfl rfl rfl ?_
     refine WO_fa (o' := 129) rfl rfl rfl ?_
     refine WO_ldI rfl rfl (.head _) rfl ?_
     refine WO_mv (v := .s (.int _ _)) rfl ?_
     refine WO_bin rfl rfl (cast_shr0 ⟨by omega, by omega⟩) ?_
     refine WO_bin rfl rfl (cast_and1 ⟨by omega, by omega⟩) ?_
     refine WO_bin (r := .bool _) rfl rfl rfl ?_
     refine WO_nil ?_
     refine WP_cond rfl (fun h29 => ?_) (fun h29 => ?_)
     ·try simp only [NM] at h29
      try simp only [decide_eq_true_eq, decide_eq_false_iff_not] at h29
      refine WP_exit ?_
      refine xhere ?_
      refine WP_ops ?_
      refine WO_bin (r := .int .i64 1) rfl rfl rfl ?_
      refine WO_mv (v := .s (.int _ _)) rfl ?_
      refine WO_nil ?_
      refine ⟨_, (.cons_cons _ .slnil), ⟨by omega, by omega⟩, ?_, rfl, rfl, rfl, rfl, rfl⟩
      try simp only [standM, decide_eq_true_eq, decide_eq_false_iff_not] at *
      omega
     ·try simp only [NM] at h29
      try simp only [decide_eq_true_eq, decide_eq_false_iff_not] at h29
      refine WP_skip ?_
      refine WP_seq ?_
      refine WP_ops ?_
      refine WO_mv (v := .s (.int _ _)) rfl ?_
      refine WO_bin (r := .int .i64 0) rfl rfl rfl ?_
      refine WO_mv (v := .s (.int _ _)) rfl ?_
      refine WO_nil ?_
      refine WP_seq ?_
      refine WP_ops ?_
      first | refine WO_ldA0 rfl rfl (.head _) ?_ | refine WO_ldAI rfl rfl (.head _) ?_
      refine WO_mv (v := .s (.int _ _)) rfl ?_
      refine WO_mv (v := .s (.int _ _)) rfl ?_
      refine WO_call0 rfl (RF_of (stands_run _ _ _ _ (by omega))) rfl rfl rfl ?_
      refine WO_un (r := .bool _) rfl rfl ?_
      refine WO_mv (v := .s (.bool _)) rfl ?_
      refine WO_case (t := 35) rfl (fun h30 => ?_) (fun h30 => ?_)
      ·try simp only [NM] at h30
       try simp only [decide_eq_true_eq, decide_eq_false_iff_not] at h30
       refine WO_gf rfl rfl ?_
       refine WO_gf rfl rfl ?_
       refine WO_gf rfl rfl ?_
       refine WO_gf rfl rfl ?_
       refine WO_gf rfl rfl ?_
       refine WO_gf rfl rfl ?_
       refine WO_gf rfl rfl ?_
       refine WO_gf rfl rfl ?_
       refine WO_pick (v := .s (.bool _)) rfl rfl ?_
       refine WO_nil ?_
       refine WP_cond rfl (fun _ => ?_) (fun h => nomatch h)
       refine WP_seq ?_
       refine WP_ops ?_
       refine WO_mv rfl ?_
       refine WO_nil ?_
       refine WP_ret ?_
       refine ⟨_, RS_tmp (v := .s (.bool _)) rfl (RS_nil), ?_⟩
       refine congrArg (fun b => V.s (S.bool b)) ?_
       rw [Bool.eq_iff_iff]
       simp only [castlesM, homeM, standM, decide_eq_true_eq, decide_eq_false_iff_not, Bool.false_eq_true, false_iff, true_iff] at *
       omega
      ·try simp only [NM] at h30
       try simp only [decide_eq_true_eq, decide_eq_false_iff_not] at h30
       refine WO_gt rfl ?_
       first | refine WO_ldA0 rfl rfl (.head _) ?_ | refine WO_ldAI rfl rfl (.head _) ?_
       refine WO_gt rfl ?_
       refine WO_mv (v := .s (.int _ _)) rfl ?_
       refine WO_gt rfl ?_
       refine WO_mv (v := .s (.int _ _)) rfl ?_
       refine WO_gt rfl ?_
       refine WO_bin (r := .int .i64 0) rfl rfl rfl ?_
       refine WO_gt rfl ?_
       refine WO_bin (r := .int .i64 0) rfl rfl rfl ?_
       refine WO_gt rfl ?_
       refine WO_bin (r := .int .i64 4) rfl rfl rfl ?_
       refine WO_gt rfl ?_
       refine WO_call0 rfl (RF_of (stands_run _ _ _ _ (by omega))) rfl rfl rfl ?_
       refine WO_gt rfl ?_
       refine WO_un (r := .bool _) rfl rfl ?_
       refine WO_pick (v := .s (.bool _)) rfl rfl ?_
       refine WO_nil ?_
       refine WP_cond rfl (fun h31 => ?_) (fun h31 => ?_)
       ·try simp only [NM] at h31
        try simp only [decide_eq_true_eq, decide_eq_false_iff_not] at h31
        refine WP_seq ?_
        refine WP_ops ?_
        refine WO_mv rfl ?_
        refine WO_nil ?_
        refine WP_ret ?_
        refine ⟨_, RS_tmp (v := .s (.bool _)) rfl (RS_nil), ?_⟩
        refine congrArg (fun b => V.s (S.bool b)) ?_
        rw [Bool.eq_iff_iff]
        simp only [castlesM, homeM, standM, decide_eq_true_eq, decide_eq_false_iff_not, Bool.false_eq_true, false_iff, true_iff] at *
        omega
       ·try simp only [NM] at h31
        try simp only [decide_eq_true_eq, decide_eq_false_iff_not] at h31
        refine WP_skip ?_
        refine WP_ops ?_
        refine WO_bin (r := .int .i64 1) rfl rfl rfl ?_
        refine WO_mv (v := .s (.int _ _)) rfl ?_
        refine WO_nil ?_
        refine ⟨_, (.cons_cons _ .slnil), ⟨by omega, by omega⟩, ?_, rfl, rfl, rfl, rfl, rfl⟩
        try simp only [standM, decide_eq_true_eq, decide_eq_false_iff_not] at *
        omega
    ·try simp only [NM] at h28
     try simp only [decide_eq_true_eq, decide_eq_false_iff_not] at h28
     exfalso; omega
   ·skip
    obtain ⟨hC, hf0, k1, k16, k17, rfl, rfl⟩ := hI
    refine WP_know (d := 1) (v := .ptr 0 0 133) k1 ?_
    refine WP_know (d := 16) (v := .agg 4 (ia (ov (ov (ov (ov (fun _ => 0) 0 7) 1 0) 2 63) 3 56))) k16 ?_
    refine WP_know (d := 17) (v := .s (.int .i64 1)) k17 ?_
    refine WP_unrollI (fun f n L => (P 129 / 2 % 2 = 0 ∨ (P (sqI 4) = 6 ∧ P (sqI 4 + 1) = 0 ∧ P (sqI 0) = 4 ∧ P (sqI 0 + 1) = 0)) ∧ (f 1 = .ptr 0 0 133) ∧ (f 16 = .agg 4 (ia (ov (ov (ov (ov (fun _ => 0) 0 7) 1 0) 2 63) 3 56))) ∧ (f 17 = .s (.int .i64 2)) ∧ (L = [(0, .sc .var 133 (ia P))]) ∧ (n = 1)) ?_ (fun f nb L hI => ?_)
    ·skip
     refine WP_seq ?_
     refine WP_ops ?_
     refine WO_bin (r := .bool _) rfl rfl rfl ?_
     refine WO_nil ?_
     refine WP_seq ?_
     refine WP_cond rfl (fun h32 => ?_) (fun h32 => ?_)
     ·try simp only [NM] at h32
      try simp only [decide_eq_true_eq, decide_eq_false_iff_not] at h32
      refine WP_skip ?_
      refine WP_seq ?_
      refine WP_block ?_
      refine WP_seq ?_
      refine WP_ops ?_
      refine WO_mv (v := .s (.int _ _)) rfl ?_
      refine WO_ixS (a := .int .i64 0) rfl rfl rfl (by omega) rfl ?_
      refine WO_mv (v := .s (.int _ _)) rfl ?_
      refine WO_mv (v := .s (.int _ _)) rfl ?_
      refine WO_nil ?_
      refine WP_seq ?_
      refine WP_seq ?_
      refine WP_ops ?_
      refine WO_fa (o' := 0) rfl rfl rfl ?_
      refine WO_fa (o' := 129) rfl rfl rfl ?_
      refine WO_ldI rfl rfl (.head _) rfl ?_
      refine WO_mv (v := .s (.int _ _)) rfl ?_
      refine WO_bin rfl rfl (cast_shr1 ⟨by omega, by omega⟩) ?_
      refine WO_bin rfl rfl (cast_and1 ⟨by omega, by omega⟩) ?_
      refine WO_bin (r := .bool _) rfl rfl rfl ?_
      refine WO_nil ?_
      refine WP_cond rfl (fun h33 => ?_) (fun h33 => ?_)
      ·try simp only [NM] at h33
       try simp only [decide_eq_true_eq, decide_eq_false_iff_not] at h33
       refine WP_exit ?_
       refine xhere ?_
       refine WP_ops ?_
       refine WO_bin (r := .int .i64 2) rfl rfl rfl ?_
       refine WO_mv (v := .s (.int _ _)) rfl ?_
       refine WO_nil ?_
       refine ⟨_, (.cons_cons _ .slnil), ?_, rfl, rfl, rfl, rfl, rfl⟩
       try simp only [standM, decide_eq_true_eq, decide_eq_false_iff_not] at *
       omega
      ·try simp only [NM] at h33
       try simp only [decide_eq_true_eq, decide_eq_false_iff_not] at h33
       refine WP_skip ?_
       refine WP_seq ?_
       refine WP_ops ?_
       refine WO_mv (v := .s (.int _ _)) rfl ?_
       refine WO_bin (r := .int .i64 0) rfl rfl rfl ?_
       refine WO_mv (v := .s (.int _ _)) rfl ?_
       refine WO_nil ?_
       refine WP_seq ?_
       refine WP_ops ?_
       first | refine WO_ldA0 rfl rfl (.head _) ?_ | refine WO_ldAI rfl rfl (.head _) ?_
       refine WO_mv (v := .s (.int _ _)) rfl ?_
       refine WO_mv (v := .s (.int _ _)) rfl ?_
       refine WO_call0 rfl (RF_of (stands_run _ _ _ _ (by omega))) rfl rfl rfl ?_
       refine WO_un (r := .bool _) rfl rfl ?_
       refine WO_mv (v := .s (.bool _)) rfl ?_
       refine WO_case (t := 35) rfl (fun h34 => ?_) (fun h34 => ?_)
       ·try simp only [NM] at h34
        try simp only [decide_eq_true_eq, decide_eq_false_iff_not] at h34
        refine WO_gf rfl rfl ?_
        refine WO_gf rfl rfl ?_
        refine WO_gf rfl rfl ?_
        refine WO_gf rfl rfl ?_
        refine WO_gf rfl rfl ?_
        refine WO_gf rfl rfl ?_
        refine WO_gf rfl rfl ?_
        refine WO_gf rfl rfl ?_
        refine WO_pick (v := .s (.bool _)) rfl rfl ?_
        refine WO_nil ?_
        refine WP_cond rfl (fun _ => ?_) (fun h => nomatch h)
        refine WP_seq ?_
        refine WP_ops ?_
        refine WO_mv rfl ?_
        refine WO_nil ?_
        refine WP_ret ?_
        refine ⟨_, RS_tmp (v := .s (.bool _)) rfl (RS_nil), ?_⟩
        refine congrArg (fun b => V.s (S.bool b)) ?_
        rw [Bool.eq_iff_iff]
        simp only [castlesM, homeM, standM, decide_eq_true_eq, decide_eq_false_iff_not, Bool.false_eq_true, false_iff, true_iff] at *
        omega
       ·try simp only [NM] at h34
        try simp only [decide_eq_true_eq, decide_eq_false_iff_not] at h34
        refine WO_gt rfl ?_
        first | refine WO_ldA0 rfl rfl (.head _) ?_ | refine WO_ldAI rfl rfl (.head _) ?_
        refine WO_gt rfl ?_
        refine WO_mv (v := .s (.int _ _)) rfl ?_
        refine WO_gt rfl ?_
        refine WO_mv (v := .s (.int _ _)) rfl ?_
        refine WO_gt rfl ?_
        refine WO_bin (r := .int .i64 0) rfl rfl rfl ?_
        refine WO_gt rfl ?_
        refine WO_bin (r := .int .i64 0) rfl rfl rfl ?_
        refine WO_gt rfl ?_
        refine WO_bin (r := .int .i64 4) rfl rfl rfl ?_
        refine WO_gt rfl ?_
        refine WO_call0 rfl (RF_of (stands_run _ _ _ _ (by omega))) rfl rfl rfl ?_
        refine WO_gt rfl ?_
        refine WO_un (r := .bool _) rfl rfl ?_
        refine WO_pick (v := .s (.bool _)) rfl rfl ?_
        refine WO_nil ?_
        refine WP_cond rfl (fun h35 => ?_) (fun h35 => ?_)
        ·try simp only [NM] at h35
         try simp only [decide_eq_true_eq, decide_eq_false_iff_not] at h35
         refine WP_seq ?_
         refine WP_ops ?_
         refine WO_mv rfl ?_
         refine WO_nil ?_
         refine WP_ret ?_
         refine ⟨_, RS_tmp (v := .s (.bool _)) rfl (RS_nil), ?_⟩
         refine congrArg (fun b => V.s (S.bool b)) ?_
         rw [Bool.eq_iff_iff]
         simp only [castlesM, homeM, standM, decide_eq_true_eq, decide_eq_false_iff_not, Bool.false_eq_true, false_iff, true_iff] at *
         omega
        ·try simp only [NM] at h35
         try simp only [decide_eq_true_eq, decide_eq_false_iff_not] at h35
         refine WP_skip ?_
         refine WP_ops ?_
         refine WO_bin (r := .int .i64 2) rfl rfl rfl ?_
         refine WO_mv (v := .s (.int _ _)) rfl ?_
         refine WO_nil ?_
         refine ⟨_, (.cons_cons _ .slnil), ?_, rfl, rfl, rfl, rfl, rfl⟩
         try simp only [standM, decide_eq_true_eq, decide_eq_false_iff_not] at *
         omega
     ·try simp only [NM] at h32
      try simp only [decide_eq_true_eq, decide_eq_false_iff_not] at h32
      exfalso; omega
    ·skip
     obtain ⟨hf1, k1, k16, k17, rfl, rfl⟩ := hI
     refine WP_know (d := 1) (v := .ptr 0 0 133) k1 ?_
     refine WP_know (d := 16) (v := .agg 4 (ia (ov (ov (ov (ov (fun _ => 0) 0 7) 1 0) 2 63) 3 56))) k16 ?_
     refine WP_know (d := 17) (v := .s (.int .i64 2)) k17 ?_
     refine WP_unrollI (fun f n L => (P 129 / 4 % 2 = 0 ∨ (P (sqI 60) = 6 ∧ P (sqI 60 + 1) = 1 ∧ P (sqI 63) = 4 ∧ P (sqI 63 + 1) = 1)) ∧ (f 1 = .ptr 0 0 133) ∧ (f 16 = .agg 4 (ia (ov (ov (ov (ov (fun _ => 0) 0 7) 1 0) 2 63) 3 56))) ∧ (f 17 = .s (.int .i64 3)) ∧ (L = [(0, .sc .var 133 (ia P))]) ∧ (n = 1)) ?_ (fun f nb L hI => ?_)
     ·skip
      refine WP_seq ?_
      refine WP_ops ?_
      refine WO_bin (r := .bool _) rfl rfl rfl ?_
      refine WO_nil ?_
      refine WP_seq ?_
      refine WP_cond rfl (fun h36 => ?_) (fun h36 => ?_)
      ·try simp only [NM] at h36
       try simp only [decide_eq_true_eq, decide_eq_false_iff_not] at h36
       refine WP_skip ?_
       refine WP_seq ?_
       refine WP_block ?_
       refine WP_seq ?_
       refine WP_ops ?_
       refine WO_mv (v := .s (.int _ _)) rfl ?_
       refine WO_ixS (a := .int .i64 63) rfl rfl rfl (by omega) rfl ?_
       refine WO_mv (v := .s (.int _ _)) rfl ?_
       refine WO_mv (v := .s (.int _ _)) rfl ?_
       refine WO_nil ?_
       refine WP_seq ?_
       refine WP_seq ?_
       refine WP_ops ?_
       refine WO_fa (o' := 0) rfl rfl rfl ?_
       refine WO_fa (o' := 129) rfl rfl rfl ?_
       refine WO_ldI rfl rfl (.head _) rfl ?_
       refine WO_mv (v := .s (.int _ _)) rfl ?_
       refine WO_bin rfl rfl (cast_shr2 ⟨by omega, by omega⟩) ?_
       refine WO_bin rfl rfl (cast_and1 ⟨by omega, by omega⟩) ?_
       refine WO_bin (r := .bool _) rfl rfl rfl ?_
       refine WO_nil ?_
       refine WP_cond rfl (fun h37 => ?_) (fun h37 => ?_)
       ·try simp only [NM] at h37
        try simp only [decide_eq_true_eq, decide_eq_false_iff_not] at h37
        refine WP_exit ?_
        refine xhere ?_
        refine WP_ops ?_
        refine WO_bin (r := .int .i64 3) rfl rfl rfl ?_
        refine WO_mv (v := .s (.int _ _)) rfl ?_
        refine WO_nil ?_
        refine ⟨_, (.cons_cons _ .slnil), ?_, rfl, rfl, rfl, rfl, rfl⟩
        try simp only [standM, decide_eq_true_eq, decide_eq_false_iff_not] at *
        omega
       ·try simp only [NM] at h37
        try simp only [decide_eq_true_eq, decide_eq_false_iff_not] at h37
        refine WP_skip ?_
        refine WP_seq ?_
        refine WP_ops ?_
        refine WO_mv (v := .s (.int _ _)) rfl ?_
        refine WO_bin (r := .int .i64 1) rfl rfl rfl ?_
        refine WO_mv (v := .s (.int _ _)) rfl ?_
        refine WO_nil ?_
        refine WP_seq ?_
        refine WP_ops ?_
        first | refine WO_ldA0 rfl rfl (.head _) ?_ | refine WO_ldAI rfl rfl (.head _) ?_
        refine WO_mv (v := .s (.int _ _)) rfl ?_
        refine WO_mv (v := .s (.int _ _)) rfl ?_
        refine WO_call0 rfl (RF_of (stands_run _ _ _ _ (by omega))) rfl rfl rfl ?_
        refine WO_un (r := .bool _) rfl rfl ?_
        refine WO_mv (v := .s (.bool _)) rfl ?_
        refine WO_case (t := 35) rfl (fun h38 => ?_) (fun h38 => ?_)
        ·try simp only [NM] at h38
         try simp only [decide_eq_true_eq, decide_eq_false_iff_not] at h38
         refine WO_gf rfl rfl ?_
         refine WO_gf rfl rfl ?_
         refine WO_gf rfl rfl ?_
         refine WO_gf rfl rfl ?_
         refine WO_gf rfl rfl ?_
         refine WO_gf rfl rfl ?_
         refine WO_gf rfl rfl ?_
         refine WO_gf rfl rfl ?_
         refine WO_pick (v := .s (.bool _)) rfl rfl ?_
         refine WO_nil ?_
         refine WP_cond rfl (fun _ => ?_) (fun h => nomatch h)
         refine WP_seq ?_
         refine WP_ops ?_
         refine WO_mv rfl ?_
         refine WO_nil ?_
         refine WP_ret ?_
         refine ⟨_, RS_tmp (v := .s (.bool _)) rfl (RS_nil), ?_⟩
         refine congrArg (fun b => V.s (S.bool b)) ?_
         rw [Bool.eq_iff_iff]
         simp only [castlesM, homeM, standM, decide_eq_true_eq, decide_eq_false_iff_not, Bool.false_eq_true, false_iff, true_iff] at *
         omega
        ·try simp only [NM] at h38
         try simp only [decide_eq_true_eq, decide_eq_false_iff_not] at h38
         refine WO_gt rfl ?_
         first | refine WO_ldA0 rfl rfl (.head _) ?_ | refine WO_ldAI rfl rfl (.head _) ?_
         refine WO_gt rfl ?_
         refine WO_mv (v := .s (.int _ _)) rfl ?_
         refine WO_gt rfl ?_
         refine WO_mv (v := .s (.int _ _)) rfl ?_
         refine WO_gt rfl ?_
         refine WO_bin (r := .int .i64 7) rfl rfl rfl ?_
         refine WO_gt rfl ?_
         refine WO_bin (r := .int .i64 56) rfl rfl rfl ?_
         refine WO_gt rfl ?_
         refine WO_bin (r := .int .i64 60) rfl rfl rfl ?_
         refine WO_gt rfl ?_
         refine WO_call0 rfl (RF_of (stands_run _ _ _ _ (by omega))) rfl rfl rfl ?_
         refine WO_gt rfl ?_
         refine WO_un (r := .bool _) rfl rfl ?_
         refine WO_pick (v := .s (.bool _)) rfl rfl ?_
         refine WO_nil ?_
         refine WP_cond rfl (fun h39 => ?_) (fun h39 => ?_)
         ·try simp only [NM] at h39
          try simp only [decide_eq_true_eq, decide_eq_false_iff_not] at h39
          refine WP_seq ?_
          refine WP_ops ?_
          refine WO_mv rfl ?_
          refine WO_nil ?_
          refine WP_ret ?_
          refine ⟨_, RS_tmp (v := .s (.bool _)) rfl (RS_nil), ?_⟩
          refine congrArg (fun b => V.s (S.bool b)) ?_
          rw [Bool.eq_iff_iff]
          simp only [castlesM, homeM, standM, decide_eq_true_eq, decide_eq_false_iff_not, Bool.false_eq_true, false_iff, true_iff] at *
          omega
         ·try simp only [NM] at h39
          try simp only [decide_eq_true_eq, decide_eq_false_iff_not] at h39
          refine WP_skip ?_
          refine WP_ops ?_
          refine WO_bin (r := .int .i64 3) rfl rfl rfl ?_
          refine WO_mv (v := .s (.int _ _)) rfl ?_
          refine WO_nil ?_
          refine ⟨_, (.cons_cons _ .slnil), ?_, rfl, rfl, rfl, rfl, rfl⟩
          try simp only [standM, decide_eq_true_eq, decide_eq_false_iff_not] at *
          omega
      ·try simp only [NM] at h36
       try simp only [decide_eq_true_eq, decide_eq_false_iff_not] at h36
       exfalso; omega
     ·skip
      obtain ⟨hf2, k1, k16, k17, rfl, rfl⟩ := hI
      refine WP_know (d := 1) (v := .ptr 0 0 133) k1 ?_
      refine WP_know (d := 16) (v := .agg 4 (ia (ov (ov (ov (ov (fun _ => 0) 0 7) 1 0) 2 63) 3 56))) k16 ?_
      refine WP_know (d := 17) (v := .s (.int .i64 3)) k17 ?_
      refine WP_unrollI (fun f n L => (P 129 / 8 % 2 = 0 ∨ (P (sqI 60) = 6 ∧ P (sqI 60 + 1) = 1 ∧ P (sqI 56) = 4 ∧ P (sqI 56 + 1) = 1)) ∧ (f 1 = .ptr 0 0 133) ∧ (f 16 = .agg 4 (ia (ov (ov (ov (ov (fun _ => 0) 0 7) 1 0) 2 63) 3 56))) ∧ (f 17 = .s (.int .i64 4)) ∧ (L = [(0, .sc .var 133 (ia P))]) ∧ (n = 1)) ?_ (fun f nb L hI => ?_)
      ·skip
       refine WP_seq ?_
       refine WP_ops ?_
       refine WO_bin (r := .bool _) rfl rfl rfl ?_
       refine WO_nil ?_
       refine WP_seq ?_
       refine WP_cond rfl (fun h40 => ?_) (fun h40 => ?_)
       ·try simp only [NM] at h40
        try simp only [decide_eq_true_eq, decide_eq_false_iff_not] at h40
        refine WP_skip ?_
        refine WP_seq ?_
        refine WP_block ?_
        refine WP_seq ?_
        refine WP_ops ?_
        refine WO_mv (v := .s (.int _ _)) rfl ?_
        refine WO_ixS (a := .int .i64 56) rfl rfl rfl (by omega) rfl ?_
        refine WO_mv (v := .s (.int _ _)) rfl ?_
        refine WO_mv (v := .s (.int _ _)) rfl ?_
        refine WO_nil ?_
        refine WP_seq ?_
        refine WP_seq ?_
        refine WP_ops ?_
        refine WO_fa (o' := 0) rfl rfl rfl ?_
        refine WO_fa (o' := 129) rfl rfl rfl ?_
        refine WO_ldI rfl rfl (.head _) rfl ?_
        refine WO_mv (v := .s (.int _ _)) rfl ?_
        refine WO_bin rfl rfl (cast_shr3 ⟨by omega, by omega⟩) ?_
        refine WO_bin rfl rfl (cast_and1 ⟨by omega, by omega⟩) ?_
        refine WO_bin (r := .bool _) rfl rfl rfl ?_
        refine WO_nil ?_
        refine WP_cond rfl (fun h41 => ?_) (fun h41 => ?_)
        ·try simp only [NM] at h41
         try simp only [decide_eq_true_eq, decide_eq_false_iff_not] at h41
         refine WP_exit ?_
         refine xhere ?_
         refine WP_ops ?_
         refine WO_bin (r := .int .i64 4) rfl rfl rfl ?_
         refine WO_mv (v := .s (.int _ _)) rfl ?_
         refine WO_nil ?_
         refine ⟨_, (.cons_cons _ .slnil), ?_, rfl, rfl, rfl, rfl, rfl⟩
         try simp only [standM, decide_eq_true_eq, decide_eq_false_iff_not] at *
         omega
        ·try simp only [NM] at h41
         try simp only [decide_eq_true_eq, decide_eq_false_iff_not] at h41
         refine WP_skip ?_
         refine WP_seq ?_
         refine WP_ops ?_
         refine WO_mv (v := .s (.int _ _)) rfl ?_
         refine WO_bin (r := .int .i64 1) rfl rfl rfl ?_
         refine WO_mv (v := .s (.int _ _)) rfl ?_
         refine WO_nil ?_
         refine WP_seq ?_
         refine WP_ops ?_
         first | refine WO_ldA0 rfl rfl (.head _) ?_ | refine WO_ldAI rfl rfl (.head _) ?_
         refine WO_mv (v := .s (.int _ _)) rfl ?_
         refine WO_mv (v := .s (.int _ _)) rfl ?_
         refine WO_call0 rfl (RF_of (stands_run _ _ _ _ (by omega))) rfl rfl rfl ?_
         refine WO_un (r := .bool _) rfl rfl ?_
         refine WO_mv (v := .s (.bool _)) rfl ?_
         refine WO_case (t := 35) rfl (fun h42 => ?_) (fun h42 => ?_)
         ·try simp only [NM] at h42
          try simp only [decide_eq_true_eq, decide_eq_false_iff_not] at h42
          refine WO_gf rfl rfl ?_
          refine WO_gf rfl rfl ?_
          refine WO_gf rfl rfl ?_
          refine WO_gf rfl rfl ?_
          refine WO_gf rfl rfl ?_
          refine WO_gf rfl rfl ?_
          refine WO_gf rfl rfl ?_
          refine WO_gf rfl rfl ?_
          refine WO_pick (v := .s (.bool _)) rfl rfl ?_
          refine WO_nil ?_
          refine WP_cond rfl (fun _ => ?_) (fun h => nomatch h)
          refine WP_seq ?_
          refine WP_ops ?_
          refine WO_mv rfl ?_
          refine WO_nil ?_
          refine WP_ret ?_
          refine ⟨_, RS_tmp (v := .s (.bool _)) rfl (RS_nil), ?_⟩
          refine congrArg (fun b => V.s (S.bool b)) ?_
          rw [Bool.eq_iff_iff]
          simp only [castlesM, homeM, standM, decide_eq_true_eq, decide_eq_false_iff_not, Bool.false_eq_true, false_iff, true_iff] at *
          omega
         ·try simp only [NM] at h42
          try simp only [decide_eq_true_eq, decide_eq_false_iff_not] at h42
          refine WO_gt rfl ?_
          first | refine WO_ldA0 rfl rfl (.head _) ?_ | refine WO_ldAI rfl rfl (.head _) ?_
          refine WO_gt rfl ?_
          refine WO_mv (v := .s (.int _ _)) rfl ?_
          refine WO_gt rfl ?_
          refine WO_mv (v := .s (.int _ _)) rfl ?_
          refine WO_gt rfl ?_
          refine WO_bin (r := .int .i64 7) rfl rfl rfl ?_
          refine WO_gt rfl ?_
          refine WO_bin (r := .int .i64 56) rfl rfl rfl ?_
          refine WO_gt rfl ?_
          refine WO_bin (r := .int .i64 60) rfl rfl rfl ?_
          refine WO_gt rfl ?_
          refine WO_call0 rfl (RF_of (stands_run _ _ _ _ (by omega))) rfl rfl rfl ?_
          refine WO_gt rfl ?_
          refine WO_un (r := .bool _) rfl rfl ?_
          refine WO_pick (v := .s (.bool _)) rfl rfl ?_
          refine WO_nil ?_
          refine WP_cond rfl (fun h43 => ?_) (fun h43 => ?_)
          ·try simp only [NM] at h43
           try simp only [decide_eq_true_eq, decide_eq_false_iff_not] at h43
           refine WP_seq ?_
           refine WP_ops ?_
           refine WO_mv rfl ?_
           refine WO_nil ?_
           refine WP_ret ?_
           refine ⟨_, RS_tmp (v := .s (.bool _)) rfl (RS_nil), ?_⟩
           refine congrArg (fun b => V.s (S.bool b)) ?_
           rw [Bool.eq_iff_iff]
           simp only [castlesM, homeM, standM, decide_eq_true_eq, decide_eq_false_iff_not, Bool.false_eq_true, false_iff, true_iff] at *
           omega
          ·try simp only [NM] at h43
           try simp only [decide_eq_true_eq, decide_eq_false_iff_not] at h43
           refine WP_skip ?_
           refine WP_ops ?_
           refine WO_bin (r := .int .i64 4) rfl rfl rfl ?_
           refine WO_mv (v := .s (.int _ _)) rfl ?_
           refine WO_nil ?_
           refine ⟨_, (.cons_cons _ .slnil), ?_, rfl, rfl, rfl, rfl, rfl⟩
           try simp only [standM, decide_eq_true_eq, decide_eq_false_iff_not] at *
           omega
       ·try simp only [NM] at h40
        try simp only [decide_eq_true_eq, decide_eq_false_iff_not] at h40
        exfalso; omega
      ·skip
       obtain ⟨hf3, k1, k16, k17, rfl, rfl⟩ := hI
       refine WP_know (d := 1) (v := .ptr 0 0 133) k1 ?_
       refine WP_know (d := 16) (v := .agg 4 (ia (ov (ov (ov (ov (fun _ => 0) 0 7) 1 0) 2 63) 3 56))) k16 ?_
       refine WP_know (d := 17) (v := .s (.int .i64 4)) k17 ?_
       refine WP_unroll ?_
       refine WP_seq ?_
       refine WP_ops ?_
       refine WO_bin (r := .bool _) rfl rfl rfl ?_
       refine WO_nil ?_
       refine WP_seq ?_
       refine WP_cond rfl (fun h44 => ?_) (fun h44 => ?_)
       ·try simp only [NM] at h44
        try simp only [decide_eq_true_eq, decide_eq_false_iff_not] at h44
        exfalso; omega
       ·try simp only [NM] at h44
        try simp only [decide_eq_true_eq, decide_eq_false_iff_not] at h44
        refine WP_exit ?_
        refine xhere ?_
        refine WP_seq ?_
        refine WP_ops ?_
        refine WO_mv rfl ?_
        refine WO_nil ?_
        refine WP_ret ?_
        refine ⟨_, RS_tmp (v := .s (.bool _)) rfl (RS_nil), ?_⟩
        refine congrArg (fun b => V.s (S.bool b)) ?_
        rw [Bool.eq_iff_iff]
        simp only [castlesM, homeM, standM, decide_eq_true_eq, decide_eq_false_iff_not, Bool.false_eq_true, false_iff, true_iff] at *
        omega
end Go.Proofs.Ytjldefmcnppdoaa
