/- The walks of the chapter board: what is right. -/
import Derived.Test.YtjldefmcnppdoaaSquareB
namespace Go.Proofs.Ytjldefmcnppdoaa
open Go Go.Am
set_option linter.unusedSimpArgs false
set_option linter.unusedVariables false
theorem cast_shr0 {c : Int} (h : 0 ≤ c ∧ c ≤ 15) : binS .shr (.int .i64 c) (.int .i64 0) = some (.int .i64 (c / 1)) := by
  have : c = 0 ∨ c = 1 ∨ c = 2 ∨ c = 3 ∨ c = 4 ∨ c = 5 ∨ c = 6 ∨ c = 7 ∨ c = 8 ∨ c = 9 ∨ c = 10 ∨ c = 11 ∨ c = 12 ∨ c = 13 ∨ c = 14 ∨ c = 15 := by omega
  rcases this with rfl | rfl | rfl | rfl | rfl | rfl | rfl | rfl | rfl | rfl | rfl | rfl | rfl | rfl | rfl | rfl <;> rfl
theorem cast_shr1 {c : Int} (h : 0 ≤ c ∧ c ≤ 15) : binS .shr (.int .i64 c) (.int .i64 1) = some (.int .i64 (c / 2)) := by
  have : c = 0 ∨ c = 1 ∨ c = 2 ∨ c = 3 ∨ c = 4 ∨ c = 5 ∨ c = 6 ∨ c = 7 ∨ c = 8 ∨ c = 9 ∨ c = 10 ∨ c = 11 ∨ c = 12 ∨ c = 13 ∨ c = 14 ∨ c = 15 := by omega
  rcases this with rfl | rfl | rfl | rfl | rfl | rfl | rfl | rfl | rfl | rfl | rfl | rfl | rfl | rfl | rfl | rfl <;> rfl
theorem cast_shr2 {c : Int} (h : 0 ≤ c ∧ c ≤ 15) : binS .shr (.int .i64 c) (.int .i64 2) = some (.int .i64 (c / 4)) := by
  have : c = 0 ∨ c = 1 ∨ c = 2 ∨ c = 3 ∨ c = 4 ∨ c = 5 ∨ c = 6 ∨ c = 7 ∨ c = 8 ∨ c = 9 ∨ c = 10 ∨ c = 11 ∨ c = 12 ∨ c = 13 ∨ c = 14 ∨ c = 15 := by omega
  rcases this with rfl | rfl | rfl | rfl | rfl | rfl | rfl | rfl | rfl | rfl | rfl | rfl | rfl | rfl | rfl | rfl <;> rfl
theorem cast_shr3 {c : Int} (h : 0 ≤ c ∧ c ≤ 15) : binS .shr (.int .i64 c) (.int .i64 3) = some (.int .i64 (c / 8)) := by
  have : c = 0 ∨ c = 1 ∨ c = 2 ∨ c = 3 ∨ c = 4 ∨ c = 5 ∨ c = 6 ∨ c = 7 ∨ c = 8 ∨ c = 9 ∨ c = 10 ∨ c = 11 ∨ c = 12 ∨ c = 13 ∨ c = 14 ∨ c = 15 := by omega
  rcases this with rfl | rfl | rfl | rfl | rfl | rfl | rfl | rfl | rfl | rfl | rfl | rfl | rfl | rfl | rfl | rfl <;> rfl
theorem cast_and1 {c : Int} (h : 0 ≤ c ∧ c ≤ 15) : binS .and (.int .i64 c) (.int .i64 1) = some (.int .i64 (c % 2)) := by
  have : c = 0 ∨ c = 1 ∨ c = 2 ∨ c = 3 ∨ c = 4 ∨ c = 5 ∨ c = 6 ∨ c = 7 ∨ c = 8 ∨ c = 9 ∨ c = 10 ∨ c = 11 ∨ c = 12 ∨ c = 13 ∨ c = 14 ∨ c = 15 := by omega
  rcases this with rfl | rfl | rfl | rfl | rfl | rfl | rfl | rfl | rfl | rfl | rfl | rfl | rfl | rfl | rfl | rfl <;> rfl

/-- A piece stands on a square; nothing does. -/
def standM (P : Nat → Int) (x k c : Int) : Bool := decide (P (sqI x) = k ∧ P (sqI x + 1) = c)
theorem eq_two {X Y : Nat → Int} : eqI 2 X Y = decide (X 0 = Y 0 ∧ X 1 = Y 1) := by
  rw [Bool.eq_iff_iff, eqI_iff, decide_eq_true_eq]
  constructor
  · intro h; exact ⟨h 0 (by omega), h 1 (by omega)⟩
  · rintro ⟨h0, h1⟩ i hi
    have : i = 0 ∨ i = 1 := by omega
    rcases this with rfl | rfl
    · exact h0
    · exact h1
def okM (P : Nat → Int) (s : Nat) : Prop := (P (sqI s) = 0 ∧ P (sqI s + 1) = 0) ∨ ((1 ≤ P (sqI s) ∧ P (sqI s) ≤ 6 ∧ (P (sqI s + 1) = 0 ∨ P (sqI s + 1) = 1)) ∧ ¬ (P (sqI s) = 1 ∧ (s < 8 ∨ 56 ≤ s)))
/-- The kings of a side on the first squares. -/
def kM (P : Nat → Int) (c : Int) : Nat → Int
  | 0 => 0
  | n + 1 => kM P c n + (if P (sqI n) = 6 ∧ P (sqI n + 1) = c then 1 else 0)
theorem kM_bd (P : Nat → Int) (c : Int) : ∀ n : Nat, 0 ≤ kM P c n ∧ kM P c n ≤ n
  | 0 => ⟨Int.le_refl _, Int.le_refl _⟩
  | n + 1 => by
    have := kM_bd P c n
    unfold kM
    split <;> omega
instance (P : Nat → Int) (s : Nat) : Decidable (okM P s) := by unfold okM; infer_instance
def piecesM (P : Nat → Int) : Bool := decide ((∀ s : Nat, s < 64 → okM P s) ∧ kM P 0 64 = 1 ∧ kM P 1 64 = 1 ∧ (P 128 = 0 ∨ P 128 = 1))
theorem pieces_no {P : Nat → Int} (h : ¬ ((∀ s : Nat, s < 64 → okM P s) ∧ kM P 0 64 = 1 ∧ kM P 1 64 = 1 ∧ (P 128 = 0 ∨ P 128 = 1))) : piecesM P = false := by
  unfold piecesM; exact decide_eq_false h
theorem pieces_yes {P : Nat → Int} (h : (∀ s : Nat, s < 64 → okM P s) ∧ kM P 0 64 = 1 ∧ kM P 1 64 = 1 ∧ (P 128 = 0 ∨ P 128 = 1)) : piecesM P = true := by
  unfold piecesM; exact decide_eq_true h
theorem pieces_is {P : Nat → Int} (h : piecesM P = true) : (∀ s : Nat, s < 64 → okM P s) ∧ kM P 0 64 = 1 ∧ kM P 1 64 = 1 ∧ (P 128 = 0 ∨ P 128 = 1) := by
  unfold piecesM at h; exact of_decide_eq_true h
theorem ok_next {P : Nat → Int} {i : Nat} (h : ∀ s : Nat, s < i → okM P s) (hi : okM P i) : ∀ s : Nat, s < i + 1 → okM P s := fun s hs => by
  by_cases e : s = i
  · subst e; exact hi
  · exact h s (by omega)
theorem kings_no {P C : Nat → Int} {i : Nat} (h0 : C 0 = kM P 0 i) (h1 : C 1 = kM P 1 i) (hk : ¬ P (sqI i) = 6) : C 0 = kM P 0 (i + 1) ∧ C 1 = kM P 1 (i + 1) := by
  unfold kM
  rw [if_neg (fun q => hk q.1), if_neg (fun q => hk q.1)]
  omega
theorem kings_yes {P C : Nat → Int} {i : Nat} (h0 : C 0 = kM P 0 i) (h1 : C 1 = kM P 1 i) (hk : P (sqI i) = 6) (hc : P (sqI i + 1) = 0 ∨ P (sqI i + 1) = 1) : ov C (0 + (P (sqI i + 1)).toNat * 1) (C (0 + (P (sqI i + 1)).toNat * 1) + 1) 0 = kM P 0 (i + 1) ∧ ov C (0 + (P (sqI i + 1)).toNat * 1) (C (0 + (P (sqI i + 1)).toNat * 1) + 1) 1 = kM P 1 (i + 1) := by
  unfold kM
  rcases hc with hc | hc
  · rw [if_pos ⟨hk, hc⟩, if_neg (by omega), hc]
    exact ⟨by show C 0 + 1 = _; omega, by show C 1 = _; omega⟩
  · rw [if_neg (by omega), if_pos ⟨hk, hc⟩, hc]
    exact ⟨by show C 0 = _; omega, by show C 1 + 1 = _; omega⟩
theorem king_bd {P C : Nat → Int} {i : Nat} (h0 : C 0 = kM P 0 i) (h1 : C 1 = kM P 1 i) (hi : i ≤ 64) (hc : P (sqI i + 1) = 0 ∨ P (sqI i + 1) = 1) : -9223372036854775808 ≤ C (0 + (P (sqI i + 1)).toNat * 1) + 1 ∧ C (0 + (P (sqI i + 1)).toNat * 1) + 1 ≤ 9223372036854775807 := by
  have := kM_bd P 0 i
  have := kM_bd P 1 i
  rcases hc with hc | hc
  · rw [hc]; show _ ≤ C 0 + 1 ∧ C 0 + 1 ≤ _; omega
  · rw [hc]; show _ ≤ C 1 + 1 ∧ C 1 + 1 ≤ _; omega
theorem dp_ix {P : Nat → Int} {i : Nat} : (fun j => ia P ((i : Int).toNat * 2 + j)) = ia (dp P (sqI i)) := by
  funext j
  show _ = ia P (0 + (i : Int).toNat * 2 + j)
  rw [Nat.zero_add]
theorem ovA2 {F X : Nat → Int} : ovA F 0 2 X 0 = X 0 ∧ ovA F 0 2 X 1 = X 1 := ⟨rfl, rfl⟩
def homeM (P : Nat → Int) (s a b : Int) : Bool := decide (P (sqI a) = 6 ∧ P (sqI a + 1) = s ∧ P (sqI b) = 4 ∧ P (sqI b + 1) = s)
def castlesM (P : Nat → Int) : Bool := decide ((0 ≤ P 129 ∧ P 129 ≤ 15) ∧ (P 129 % 2 = 0 ∨ homeM P 0 4 7 = true) ∧ (P 129 / 2 % 2 = 0 ∨ homeM P 0 4 0 = true) ∧ (P 129 / 4 % 2 = 0 ∨ homeM P 1 60 63 = true) ∧ (P 129 / 8 = 0 ∨ homeM P 1 60 56 = true))
def overOK (P : Nat → Int) : Bool := decide (P 130 = -1 ∨ ((0 ≤ P 130 ∧ P 130 < 64) ∧ P 131 = 0 ∧ ((P 128 = 1 ∧ P 130 / 8 = 2 ∧ standM P (P 130) 0 0 = true ∧ standM P (P 130 - 8) 0 0 = true ∧ standM P (P 130 + 8) 1 0 = true) ∨ (P 128 = 0 ∧ P 130 / 8 = 5 ∧ standM P (P 130) 0 0 = true ∧ standM P (P 130 + 8) 0 0 = true ∧ standM P (P 130 - 8) 1 1 = true))))
def rightM (P : Nat → Int) : Bool := piecesM P && castlesM P && overOK P && decide (0 ≤ P 131 ∧ P 131 ≤ 1024 ∧ 1 ≤ P 132 ∧ P 132 ≤ 16384)
theorem rank_in {x r : Int} (h : rankM x = r) (hr : 0 ≤ r) : (0 ≤ x ∧ x < 64) ∧ x / 8 = r := by
  unfold rankM at h
  split at h
  · exact ⟨by assumption, h⟩
  · omega
theorem step_is {x d : Int} (hx : 0 ≤ x ∧ x < 64) (h : 0 ≤ x / 8 + d ∧ x / 8 + d < 8) : stepM x 0 d = x + 8 * d := by
  unfold stepM atM
  rw [if_pos ⟨hx, by omega, by omega⟩, if_pos (by omega)]
  omega

theorem stands_run (P : Nat → Int) (k s x : Int) (hx : 0 ≤ x ∧ x < 64) : WR AM 112 [.agg 133 (ia P), .s (.int .i64 k), .s (.int .i64 s), .s (.int .i64 x)] [] (fun v _ _ => v = .s (.bool (standM P x k s))) := by
 refine WR_fn (a := a112) rfl rfl (entryF _) (entry_E (Nat.le_of_ble_eq_true rfl)) (m := 0) rfl ?_
 refine WP_seq ?_
 refine WP_ops ?_
 refine WO_boxA rfl ?_
 refine WO_mv rfl ?_
 refine WO_nil ?_
 refine WP_seq ?_
 refine WP_ops ?_
 refine WO_mv (v := .s (.int _ _)) rfl ?_
 refine WO_fa (o' := 0) rfl rfl rfl ?_
 refine WO_fa (o' := 0) rfl rfl rfl ?_
 refine WO_ixa rfl rfl rfl (by omega) ?_
 first | refine WO_ldA0 rfl rfl (.head _) ?_ | refine WO_ldAI rfl rfl (.head _) ?_
 refine WO_mv (v := .s (.int _ _)) rfl ?_
 refine WO_mv (v := .s (.int _ _)) rfl ?_
 refine WO_buildI rfl (.one rfl (.one rfl .nil)) ?_
 refine WO_eqa rfl rfl ?_
 refine WO_mv (v := .s (.bool _)) rfl ?_
 refine WO_nil ?_
 refine WP_ret ?_
 refine ⟨_, RS_tmp (v := .s (.bool _)) rfl (RS_nil), ?_⟩
 refine congrArg (fun b => V.s (S.bool b)) ?_
 exact eq_two
theorem none_run (X : Nat → Int) : WR AM 107 [.agg 2 (ia X)] [] (fun v _ _ => v = .s (.bool (decide (X 0 = 0 ∧ X 1 = 0)))) := by
 refine WR_fn (a := a107) rfl rfl (entryF _) (entry_E (Nat.le_of_ble_eq_true rfl)) (m := 0) rfl ?_
 refine WP_seq ?_
 refine WP_ops ?_
 refine WO_boxA rfl ?_
 refine WO_mv rfl ?_
 refine WO_nil ?_
 refine WP_seq ?_
 refine WP_ops ?_
 first | refine WO_ldA0 rfl rfl (.head _) ?_ | refine WO_ldAI rfl rfl (.head _) ?_
 refine WO_buildI rfl .nil ?_
 refine WO_eqa rfl rfl ?_
 refine WO_mv (v := .s (.bool _)) rfl ?_
 refine WO_nil ?_
 refine WP_ret ?_
 refine ⟨_, RS_tmp (v := .s (.bool _)) rfl (RS_nil), ?_⟩
 refine congrArg (fun b => V.s (S.bool b)) ?_
 exact eq_two
theorem free_run {md : Md} (P : Nat → Int) (x : Int) (hx : 0 ≤ x ∧ x < 64) : WR AM 113 [.s (.int .i64 x), .ptr 0 0 133] [.sc md 133 (ia P)] (fun v _ L => v = .s (.bool (standM P x 0 0)) ∧ (0, Blk.sc md 133 (ia P)) ∈ L) := by
 refine WR_fn (a := a113) rfl rfl (entryF _) (entry_E (Nat.le_of_ble_eq_true rfl)) (m := 1) rfl ?_
 refine WP_seq ?_
 refine WP_ops ?_
 refine WO_mv rfl ?_
 refine WO_nil ?_
 refine WP_seq ?_
 refine WP_ops ?_
 refine WO_mv (v := .s (.int _ _)) rfl ?_
 refine WO_fa (o' := 0) rfl rfl rfl ?_
 refine WO_fa (o' := 0) rfl rfl rfl ?_
 refine WO_ixa rfl rfl rfl (by omega) ?_
 first | refine WO_ldA0 rfl rfl (.head _) ?_ | refine WO_ldAI rfl rfl (.head _) ?_
 refine WO_buildI rfl .nil ?_
 refine WO_eqa rfl rfl ?_
 refine WO_mv (v := .s (.bool _)) rfl ?_
 refine WO_nil ?_
 refine WP_ret ?_
 refine ⟨_, RS_tmp (v := .s (.bool _)) rfl (RS_nil), ?_⟩
 refine ⟨congrArg (fun b => V.s (S.bool b)) ?_, (.head _)⟩
 exact eq_two
theorem home_run (P : Nat → Int) (s a b : Int) (ha : 0 ≤ a ∧ a < 64) (hb : 0 ≤ b ∧ b < 64) : WR AM 120 [.agg 133 (ia P), .s (.int .i64 s), .s (.int .i64 a), .s (.int .i64 b)] [] (fun v _ _ => v = .s (.bool (homeM P s a b))) := by
 refine WR_fn (a := a120) rfl rfl (entryF _) (entry_E (Nat.le_of_ble_eq_true rfl)) (m := 0) rfl ?_
 refine WP_seq ?_
 refine WP_ops ?_
 refine WO_boxA rfl ?_
 refine WO_mv rfl ?_
 refine WO_nil ?_
 refine WP_seq ?_
 refine WP_ops ?_
 refine WO_mv (v := .s (.int _ _)) rfl ?_
 refine WO_fa (o' := 0) rfl rfl rfl ?_
 refine WO_ixa rfl rfl rfl (by omega) ?_
 first | refine WO_ldA0 rfl rfl (.head _) ?_ | refine WO_ldAI rfl rfl (.head _) ?_
 refine WO_mv (v := .s (.int _ _)) rfl ?_
 refine WO_buildI rfl (.one rfl (.one rfl .nil)) ?_
 refine WO_eqa rfl rfl ?_
 refine WO_mv (v := .s (.bool _)) rfl ?_
 refine WO_case (t := 16) rfl (fun h1 => ?_) (fun h1 => ?_)
 ·try simp only [NM] at h1
  try simp only [eq_two, decide_eq_true_eq, decide_eq_false_iff_not, mayM, isM] at h1
  refine WO_gt rfl ?_
  refine WO_mv (v := .s (.int _ _)) rfl ?_
  refine WO_gt rfl ?_
  refine WO_fa (o' := 0) rfl rfl rfl ?_
  refine WO_gt rfl ?_
  refine WO_ixa rfl rfl rfl (by omega) ?_
  refine WO_gt rfl ?_
  first | refine WO_ldA0 rfl rfl (.head _) ?_ | refine WO_ldAI rfl rfl (.head _) ?_
  refine WO_gt rfl ?_
  refine WO_mv (v := .s (.int _ _)) rfl ?_
  refine WO_gt rfl ?_
  refine WO_buildI rfl (.one rfl (.one rfl .nil)) ?_
  refine WO_gt rfl ?_
  refine WO_eqa rfl rfl ?_
  refine WO_pick (v := .s (.bool _)) rfl rfl ?_
  refine WO_mv (v := .s (.bool _)) rfl ?_
  refine WO_nil ?_
  refine WP_ret ?_
  refine ⟨_, RS_tmp (v := .s (.bool _)) rfl (RS_nil), ?_⟩
  refine congrArg (fun b => V.s (S.bool b)) ?_
  first | (show eqI 2 _ _ = _; rw [eq_two]) | skip
  rw [Bool.eq_iff_iff]
  simp only [homeM, decide_eq_true_eq, Bool.false_eq_true, false_iff]
  have q0 : ov (ov (fun _ => 0) 0 6) 1 s 0 = 6 := rfl
  have q1 : ov (ov (fun _ => 0) 0 6) 1 s 1 = s := rfl
  have q2 : ov (ov (fun _ => 0) 0 4) 1 s 0 = 4 := rfl
  have q3 : ov (ov (fun _ => 0) 0 4) 1 s 1 = s := rfl
  simp only [q0, q1, q2, q3, dp, Nat.add_zero, sqI] at *
  omega
 ·try simp only [NM] at h1
  try simp only [eq_two, decide_eq_true_eq, decide_eq_false_iff_not, mayM, isM] at h1
  refine WO_gf rfl rfl ?_
  refine WO_gf rfl rfl ?_
  refine WO_gf rfl rfl ?_
  refine WO_gf rfl rfl ?_
  refine WO_gf rfl rfl ?_
  refine WO_gf rfl rfl ?_
  refine WO_gf rfl rfl ?_
  refine WO_pick (v := .s (.bool _)) rfl rfl ?_
  refine WO_mv (v := .s (.bool _)) rfl ?_
  refine WO_nil ?_
  refine WP_ret ?_
  refine ⟨_, RS_tmp (v := .s (.bool _)) rfl (RS_nil), ?_⟩
  refine congrArg (fun b => V.s (S.bool b)) ?_
  first | (show eqI 2 _ _ = _; rw [eq_two]) | skip
  rw [Bool.eq_iff_iff]
  simp only [homeM, decide_eq_true_eq, Bool.false_eq_true, false_iff]
  have q0 : ov (ov (fun _ => 0) 0 6) 1 s 0 = 6 := rfl
  have q1 : ov (ov (fun _ => 0) 0 6) 1 s 1 = s := rfl
  have q2 : ov (ov (fun _ => 0) 0 4) 1 s 0 = 4 := rfl
  have q3 : ov (ov (fun _ => 0) 0 4) 1 s 1 = s := rfl
  simp only [q0, q1, q2, q3, dp, Nat.add_zero, sqI] at *
  omega
theorem rcastles_ok (P : Nat → Int) : WR AM 109 [.agg 133 (ia P)] [] (fun v _ _ => v = .s (.bool (castlesM P))) := by
 refine WR_fn (a := a109) rfl rfl (entryF _) (entry_E (Nat.le_of_ble_eq_true rfl)) (m := 0) rfl ?_
 refine WP_seq ?_
 refine WP_ops ?_
 refine WO_boxA rfl ?_
 refine WO_mv rfl ?_
 refine WO_nil ?_
 refine WP_seq ?_
 refine WP_ops ?_
 refine WO_fa (o' := 129) rfl rfl rfl ?_
 refine WO_ldI rfl rfl (.head _) rfl ?_
 refine WO_mv (v := .s (.int _ _)) rfl ?_
 refine WO_nil ?_
 refine WP_seq ?_
 refine WP_seq ?_
 refine WP_ops ?_
 refine WO_mv (v := .s (.int _ _)) rfl ?_
 refine WO_bin (r := .bool _) rfl rfl rfl ?_
 refine WO_mv (v := .s (.bool _)) rfl ?_
 refine WO_case (t := 8) rfl (fun h2 => ?_) (fun h2 => ?_)
 ·try simp only [NM] at h2
  try simp only [eq_two, decide_eq_true_eq, decide_eq_false_iff_not, mayM, isM] at h2
  try simp only [homeM, decide_eq_true_eq, decide_eq_false_iff_not] at h2
  refine WO_gf rfl rfl ?_
  refine WO_gf rfl rfl ?_
  refine WO_pick (v := .s (.bool _)) rfl rfl ?_
  refine WO_nil ?_
  refine WP_cond rfl (fun _ => ?_) (fun h => nomatch h)
  refine WP_seq ?_
  refine WP_ops ?_
  refine WO_mv rfl ?_
  refine WO_nil ?_
  refine WP_ret ?_
  refine ⟨_, RS_tmp (v := .s (.bool _)) rfl (RS_nil), ?_⟩
  refine congrArg (fun b => V.s (S.bool b)) ?_
  rw [Bool.eq_iff_iff]
  simp only [castlesM, homeM, decide_eq_true_eq, Bool.false_eq_true, false_iff, true_iff]
  omega
 ·try simp only [NM] at h2
  try simp only [eq_two, decide_eq_true_eq, decide_eq_false_iff_not, mayM, isM] at h2
  try simp only [homeM, decide_eq_true_eq, decide_eq_false_iff_not] at h2
  refine WO_gt rfl ?_
  refine WO_mv (v := .s (.int _ _)) rfl ?_
  refine WO_gt rfl ?_
  refine WO_bin (r := .bool _) rfl rfl rfl ?_
  refine WO_pick (v := .s (.bool _)) rfl rfl ?_
  refine WO_nil ?_
  refine WP_cond rfl (fun h3 => ?_) (fun h3 => ?_)
  ·try simp only [NM] at h3
   try simp only [eq_two, decide_eq_true_eq, decide_eq_false_iff_not, mayM, isM] at h3
   try simp only [homeM, decide_eq_true_eq, decide_eq_false_iff_not] at h3
   refine WP_seq ?_
   refine WP_ops ?_
   refine WO_mv rfl ?_
   refine WO_nil ?_
   refine WP_ret ?_
   refine ⟨_, RS_tmp (v := .s (.bool _)) rfl (RS_nil), ?_⟩
   refine congrArg (fun b => V.s (S.bool b)) ?_
   rw [Bool.eq_iff_iff]
   simp only [castlesM, homeM, decide_eq_true_eq, Bool.false_eq_true, false_iff, true_iff]
   omega
  ·try simp only [NM] at h3
   try simp only [eq_two, decide_eq_true_eq, decide_eq_false_iff_not, mayM, isM] at h3
   try simp only [homeM, decide_eq_true_eq, decide_eq_false_iff_not] at h3
   refine WP_skip ?_
   refine WP_seq ?_
   refine WP_ops ?_
   refine WO_mv (v := .s (.int _ _)) rfl ?_
   refine WO_rem rfl rfl (by omega) ?_
   refine WO_bin (r := .bool _) rfl rfl rfl ?_
   refine WO_mv (v := .s (.bool _)) rfl ?_
   refine WO_case (t := 15) rfl (fun h4 => ?_) (fun h4 => ?_)
   ·try simp only [NM] at h4
    try simp only [eq_two, decide_eq_true_eq, decide_eq_false_iff_not, mayM, isM] at h4
    try simp only [homeM, decide_eq_true_eq, decide_eq_false_iff_not] at h4
    refine WO_gf rfl rfl ?_
    refine WO_gf rfl rfl ?_
    refine WO_pick (v := .s (.bool _)) rfl rfl ?_
    refine WO_mv (v := .s (.bool _)) rfl ?_
    refine WO_gt rfl ?_
    refine WO_mv (v := .s (.int _ _)) rfl ?_
    refine WO_gt rfl ?_
    refine WO_quo rfl rfl (by omega) ?_
    refine WO_gt rfl ?_
    refine WO_rem rfl rfl (by omega) ?_
    refine WO_gt rfl ?_
    refine WO_bin (r := .bool _) rfl rfl rfl ?_
    refine WO_gt rfl ?_
    refine WO_mv (v := .s (.bool _)) rfl ?_
    refine WO_case (t := 24) rfl (fun h5 => ?_) (fun h5 => ?_)
    ·try simp only [NM] at h5
     try simp only [eq_two, decide_eq_true_eq, decide_eq_false_iff_not, mayM, isM] at h5
     try simp only [homeM, decide_eq_true_eq, decide_eq_false_iff_not] at h5
     refine WO_gf rfl rfl ?_
     refine WO_gf rfl rfl ?_
     refine WO_gt rfl ?_
     refine WO_pick (v := .s (.bool _)) rfl rfl ?_
     refine WO_pick (v := .s (.bool _)) rfl rfl ?_
     refine WO_mv (v := .s (.bool _)) rfl ?_
     refine WO_gt rfl ?_
     refine WO_mv (v := .s (.int _ _)) rfl ?_
     refine WO_gt rfl ?_
     refine WO_quo rfl rfl (by omega) ?_
     refine WO_gt rfl ?_
     refine WO_rem rfl rfl (by omega) ?_
     refine WO_gt rfl ?_
     refine WO_bin (r := .bool _) rfl rfl rfl ?_
     refine WO_gt rfl ?_
     refine WO_mv (v := .s (.bool _)) rfl ?_
     refine WO_case (t := 34) rfl (fun h6 => ?_) (fun h6 => ?_)
     ·try simp only [NM] at h6
      try simp only [eq_two, decide_eq_true_eq, decide_eq_false_iff_not, mayM, isM] at h6
      try simp only [homeM, decide_eq_true_eq, decide_eq_false_iff_not] at h6
      refine WO_gf rfl rfl ?_
      refine WO_gf rfl rfl ?_
      refine WO_gt rfl ?_
      refine WO_pick (v := .s (.bool _)) rfl rfl ?_
      refine WO_pick (v := .s (.bool _)) rfl rfl ?_
      refine WO_mv (v := .s (.bool _)) rfl ?_
      refine WO_gt rfl ?_
      refine WO_mv (v := .s (.int _ _)) rfl ?_
      refine WO_gt rfl ?_
      refine WO_quo rfl rfl (by omega) ?_
      refine WO_gt rfl ?_
      refine WO_bin (r := .bool _) rfl rfl rfl ?_
      refine WO_gt rfl ?_
      refine WO_mv (v := .s (.bool _)) rfl ?_
      refine WO_case (t := 43) rfl (fun h7 => ?_) (fun h7 => ?_)
      ·try simp only [NM] at h7
       try simp only [eq_two, decide_eq_true_eq, decide_eq_false_iff_not, mayM, isM] at h7
       try simp only [homeM, decide_eq_true_eq, decide_eq_false_iff_not] at h7
       refine WO_gf rfl rfl ?_
       refine WO_gf rfl rfl ?_
       refine WO_gt rfl ?_
       refine WO_pick (v := .s (.bool _)) rfl rfl ?_
       refine WO_pick (v := .s (.bool _)) rfl rfl ?_
       refine WO_mv (v := .s (.bool _)) rfl ?_
       refine WO_nil ?_
       refine WP_ret ?_
       refine ⟨_, RS_tmp (v := .s (.bool _)) rfl (RS_nil), ?_⟩
       refine congrArg (fun b => V.s (S.bool b)) ?_
       rw [Bool.eq_iff_iff]
       simp only [castlesM, homeM, decide_eq_true_eq, Bool.false_eq_true, false_iff, true_iff]
       omega
      ·try simp only [NM] at h7
       try simp only [eq_two, decide_eq_true_eq, decide_eq_false_iff_not, mayM, isM] at h7
       try simp only [homeM, decide_eq_true_eq, decide_eq_false_iff_not] at h7
       refine WO_gt rfl ?_
       first | refine WO_ldA0 rfl rfl (.head _) ?_ | refine WO_ldAI rfl rfl (.head _) ?_
       refine WO_gt rfl ?_
       refine WO_call0 rfl (RF_of (home_run _ _ _ _ (by omega) (by omega))) rfl rfl rfl ?_
       refine WO_gt rfl ?_
       refine WO_pick (v := .s (.bool _)) rfl rfl ?_
       refine WO_pick (v := .s (.bool _)) rfl rfl ?_
       refine WO_mv (v := .s (.bool _)) rfl ?_
       refine WO_nil ?_
       refine WP_ret ?_
       refine ⟨_, RS_tmp (v := .s (.bool _)) rfl (RS_nil), ?_⟩
       refine congrArg (fun b => V.s (S.bool b)) ?_
       rw [Bool.eq_iff_iff]
       simp only [castlesM, homeM, decide_eq_true_eq, Bool.false_eq_true, false_iff, true_iff]
       omega
     ·try simp only [NM] at h6
      try simp only [eq_two, decide_eq_true_eq, decide_eq_false_iff_not, mayM, isM] at h6
      try simp only [homeM, decide_eq_true_eq, decide_eq_false_iff_not] at h6
      refine WO_gt rfl ?_
      first | refine WO_ldA0 rfl rfl (.head _) ?_ | refine WO_ldAI rfl rfl (.head _) ?_
      refine WO_gt rfl ?_
      refine WO_call0 rfl (RF_of (home_run _ _ _ _ (by omega) (by omega))) rfl rfl rfl ?_
      refine WO_gt rfl ?_
      refine WO_pick (v := .s (.bool _)) rfl rfl ?_
      refine WO_pick (v := .s (.bool _)) rfl rfl ?_
      refine WO_mv (v := .s (.bool _)) rfl ?_
      refine WO_case (t := 39) rfl (fun h8 => ?_) (fun h8 => ?_)
      ·try simp only [NM] at h8
       try simp only [eq_two, decide_eq_true_eq, decide_eq_false_iff_not, mayM, isM] at h8
       try simp only [homeM, decide_eq_true_eq, decide_eq_false_iff_not] at h8
       refine WO_gt rfl ?_
       refine WO_mv (v := .s (.int _ _)) rfl ?_
       refine WO_gt rfl ?_
       refine WO_quo rfl rfl (by omega) ?_
       refine WO_gt rfl ?_
       refine WO_bin (r := .bool _) rfl rfl rfl ?_
       refine WO_gt rfl ?_
       refine WO_mv (v := .s (.bool _)) rfl ?_
       refine WO_case (t := 43) rfl (fun h9 => ?_) (fun h9 => ?_)
       ·try simp only [NM] at h9
        try simp only [eq_two, decide_eq_true_eq, decide_eq_false_iff_not, mayM, isM] at h9
        try simp only [homeM, decide_eq_true_eq, decide_eq_false_iff_not] at h9
        refine WO_gf rfl rfl ?_
        refine WO_gf rfl rfl ?_
        refine WO_gt rfl ?_
        refine WO_pick (v := .s (.bool _)) rfl rfl ?_
        refine WO_pick (v := .s (.bool _)) rfl rfl ?_
        refine WO_mv (v := .s (.bool _)) rfl ?_
        refine WO_nil ?_
        refine WP_ret ?_
        refine ⟨_, RS_tmp (v := .s (.bool _)) rfl (RS_nil), ?_⟩
        refine congrArg (fun b => V.s (S.bool b)) ?_
        rw [Bool.eq_iff_iff]
        simp only [castlesM, homeM, decide_eq_true_eq, Bool.false_eq_true, false_iff, true_iff]
        omega
       ·try simp only [NM] at h9
        try simp only [eq_two, decide_eq_true_eq, decide_eq_false_iff_not, mayM, isM] at h9
        try simp only [homeM, decide_eq_true_eq, decide_eq_false_iff_not] at h9
        refine WO_gt rfl ?_
        first | refine WO_ldA0 rfl rfl (.head _) ?_ | refine WO_ldAI rfl rfl (.head _) ?_
        refine WO_gt rfl ?_
        refine WO_call0 rfl (RF_of (home_run _ _ _ _ (by omega) (by omega))) rfl rfl rfl ?_
        refine WO_gt rfl ?_
        refine WO_pick (v := .s (.bool _)) rfl rfl ?_
        refine WO_pick (v := .s (.bool _)) rfl rfl ?_
        refine WO_mv (v := .s (.bool _)) rfl ?_
        refine WO_nil ?_
        refine WP_ret ?_
        refine ⟨_, RS_tmp (v := .s (.bool _)) rfl (RS_nil), ?_⟩
        refine congrArg (fun b => V.s (S.bool b)) ?_
        rw [Bool.eq_iff_iff]
        simp only [castlesM, homeM, decide_eq_true_eq, Bool.false_eq_true, false_iff, true_iff]
        omega
      ·try simp only [NM] at h8
       try simp only [eq_two, decide_eq_true_eq, decide_eq_false_iff_not, mayM, isM] at h8
       try simp only [homeM, decide_eq_true_eq, decide_eq_false_iff_not] at h8
       refine WO_gf rfl rfl ?_
       refine WO_gf rfl rfl ?_
       refine WO_gf rfl rfl ?_
       refine WO_gf rfl rfl ?_
       refine WO_gu rfl ?_
       refine WO_gu rfl ?_
       refine WO_gf rfl rfl ?_
       refine WO_pick (v := .s (.bool _)) rfl rfl ?_
       refine WO_mv (v := .s (.bool _)) rfl ?_
       refine WO_nil ?_
       refine WP_ret ?_
       refine ⟨_, RS_tmp (v := .s (.bool _)) rfl (RS_nil), ?_⟩
       refine congrArg (fun b => V.s (S.bool b)) ?_
       rw [Bool.eq_iff_iff]
       simp only [castlesM, homeM, decide_eq_true_eq, Bool.false_eq_true, false_iff, true_iff]
       omega
    ·try simp only [NM] at h5
     try simp only [eq_two, decide_eq_true_eq, decide_eq_false_iff_not, mayM, isM] at h5
     try simp only [homeM, decide_eq_true_eq, decide_eq_false_iff_not] at h5
     refine WO_gt rfl ?_
     first | refine WO_ldA0 rfl rfl (.head _) ?_ | refine WO_ldAI rfl rfl (.head _) ?_
     refine WO_gt rfl ?_
     refine WO_call0 rfl (RF_of (home_run _ _ _ _ (by omega) (by omega))) rfl rfl rfl ?_
     refine WO_gt rfl ?_
     refine WO_pick (v := .s (.bool _)) rfl rfl ?_
     refine WO_pick (v := .s (.bool _)) rfl rfl ?_
     refine WO_mv (v := .s (.bool _)) rfl ?_
     refine WO_case (t := 29) rfl (fun h10 => ?_) (fun h10 => ?_)
     ·try simp only [NM] at h10
      try simp only [eq_two, decide_eq_true_eq, decide_eq_false_iff_not, mayM, isM] at h10
      try simp only [homeM, decide_eq_true_eq, decide_eq_false_iff_not] at h10
      refine WO_gt rfl ?_
      refine WO_mv (v := .s (.int _ _)) rfl ?_
      refine WO_gt rfl ?_
      refine WO_quo rfl rfl (by omega) ?_
      refine WO_gt rfl ?_
      refine WO_rem rfl rfl (by omega) ?_
      refine WO_gt rfl ?_
      refine WO_bin (r := .bool _) rfl rfl rfl ?_
      refine WO_gt rfl ?_
      refine WO_mv (v := .s (.bool _)) rfl ?_
      refine WO_case (t := 34) rfl (fun h11 => ?_) (fun h11 => ?_)
      ·try simp only [NM] at h11
       try simp only [eq_two, decide_eq_true_eq, decide_eq_false_iff_not, mayM, isM] at h11
       try simp only [homeM, decide_eq_true_eq, decide_eq_false_iff_not] at h11
       refine WO_gf rfl rfl ?_
       refine WO_gf rfl rfl ?_
       refine WO_gt rfl ?_
       refine WO_pick (v := .s (.bool _)) rfl rfl ?_
       refine WO_pick (v := .s (.bool _)) rfl rfl ?_
       refine WO_mv (v := .s (.bool _)) rfl ?_
       refine WO_gt rfl ?_
       refine WO_mv (v := .s (.int _ _)) rfl ?_
       refine WO_gt rfl ?_
       refine WO_quo rfl rfl (by omega) ?_
       refine WO_gt rfl ?_
       refine WO_bin (r := .bool _) rfl rfl rfl ?_
       refine WO_gt rfl ?_
       refine WO_mv (v := .s (.bool _)) rfl ?_
       refine WO_case (t := 43) rfl (fun h12 => ?_) (fun h12 => ?_)
       ·try simp only [NM] at h12
        try simp only [eq_two, decide_eq_true_eq, decide_eq_false_iff_not, mayM, isM] at h12
        try simp only [homeM, decide_eq_true_eq, decide_eq_false_iff_not] at h12
        refine WO_gf rfl rfl ?_
        refine WO_gf rfl rfl ?_
        refine WO_gt rfl ?_
        refine WO_pick (v := .s (.bool _)) rfl rfl ?_
        refine WO_pick (v := .s (.bool _)) rfl rfl ?_
        refine WO_mv (v := .s (.bool _)) rfl ?_
        refine WO_nil ?_
        refine WP_ret ?_
        refine ⟨_, RS_tmp (v := .s (.bool _)) rfl (RS_nil), ?_⟩
        refine congrArg (fun b => V.s (S.bool b)) ?_
        rw [Bool.eq_iff_iff]
        simp only [castlesM, homeM, decide_eq_true_eq, Bool.false_eq_true, false_iff, true_iff]
        omega
       ·try simp only [NM] at h12
        try simp only [eq_two, decide_eq_true_eq, decide_eq_false_iff_not, mayM, isM] at h12
        try simp only [homeM, decide_eq_true_eq, decide_eq_false_iff_not] at h12
        refine WO_gt rfl ?_
        first | refine WO_ldA0 rfl rfl (.head _) ?_ | refine WO_ldAI rfl rfl (.head _) ?_
        refine WO_gt rfl ?_
        refine WO_call0 rfl (RF_of (home_run _ _ _ _ (by omega) (by omega))) rfl rfl rfl ?_
        refine WO_gt rfl ?_
        refine WO_pick (v := .s (.bool _)) rfl rfl ?_
        refine WO_pick (v := .s (.bool _)) rfl rfl ?_
        refine WO_mv (v := .s (.bool _)) rfl ?_
        refine WO_nil ?_
        refine WP_ret ?_
        refine ⟨_, RS_tmp (v := .s (.bool _)) rfl (RS_nil), ?_⟩
        refine congrArg (fun b => V.s (S.bool b)) ?_
        rw [Bool.eq_iff_iff]
        simp only [castlesM, homeM, decide_eq_true_eq, Bool.false_eq_true, false_iff, true_iff]
        omega
      ·try simp only [NM] at h11
       try simp only [eq_two, decide_eq_true_eq, decide_eq_false_iff_not, mayM, isM] at h11
       try simp only [homeM, decide_eq_true_eq, decide_eq_false_iff_not] at h11
       refine WO_gt rfl ?_
       first | refine WO_ldA0 rfl rfl (.head _) ?_ | refine WO_ldAI rfl rfl (.head _) ?_
       refine WO_gt rfl ?_
       refine WO_call0 rfl (RF_of (home_run _ _ _ _ (by omega) (by omega))) rfl rfl rfl ?_
       refine WO_gt rfl ?_
       refine WO_pick (v := .s (.bool _)) rfl rfl ?_
       refine WO_pick (v := .s (.bool _)) rfl rfl ?_
       refine WO_mv (v := .s (.bool _)) rfl ?_
       refine WO_case (t := 39) rfl (fun h13 => ?_) (fun h13 => ?_)
       ·try simp only [NM] at h13
        try simp only [eq_two, decide_eq_true_eq, decide_eq_false_iff_not, mayM, isM] at h13
        try simp only [homeM, decide_eq_true_eq, decide_eq_false_iff_not] at h13
        refine WO_gt rfl ?_
        refine WO_mv (v := .s (.int _ _)) rfl ?_
        refine WO_gt rfl ?_
        refine WO_quo rfl rfl (by omega) ?_
        refine WO_gt rfl ?_
        refine WO_bin (r := .bool _) rfl rfl rfl ?_
        refine WO_gt rfl ?_
        refine WO_mv (v := .s (.bool _)) rfl ?_
        refine WO_case (t := 43) rfl (fun h14 => ?_) (fun h14 => ?_)
        ·try simp only [NM] at h14
         try simp only [eq_two, decide_eq_true_eq, decide_eq_false_iff_not, mayM, isM] at h14
         try simp only [homeM, decide_eq_true_eq, decide_eq_false_iff_not] at h14
         refine WO_gf rfl rfl ?_
         refine WO_gf rfl rfl ?_
         refine WO_gt rfl ?_
         refine WO_pick (v := .s (.bool _)) rfl rfl ?_
         refine WO_pick (v := .s (.bool _)) rfl rfl ?_
         refine WO_mv (v := .s (.bool _)) rfl ?_
         refine WO_nil ?_
         refine WP_ret ?_
         refine ⟨_, RS_tmp (v := .s (.bool _)) rfl (RS_nil), ?_⟩
         refine congrArg (fun b => V.s (S.bool b)) ?_
         rw [Bool.eq_iff_iff]
         simp only [castlesM, homeM, decide_eq_true_eq, Bool.false_eq_true, false_iff, true_iff]
         omega
        ·try simp only [NM] at h14
         try simp only [eq_two, decide_eq_true_eq, decide_eq_false_iff_not, mayM, isM] at h14
         try simp only [homeM, decide_eq_true_eq, decide_eq_false_iff_not] at h14
         refine WO_gt rfl ?_
         first | refine WO_ldA0 rfl rfl (.head _) ?_ | refine WO_ldAI rfl rfl (.head _) ?_
         refine WO_gt rfl ?_
         refine WO_call0 rfl (RF_of (home_run _ _ _ _ (by omega) (by omega))) rfl rfl rfl ?_
         refine WO_gt rfl ?_
         refine WO_pick (v := .s (.bool _)) rfl rfl ?_
         refine WO_pick (v := .s (.bool _)) rfl rfl ?_
         refine WO_mv (v := .s (.bool _)) rfl ?_
         refine WO_nil ?_
         refine WP_ret ?_
         refine ⟨_, RS_tmp (v := .s (.bool _)) rfl (RS_nil), ?_⟩
         refine congrArg (fun b => V.s (S.bool b)) ?_
         rw [Bool.eq_iff_iff]
         simp only [castlesM, homeM, decide_eq_true_eq, Bool.false_eq_true, false_iff, true_iff]
         omega
       ·try simp only [NM] at h13
        try simp only [eq_two, decide_eq_true_eq, decide_eq_false_iff_not, mayM, isM] at h13
        try simp only [homeM, decide_eq_true_eq, decide_eq_false_iff_not] at h13
        refine WO_gf rfl rfl ?_
        refine WO_gf rfl rfl ?_
        refine WO_gf rfl rfl ?_
        refine WO_gf rfl rfl ?_
        refine WO_gu rfl ?_
        refine WO_gu rfl ?_
        refine WO_gf rfl rfl ?_
        refine WO_pick (v := .s (.bool _)) rfl rfl ?_
        refine WO_mv (v := .s (.bool _)) rfl ?_
        refine WO_nil ?_
        refine WP_ret ?_
        refine ⟨_, RS_tmp (v := .s (.bool _)) rfl (RS_nil), ?_⟩
        refine congrArg (fun b => V.s (S.bool b)) ?_
        rw [Bool.eq_iff_iff]
        simp only [castlesM, homeM, decide_eq_true_eq, Bool.false_eq_true, false_iff, true_iff]
        omega
     ·try simp only [NM] at h10
      try simp only [eq_two, decide_eq_true_eq, decide_eq_false_iff_not, mayM, isM] at h10
      try simp only [homeM, decide_eq_true_eq, decide_eq_false_iff_not] at h10
      refine WO_gf rfl rfl ?_
      refine WO_gf rfl rfl ?_
      refine WO_gf rfl rfl ?_
      refine WO_gf rfl rfl ?_
      refine WO_gf rfl rfl ?_
      refine WO_gu rfl ?_
      refine WO_gu rfl ?_
      refine WO_gf rfl rfl ?_
      refine WO_pick (v := .s (.bool _)) rfl rfl ?_
      refine WO_mv (v := .s (.bool _)) rfl ?_
      refine WO_gf rfl rfl ?_
      refine WO_gf rfl rfl ?_
      refine WO_gf rfl rfl ?_
      refine WO_gf rfl rfl ?_
      refine WO_gu rfl ?_
      refine WO_gu rfl ?_
      refine WO_gf rfl rfl ?_
      refine WO_pick (v := .s (.bool _)) rfl rfl ?_
      refine WO_mv (v := .s (.bool _)) rfl ?_
      refine WO_nil ?_
      refine WP_ret ?_
      refine ⟨_, RS_tmp (v := .s (.bool _)) rfl (RS_nil), ?_⟩
      refine congrArg (fun b => V.s (S.bool b)) ?_
      rw [Bool.eq_iff_iff]
      simp only [castlesM, homeM, decide_eq_true_eq, Bool.false_eq_true, false_iff, true_iff]
      omega
   ·try simp only [NM] at h4
    try simp only [eq_two, decide_eq_true_eq, decide_eq_false_iff_not, mayM, isM] at h4
    try simp only [homeM, decide_eq_true_eq, decide_eq_false_iff_not] at h4
    refine WO_gt rfl ?_
    first | refine WO_ldA0 rfl rfl (.head _) ?_ | refine WO_ldAI rfl rfl (.head _) ?_
    refine WO_gt rfl ?_
    refine WO_call0 rfl (RF_of (home_run _ _ _ _ (by omega) (by omega))) rfl rfl rfl ?_
    refine WO_pick (v := .s (.bool _)) rfl rfl ?_
    refine WO_mv (v := .s (.bool _)) rfl ?_
    refine WO_case (t := 19) rfl (fun h15 => ?_) (fun h15 => ?_)
    ·try simp only [NM] at h15
     try simp only [eq_two, decide_eq_true_eq, decide_eq_false_iff_not, mayM, isM] at h15
     try simp only [homeM, decide_eq_true_eq, decide_eq_false_iff_not] at h15
     refine WO_gt rfl ?_
     refine WO_mv (v := .s (.int _ _)) rfl ?_
     refine WO_gt rfl ?_
     refine WO_quo rfl rfl (by omega) ?_
     refine WO_gt rfl ?_
     refine WO_rem rfl rfl (by omega) ?_
     refine WO_gt rfl ?_
     refine WO_bin (r := .bool _) rfl rfl rfl ?_
     refine WO_gt rfl ?_
     refine WO_mv (v := .s (.bool _)) rfl ?_
     refine WO_case (t := 24) rfl (fun h16 => ?_) (fun h16 => ?_)
     ·try simp only [NM] at h16
      try simp only [eq_two, decide_eq_true_eq, decide_eq_false_iff_not, mayM, isM] at h16
      try simp only [homeM, decide_eq_true_eq, decide_eq_false_iff_not] at h16
      refine WO_gf rfl rfl ?_
      refine WO_gf rfl rfl ?_
      refine WO_gt rfl ?_
      refine WO_pick (v := .s (.bool _)) rfl rfl ?_
      refine WO_pick (v := .s (.bool _)) rfl rfl ?_
      refine WO_mv (v := .s (.bool _)) rfl ?_
      refine WO_gt rfl ?_
      refine WO_mv (v := .s (.int _ _)) rfl ?_
      refine WO_gt rfl ?_
      refine WO_quo rfl rfl (by omega) ?_
      refine WO_gt rfl ?_
      refine WO_rem rfl rfl (by omega) ?_
      refine WO_gt rfl ?_
      refine WO_bin (r := .bool _) rfl rfl rfl ?_
      refine WO_gt rfl ?_
      refine WO_mv (v := .s (.bool _)) rfl ?_
      refine WO_case (t := 34) rfl (fun h17 => ?_) (fun h17 => ?_)
      ·try simp only [NM] at h17
       try simp only [eq_two, decide_eq_true_eq, decide_eq_false_iff_not, mayM, isM] at h17
       try simp only [homeM, decide_eq_true_eq, decide_eq_false_iff_not] at h17
       refine WO_gf rfl rfl ?_
       refine WO_gf rfl rfl ?_
       refine WO_gt rfl ?_
       refine WO_pick (v := .s (.bool _)) rfl rfl ?_
       refine WO_pick (v := .s (.bool _)) rfl rfl ?_
       refine WO_mv (v := .s (.bool _)) rfl ?_
       refine WO_gt rfl ?_
       refine WO_mv (v := .s (.int _ _)) rfl ?_
       refine WO_gt rfl ?_
       refine WO_quo rfl rfl (by omega) ?_
       refine WO_gt rfl ?_
       refine WO_bin (r := .bool _) rfl rfl rfl ?_
       refine WO_gt rfl ?_
       refine WO_mv (v := .s (.bool _)) rfl ?_
       refine WO_case (t := 43) rfl (fun h18 => ?_) (fun h18 => ?_)
       ·try simp only [NM] at h18
        try simp only [eq_two, decide_eq_true_eq, decide_eq_false_iff_not, mayM, isM] at h18
        try simp only [homeM, decide_eq_true_eq, decide_eq_false_iff_not] at h18
        refine WO_gf rfl rfl ?_
        refine WO_gf rfl rfl ?_
        refine WO_gt rfl ?_
        refine WO_pick (v := .s (.bool _)) rfl rfl ?_
        refine WO_pick (v := .s (.bool _)) rfl rfl ?_
        refine WO_mv (v := .s (.bool _)) rfl ?_
        refine WO_nil ?_
        refine WP_ret ?_
        refine ⟨_, RS_tmp (v := .s (.bool _)) rfl (RS_nil), ?_⟩
        refine congrArg (fun b => V.s (S.bool b)) ?_
        rw [Bool.eq_iff_iff]
        simp only [castlesM, homeM, decide_eq_true_eq, Bool.false_eq_true, false_iff, true_iff]
        omega
       ·try simp only [NM] at h18
        try simp only [eq_two, decide_eq_true_eq, decide_eq_false_iff_not, mayM, isM] at h18
        try simp only [homeM, decide_eq_true_eq, decide_eq_false_iff_not] at h18
        refine WO_gt rfl ?_
        first | refine WO_ldA0 rfl rfl (.head _) ?_ | refine WO_ldAI rfl rfl (.head _) ?_
        refine WO_gt rfl ?_
        refine WO_call0 rfl (RF_of (home_run _ _ _ _ (by omega) (by omega))) rfl rfl rfl ?_
        refine WO_gt rfl ?_
        refine WO_pick (v := .s (.bool _)) rfl rfl ?_
        refine WO_pick (v := .s (.bool _)) rfl rfl ?_
        refine WO_mv (v := .s (.bool _)) rfl ?_
        refine WO_nil ?_
        refine WP_ret ?_
        refine ⟨_, RS_tmp (v := .s (.bool _)) rfl (RS_nil), ?_⟩
        refine congrArg (fun b => V.s (S.bool b)) ?_
        rw [Bool.eq_iff_iff]
        simp only [castlesM, homeM, decide_eq_true_eq, Bool.false_eq_true, false_iff, true_iff]
        omega
      ·try simp only [NM] at h17
       try simp only [eq_two, decide_eq_true_eq, decide_eq_false_iff_not, mayM, isM] at h17
       try simp only [homeM, decide_eq_true_eq, decide_eq_false_iff_not] at h17
       refine WO_gt rfl ?_
       first | refine WO_ldA0 rfl rfl (.head _) ?_ | refine WO_ldAI rfl rfl (.head _) ?_
       refine WO_gt rfl ?_
       refine WO_call0 rfl (RF_of (home_run _ _ _ _ (by omega) (by omega))) rfl rfl rfl ?_
       refine WO_gt rfl ?_
       refine WO_pick (v := .s (.bool _)) rfl rfl ?_
       refine WO_pick (v := .s (.bool _)) rfl rfl ?_
       refine WO_mv (v := .s (.bool _)) rfl ?_
       refine WO_case (t := 39) rfl (fun h19 => ?_) (fun h19 => ?_)
       ·try simp only [NM] at h19
        try simp only [eq_two, decide_eq_true_eq, decide_eq_false_iff_not, mayM, isM] at h19
        try simp only [homeM, decide_eq_true_eq, decide_eq_false_iff_not] at h19
        refine WO_gt rfl ?_
        refine WO_mv (v := .s (.int _ _)) rfl ?_
        refine WO_gt rfl ?_
        refine WO_quo rfl rfl (by omega) ?_
        refine WO_gt rfl ?_
        refine WO_bin (r := .bool _) rfl rfl rfl ?_
        refine WO_gt rfl ?_
        refine WO_mv (v := .s (.bool _)) rfl ?_
        refine WO_case (t := 43) rfl (fun h20 => ?_) (fun h20 => ?_)
        ·try simp only [NM] at h20
         try simp only [eq_two, decide_eq_true_eq, decide_eq_false_iff_not, mayM, isM] at h20
         try simp only [homeM, decide_eq_true_eq, decide_eq_false_iff_not] at h20
         refine WO_gf rfl rfl ?_
         refine WO_gf rfl rfl ?_
         refine WO_gt rfl ?_
         refine WO_pick (v := .s (.bool _)) rfl rfl ?_
         refine WO_pick (v := .s (.bool _)) rfl rfl ?_
         refine WO_mv (v := .s (.bool _)) rfl ?_
         refine WO_nil ?_
         refine WP_ret ?_
         refine ⟨_, RS_tmp (v := .s (.bool _)) rfl (RS_nil), ?_⟩
         refine congrArg (fun b => V.s (S.bool b)) ?_
         rw [Bool.eq_iff_iff]
         simp only [castlesM, homeM, decide_eq_true_eq, Bool.false_eq_true, false_iff, true_iff]
         omega
        ·try simp only [NM] at h20
         try simp only [eq_two, decide_eq_true_eq, decide_eq_false_iff_not, mayM, isM] at h20
         try simp only [homeM, decide_eq_true_eq, decide_eq_false_iff_not] at h20
         refine WO_gt rfl ?_
         first | refine WO_ldA0 rfl rfl (.head _) ?_ | refine WO_ldAI rfl rfl (.head _) ?_
         refine WO_gt rfl ?_
         refine WO_call0 rfl (RF_of (home_run _ _ _ _ (by omega) (by omega))) rfl rfl rfl ?_
         refine WO_gt rfl ?_
         refine WO_pick (v := .s (.bool _)) rfl rfl ?_
         refine WO_pick (v := .s (.bool _)) rfl rfl ?_
         refine WO_mv (v := .s (.bool _)) rfl ?_
         refine WO_nil ?_
         refine WP_ret ?_
         refine ⟨_, RS_tmp (v := .s (.bool _)) rfl (RS_nil), ?_⟩
         refine congrArg (fun b => V.s (S.bool b)) ?_
         rw [Bool.eq_iff_iff]
         simp only [castlesM, homeM, decide_eq_true_eq, Bool.false_eq_true, false_iff, true_iff]
         omega
       ·try simp only [NM] at h19
        try simp only [eq_two, decide_eq_true_eq, decide_eq_false_iff_not, mayM, isM] at h19
        try simp only [homeM, decide_eq_true_eq, decide_eq_false_iff_not] at h19
        refine WO_gf rfl rfl ?_
        refine WO_gf rfl rfl ?_
        refine WO_gf rfl rfl ?_
        refine WO_gf rfl rfl ?_
        refine WO_gu rfl ?_
        refine WO_gu rfl ?_
        refine WO_gf rfl rfl ?_
        refine WO_pick (v := .s (.bool _)) rfl rfl ?_
        refine WO_mv (v := .s (.bool _)) rfl ?_
        refine WO_nil ?_
        refine WP_ret ?_
        refine ⟨_, RS_tmp (v := .s (.bool _)) rfl (RS_nil), ?_⟩
        refine congrArg (fun b => V.s (S.bool b)) ?_
        rw [Bool.eq_iff_iff]
        simp only [castlesM, homeM, decide_eq_true_eq, Bool.false_eq_true, false_iff, true_iff]
        omega
     ·try simp only [NM] at h16
      try simp only [eq_two, decide_eq_true_eq, decide_eq_false_iff_not, mayM, isM] at h16
      try simp only [homeM, decide_eq_true_eq, decide_eq_false_iff_not] at h16
      refine WO_gt rfl ?_
      first | refine WO_ldA0 rfl rfl (.head _) ?_ | refine WO_ldAI rfl rfl (.head _) ?_
      refine WO_gt rfl ?_
      refine WO_call0 rfl (RF_of (home_run _ _ _ _ (by omega) (by omega))) rfl rfl rfl ?_
      refine WO_gt rfl ?_
      refine WO_pick (v := .s (.bool _)) rfl rfl ?_
      refine WO_pick (v := .s (.bool _)) rfl rfl ?_
      refine WO_mv (v := .s (.bool _)) rfl ?_
      refine WO_case (t := 29) rfl (fun h21 => ?_) (fun h21 => ?_)
      ·try simp only [NM] at h21
       try simp only [eq_two, decide_eq_true_eq, decide_eq_false_iff_not, mayM, isM] at h21
       try simp only [homeM, decide_eq_true_eq, decide_eq_false_iff_not] at h21
       refine WO_gt rfl ?_
       refine WO_mv (v := .s (.int _ _)) rfl ?_
       refine WO_gt rfl ?_
       refine WO_quo rfl rfl (by omega) ?_
       refine WO_gt rfl ?_
       refine WO_rem rfl rfl (by omega) ?_
       refine WO_gt rfl ?_
       refine WO_bin (r := .bool _) rfl rfl rfl ?_
       refine WO_gt rfl ?_
       refine WO_mv (v := .s (.bool _)) rfl ?_
       refine WO_case (t := 34) rfl (fun h22 => ?_) (fun h22 => ?_)
       ·try simp only [NM] at h22
        try simp only [eq_two, decide_eq_true_eq, decide_eq_false_iff_not, mayM, isM] at h22
        try simp only [homeM, decide_eq_true_eq, decide_eq_false_iff_not] at h22
        refine WO_gf rfl rfl ?_
        refine WO_gf rfl rfl ?_
        refine WO_gt rfl ?_
        refine WO_pick (v := .s (.bool _)) rfl rfl ?_
        refine WO_pick (v := .s (.bool _)) rfl rfl ?_
        refine WO_mv (v := .s (.bool _)) rfl ?_
        refine WO_gt rfl ?_
        refine WO_mv (v := .s (.int _ _)) rfl ?_
        refine WO_gt rfl ?_
        refine WO_quo rfl rfl (by omega) ?_
        refine WO_gt rfl ?_
        refine WO_bin (r := .bool _) rfl rfl rfl ?_
        refine WO_gt rfl ?_
        refine WO_mv (v := .s (.bool _)) rfl ?_
        refine WO_case (t := 43) rfl (fun h23 => ?_) (fun h23 => ?_)
        ·try simp only [NM] at h23
         try simp only [eq_two, decide_eq_true_eq, decide_eq_false_iff_not, mayM, isM] at h23
         try simp only [homeM, decide_eq_true_eq, decide_eq_false_iff_not] at h23
         refine WO_gf rfl rfl ?_
         refine WO_gf rfl rfl ?_
         refine WO_gt rfl ?_
         refine WO_pick (v := .s (.bool _)) rfl rfl ?_
         refine WO_pick (v := .s (.bool _)) rfl rfl ?_
         refine WO_mv (v := .s (.bool _)) rfl ?_
         refine WO_nil ?_
         refine WP_ret ?_
         refine ⟨_, RS_tmp (v := .s (.bool _)) rfl (RS_nil), ?_⟩
         refine congrArg (fun b => V.s (S.bool b)) ?_
         rw [Bool.eq_iff_iff]
         simp only [castlesM, homeM, decide_eq_true_eq, Bool.false_eq_true, false_iff, true_iff]
         omega
        ·try simp only [NM] at h23
         try simp only [eq_two, decide_eq_true_eq, decide_eq_false_iff_not, mayM, isM] at h23
         try simp only [homeM, decide_eq_true_eq, decide_eq_false_iff_not] at h23
         refine WO_gt rfl ?_
         first | refine WO_ldA0 rfl rfl (.head _) ?_ | refine WO_ldAI rfl rfl (.head _) ?_
         refine WO_gt rfl ?_
         refine WO_call0 rfl (RF_of (home_run _ _ _ _ (by omega) (by omega))) rfl rfl rfl ?_
         refine WO_gt rfl ?_
         refine WO_pick (v := .s (.bool _)) rfl rfl ?_
         refine WO_pick (v := .s (.bool _)) rfl rfl ?_
         refine WO_mv (v := .s (.bool _)) rfl ?_
         refine WO_nil ?_
         refine WP_ret ?_
         refine ⟨_, RS_tmp (v := .s (.bool _)) rfl (RS_nil), ?_⟩
         refine congrArg (fun b => V.s (S.bool b)) ?_
         rw [Bool.eq_iff_iff]
         simp only [castlesM, homeM, decide_eq_true_eq, Bool.false_eq_true, false_iff, true_iff]
         omega
       ·try simp only [NM] at h22
        try simp only [eq_two, decide_eq_true_eq, decide_eq_false_iff_not, mayM, isM] at h22
        try simp only [homeM, decide_eq_true_eq, decide_eq_false_iff_not] at h22
        refine WO_gt rfl ?_
        first | refine WO_ldA0 rfl rfl (.head _) ?_ | refine WO_ldAI rfl rfl (.head _) ?_
        refine WO_gt rfl ?_
        refine WO_call0 rfl (RF_of (home_run _ _ _ _ (by omega) (by omega))) rfl rfl rfl ?_
        refine WO_gt rfl ?_
        refine WO_pick (v := .s (.bool _)) rfl rfl ?_
        refine WO_pick (v := .s (.bool _)) rfl rfl ?_
        refine WO_mv (v := .s (.bool _)) rfl ?_
        refine WO_case (t := 39) rfl (fun h24 => ?_) (fun h24 => ?_)
        ·try simp only [NM] at h24
         try simp only [eq_two, decide_eq_true_eq, decide_eq_false_iff_not, mayM, isM] at h24
         try simp only [homeM, decide_eq_true_eq, decide_eq_false_iff_not] at h24
         refine WO_gt rfl ?_
         refine WO_mv (v := .s (.int _ _)) rfl ?_
         refine WO_gt rfl ?_
         refine WO_quo rfl rfl (by omega) ?_
         refine WO_gt rfl ?_
         refine WO_bin (r := .bool _) rfl rfl rfl ?_
         refine WO_gt rfl ?_
         refine WO_mv (v := .s (.bool _)) rfl ?_
         refine WO_case (t := 43) rfl (fun h25 => ?_) (fun h25 => ?_)
         ·try simp only [NM] at h25
          try simp only [eq_two, decide_eq_true_eq, decide_eq_false_iff_not, mayM, isM] at h25
          try simp only [homeM, decide_eq_true_eq, decide_eq_false_iff_not] at h25
          refine WO_gf rfl rfl ?_
          refine WO_gf rfl rfl ?_
          refine WO_gt rfl ?_
          refine WO_pick (v := .s (.bool _)) rfl rfl ?_
          refine WO_pick (v := .s (.bool _)) rfl rfl ?_
          refine WO_mv (v := .s (.bool _)) rfl ?_
          refine WO_nil ?_
          refine WP_ret ?_
          refine ⟨_, RS_tmp (v := .s (.bool _)) rfl (RS_nil), ?_⟩
          refine congrArg (fun b => V.s (S.bool b)) ?_
          rw [Bool.eq_iff_iff]
          simp only [castlesM, homeM, decide_eq_true_eq, Bool.false_eq_true, false_iff, true_iff]
          omega
         ·try simp only [NM] at h25
          try simp only [eq_two, decide_eq_true_eq, decide_eq_false_iff_not, mayM, isM] at h25
          try simp only [homeM, decide_eq_true_eq, decide_eq_false_iff_not] at h25
          refine WO_gt rfl ?_
          first | refine WO_ldA0 rfl rfl (.head _) ?_ | refine WO_ldAI rfl rfl (.head _) ?_
          refine WO_gt rfl ?_
          refine WO_call0 rfl (RF_of (home_run _ _ _ _ (by omega) (by omega))) rfl rfl rfl ?_
          refine WO_gt rfl ?_
          refine WO_pick (v := .s (.bool _)) rfl rfl ?_
          refine WO_pick (v := .s (.bool _)) rfl rfl ?_
          refine WO_mv (v := .s (.bool _)) rfl ?_
          refine WO_nil ?_
          refine WP_ret ?_
          refine ⟨_, RS_tmp (v := .s (.bool _)) rfl (RS_nil), ?_⟩
          refine congrArg (fun b => V.s (S.bool b)) ?_
          rw [Bool.eq_iff_iff]
          simp only [castlesM, homeM, decide_eq_true_eq, Bool.false_eq_true, false_iff, true_iff]
          omega
        ·try simp only [NM] at h24
         try simp only [eq_two, decide_eq_true_eq, decide_eq_false_iff_not, mayM, isM] at h24
         try simp only [homeM, decide_eq_true_eq, decide_eq_false_iff_not] at h24
         refine WO_gf rfl rfl ?_
         refine WO_gf rfl rfl ?_
         refine WO_gf rfl rfl ?_
         refine WO_gf rfl rfl ?_
         refine WO_gu rfl ?_
         refine WO_gu rfl ?_
         refine WO_gf rfl rfl ?_
         refine WO_pick (v := .s (.bool _)) rfl rfl ?_
         refine WO_mv (v := .s (.bool _)) rfl ?_
         refine WO_nil ?_
         refine WP_ret ?_
         refine ⟨_, RS_tmp (v := .s (.bool _)) rfl (RS_nil), ?_⟩
         refine congrArg (fun b => V.s (S.bool b)) ?_
         rw [Bool.eq_iff_iff]
         simp only [castlesM, homeM, decide_eq_true_eq, Bool.false_eq_true, false_iff, true_iff]
         omega
      ·try simp only [NM] at h21
       try simp only [eq_two, decide_eq_true_eq, decide_eq_false_iff_not, mayM, isM] at h21
       try simp only [homeM, decide_eq_true_eq, decide_eq_false_iff_not] at h21
       refine WO_gf rfl rfl ?_
       refine WO_gf rfl rfl ?_
       refine WO_gf rfl rfl ?_
       refine WO_gf rfl rfl ?_
       refine WO_gf rfl rfl ?_
       refine WO_gu rfl ?_
       refine WO_gu rfl ?_
       refine WO_gf rfl rfl ?_
       refine WO_pick (v := .s (.bool _)) rfl rfl ?_
       refine WO_mv (v := .s (.bool _)) rfl ?_
       refine WO_gf rfl rfl ?_
       refine WO_gf rfl rfl ?_
       refine WO_gf rfl rfl ?_
       refine WO_gf rfl rfl ?_
       refine WO_gu rfl ?_
       refine WO_gu rfl ?_
       refine WO_gf rfl rfl ?_
       refine WO_pick (v := .s (.bool _)) rfl rfl ?_
       refine WO_mv (v := .s (.bool _)) rfl ?_
       refine WO_nil ?_
       refine WP_ret ?_
       refine ⟨_, RS_tmp (v := .s (.bool _)) rfl (RS_nil), ?_⟩
       refine congrArg (fun b => V.s (S.bool b)) ?_
       rw [Bool.eq_iff_iff]
       simp only [castlesM, homeM, decide_eq_true_eq, Bool.false_eq_true, false_iff, true_iff]
       omega
    ·try simp only [NM] at h15
     try simp only [eq_two, decide_eq_true_eq, decide_eq_false_iff_not, mayM, isM] at h15
     try simp only [homeM, decide_eq_true_eq, decide_eq_false_iff_not] at h15
     refine WO_gf rfl rfl ?_
     refine WO_gf rfl rfl ?_
     refine WO_gf rfl rfl ?_
     refine WO_gf rfl rfl ?_
     refine WO_gf rfl rfl ?_
     refine WO_gu rfl ?_
     refine WO_gu rfl ?_
     refine WO_gf rfl rfl ?_
     refine WO_pick (v := .s (.bool _)) rfl rfl ?_
     refine WO_mv (v := .s (.bool _)) rfl ?_
     refine WO_gf rfl rfl ?_
     refine WO_gf rfl rfl ?_
     refine WO_gf rfl rfl ?_
     refine WO_gf rfl rfl ?_
     refine WO_gf rfl rfl ?_
     refine WO_gu rfl ?_
     refine WO_gu rfl ?_
     refine WO_gf rfl rfl ?_
     refine WO_pick (v := .s (.bool _)) rfl rfl ?_
     refine WO_mv (v := .s (.bool _)) rfl ?_
     refine WO_gf rfl rfl ?_
     refine WO_gf rfl rfl ?_
     refine WO_gf rfl rfl ?_
     refine WO_gf rfl rfl ?_
     refine WO_gu rfl ?_
     refine WO_gu rfl ?_
     refine WO_gf rfl rfl ?_
     refine WO_pick (v := .s (.bool _)) rfl rfl ?_
     refine WO_mv (v := .s (.bool _)) rfl ?_
     refine WO_nil ?_
     refine WP_ret ?_
     refine ⟨_, RS_tmp (v := .s (.bool _)) rfl (RS_nil), ?_⟩
     refine congrArg (fun b => V.s (S.bool b)) ?_
     rw [Bool.eq_iff_iff]
     simp only [castlesM, homeM, decide_eq_true_eq, Bool.false_eq_true, false_iff, true_iff]
     omega
theorem castles_ok (P : Nat → Int) : WR AM 90 [.agg 133 (ia P)] [] (fun v _ _ => v = .s (.bool (castlesM P))) := by
 refine WR_fn (a := a90) rfl rfl (entryF _) (entry_E (Nat.le_of_ble_eq_true rfl)) (m := 0) rfl ?_
 refine WP_seq ?_
 refine WP_ops ?_
 refine WO_boxA rfl ?_
 refine WO_mv rfl ?_
 refine WO_nil ?_
 refine WP_seq ?_
 refine WP_seq ?_
 refine WP_ops ?_
 refine WO_fa (o' := 0) rfl rfl rfl ?_
 refine WO_fa (o' := 129) rfl rfl rfl ?_
 refine WO_ldI rfl rfl (.head _) rfl ?_
 refine WO_bin (r := .bool _) rfl rfl rfl ?_
 refine WO_mv (v := .s (.bool _)) rfl ?_
 refine WO_case (t := 10) rfl (fun h26 => ?_) (fun h26 => ?_)
 ·try simp only [NM] at h26
  try simp only [decide_eq_true_eq, decide_eq_false_iff_not] at h26
  refine WO_gf rfl rfl ?_
  refine WO_gf rfl rfl ?_
  refine WO_gf rfl rfl ?_
  refine WO_gf rfl rfl ?_
  refine WO_pick (v := .s (.bool _)) rfl rfl ?_
  refine WO_nil ?_
  refine WP_cond rfl (fun _ => ?_) (fun h => nomatch h)
  refine WP_seq ?_
  refine WP_ops ?_
  refine WO_mv rfl ?_
  refine WO_nil ?_
  refine WP_ret ?_
  refine ⟨_, RS_tmp (v := .s (.bool _)) rfl (RS_nil), ?_⟩
  refine congrArg (fun b => V.s (S.bool b)) ?_
  rw [Bool.eq_iff_iff]
  simp only [castlesM, homeM, standM, decide_eq_true_eq, decide_eq_false_iff_not, Bool.false_eq_true, false_iff, true_iff] at *
  omega
 ·try simp only [NM] at h26
  try simp only [decide_eq_true_eq, decide_eq_false_iff_not] at h26
  refine WO_gt rfl ?_
  refine WO_fa (o' := 0) rfl rfl rfl ?_
  refine WO_gt rfl ?_
  refine WO_fa (o' := 129) rfl rfl rfl ?_
  refine WO_gt rfl ?_
  refine WO_ldI rfl rfl (.head _) rfl ?_
  refine WO_gt rfl ?_
  refine WO_bin (r := .bool _) rfl rfl rfl ?_
  refine WO_pick (v := .s (.bool _)) rfl rfl ?_
  refine WO_nil ?_
  refine WP_cond rfl (fun h27 => ?_) (fun h27 => ?_)
  ·try simp only [NM] at h27
   try simp only [decide_eq_true_eq, decide_eq_false_iff_not] at h27
   refine WP_seq ?_
   refine WP_ops ?_
   refine WO_mv rfl ?_
   refine WO_nil ?_
   refine WP_ret ?_
   refine ⟨_, RS_tmp (v := .s (.bool _)) rfl (RS_nil), ?_⟩
   refine congrArg (fun b => V.s (S.bool b)) ?_
   rw [Bool.eq_iff_iff]
   simp only [castlesM, homeM, standM, decide_eq_true_eq, decide_eq_false_iff_not, Bool.false_eq_true, false_iff, true_iff] at *
   omega
  ·try simp only [NM] at h27
   try simp only [decide_eq_true_eq, decide_eq_false_iff_not] at h27
   refine WP_skip ?_
   refine WP_seq ?_
   refine WP_seq ?_
   refine WP_ops ?_
   refine WO_buildI rfl (.one rfl (.one rfl (.one rfl (.one rfl .nil)))) ?_
   refine WO_mv rfl ?_
   refine WO_nil ?_
   refine WP_block ?_
   refine WP_unrollI (fun f n L => (0 ≤ P 129 ∧ P 129 ≤ 15) ∧ (P 129 / 1 % 2 = 0 ∨ (P (sqI 4) = 6 ∧ P (sqI 4 + 1) = 0 ∧ P (sqI 7) = 4 ∧ P (sqI 7 + 1) = 0)) ∧ (f 1 = .ptr 0 0 133) ∧ (f 16 = .agg 4 (ia (ov (ov (ov (ov (fun _ => 0) 0 7) 1 0) 2 63) 3 56))) ∧ (f 17 = .s (.int .i64 1)) ∧ (L = [(0, .sc .var 133 (ia P))]) ∧ (n = 1)) ?_ (fun f nb L hI => ?_)
   ·skip
    refine WP_seq ?_
    refine WP_ops ?_
    refine WO_bin (r := .bool _) rfl rfl rfl ?_
    refine WO_nil ?_
    refine WP_seq ?_
    refine WP_cond rfl (fun h28 => ?_) (fun h28 => ?_)
    ·try simp only [NM] at h28
     try simp only [decide_eq_true_eq, decide_eq_false_iff_not] at h28
     refine WP_skip ?_
     refine WP_seq ?_
     refine WP_block ?_
     refine WP_seq ?_
     refine WP_ops ?_
     refine WO_mv (v := .s (.int _ _)) rfl ?_
     refine WO_ixS (a := .int .i64 7) rfl rfl rfl (by omega) rfl ?_
     refine WO_mv (v := .s (.int _ _)) rfl ?_
     refine WO_mv (v := .s (.int _ _)) rfl ?_
     refine WO_nil ?_
     refine WP_seq ?_
     refine WP_seq ?_
     refine WP_ops ?_
     refine WO_fa (o' := 0) rfl rfl rfl ?_
     refine WO_fa (o' := 129) rfl rfl rfl ?_
     refine WO_ldI rfl rfl (.head _) rfl ?_
     refine WO_mv (v := .s (.int _ _)) rfl ?_
     refine WO_bin rfl rfl (cast_shr0 ⟨by omega, by omega⟩) ?_
     refine WO_bin rfl rfl (cast_and1 ⟨by omega, by omega⟩) ?_
     refine WO_bin (r := .bool _) rfl rfl rfl ?_
     refine WO_nil ?_
     refine WP_cond rfl (fun h29 => ?_) (fun h29 => ?_)
     ·try simp only [NM] at h29
      try simp only [decide_eq_true_eq, decide_eq_false_iff_not] at h29
      refine WP_exit ?_
      refine xhere ?_
      refine WP_ops ?_
      refine WO_bin (r := .int .i64 1) rfl rfl rfl ?_
      refine WO_mv (v := .s (.int _ _)) rfl ?_
      refine WO_nil ?_
      refine ⟨_, (.cons_cons _ .slnil), ⟨by omega, by omega⟩, ?_, rfl, rfl, rfl, rfl, rfl⟩
      try simp only [standM, decide_eq_true_eq, decide_eq_false_iff_not] at *
      omega
     ·try simp only [NM] at h29
      try simp only [decide_eq_true_eq, decide_eq_false_iff_not] at h29
      refine WP_skip ?_
      refine WP_seq ?_
      refine WP_ops ?_
      refine WO_mv (v := .s (.int _ _)) rfl ?_
      refine WO_bin (r := .int .i64 0) rfl rfl rfl ?_
      refine WO_mv (v := .s (.int _ _)) rfl ?_
      refine WO_nil ?_
      refine WP_seq ?_
      refine WP_ops ?_
      first | refine WO_ldA0 rfl rfl (.head _) ?_ | refine WO_ldAI rfl rfl (.head _) ?_
      refine WO_mv (v := .s (.int _ _)) rfl ?_
      refine WO_mv (v := .s (.int _ _)) rfl ?_
      refine WO_call0 rfl (RF_of (stands_run _ _ _ _ (by omega))) rfl rfl rfl ?_
      refine WO_un (r := .bool _) rfl rfl ?_
      refine WO_mv (v := .s (.bool _)) rfl ?_
      refine WO_case (t := 35) rfl (fun h30 => ?_) (fun h30 => ?_)
      ·try simp only [NM] at h30
       try simp only [decide_eq_true_eq, decide_eq_false_iff_not] at h30
       refine WO_gf rfl rfl ?_
       refine WO_gf rfl rfl ?_
       refine WO_gf rfl rfl ?_
       refine WO_gf rfl rfl ?_
       refine WO_gf rfl rfl ?_
       refine WO_gf rfl rfl ?_
       refine WO_gf rfl rfl ?_
       refine WO_gf rfl rfl ?_
       refine WO_pick (v := .s (.bool _)) rfl rfl ?_
       refine WO_nil ?_
       refine WP_cond rfl (fun _ => ?_) (fun h => nomatch h)
       refine WP_seq ?_
       refine WP_ops ?_
       refine WO_mv rfl ?_
       refine WO_nil ?_
       refine WP_ret ?_
       refine ⟨_, RS_tmp (v := .s (.bool _)) rfl (RS_nil), ?_⟩
       refine congrArg (fun b => V.s (S.bool b)) ?_
       rw [Bool.eq_iff_iff]
       simp only [castlesM, homeM, standM, decide_eq_true_eq, decide_eq_false_iff_not, Bool.false_eq_true, false_iff, true_iff] at *
       omega
      ·try simp only [NM] at h30
       try simp only [decide_eq_true_eq, decide_eq_false_iff_not] at h30
       refine WO_gt rfl ?_
       first | refine WO_ldA0 rfl rfl (.head _) ?_ | refine WO_ldAI rfl rfl (.head _) ?_
       refine WO_gt rfl ?_
       refine WO_mv (v := .s (.int _ _)) rfl ?_
       refine WO_gt rfl ?_
       refine WO_mv (v := .s (.int _ _)) rfl ?_
       refine WO_gt rfl ?_
       refine WO_bin (r := .int .i64 0) rfl rfl rfl ?_
       refine WO_gt rfl ?_
       refine WO_bin (r := .int .i64 0) rfl rfl rfl ?_
       refine WO_gt rfl ?_
       refine WO_bin (r := .int .i64 4) rfl rfl rfl ?_
       refine WO_gt rfl ?_
       refine WO_call0 rfl (RF_of (stands_run _ _ _ _ (by omega))) rfl rfl rfl ?_
       refine WO_gt rfl ?_
       refine WO_un (r := .bool _) rfl rfl ?_
       refine WO_pick (v := .s (.bool _)) rfl rfl ?_
       refine WO_nil ?_
       refine WP_cond rfl (fun h31 => ?_) (fun h31 => ?_)
       ·try simp only [NM] at h31
        try simp only [decide_eq_true_eq, decide_eq_false_iff_not] at h31
        refine WP_seq ?_
        refine WP_ops ?_
        refine WO_mv rfl ?_
        refine WO_nil ?_
        refine WP_ret ?_
        refine ⟨_, RS_tmp (v := .s (.bool _)) rfl (RS_nil), ?_⟩
        refine congrArg (fun b => V.s (S.bool b)) ?_
        rw [Bool.eq_iff_iff]
        simp only [castlesM, homeM, standM, decide_eq_true_eq, decide_eq_false_iff_not, Bool.false_eq_true, false_iff, true_iff] at *
        omega
       ·try simp only [NM] at h31
        try simp only [decide_eq_true_eq, decide_eq_false_iff_not] at h31
        refine WP_skip ?_
        refine WP_ops ?_
        refine WO_bin (r := .int .i64 1) rfl rfl rfl ?_
        refine WO_mv (v := .s (.int _ _)) rfl ?_
        refine WO_nil ?_
        refine ⟨_, (.cons_cons _ .slnil), ⟨by omega, by omega⟩, ?_, rfl, rfl, rfl, rfl, rfl⟩
        try simp only [standM, decide_eq_true_eq, decide_eq_false_iff_not] at *
        omega
    ·try simp only [NM] at h28
     try simp only [decide_eq_true_eq, decide_eq_false_iff_not] at h28
     exfalso; omega
   ·skip
    obtain ⟨hC, hf0, k1, k16, k17, rfl, rfl⟩ := hI
    refine WP_know (d := 1) (v := .ptr 0 0 133) k1 ?_
    refine WP_know (d := 16) (v := .agg 4 (ia (ov (ov (ov (ov (fun _ => 0) 0 7) 1 0) 2 63) 3 56))) k16 ?_
    refine WP_know (d := 17) (v := .s (.int .i64 1)) k17 ?_
    refine WP_unrollI (fun f n L => (P 129 / 2 % 2 = 0 ∨ (P (sqI 4) = 6 ∧ P (sqI 4 + 1) = 0 ∧ P (sqI 0) = 4 ∧ P (sqI 0 + 1) = 0)) ∧ (f 1 = .ptr 0 0 133) ∧ (f 16 = .agg 4 (ia (ov (ov (ov (ov (fun _ => 0) 0 7) 1 0) 2 63) 3 56))) ∧ (f 17 = .s (.int .i64 2)) ∧ (L = [(0, .sc .var 133 (ia P))]) ∧ (n = 1)) ?_ (fun f nb L hI => ?_)
    ·skip
     refine WP_seq ?_
     refine WP_ops ?_
     refine WO_bin (r := .bool _) rfl rfl rfl ?_
     refine WO_nil ?_
     refine WP_seq ?_
     refine WP_cond rfl (fun h32 => ?_) (fun h32 => ?_)
     ·try simp only [NM] at h32
      try simp only [decide_eq_true_eq, decide_eq_false_iff_not] at h32
      refine WP_skip ?_
      refine WP_seq ?_
      refine WP_block ?_
      refine WP_seq ?_
      refine WP_ops ?_
      refine WO_mv (v := .s (.int _ _)) rfl ?_
      refine WO_ixS (a := .int .i64 0) rfl rfl rfl (by omega) rfl ?_
      refine WO_mv (v := .s (.int _ _)) rfl ?_
      refine WO_mv (v := .s (.int _ _)) rfl ?_
      refine WO_nil ?_
      refine WP_seq ?_
      refine WP_seq ?_
      refine WP_ops ?_
      refine WO_fa (o' := 0) rfl rfl rfl ?_
      refine WO_fa (o' := 129) rfl rfl rfl ?_
      refine WO_ldI rfl rfl (.head _) rfl ?_
      refine WO_mv (v := .s (.int _ _)) rfl ?_
      refine WO_bin rfl rfl (cast_shr1 ⟨by omega, by omega⟩) ?_
      refine WO_bin rfl rfl (cast_and1 ⟨by omega, by omega⟩) ?_
      refine WO_bin (r := .bool _) rfl rfl rfl ?_
      refine WO_nil ?_
      refine WP_cond rfl (fun h33 => ?_) (fun h33 => ?_)
      ·try simp only [NM] at h33
       try simp only [decide_eq_true_eq, decide_eq_false_iff_not] at h33
       refine WP_exit ?_
       refine xhere ?_
       refine WP_ops ?_
       refine WO_bin (r := .int .i64 2) rfl rfl rfl ?_
       refine WO_mv (v := .s (.int _ _)) rfl ?_
       refine WO_nil ?_
       refine ⟨_, (.cons_cons _ .slnil), ?_, rfl, rfl, rfl, rfl, rfl⟩
       try simp only [standM, decide_eq_true_eq, decide_eq_false_iff_not] at *
       omega
      ·try simp only [NM] at h33
       try simp only [decide_eq_true_eq, decide_eq_false_iff_not] at h33
       refine WP_skip ?_
       refine WP_seq ?_
       refine WP_ops ?_
       refine WO_mv (v := .s (.int _ _)) rfl ?_
       refine WO_bin (r := .int .i64 0) rfl rfl rfl ?_
       refine WO_mv (v := .s (.int _ _)) rfl ?_
       refine WO_nil ?_
       refine WP_seq ?_
       refine WP_ops ?_
       first | refine WO_ldA0 rfl rfl (.head _) ?_ | refine WO_ldAI rfl rfl (.head _) ?_
       refine WO_mv (v := .s (.int _ _)) rfl ?_
       refine WO_mv (v := .s (.int _ _)) rfl ?_
       refine WO_call0 rfl (RF_of (stands_run _ _ _ _ (by omega))) rfl rfl rfl ?_
       refine WO_un (r := .bool _) rfl rfl ?_
       refine WO_mv (v := .s (.bool _)) rfl ?_
       refine WO_case (t := 35) rfl (fun h34 => ?_) (fun h34 => ?_)
       ·try simp only [NM] at h34
        try simp only [decide_eq_true_eq, decide_eq_false_iff_not] at h34
        refine WO_gf rfl rfl ?_
        refine WO_gf rfl rfl ?_
        refine WO_gf rfl rfl ?_
        refine WO_gf rfl rfl ?_
        refine WO_gf rfl rfl ?_
        refine WO_gf rfl rfl ?_
        refine WO_gf rfl rfl ?_
        refine WO_gf rfl rfl ?_
        refine WO_pick (v := .s (.bool _)) rfl rfl ?_
        refine WO_nil ?_
        refine WP_cond rfl (fun _ => ?_) (fun h => nomatch h)
        refine WP_seq ?_
        refine WP_ops ?_
        refine WO_mv rfl ?_
        refine WO_nil ?_
        refine WP_ret ?_
        refine ⟨_, RS_tmp (v := .s (.bool _)) rfl (RS_nil), ?_⟩
        refine congrArg (fun b => V.s (S.bool b)) ?_
        rw [Bool.eq_iff_iff]
        simp only [castlesM, homeM, standM, decide_eq_true_eq, decide_eq_false_iff_not, Bool.false_eq_true, false_iff, true_iff] at *
        omega
       ·try simp only [NM] at h34
        try simp only [decide_eq_true_eq, decide_eq_false_iff_not] at h34
        refine WO_gt rfl ?_
        first | refine WO_ldA0 rfl rfl (.head _) ?_ | refine WO_ldAI rfl rfl (.head _) ?_
        refine WO_gt rfl ?_
        refine WO_mv (v := .s (.int _ _)) rfl ?_
        refine WO_gt rfl ?_
        refine WO_mv (v := .s (.int _ _)) rfl ?_
        refine WO_gt rfl ?_
        refine WO_bin (r := .int .i64 0) rfl rfl rfl ?_
        refine WO_gt rfl ?_
        refine WO_bin (r := .int .i64 0) rfl rfl rfl ?_
        refine WO_gt rfl ?_
        refine WO_bin (r := .int .i64 4) rfl rfl rfl ?_
        refine WO_gt rfl ?_
        refine WO_call0 rfl (RF_of (stands_run _ _ _ _ (by omega))) rfl rfl rfl ?_
        refine WO_gt rfl ?_
        refine WO_un (r := .bool _) rfl rfl ?_
        refine WO_pick (v := .s (.bool _)) rfl rfl ?_
        refine WO_nil ?_
        refine WP_cond rfl (fun h35 => ?_) (fun h35 => ?_)
        ·try simp only [NM] at h35
         try simp only [decide_eq_true_eq, decide_eq_false_iff_not] at h35
         refine WP_seq ?_
         refine WP_ops ?_
         refine WO_mv rfl ?_
         refine WO_nil ?_
         refine WP_ret ?_
         refine ⟨_, RS_tmp (v := .s (.bool _)) rfl (RS_nil), ?_⟩
         refine congrArg (fun b => V.s (S.bool b)) ?_
         rw [Bool.eq_iff_iff]
         simp only [castlesM, homeM, standM, decide_eq_true_eq, decide_eq_false_iff_not, Bool.false_eq_true, false_iff, true_iff] at *
         omega
        ·try simp only [NM] at h35
         try simp only [decide_eq_true_eq, decide_eq_false_iff_not] at h35
         refine WP_skip ?_
         refine WP_ops ?_
         refine WO_bin (r := .int .i64 2) rfl rfl rfl ?_
         refine WO_mv (v := .s (.int _ _)) rfl ?_
         refine WO_nil ?_
         refine ⟨_, (.cons_cons _ .slnil), ?_, rfl, rfl, rfl, rfl, rfl⟩
         try simp only [standM, decide_eq_true_eq, decide_eq_false_iff_not] at *
         omega
     ·try simp only [NM] at h32
      try simp only [decide_eq_true_eq, decide_eq_false_iff_not] at h32
      exfalso; omega
    ·skip
     obtain ⟨hf1, k1, k16, k17, rfl, rfl⟩ := hI
     refine WP_know (d := 1) (v := .ptr 0 0 133) k1 ?_
     refine WP_know (d := 16) (v := .agg 4 (ia (ov (ov (ov (ov (fun _ => 0) 0 7) 1 0) 2 63) 3 56))) k16 ?_
     refine WP_know (d := 17) (v := .s (.int .i64 2)) k17 ?_
     refine WP_unrollI (fun f n L => (P 129 / 4 % 2 = 0 ∨ (P (sqI 60) = 6 ∧ P (sqI 60 + 1) = 1 ∧ P (sqI 63) = 4 ∧ P (sqI 63 + 1) = 1)) ∧ (f 1 = .ptr 0 0 133) ∧ (f 16 = .agg 4 (ia (ov (ov (ov (ov (fun _ => 0) 0 7) 1 0) 2 63) 3 56))) ∧ (f 17 = .s (.int .i64 3)) ∧ (L = [(0, .sc .var 133 (ia P))]) ∧ (n = 1)) ?_ (fun f nb L hI => ?_)
     ·skip
      refine WP_seq ?_
      refine WP_ops ?_
      refine WO_bin (r := .bool _) rfl rfl rfl ?_
      refine WO_nil ?_
      refine WP_seq ?_
      refine WP_cond rfl (fun h36 => ?_) (fun h36 => ?_)
      ·try simp only [NM] at h36
       try simp only [decide_eq_true_eq, decide_eq_false_iff_not] at h36
       refine WP_skip ?_
       refine WP_seq ?_
       refine WP_block ?_
       refine WP_seq ?_
       refine WP_ops ?_
       refine WO_mv (v := .s (.int _ _)) rfl ?_
       refine WO_ixS (a := .int .i64 63) rfl rfl rfl (by omega) rfl ?_
       refine WO_mv (v := .s (.int _ _)) rfl ?_
       refine WO_mv (v := .s (.int _ _)) rfl ?_
       refine WO_nil ?_
       refine WP_seq ?_
       refine WP_seq ?_
       refine WP_ops ?_
       refine WO_fa (o' := 0) rfl rfl rfl ?_
       refine WO_fa (o' := 129) rfl rfl rfl ?_
       refine WO_ldI rfl rfl (.head _) rfl ?_
       refine WO_mv (v := .s (.int _ _)) rfl ?_
       refine WO_bin rfl rfl (cast_shr2 ⟨by omega, by omega⟩) ?_
       refine WO_bin rfl rfl (cast_and1 ⟨by omega, by omega⟩) ?_
       refine WO_bin (r := .bool _) rfl rfl rfl ?_
       refine WO_nil ?_
       refine WP_cond rfl (fun h37 => ?_) (fun h37 => ?_)
       ·try simp only [NM] at h37
        try simp only [decide_eq_true_eq, decide_eq_false_iff_not] at h37
        refine WP_exit ?_
        refine xhere ?_
        refine WP_ops ?_
        refine WO_bin (r := .int .i64 3) rfl rfl rfl ?_
        refine WO_mv (v := .s (.int _ _)) rfl ?_
        refine WO_nil ?_
        refine ⟨_, (.cons_cons _ .slnil), ?_, rfl, rfl, rfl, rfl, rfl⟩
        try simp only [standM, decide_eq_true_eq, decide_eq_false_iff_not] at *
        omega
       ·try simp only [NM] at h37
        try simp only [decide_eq_true_eq, decide_eq_false_iff_not] at h37
        refine WP_skip ?_
        refine WP_seq ?_
        refine WP_ops ?_
        refine WO_mv (v := .s (.int _ _)) rfl ?_
        refine WO_bin (r := .int .i64 1) rfl rfl rfl ?_
        refine WO_mv (v := .s (.int _ _)) rfl ?_
        refine WO_nil ?_
        refine WP_seq ?_
        refine WP_ops ?_
        first | refine WO_ldA0 rfl rfl (.head _) ?_ | refine WO_ldAI rfl rfl (.head _) ?_
        refine WO_mv (v := .s (.int _ _)) rfl ?_
        refine WO_mv (v := .s (.int _ _)) rfl ?_
        refine WO_call0 rfl (RF_of (stands_run _ _ _ _ (by omega))) rfl rfl rfl ?_
        refine WO_un (r := .bool _) rfl rfl ?_
        refine WO_mv (v := .s (.bool _)) rfl ?_
        refine WO_case (t := 35) rfl (fun h38 => ?_) (fun h38 => ?_)
        ·try simp only [NM] at h38
         try simp only [decide_eq_true_eq, decide_eq_false_iff_not] at h38
         refine WO_gf rfl rfl ?_
         refine WO_gf rfl rfl ?_
         refine WO_gf rfl rfl ?_
         refine WO_gf rfl rfl ?_
         refine WO_gf rfl rfl ?_
         refine WO_gf rfl rfl ?_
         refine WO_gf rfl rfl ?_
         refine WO_gf rfl rfl ?_
         refine WO_pick (v := .s (.bool _)) rfl rfl ?_
         refine WO_nil ?_
         refine WP_cond rfl (fun _ => ?_) (fun h => nomatch h)
         refine WP_seq ?_
         refine WP_ops ?_
         refine WO_mv rfl ?_
         refine WO_nil ?_
         refine WP_ret ?_
         refine ⟨_, RS_tmp (v := .s (.bool _)) rfl (RS_nil), ?_⟩
         refine congrArg (fun b => V.s (S.bool b)) ?_
         rw [Bool.eq_iff_iff]
         simp only [castlesM, homeM, standM, decide_eq_true_eq, decide_eq_false_iff_not, Bool.false_eq_true, false_iff, true_iff] at *
         omega
        ·try simp only [NM] at h38
         try simp only [decide_eq_true_eq, decide_eq_false_iff_not] at h38
         refine WO_gt rfl ?_
         first | refine WO_ldA0 rfl rfl (.head _) ?_ | refine WO_ldAI rfl rfl (.head _) ?_
         refine WO_gt rfl ?_
         refine WO_mv (v := .s (.int _ _)) rfl ?_
         refine WO_gt rfl ?_
         refine WO_mv (v := .s (.int _ _)) rfl ?_
         refine WO_gt rfl ?_
         refine WO_bin (r := .int .i64 7) rfl rfl rfl ?_
         refine WO_gt rfl ?_
         refine WO_bin (r := .int .i64 56) rfl rfl rfl ?_
         refine WO_gt rfl ?_
         refine WO_bin (r := .int .i64 60) rfl rfl rfl ?_
         refine WO_gt rfl ?_
         refine WO_call0 rfl (RF_of (stands_run _ _ _ _ (by omega))) rfl rfl rfl ?_
         refine WO_gt rfl ?_
         refine WO_un (r := .bool _) rfl rfl ?_
         refine WO_pick (v := .s (.bool _)) rfl rfl ?_
         refine WO_nil ?_
         refine WP_cond rfl (fun h39 => ?_) (fun h39 => ?_)
         ·try simp only [NM] at h39
          try simp only [decide_eq_true_eq, decide_eq_false_iff_not] at h39
          refine WP_seq ?_
          refine WP_ops ?_
          refine WO_mv rfl ?_
          refine WO_nil ?_
          refine WP_ret ?_
          refine ⟨_, RS_tmp (v := .s (.bool _)) rfl (RS_nil), ?_⟩
          refine congrArg (fun b => V.s (S.bool b)) ?_
          rw [Bool.eq_iff_iff]
          simp only [castlesM, homeM, standM, decide_eq_true_eq, decide_eq_false_iff_not, Bool.false_eq_true, false_iff, true_iff] at *
          omega
         ·try simp only [NM] at h39
          try simp only [decide_eq_true_eq, decide_eq_false_iff_not] at h39
          refine WP_skip ?_
          refine WP_ops ?_
          refine WO_bin (r := .int .i64 3) rfl rfl rfl ?_
          refine WO_mv (v := .s (.int _ _)) rfl ?_
          refine WO_nil ?_
          refine ⟨_, (.cons_cons _ .slnil), ?_, rfl, rfl, rfl, rfl, rfl⟩
          try simp only [standM, decide_eq_true_eq, decide_eq_false_iff_not] at *
          omega
      ·try simp only [NM] at h36
       try simp only [decide_eq_true_eq, decide_eq_false_iff_not] at h36
       exfalso; omega
     ·skip
      obtain ⟨hf2, k1, k16, k17, rfl, rfl⟩ := hI
      refine WP_know (d := 1) (v := .ptr 0 0 133) k1 ?_
      refine WP_know (d := 16) (v := .agg 4 (ia (ov (ov (ov (ov (fun _ => 0) 0 7) 1 0) 2 63) 3 56))) k16 ?_
      refine WP_know (d := 17) (v := .s (.int .i64 3)) k17 ?_
      refine WP_unrollI (fun f n L => (P 129 / 8 % 2 = 0 ∨ (P (sqI 60) = 6 ∧ P (sqI 60 + 1) = 1 ∧ P (sqI 56) = 4 ∧ P (sqI 56 + 1) = 1)) ∧ (f 1 = .ptr 0 0 133) ∧ (f 16 = .agg 4 (ia (ov (ov (ov (ov (fun _ => 0) 0 7) 1 0) 2 63) 3 56))) ∧ (f 17 = .s (.int .i64 4)) ∧ (L = [(0, .sc .var 133 (ia P))]) ∧ (n = 1)) ?_ (fun f nb L hI => ?_)
      ·skip
       refine WP_seq ?_
       refine WP_ops ?_
       refine WO_bin (r := .bool _) rfl rfl rfl ?_
       refine WO_nil ?_
       refine WP_seq ?_
       refine WP_cond rfl (fun h40 => ?_) (fun h40 => ?_)
       ·try simp only [NM] at h40
        try simp only [decide_eq_true_eq, decide_eq_false_iff_not] at h40
        refine WP_skip ?_
        refine WP_seq ?_
        refine WP_block ?_
        refine WP_seq ?_
        refine WP_ops ?_
        refine WO_mv (v := .s (.int _ _)) rfl ?_
        refine WO_ixS (a := .int .i64 56) rfl rfl rfl (by omega) rfl ?_
        refine WO_mv (v := .s (.int _ _)) rfl ?_
        refine WO_mv (v := .s (.int _ _)) rfl ?_
        refine WO_nil ?_
        refine WP_seq ?_
        refine WP_seq ?_
        refine WP_ops ?_
        refine WO_fa (o' := 0) rfl rfl rfl ?_
        refine WO_fa (o' := 129) rfl rfl rfl ?_
        refine WO_ldI rfl rfl (.head _) rfl ?_
        refine WO_mv (v := .s (.int _ _)) rfl ?_
        refine WO_bin rfl rfl (cast_shr3 ⟨by omega, by omega⟩) ?_
        refine WO_bin rfl rfl (cast_and1 ⟨by omega, by omega⟩) ?_
        refine WO_bin (r := .bool _) rfl rfl rfl ?_
        refine WO_nil ?_
        refine WP_cond rfl (fun h41 => ?_) (fun h41 => ?_)
        ·try simp only [NM] at h41
         try simp only [decide_eq_true_eq, decide_eq_false_iff_not] at h41
         refine WP_exit ?_
         refine xhere ?_
         refine WP_ops ?_
         refine WO_bin (r := .int .i64 4) rfl rfl rfl ?_
         refine WO_mv (v := .s (.int _ _)) rfl ?_
         refine WO_nil ?_
         refine ⟨_, (.cons_cons _ .slnil), ?_, rfl, rfl, rfl, rfl, rfl⟩
         try simp only [standM, decide_eq_true_eq, decide_eq_false_iff_not] at *
         omega
        ·try simp only [NM] at h41
         try simp only [decide_eq_true_eq, decide_eq_false_iff_not] at h41
         refine WP_skip ?_
         refine WP_seq ?_
         refine WP_ops ?_
         refine WO_mv (v := .s (.int _ _)) rfl ?_
         refine WO_bin (r := .int .i64 1) rfl rfl rfl ?_
         refine WO_mv (v := .s (.int _ _)) rfl ?_
         refine WO_nil ?_
         refine WP_seq ?_
         refine WP_ops ?_
         first | refine WO_ldA0 rfl rfl (.head _) ?_ | refine WO_ldAI rfl rfl (.head _) ?_
         refine WO_mv (v := .s (.int _ _)) rfl ?_
         refine WO_mv (v := .s (.int _ _)) rfl ?_
         refine WO_call0 rfl (RF_of (stands_run _ _ _ _ (by omega))) rfl rfl rfl ?_
         refine WO_un (r := .bool _) rfl rfl ?_
         refine WO_mv (v := .s (.bool _)) rfl ?_
         refine WO_case (t := 35) rfl (fun h42 => ?_) (fun h42 => ?_)
         ·try simp only [NM] at h42
          try simp only [decide_eq_true_eq, decide_eq_false_iff_not] at h42
          refine WO_gf rfl rfl ?_
          refine WO_gf rfl rfl ?_
          refine WO_gf rfl rfl ?_
          refine WO_gf rfl rfl ?_
          refine WO_gf rfl rfl ?_
          refine WO_gf rfl rfl ?_
          refine WO_gf rfl rfl ?_
          refine WO_gf rfl rfl ?_
          refine WO_pick (v := .s (.bool _)) rfl rfl ?_
          refine WO_nil ?_
          refine WP_cond rfl (fun _ => ?_) (fun h => nomatch h)
          refine WP_seq ?_
          refine WP_ops ?_
          refine WO_mv rfl ?_
          refine WO_nil ?_
          refine WP_ret ?_
          refine ⟨_, RS_tmp (v := .s (.bool _)) rfl (RS_nil), ?_⟩
          refine congrArg (fun b => V.s (S.bool b)) ?_
          rw [Bool.eq_iff_iff]
          simp only [castlesM, homeM, standM, decide_eq_true_eq, decide_eq_false_iff_not, Bool.false_eq_true, false_iff, true_iff] at *
          omega
         ·try simp only [NM] at h42
          try simp only [decide_eq_true_eq, decide_eq_false_iff_not] at h42
          refine WO_gt rfl ?_
          first | refine WO_ldA0 rfl rfl (.head _) ?_ | refine WO_ldAI rfl rfl (.head _) ?_
          refine WO_gt rfl ?_
          refine WO_mv (v := .s (.int _ _)) rfl ?_
          refine WO_gt rfl ?_
          refine WO_mv (v := .s (.int _ _)) rfl ?_
          refine WO_gt rfl ?_
          refine WO_bin (r := .int .i64 7) rfl rfl rfl ?_
          refine WO_gt rfl ?_
          refine WO_bin (r := .int .i64 56) rfl rfl rfl ?_
          refine WO_gt rfl ?_
          refine WO_bin (r := .int .i64 60) rfl rfl rfl ?_
          refine WO_gt rfl ?_
          refine WO_call0 rfl (RF_of (stands_run _ _ _ _ (by omega))) rfl rfl rfl ?_
          refine WO_gt rfl ?_
          refine WO_un (r := .bool _) rfl rfl ?_
          refine WO_pick (v := .s (.bool _)) rfl rfl ?_
          refine WO_nil ?_
          refine WP_cond rfl (fun h43 => ?_) (fun h43 => ?_)
          ·try simp only [NM] at h43
           try simp only [decide_eq_true_eq, decide_eq_false_iff_not] at h43
           refine WP_seq ?_
           refine WP_ops ?_
           refine WO_mv rfl ?_
           refine WO_nil ?_
           refine WP_ret ?_
           refine ⟨_, RS_tmp (v := .s (.bool _)) rfl (RS_nil), ?_⟩
           refine congrArg (fun b => V.s (S.bool b)) ?_
           rw [Bool.eq_iff_iff]
           simp only [castlesM, homeM, standM, decide_eq_true_eq, decide_eq_false_iff_not, Bool.false_eq_true, false_iff, true_iff] at *
           omega
          ·try simp only [NM] at h43
           try simp only [decide_eq_true_eq, decide_eq_false_iff_not] at h43
           refine WP_skip ?_
           refine WP_ops ?_
           refine WO_bin (r := .int .i64 4) rfl rfl rfl ?_
           refine WO_mv (v := .s (.int _ _)) rfl ?_
           refine WO_nil ?_
           refine ⟨_, (.cons_cons _ .slnil), ?_, rfl, rfl, rfl, rfl, rfl⟩
           try simp only [standM, decide_eq_true_eq, decide_eq_false_iff_not] at *
           omega
       ·try simp only [NM] at h40
        try simp only [decide_eq_true_eq, decide_eq_false_iff_not] at h40
        exfalso; omega
      ·skip
       obtain ⟨hf3, k1, k16, k17, rfl, rfl⟩ := hI
       refine WP_know (d := 1) (v := .ptr 0 0 133) k1 ?_
       refine WP_know (d := 16) (v := .agg 4 (ia (ov (ov (ov (ov (fun _ => 0) 0 7) 1 0) 2 63) 3 56))) k16 ?_
       refine WP_know (d := 17) (v := .s (.int .i64 4)) k17 ?_
       refine WP_unroll ?_
       refine WP_seq ?_
       refine WP_ops ?_
       refine WO_bin (r := .bool _) rfl rfl rfl ?_
       refine WO_nil ?_
       refine WP_seq ?_
       refine WP_cond rfl (fun h44 => ?_) (fun h44 => ?_)
       ·try simp only [NM] at h44
        try simp only [decide_eq_true_eq, decide_eq_false_iff_not] at h44
        exfalso; omega
       ·try simp only [NM] at h44
        try simp only [decide_eq_true_eq, decide_eq_false_iff_not] at h44
        refine WP_exit ?_
        refine xhere ?_
        refine WP_seq ?_
        refine WP_ops ?_
        refine WO_mv rfl ?_
        refine WO_nil ?_
        refine WP_ret ?_
        refine ⟨_, RS_tmp (v := .s (.bool _)) rfl (RS_nil), ?_⟩
        refine congrArg (fun b => V.s (S.bool b)) ?_
        rw [Bool.eq_iff_iff]
        simp only [castlesM, homeM, standM, decide_eq_true_eq, decide_eq_false_iff_not, Bool.false_eq_true, false_iff, true_iff] at *
        omega
end Go.Proofs.Ytjldefmcnppdoaa
