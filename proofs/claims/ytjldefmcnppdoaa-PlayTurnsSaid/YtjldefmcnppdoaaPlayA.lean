/- The walks of the chapter play: the parts. -/
import Derived.Test.YtjldefmcnppdoaaSquareB
namespace Go.Proofs.Ytjldefmcnppdoaa
open Go Go.Am
set_option linter.unusedSimpArgs false
set_option linter.unusedVariables false
/-- The cell of a square; is it empty? -/
def emptyM (P : Nat → Int) (x : Int) : Bool := eqI 2 (dp P (sqI x)) (fun _ => 0)
/-- A piece. -/
def pc (k c : Int) : Nat → Int := fun i => if i = 0 then k else c
def nopc : Nat → Int := fun _ => 0

/-- Where a move takes. -/
def atT (P : Nat → Int) (k a t : Int) : Int := if k = 1 ∧ t % 8 ≠ a % 8 ∧ t = P 130 ∧ emptyM P t = true then a / 8 * 8 + t % 8 else t
def takesM (P : Nat → Int) (k a t : Int) : Int := if emptyM P (atT P k a t) = true then -1 else atT P k a t
def shortM (c : Int) : Int := if c = 0 then 1 else 4
def castlingM (k a t c C : Int) : Int := if k = 6 ∧ a = 56 * c + 4 ∧ t = a + 2 ∧ C / shortM c % 2 = 1 then 1 else if k = 6 ∧ a = 56 * c + 4 ∧ t = a - 2 ∧ C / (2 * shortM c) % 2 = 1 then -1 else 0
def longM (k a t c : Int) : Bool := decide (k = 1 ∧ t % 8 = a % 8 ∧ a / 8 = 1 + 5 * c ∧ t / 8 = a / 8 + 2 * (1 - 2 * c))
def castM (P : Nat → Int) : Int := if P 129 < 0 ∨ 15 < P 129 then 0 else P 129
def lostM (s : Int) : Int := if 4 = s then 3 else if 7 = s then 1 else if 0 = s then 2 else if 60 = s then 12 else if 63 = s then 4 else if 56 = s then 8 else 0
def orM (x y : Int) : Int := IntKind.i64.wrap (BitVec.ofInt 64 x ||| BitVec.ofInt 64 y).toNat
def andM (x y : Int) : Int := IntKind.i64.wrap (BitVec.ofInt 64 x &&& BitVec.ofInt 64 y).toNat
def andNotM (x y : Int) : Int := IntKind.i64.wrap (BitVec.ofInt 64 x &&& ~~~(BitVec.ofInt 64 y)).toNat
/-- Castlings without some. -/
def bitM (c s k : Int) : Int := if c / k % 2 = 1 ∧ s / k % 2 = 0 then k else 0
def withoutM (c s : Int) : Int := bitM c s 1 + bitM c s 2 + bitM c s 4 + bitM c s 8
/-- May the move be made? -/
def canM (P : Nat → Int) (a t b : Int) : Bool := decide (1 ≤ P (sqI a) ∧ P (sqI a) ≤ 6 ∧ P (sqI a + 1) = P 128 ∧ (P (sqI a + 1) = 0 ∨ P (sqI a + 1) = 1) ∧ (if P (sqI a) = 1 ∧ t / 8 = 7 * (1 - P (sqI a + 1)) then 2 ≤ b ∧ b ≤ 5 else b = 0))
def errM (P : Nat → Int) (a t b : Int) : Int := if (0 ≤ a ∧ a < 64) ∧ (0 ≤ t ∧ t < 64) ∧ a ≠ t then (if canM P a t b = true then 0 else 8) else 6

/-- The squares behind a move, part by part. -/
def brd1 (P : Nat → Int) (w : Int) : Nat → Int := if 0 ≤ w then ovA P (sqI w) 2 nopc else P
def brd2 (P : Nat → Int) (w a : Int) : Nat → Int := ovA (brd1 P w) (sqI a) 2 nopc
def brd3 (P : Nat → Int) (w a t k c b : Int) : Nat → Int := ovA (brd2 P w a) (sqI t) 2 (pc (if b = 0 then k else b) c)
def brd4 (P : Nat → Int) (w a t k c b g : Int) : Nat → Int :=
  if g = 1 then ovA (ovA (brd3 P w a t k c b) (sqI (a + 3)) 2 nopc) (sqI (a + 1)) 2 (pc 4 c)
  else if g = -1 then ovA (ovA (brd3 P w a t k c b) (sqI (a - 4)) 2 nopc) (sqI (a - 1)) 2 (pc 4 c) else brd3 P w a t k c b
def overM (k a t c : Int) : Int := if longM k a t c = true then (a + t) / 2 else -1
def halfM (P : Nat → Int) (k w : Int) : Int := if k = 1 ∨ 0 ≤ w then 0 else IntKind.i64.wrap (min (P 131) 1023 + 1)
def fullM (P : Nat → Int) : Int := if P 128 = 1 then IntKind.i64.wrap (min (P 132) 16383 + 1) else P 132
/-- The position behind a move that can be made. -/
def afterM (P : Nat → Int) (k c a t b C : Int) : Nat → Int := fun i =>
  if i < 128 then brd4 P (takesM P k a t) a t k c b (castlingM k a t c C) i else if i = 128 then otherM (P 128) else if i = 129 then andNotM C (orM (orM 0 (lostM a)) (lostM t))
  else if i = 130 then overM k a t c else if i = 131 then halfM P k (takesM P k a t) else if i = 132 then fullM P else 0
def moveM (P : Nat → Int) (a t b : Int) : Nat → Int := if errM P a t b = 0 then afterM P (P (sqI a)) (P (sqI a + 1)) a t b (castM P) else fun _ => 0

theorem errM_out {P : Nat → Int} {a t b : Int} (h : ¬ ((0 ≤ a ∧ a < 64) ∧ (0 ≤ t ∧ t < 64) ∧ a ≠ t)) : errM P a t b = 6 := if_neg h
theorem errM_not {P : Nat → Int} {a t b : Int} (h : (0 ≤ a ∧ a < 64) ∧ (0 ≤ t ∧ t < 64) ∧ a ≠ t) (hc : canM P a t b = false) : errM P a t b = 8 := by
  rw [errM, if_pos h, hc]; rfl
theorem errM_ok {P : Nat → Int} {a t b : Int} (h : (0 ≤ a ∧ a < 64) ∧ (0 ≤ t ∧ t < 64) ∧ a ≠ t) (hc : canM P a t b = true) : errM P a t b = 0 := by
  rw [errM, if_pos h, hc]; rfl
theorem atT_bd {P : Nat → Int} {k a t : Int} (ha : 0 ≤ a ∧ a < 64) (ht : 0 ≤ t ∧ t < 64) : 0 ≤ atT P k a t ∧ atT P k a t < 64 := by
  unfold atT; split <;> omega
theorem takesM_bd {P : Nat → Int} {k a t : Int} (ha : 0 ≤ a ∧ a < 64) (ht : 0 ≤ t ∧ t < 64) : -1 ≤ takesM P k a t ∧ takesM P k a t < 64 := by
  have := atT_bd (P := P) (k := k) ha ht
  unfold takesM; split <;> omega
theorem cast_shl1 {c : Int} (h : c = 0 ∨ c = 1) : binS .shl (.int .i64 1) (.int .i64 (2 * c)) = some (.int .i64 (shortM c)) := by
  rcases h with rfl | rfl <;> rfl
theorem cast_shl2 {c : Int} (h : c = 0 ∨ c = 1) : binS .shl (.int .i64 (shortM c)) (.int .u64 1) = some (.int .i64 (2 * shortM c)) := by
  rcases h with rfl | rfl <;> rfl
theorem and_bit : ∀ C : Fin 16, ∀ s ∈ [1, 2, 4, 8], (andM (C.val : Int) s ≠ 0 ↔ (C.val : Int) / s % 2 = 1) := by decide +kernel
theorem and_is {C s : Int} (h : 0 ≤ C ∧ C ≤ 15) (hs : s = 1 ∨ s = 2 ∨ s = 4 ∨ s = 8) : andM C s ≠ 0 ↔ C / s % 2 = 1 := by
  obtain ⟨n, rfl⟩ : ∃ n : Nat, C = n := ⟨C.toNat, by omega⟩
  exact and_bit ⟨n, by omega⟩ s (by simp; omega)
theorem lost_in (s : Int) : lostM s ∈ [0, 1, 2, 3, 4, 8, 12] := by
  unfold lostM
  repeat' split
  all_goals decide
theorem without_bit : ∀ C : Fin 16, ∀ x ∈ [0, 1, 2, 3, 4, 8, 12], ∀ y ∈ [0, 1, 2, 3, 4, 8, 12], withoutM (withoutM (C.val : Int) x) y = andNotM (C.val : Int) (orM (orM 0 x) y) := by decide +kernel
theorem without_is {C : Int} (h : 0 ≤ C ∧ C ≤ 15) (a t : Int) : withoutM (withoutM C (lostM a)) (lostM t) = andNotM C (orM (orM 0 (lostM a)) (lostM t)) := by
  obtain ⟨n, rfl⟩ : ∃ n : Nat, C = n := ⟨C.toNat, by omega⟩
  exact without_bit ⟨n, by omega⟩ _ (lost_in a) _ (lost_in t)
theorem bitM_bd (c s : Int) {k : Int} (hk : 0 ≤ k) : 0 ≤ bitM c s k ∧ bitM c s k ≤ k := by
  unfold bitM; split <;> omega
theorem withoutM_bd (c s : Int) : 0 ≤ withoutM c s ∧ withoutM c s ≤ 15 := by
  have := bitM_bd c s (k := 1) (by omega)
  have := bitM_bd c s (k := 2) (by omega)
  have := bitM_bd c s (k := 4) (by omega)
  have := bitM_bd c s (k := 8) (by omega)
  unfold withoutM; omega
theorem lostM_bd (s : Int) : 0 ≤ lostM s ∧ lostM s ≤ 15 := by
  unfold lostM
  repeat' split
  all_goals omega
theorem castM_bd (P : Nat → Int) : 0 ≤ castM P ∧ castM P ≤ 15 := by
  unfold castM; split <;> omega
theorem emptyM_iff {P : Nat → Int} {x : Int} : emptyM P x = true ↔ P (sqI x) = 0 ∧ P (sqI x + 1) = 0 := by
  unfold emptyM
  rw [eqI_iff]
  constructor
  · intro h; exact ⟨h 0 (by omega), h 1 (by omega)⟩
  · rintro ⟨h0, h1⟩ i hi
    have : i = 0 ∨ i = 1 := by omega
    rcases this with rfl | rfl
    · exact h0
    · exact h1
theorem emptyM_same {P Q : Nat → Int} {x : Int} (hx : 0 ≤ x ∧ x < 64) (h : ∀ i, i < 128 → P i = Q i) : emptyM P x = emptyM Q x := by
  have e : sqI x + 1 < 128 := by show 0 + x.toNat * 2 + 1 < 128; omega
  rw [Bool.eq_iff_iff, emptyM_iff, emptyM_iff, h _ (by omega), h _ e]
theorem atT_same {P Q : Nat → Int} {k a t : Int} (ht : 0 ≤ t ∧ t < 64) (h : ∀ i, i < 128 → P i = Q i) (h130 : P 130 = Q 130) : atT P k a t = atT Q k a t := by
  unfold atT
  rw [emptyM_same ht h, h130]
theorem takesM_same {P Q : Nat → Int} {k a t : Int} (ha : 0 ≤ a ∧ a < 64) (ht : 0 ≤ t ∧ t < 64) (h : ∀ i, i < 128 → P i = Q i) (h130 : P 130 = Q 130) : takesM P k a t = takesM Q k a t := by
  unfold takesM
  rw [atT_same ht h h130, emptyM_same (atT_bd ha ht) h]

theorem File_sq {x : Int} (h : 0 ≤ x ∧ x < 64) : RF AM 37 [.s (.int .i64 x)] (.s (.int .i64 (x % 8))) := by
  have := File_run x
  rw [fileM, if_pos h] at this
  exact this
theorem Rank_sq {x : Int} (h : 0 ≤ x ∧ x < 64) : RF AM 38 [.s (.int .i64 x)] (.s (.int .i64 (x / 8))) := by
  have := Rank_run x
  rw [rankM, if_pos h] at this
  exact this

theorem ris_run (x : Int) : WR AM 97 [.s (.int .i64 x)] [] (fun v _ _ => v = .s (.bool (isM x))) := by
 refine WR_fn (a := a97) rfl rfl (entryF _) (entry_E (Nat.le_of_ble_eq_true rfl)) (m := 0) rfl ?_
 refine WP_seq ?_
 refine WP_ops ?_
 refine WO_mv rfl ?_
 refine WO_nil ?_
 refine WP_seq ?_
 refine WP_ops ?_
 refine WO_mv (v := .s (.int _ _)) rfl ?_
 refine WO_bin (r := .bool _) rfl rfl rfl ?_
 refine WO_mv (v := .s (.bool _)) rfl ?_
 refine WO_case (t := 5) rfl (fun h1 => ?_) (fun h1 => ?_)
 ·try simp only [NM] at h1
  refine WO_gt rfl ?_
  refine WO_mv (v := .s (.int _ _)) rfl ?_
  refine WO_gt rfl ?_
  refine WO_bin (r := .bool _) rfl rfl rfl ?_
  refine WO_pick (v := .s (.bool _)) rfl rfl ?_
  refine WO_mv (v := .s (.bool _)) rfl ?_
  refine WO_nil ?_
  refine WP_ret ?_
  refine ⟨_, RS_tmp (v := .s (.bool _)) rfl (RS_nil), ?_⟩
  refine congrArg (fun b => V.s (S.bool b)) ?_
  rw [Bool.eq_iff_iff]
  simp only [beq_iff_eq, bne_iff_ne, ne_eq, decide_eq_true_eq, Bool.false_eq_true, true_iff, false_iff, gt_iff_lt, ge_iff_le, isM, mayM, longM, canM, Bool.true_eq_false, iff_true, iff_false]
  omega
 ·try simp only [NM] at h1
  refine WO_gf rfl rfl ?_
  refine WO_gf rfl rfl ?_
  refine WO_pick (v := .s (.bool _)) rfl rfl ?_
  refine WO_mv (v := .s (.bool _)) rfl ?_
  refine WO_nil ?_
  refine WP_ret ?_
  refine ⟨_, RS_tmp (v := .s (.bool _)) rfl (RS_nil), ?_⟩
  refine congrArg (fun b => V.s (S.bool b)) ?_
  rw [Bool.eq_iff_iff]
  simp only [beq_iff_eq, bne_iff_ne, ne_eq, decide_eq_true_eq, Bool.false_eq_true, true_iff, false_iff, gt_iff_lt, ge_iff_le, isM, mayM, longM, canM, Bool.true_eq_false, iff_true, iff_false]
  omega
theorem rcastles_run (P : Nat → Int) : WR AM 101 [.agg 133 (ia P)] [] (fun v _ _ => v = .s (.int .i64 (castM P))) := by
 refine WR_fn (a := a101) rfl rfl (entryF _) (entry_E (Nat.le_of_ble_eq_true rfl)) (m := 0) rfl ?_
 refine WP_seq ?_
 refine WP_ops ?_
 refine WO_boxA rfl ?_
 refine WO_mv rfl ?_
 refine WO_nil ?_
 refine WP_seq ?_
 refine WP_seq ?_
 refine WP_ops ?_
 refine WO_fa (o' := 129) rfl rfl rfl ?_
 refine WO_ldI rfl rfl (.head _) rfl ?_
 refine WO_bin (r := .bool _) rfl rfl rfl ?_
 refine WO_mv (v := .s (.bool _)) rfl ?_
 refine WO_case (t := 6) rfl (fun h2 => ?_) (fun h2 => ?_)
 ·try simp only [NM] at h2
  refine WO_gf rfl rfl ?_
  refine WO_gf rfl rfl ?_
  refine WO_gf rfl rfl ?_
  refine WO_pick (v := .s (.bool _)) rfl rfl ?_
  refine WO_nil ?_
  refine WP_cond rfl (fun _ => ?_) (fun h => nomatch h)
  refine WP_seq ?_
  refine WP_ops ?_
  refine WO_mv rfl ?_
  refine WO_nil ?_
  refine WP_ret ?_
  refine ⟨_, RS_tmp (v := .s (.int _ _)) rfl (RS_nil), ?_⟩
  first | exact congrArg (fun b => V.s (S.int .i64 b)) (if_pos (by omega)).symm | exact congrArg (fun b => V.s (S.int .i64 b)) (if_neg (by omega)).symm
 ·try simp only [NM] at h2
  refine WO_gt rfl ?_
  refine WO_fa (o' := 129) rfl rfl rfl ?_
  refine WO_gt rfl ?_
  refine WO_ldI rfl rfl (.head _) rfl ?_
  refine WO_gt rfl ?_
  refine WO_bin (r := .bool _) rfl rfl rfl ?_
  refine WO_pick (v := .s (.bool _)) rfl rfl ?_
  refine WO_nil ?_
  refine WP_cond rfl (fun h3 => ?_) (fun h3 => ?_)
  ·try simp only [NM] at h3
   refine WP_seq ?_
   refine WP_ops ?_
   refine WO_mv rfl ?_
   refine WO_nil ?_
   refine WP_ret ?_
   refine ⟨_, RS_tmp (v := .s (.int _ _)) rfl (RS_nil), ?_⟩
   first | exact congrArg (fun b => V.s (S.int .i64 b)) (if_pos (by omega)).symm | exact congrArg (fun b => V.s (S.int .i64 b)) (if_neg (by omega)).symm
  ·try simp only [NM] at h3
   refine WP_skip ?_
   refine WP_seq ?_
   refine WP_ops ?_
   refine WO_fa (o' := 129) rfl rfl rfl ?_
   refine WO_ldI rfl rfl (.head _) rfl ?_
   refine WO_mv (v := .s (.int _ _)) rfl ?_
   refine WO_nil ?_
   refine WP_ret ?_
   refine ⟨_, RS_tmp (v := .s (.int _ _)) rfl (RS_nil), ?_⟩
   first | exact congrArg (fun b => V.s (S.int .i64 b)) (if_pos (by omega)).symm | exact congrArg (fun b => V.s (S.int .i64 b)) (if_neg (by omega)).symm
theorem rlost_run (s : Int) : WR AM 102 [.s (.int .i64 s)] [] (fun v _ _ => v = .s (.int .i64 (lostM s))) := by
 refine WR_fn (a := a102) rfl rfl (entryF _) (entry_E (Nat.le_of_ble_eq_true rfl)) (m := 0) rfl ?_
 refine WP_seq ?_
 refine WP_ops ?_
 refine WO_mv rfl ?_
 refine WO_nil ?_
 refine WP_seq ?_
 refine WP_seq ?_
 refine WP_ops ?_
 refine WO_mv (v := .s (.int _ _)) rfl ?_
 refine WO_nil ?_
 refine WP_block ?_
 refine WP_seq ?_
 refine WP_ops ?_
 refine WO_bin (r := .bool _) rfl rfl rfl ?_
 refine WO_mv (v := .s (.bool _)) rfl ?_
 refine WO_nil ?_
 refine WP_cond rfl (fun h4 => ?_) (fun h4 => ?_)
 ·try simp only [NM] at h4
  refine WP_seq ?_
  refine WP_ops ?_
  refine WO_mv rfl ?_
  refine WO_nil ?_
  refine WP_ret ?_
  refine ⟨_, RS_tmp (v := .s (.int _ _)) rfl (RS_nil), ?_⟩
  refine congrArg (fun b => V.s (S.int .i64 b)) ?_
  unfold lostM
  repeat' split
  all_goals omega
 ·try simp only [NM] at h4
  refine WP_seq ?_
  refine WP_ops ?_
  refine WO_bin (r := .bool _) rfl rfl rfl ?_
  refine WO_mv (v := .s (.bool _)) rfl ?_
  refine WO_nil ?_
  refine WP_cond rfl (fun h5 => ?_) (fun h5 => ?_)
  ·try simp only [NM] at h5
   refine WP_seq ?_
   refine WP_ops ?_
   refine WO_mv rfl ?_
   refine WO_nil ?_
   refine WP_ret ?_
   refine ⟨_, RS_tmp (v := .s (.int _ _)) rfl (RS_nil), ?_⟩
   refine congrArg (fun b => V.s (S.int .i64 b)) ?_
   unfold lostM
   repeat' split
   all_goals omega
  ·try simp only [NM] at h5
   refine WP_seq ?_
   refine WP_ops ?_
   refine WO_bin (r := .bool _) rfl rfl rfl ?_
   refine WO_mv (v := .s (.bool _)) rfl ?_
   refine WO_nil ?_
   refine WP_cond rfl (fun h6 => ?_) (fun h6 => ?_)
   ·try simp only [NM] at h6
    refine WP_seq ?_
    refine WP_ops ?_
    refine WO_mv rfl ?_
    refine WO_nil ?_
    refine WP_ret ?_
    refine ⟨_, RS_tmp (v := .s (.int _ _)) rfl (RS_nil), ?_⟩
    refine congrArg (fun b => V.s (S.int .i64 b)) ?_
    unfold lostM
    repeat' split
    all_goals omega
   ·try simp only [NM] at h6
    refine WP_seq ?_
    refine WP_ops ?_
    refine WO_bin (r := .bool _) rfl rfl rfl ?_
    refine WO_mv (v := .s (.bool _)) rfl ?_
    refine WO_nil ?_
    refine WP_cond rfl (fun h7 => ?_) (fun h7 => ?_)
    ·try simp only [NM] at h7
     refine WP_seq ?_
     refine WP_ops ?_
     refine WO_mv rfl ?_
     refine WO_nil ?_
     refine WP_ret ?_
     refine ⟨_, RS_tmp (v := .s (.int _ _)) rfl (RS_nil), ?_⟩
     refine congrArg (fun b => V.s (S.int .i64 b)) ?_
     unfold lostM
     repeat' split
     all_goals omega
    ·try simp only [NM] at h7
     refine WP_seq ?_
     refine WP_ops ?_
     refine WO_bin (r := .bool _) rfl rfl rfl ?_
     refine WO_mv (v := .s (.bool _)) rfl ?_
     refine WO_nil ?_
     refine WP_cond rfl (fun h8 => ?_) (fun h8 => ?_)
     ·try simp only [NM] at h8
      refine WP_seq ?_
      refine WP_ops ?_
      refine WO_mv rfl ?_
      refine WO_nil ?_
      refine WP_ret ?_
      refine ⟨_, RS_tmp (v := .s (.int _ _)) rfl (RS_nil), ?_⟩
      refine congrArg (fun b => V.s (S.int .i64 b)) ?_
      unfold lostM
      repeat' split
      all_goals omega
     ·try simp only [NM] at h8
      refine WP_seq ?_
      refine WP_ops ?_
      refine WO_bin (r := .bool _) rfl rfl rfl ?_
      refine WO_mv (v := .s (.bool _)) rfl ?_
      refine WO_nil ?_
      refine WP_cond rfl (fun h9 => ?_) (fun h9 => ?_)
      ·try simp only [NM] at h9
       refine WP_seq ?_
       refine WP_ops ?_
       refine WO_mv rfl ?_
       refine WO_nil ?_
       refine WP_ret ?_
       refine ⟨_, RS_tmp (v := .s (.int _ _)) rfl (RS_nil), ?_⟩
       refine congrArg (fun b => V.s (S.int .i64 b)) ?_
       unfold lostM
       repeat' split
       all_goals omega
      ·try simp only [NM] at h9
       refine WP_skip ?_
       refine WP_seq ?_
       refine WP_ops ?_
       refine WO_mv rfl ?_
       refine WO_nil ?_
       refine WP_ret ?_
       refine ⟨_, RS_tmp (v := .s (.int _ _)) rfl (RS_nil), ?_⟩
       refine congrArg (fun b => V.s (S.int .i64 b)) ?_
       unfold lostM
       repeat' split
       all_goals omega
/-- The bits below k. -/
def upM (c s k : Int) : Int := if k ≤ 1 then 0 else if k ≤ 2 then bitM c s 1 else if k ≤ 4 then bitM c s 1 + bitM c s 2 else if k ≤ 8 then bitM c s 1 + bitM c s 2 + bitM c s 4 else withoutM c s
theorem upM_step {c s k : Int} (h : k = 1 ∨ k = 2 ∨ k = 4 ∨ k = 8) : upM c s (2 * k) = upM c s k + bitM c s k := by
  rcases h with rfl | rfl | rfl | rfl <;> simp [upM, withoutM]
theorem upM_bd (c s k : Int) : 0 ≤ upM c s k ∧ upM c s k ≤ 15 := by
  have := bitM_bd c s (k := 1) (by omega)
  have := bitM_bd c s (k := 2) (by omega)
  have := bitM_bd c s (k := 4) (by omega)
  have := withoutM_bd c s
  unfold upM
  repeat' split
  all_goals omega

theorem without_run (c s : Int) (hc : 0 ≤ c ∧ c ≤ 15) (hs : 0 ≤ s ∧ s ≤ 15) : WR AM 100 [.s (.int .i64 c), .s (.int .i64 s)] [] (fun v _ _ => v = .s (.int .i64 (withoutM c s))) := by
 refine WR_fn (a := a100) rfl rfl (entryF _) (entry_E (Nat.le_of_ble_eq_true rfl)) (m := 0) rfl ?_
 refine WP_seq ?_
 refine WP_ops ?_
 refine WO_mv rfl ?_
 refine WO_nil ?_
 refine WP_seq ?_
 refine WP_ops ?_
 refine WO_mv rfl ?_
 refine WO_nil ?_
 refine WP_seq ?_
 refine WP_seq ?_
 refine WP_ops ?_
 refine WO_mv rfl ?_
 refine WO_nil ?_
 refine WP_block ?_
 refine WP_sub (L' := []) .slnil ?_
 refine WP_loop (fun m f _ L => ∃ (k : Int), (k = 1 ∨ k = 2 ∨ k = 4 ∨ k = 8 ∨ k = 16) ∧ (m = 16 - k.toNat) ∧ (f 0 = .s (.int .i64 c)) ∧ (f 1 = .s (.int .i64 s)) ∧ (f 5 = .s (.int .i64 (upM c s k))) ∧ (f 6 = .s (.int .i64 k)) ∧ (L = [])) (fun m f nb L hI => ?_) (15) ⟨1, by omega, rfl, rfl, rfl, rfl, rfl, rfl⟩
 obtain ⟨k, hk, hm, k0, k1, k5, k6, rfl⟩ := hI
 refine WP_know (d := 0) (v := .s (.int .i64 c)) k0 ?_
 refine WP_know (d := 1) (v := .s (.int .i64 s)) k1 ?_
 refine WP_know (d := 5) (v := .s (.int .i64 (upM c s k))) k5 ?_
 refine WP_know (d := 6) (v := .s (.int .i64 k)) k6 ?_
 have hu := upM_bd c s k
 have hq : 0 ≤ c / k := Int.ediv_nonneg (by omega) (by omega)
 have hq2 : 0 ≤ s / k := Int.ediv_nonneg (by omega) (by omega)
 refine WP_seq ?_
 refine WP_seq ?_
 refine WP_ops ?_
 refine WO_mv (v := .s (.int _ _)) rfl ?_
 refine WO_bin (r := .bool _) rfl rfl rfl ?_
 refine WO_nil ?_
 refine WP_cond rfl (fun h10 => ?_) (fun h10 => ?_)
 ·try simp only [NM] at h10
  refine WP_skip ?_
  refine WP_seq ?_
  refine WP_block ?_
  refine WP_seq ?_
  refine WP_ops ?_
  refine WO_mv (v := .s (.int _ _)) rfl ?_
  refine WO_mv (v := .s (.int _ _)) rfl ?_
  refine WO_quo rfl rfl (by omega) ?_
  refine WO_rem rfl rfl (by omega) ?_
  refine WO_bin (r := .bool _) rfl rfl rfl ?_
  refine WO_mv (v := .s (.bool _)) rfl ?_
  refine WO_case (t := 16) rfl (fun h11 => ?_) (fun h11 => ?_)
  ·try simp only [NM] at h11
   refine WO_gt rfl ?_
   refine WO_mv (v := .s (.int _ _)) rfl ?_
   refine WO_gt rfl ?_
   refine WO_mv (v := .s (.int _ _)) rfl ?_
   refine WO_gt rfl ?_
   refine WO_quo rfl rfl (by omega) ?_
   refine WO_gt rfl ?_
   refine WO_rem rfl rfl (by omega) ?_
   refine WO_gt rfl ?_
   refine WO_bin (r := .bool _) rfl rfl rfl ?_
   refine WO_pick (v := .s (.bool _)) rfl rfl ?_
   refine WO_nil ?_
   refine WP_cond rfl (fun h12 => ?_) (fun h12 => ?_)
   ·try simp only [NM] at h12
    refine WP_ops ?_
    refine WO_mv (v := .s (.int _ _)) rfl ?_
    refine WO_mv (v := .s (.int _ _)) rfl ?_
    refine WO_add rfl rfl (by omega) ?_
    refine WO_mv (v := .s (.int _ _)) rfl ?_
    refine WO_nil ?_
    refine WP_ops ?_
    refine WO_mv (v := .s (.int _ _)) rfl ?_
    refine WO_mul rfl rfl (by omega) ?_
    refine WO_mv (v := .s (.int _ _)) rfl ?_
    refine WO_nil ?_
    refine ⟨16 - (2 * k).toNat, _, by omega, .slnil, 2 * k, by omega, rfl, rfl, rfl, ?_, rfl, rfl⟩
    rw [upM_step (by omega), bitM]
    first | (rw [if_pos (by omega)]; rfl) | (rw [if_neg (by omega), Int.add_zero]; rfl)
   ·try simp only [NM] at h12
    refine WP_skip ?_
    refine WP_ops ?_
    refine WO_mv (v := .s (.int _ _)) rfl ?_
    refine WO_mul rfl rfl (by omega) ?_
    refine WO_mv (v := .s (.int _ _)) rfl ?_
    refine WO_nil ?_
    refine ⟨16 - (2 * k).toNat, _, by omega, .slnil, 2 * k, by omega, rfl, rfl, rfl, ?_, rfl, rfl⟩
    rw [upM_step (by omega), bitM]
    first | (rw [if_pos (by omega)]; rfl) | (rw [if_neg (by omega), Int.add_zero]; rfl)
  ·try simp only [NM] at h11
   refine WO_gf rfl rfl ?_
   refine WO_gf rfl rfl ?_
   refine WO_gf rfl rfl ?_
   refine WO_gf rfl rfl ?_
   refine WO_gf rfl rfl ?_
   refine WO_pick (v := .s (.bool _)) rfl rfl ?_
   refine WO_nil ?_
   refine WP_cond rfl (fun h => nomatch h) (fun _ => ?_)
   refine WP_skip ?_
   refine WP_ops ?_
   refine WO_mv (v := .s (.int _ _)) rfl ?_
   refine WO_mul rfl rfl (by omega) ?_
   refine WO_mv (v := .s (.int _ _)) rfl ?_
   refine WO_nil ?_
   refine ⟨16 - (2 * k).toNat, _, by omega, .slnil, 2 * k, by omega, rfl, rfl, rfl, ?_, rfl, rfl⟩
   rw [upM_step (by omega), bitM]
   first | (rw [if_pos (by omega)]; rfl) | (rw [if_neg (by omega), Int.add_zero]; rfl)
 ·try simp only [NM] at h10
  refine WP_exit ?_
  refine xhere ?_
  refine WP_seq ?_
  refine WP_ops ?_
  refine WO_mv (v := .s (.int _ _)) rfl ?_
  refine WO_mv (v := .s (.int _ _)) rfl ?_
  refine WO_nil ?_
  refine WP_ret ?_
  refine ⟨_, RS_tmp (v := .s (.int _ _)) rfl (RS_nil), ?_⟩
  obtain rfl : k = 16 := by omega
  rfl
theorem rCan_run (P m : Nat → Int) (ha : 0 ≤ m 0 ∧ m 0 < 64) (ht : 0 ≤ m 1 ∧ m 1 < 64) : WR AM 98 [.agg 133 (ia P), .agg 3 (ia m)] [] (fun v _ _ => v = .s (.bool (canM P (m 0) (m 1) (m 2)))) := by
 refine WR_fn (a := a98) rfl rfl (entryF _) (entry_E (Nat.le_of_ble_eq_true rfl)) (m := 0) rfl ?_
 refine WP_seq ?_
 refine WP_ops ?_
 refine WO_boxA rfl ?_
 refine WO_boxA rfl ?_
 refine WO_mv rfl ?_
 refine WO_nil ?_
 refine WP_seq ?_
 refine WP_ops ?_
 refine WO_fa (o' := 0) rfl rfl rfl ?_
 refine WO_ldI rfl rfl (.head _) rfl ?_
 refine WO_fa (o' := 0) rfl rfl rfl ?_
 refine WO_ixa rfl rfl rfl (by omega) ?_
 first | refine WO_ldA0 rfl rfl (.tail _ (.head _)) ?_ | refine WO_ldAI rfl rfl (.tail _ (.head _)) ?_
 refine WO_allocI ?_
 refine WO_stA rfl rfl rfl rfl .here ?_
 refine WO_nil ?_
 refine WP_seq ?_
 refine WP_seq ?_
 refine WP_ops ?_
 first | refine WO_ldA0 rfl rfl (.head _) ?_ | refine WO_ldAI rfl rfl (.head _) ?_
 refine WO_call0 rfl (show RF AM 55 _ (.s (.bool (mayM (P (sqI (m 0))) (P (sqI (m 0) + 1))))) from RF_of (rMay_run (ovA (fun _ => 0) 0 2 (dp P (sqI (m 0)))))) rfl rfl rfl ?_
 refine WO_un (r := .bool _) rfl rfl ?_
 refine WO_mv (v := .s (.bool _)) rfl ?_
 refine WO_case (t := 15) rfl (fun h13 => ?_) (fun h13 => ?_)
 ·try simp only [NM] at h13
  try simp only [isM, decide_eq_true_eq, decide_eq_false_iff_not] at h13
  refine WO_gf rfl rfl ?_
  refine WO_gf rfl rfl ?_
  refine WO_gf rfl rfl ?_
  refine WO_gf rfl rfl ?_
  refine WO_gf rfl rfl ?_
  refine WO_pick (v := .s (.bool _)) rfl rfl ?_
  refine WO_nil ?_
  refine WP_cond rfl (fun _ => ?_) (fun h => nomatch h)
  refine WP_seq ?_
  refine WP_ops ?_
  refine WO_mv rfl ?_
  refine WO_nil ?_
  refine WP_ret ?_
  refine ⟨_, RS_tmp (v := .s (.bool _)) rfl (RS_nil), ?_⟩
  refine congrArg (fun b => V.s (S.bool b)) ?_
  simp only [mayM, decide_eq_true_eq, decide_eq_false_iff_not] at *
  unfold canM
  rw [Bool.eq_iff_iff]
  simp only [beq_iff_eq, decide_eq_true_eq, Bool.false_eq_true, true_iff, false_iff, iff_true, iff_false]
  first | omega | (split <;> omega)
 ·try simp only [NM] at h13
  try simp only [isM, decide_eq_true_eq, decide_eq_false_iff_not] at h13
  refine WO_gt rfl ?_
  refine WO_fa (o' := 1) rfl rfl rfl ?_
  refine WO_gt rfl ?_
  refine WO_ldI (x := P (sqI (m 0) + 1)) rfl rfl (.head _) (rfl) ?_
  refine WO_gt rfl ?_
  refine WO_fa (o' := 128) rfl rfl rfl ?_
  refine WO_gt rfl ?_
  refine WO_ldI rfl rfl (.tail _ (.tail _ (.head _))) rfl ?_
  refine WO_gt rfl ?_
  refine WO_bin (r := .bool _) rfl rfl rfl ?_
  refine WO_pick (v := .s (.bool _)) rfl rfl ?_
  refine WO_nil ?_
  refine WP_cond rfl (fun h14 => ?_) (fun h14 => ?_)
  ·try simp only [NM] at h14
   try simp only [isM, decide_eq_true_eq, decide_eq_false_iff_not] at h14
   refine WP_seq ?_
   refine WP_ops ?_
   refine WO_mv rfl ?_
   refine WO_nil ?_
   refine WP_ret ?_
   refine ⟨_, RS_tmp (v := .s (.bool _)) rfl (RS_nil), ?_⟩
   refine congrArg (fun b => V.s (S.bool b)) ?_
   simp only [mayM, decide_eq_true_eq, decide_eq_false_iff_not] at *
   unfold canM
   rw [Bool.eq_iff_iff]
   simp only [beq_iff_eq, decide_eq_true_eq, Bool.false_eq_true, true_iff, false_iff, iff_true, iff_false]
   first | omega | (split <;> omega)
  ·try simp only [NM] at h14
   try simp only [isM, decide_eq_true_eq, decide_eq_false_iff_not] at h14
   refine WP_skip ?_
   refine WP_seq ?_
   refine WP_ops ?_
   refine WO_fa (o' := 0) rfl rfl rfl ?_
   refine WO_ldI (x := P (sqI (m 0))) rfl rfl (.head _) (rfl) ?_
   refine WO_bin (r := .bool _) rfl rfl rfl ?_
   refine WO_mv (v := .s (.bool _)) rfl ?_
   refine WO_case (t := 25) rfl (fun h15 => ?_) (fun h15 => ?_)
   ·try simp only [NM] at h15
    try simp only [isM, decide_eq_true_eq, decide_eq_false_iff_not] at h15
    refine WO_gt rfl ?_
    refine WO_fa (o' := 1) rfl rfl rfl ?_
    refine WO_gt rfl ?_
    refine WO_ldI (x := P (sqI (m 0) + 1)) rfl rfl (.head _) (rfl) ?_
    refine WO_gt rfl ?_
    refine WO_bin (r := .bool _) rfl rfl rfl ?_
    refine WO_gt rfl ?_
    refine WO_mv (v := .s (.bool _)) rfl ?_
    refine WO_case (t := 29) rfl (fun h16 => ?_) (fun h16 => ?_)
    ·try simp only [NM] at h16
     try simp only [isM, decide_eq_true_eq, decide_eq_false_iff_not] at h16
     refine WO_gt rfl ?_
     refine WO_fa (o' := 1) rfl rfl rfl ?_
     refine WO_gt rfl ?_
     refine WO_ldI rfl rfl (.tail _ (.head _)) rfl ?_
     refine WO_gt rfl ?_
     refine WO_quo rfl rfl (by omega) ?_
     refine WO_gt rfl ?_
     refine WO_bin (r := .bool _) rfl rfl rfl ?_
     refine WO_gt rfl ?_
     refine WO_pick (v := .s (.bool _)) rfl rfl ?_
     refine WO_gt rfl ?_
     refine WO_mv (v := .s (.bool _)) rfl ?_
     refine WO_case (t := 35) rfl (fun h17 => ?_) (fun h17 => ?_)
     ·try simp only [NM] at h17
      try simp only [isM, decide_eq_true_eq, decide_eq_false_iff_not] at h17
      refine WO_gf rfl rfl ?_
      refine WO_gf rfl rfl ?_
      refine WO_gf rfl rfl ?_
      refine WO_gf rfl rfl ?_
      refine WO_gu rfl ?_
      refine WO_gu rfl ?_
      refine WO_gu rfl ?_
      refine WO_gu rfl ?_
      refine WO_gf rfl rfl ?_
      refine WO_gt rfl ?_
      refine WO_pick (v := .s (.bool _)) rfl rfl ?_
      refine WO_pick (v := .s (.bool _)) rfl rfl ?_
      refine WO_mv (v := .s (.bool _)) rfl ?_
      refine WO_nil ?_
      refine WP_seq ?_
      refine WP_seq ?_
      refine WP_ops ?_
      refine WO_mv (v := .s (.bool _)) rfl ?_
      refine WO_nil ?_
      refine WP_cond rfl (fun _ => ?_) (fun h => nomatch h)
      refine WP_seq ?_
      refine WP_ops ?_
      refine WO_fa (o' := 2) rfl rfl rfl ?_
      refine WO_ldI rfl rfl (.tail _ (.head _)) rfl ?_
      refine WO_bin (r := .bool _) rfl rfl rfl ?_
      refine WO_mv (v := .s (.bool _)) rfl ?_
      refine WO_case (t := 51) rfl (fun h18 => ?_) (fun h18 => ?_)
      ·try simp only [NM] at h18
       try simp only [isM, decide_eq_true_eq, decide_eq_false_iff_not] at h18
       refine WO_gt rfl ?_
       refine WO_fa (o' := 2) rfl rfl rfl ?_
       refine WO_gt rfl ?_
       refine WO_ldI rfl rfl (.tail _ (.head _)) rfl ?_
       refine WO_gt rfl ?_
       refine WO_bin (r := .bool _) rfl rfl rfl ?_
       refine WO_pick (v := .s (.bool _)) rfl rfl ?_
       refine WO_mv (v := .s (.bool _)) rfl ?_
       refine WO_nil ?_
       refine WP_ret ?_
       refine ⟨_, RS_tmp (v := .s (.bool _)) rfl (RS_nil), ?_⟩
       refine congrArg (fun b => V.s (S.bool b)) ?_
       simp only [mayM, decide_eq_true_eq, decide_eq_false_iff_not] at *
       unfold canM
       rw [Bool.eq_iff_iff]
       simp only [beq_iff_eq, decide_eq_true_eq, Bool.false_eq_true, true_iff, false_iff, iff_true, iff_false]
       first | omega | (split <;> omega)
      ·try simp only [NM] at h18
       try simp only [isM, decide_eq_true_eq, decide_eq_false_iff_not] at h18
       refine WO_gf rfl rfl ?_
       refine WO_gf rfl rfl ?_
       refine WO_gf rfl rfl ?_
       refine WO_pick (v := .s (.bool _)) rfl rfl ?_
       refine WO_mv (v := .s (.bool _)) rfl ?_
       refine WO_nil ?_
       refine WP_ret ?_
       refine ⟨_, RS_tmp (v := .s (.bool _)) rfl (RS_nil), ?_⟩
       refine congrArg (fun b => V.s (S.bool b)) ?_
       simp only [mayM, decide_eq_true_eq, decide_eq_false_iff_not] at *
       unfold canM
       rw [Bool.eq_iff_iff]
       simp only [beq_iff_eq, decide_eq_true_eq, Bool.false_eq_true, true_iff, false_iff, iff_true, iff_false]
       first | omega | (split <;> omega)
     ·try simp only [NM] at h17
      try simp only [isM, decide_eq_true_eq, decide_eq_false_iff_not] at h17
      refine WO_gt rfl ?_
      refine WO_fa (o' := 1) rfl rfl rfl ?_
      refine WO_gt rfl ?_
      refine WO_ldI (x := P (sqI (m 0) + 1)) rfl rfl (.head _) (rfl) ?_
      refine WO_gt rfl ?_
      refine WO_bin (r := .bool _) rfl rfl rfl ?_
      refine WO_gt rfl ?_
      refine WO_mv (v := .s (.bool _)) rfl ?_
      refine WO_case (t := 39) rfl (fun h19 => ?_) (fun h19 => ?_)
      ·try simp only [NM] at h19
       try simp only [isM, decide_eq_true_eq, decide_eq_false_iff_not] at h19
       refine WO_gt rfl ?_
       refine WO_fa (o' := 1) rfl rfl rfl ?_
       refine WO_gt rfl ?_
       refine WO_ldI rfl rfl (.tail _ (.head _)) rfl ?_
       refine WO_gt rfl ?_
       refine WO_quo rfl rfl (by omega) ?_
       refine WO_gt rfl ?_
       refine WO_bin (r := .bool _) rfl rfl rfl ?_
       refine WO_gt rfl ?_
       refine WO_pick (v := .s (.bool _)) rfl rfl ?_
       refine WO_gt rfl ?_
       refine WO_pick (v := .s (.bool _)) rfl rfl ?_
       refine WO_pick (v := .s (.bool _)) rfl rfl ?_
       refine WO_mv (v := .s (.bool _)) rfl ?_
       refine WO_nil ?_
       refine WP_seq ?_
       refine WP_seq ?_
       refine WP_ops ?_
       refine WO_mv (v := .s (.bool _)) rfl ?_
       refine WO_nil ?_
       refine WP_cond rfl (fun h20 => ?_) (fun h20 => ?_)
       ·try simp only [NM] at h20
        try simp only [isM, decide_eq_true_eq, decide_eq_false_iff_not] at h20
        refine WP_seq ?_
        refine WP_ops ?_
        refine WO_fa (o' := 2) rfl rfl rfl ?_
        refine WO_ldI rfl rfl (.tail _ (.head _)) rfl ?_
        refine WO_bin (r := .bool _) rfl rfl rfl ?_
        refine WO_mv (v := .s (.bool _)) rfl ?_
        refine WO_case (t := 51) rfl (fun h21 => ?_) (fun h21 => ?_)
        ·try simp only [NM] at h21
         try simp only [isM, decide_eq_true_eq, decide_eq_false_iff_not] at h21
         refine WO_gt rfl ?_
         refine WO_fa (o' := 2) rfl rfl rfl ?_
         refine WO_gt rfl ?_
         refine WO_ldI rfl rfl (.tail _ (.head _)) rfl ?_
         refine WO_gt rfl ?_
         refine WO_bin (r := .bool _) rfl rfl rfl ?_
         refine WO_pick (v := .s (.bool _)) rfl rfl ?_
         refine WO_mv (v := .s (.bool _)) rfl ?_
         refine WO_nil ?_
         refine WP_ret ?_
         refine ⟨_, RS_tmp (v := .s (.bool _)) rfl (RS_nil), ?_⟩
         refine congrArg (fun b => V.s (S.bool b)) ?_
         simp only [mayM, decide_eq_true_eq, decide_eq_false_iff_not] at *
         unfold canM
         rw [Bool.eq_iff_iff]
         simp only [beq_iff_eq, decide_eq_true_eq, Bool.false_eq_true, true_iff, false_iff, iff_true, iff_false]
         first | omega | (split <;> omega)
        ·try simp only [NM] at h21
         try simp only [isM, decide_eq_true_eq, decide_eq_false_iff_not] at h21
         refine WO_gf rfl rfl ?_
         refine WO_gf rfl rfl ?_
         refine WO_gf rfl rfl ?_
         refine WO_pick (v := .s (.bool _)) rfl rfl ?_
         refine WO_mv (v := .s (.bool _)) rfl ?_
         refine WO_nil ?_
         refine WP_ret ?_
         refine ⟨_, RS_tmp (v := .s (.bool _)) rfl (RS_nil), ?_⟩
         refine congrArg (fun b => V.s (S.bool b)) ?_
         simp only [mayM, decide_eq_true_eq, decide_eq_false_iff_not] at *
         unfold canM
         rw [Bool.eq_iff_iff]
         simp only [beq_iff_eq, decide_eq_true_eq, Bool.false_eq_true, true_iff, false_iff, iff_true, iff_false]
         first | omega | (split <;> omega)
       ·try simp only [NM] at h20
        try simp only [isM, decide_eq_true_eq, decide_eq_false_iff_not] at h20
        refine WP_skip ?_
        refine WP_seq ?_
        refine WP_ops ?_
        refine WO_fa (o' := 2) rfl rfl rfl ?_
        refine WO_ldI rfl rfl (.tail _ (.head _)) rfl ?_
        refine WO_bin (r := .bool _) rfl rfl rfl ?_
        refine WO_mv (v := .s (.bool _)) rfl ?_
        refine WO_nil ?_
        refine WP_ret ?_
        refine ⟨_, RS_tmp (v := .s (.bool _)) rfl (RS_nil), ?_⟩
        refine congrArg (fun b => V.s (S.bool b)) ?_
        simp only [mayM, decide_eq_true_eq, decide_eq_false_iff_not] at *
        unfold canM
        rw [Bool.eq_iff_iff]
        simp only [beq_iff_eq, decide_eq_true_eq, Bool.false_eq_true, true_iff, false_iff, iff_true, iff_false]
        first | omega | (split <;> omega)
      ·try simp only [NM] at h19
       try simp only [isM, decide_eq_true_eq, decide_eq_false_iff_not] at h19
       refine WO_gf rfl rfl ?_
       refine WO_gf rfl rfl ?_
       refine WO_gf rfl rfl ?_
       refine WO_gf rfl rfl ?_
       refine WO_gt rfl ?_
       refine WO_pick (v := .s (.bool _)) rfl rfl ?_
       refine WO_gt rfl ?_
       refine WO_pick (v := .s (.bool _)) rfl rfl ?_
       refine WO_pick (v := .s (.bool _)) rfl rfl ?_
       refine WO_mv (v := .s (.bool _)) rfl ?_
       refine WO_nil ?_
       refine WP_seq ?_
       refine WP_seq ?_
       refine WP_ops ?_
       refine WO_mv (v := .s (.bool _)) rfl ?_
       refine WO_nil ?_
       refine WP_cond rfl (fun h => nomatch h) (fun _ => ?_)
       refine WP_skip ?_
       refine WP_seq ?_
       refine WP_ops ?_
       refine WO_fa (o' := 2) rfl rfl rfl ?_
       refine WO_ldI rfl rfl (.tail _ (.head _)) rfl ?_
       refine WO_bin (r := .bool _) rfl rfl rfl ?_
       refine WO_mv (v := .s (.bool _)) rfl ?_
       refine WO_nil ?_
       refine WP_ret ?_
       refine ⟨_, RS_tmp (v := .s (.bool _)) rfl (RS_nil), ?_⟩
       refine congrArg (fun b => V.s (S.bool b)) ?_
       simp only [mayM, decide_eq_true_eq, decide_eq_false_iff_not] at *
       unfold canM
       rw [Bool.eq_iff_iff]
       simp only [beq_iff_eq, decide_eq_true_eq, Bool.false_eq_true, true_iff, false_iff, iff_true, iff_false]
       first | omega | (split <;> omega)
    ·try simp only [NM] at h16
     try simp only [isM, decide_eq_true_eq, decide_eq_false_iff_not] at h16
     refine WO_gf rfl rfl ?_
     refine WO_gf rfl rfl ?_
     refine WO_gf rfl rfl ?_
     refine WO_gf rfl rfl ?_
     refine WO_gt rfl ?_
     refine WO_pick (v := .s (.bool _)) rfl rfl ?_
     refine WO_gt rfl ?_
     refine WO_mv (v := .s (.bool _)) rfl ?_
     refine WO_gt rfl ?_
     refine WO_fa (o' := 1) rfl rfl rfl ?_
     refine WO_gt rfl ?_
     refine WO_ldI (x := P (sqI (m 0) + 1)) rfl rfl (.head _) (rfl) ?_
     refine WO_gt rfl ?_
     refine WO_bin (r := .bool _) rfl rfl rfl ?_
     refine WO_gt rfl ?_
     refine WO_mv (v := .s (.bool _)) rfl ?_
     refine WO_case (t := 39) rfl (fun h22 => ?_) (fun h22 => ?_)
     ·try simp only [NM] at h22
      try simp only [isM, decide_eq_true_eq, decide_eq_false_iff_not] at h22
      refine WO_gt rfl ?_
      refine WO_fa (o' := 1) rfl rfl rfl ?_
      refine WO_gt rfl ?_
      refine WO_ldI rfl rfl (.tail _ (.head _)) rfl ?_
      refine WO_gt rfl ?_
      refine WO_quo rfl rfl (by omega) ?_
      refine WO_gt rfl ?_
      refine WO_bin (r := .bool _) rfl rfl rfl ?_
      refine WO_gt rfl ?_
      refine WO_pick (v := .s (.bool _)) rfl rfl ?_
      refine WO_gt rfl ?_
      refine WO_pick (v := .s (.bool _)) rfl rfl ?_
      refine WO_pick (v := .s (.bool _)) rfl rfl ?_
      refine WO_mv (v := .s (.bool _)) rfl ?_
      refine WO_nil ?_
      refine WP_seq ?_
      refine WP_seq ?_
      refine WP_ops ?_
      refine WO_mv (v := .s (.bool _)) rfl ?_
      refine WO_nil ?_
      refine WP_cond rfl (fun h23 => ?_) (fun h23 => ?_)
      ·try simp only [NM] at h23
       try simp only [isM, decide_eq_true_eq, decide_eq_false_iff_not] at h23
       refine WP_seq ?_
       refine WP_ops ?_
       refine WO_fa (o' := 2) rfl rfl rfl ?_
       refine WO_ldI rfl rfl (.tail _ (.head _)) rfl ?_
       refine WO_bin (r := .bool _) rfl rfl rfl ?_
       refine WO_mv (v := .s (.bool _)) rfl ?_
       refine WO_case (t := 51) rfl (fun h24 => ?_) (fun h24 => ?_)
       ·try simp only [NM] at h24
        try simp only [isM, decide_eq_true_eq, decide_eq_false_iff_not] at h24
        refine WO_gt rfl ?_
        refine WO_fa (o' := 2) rfl rfl rfl ?_
        refine WO_gt rfl ?_
        refine WO_ldI rfl rfl (.tail _ (.head _)) rfl ?_
        refine WO_gt rfl ?_
        refine WO_bin (r := .bool _) rfl rfl rfl ?_
        refine WO_pick (v := .s (.bool _)) rfl rfl ?_
        refine WO_mv (v := .s (.bool _)) rfl ?_
        refine WO_nil ?_
        refine WP_ret ?_
        refine ⟨_, RS_tmp (v := .s (.bool _)) rfl (RS_nil), ?_⟩
        refine congrArg (fun b => V.s (S.bool b)) ?_
        simp only [mayM, decide_eq_true_eq, decide_eq_false_iff_not] at *
        unfold canM
        rw [Bool.eq_iff_iff]
        simp only [beq_iff_eq, decide_eq_true_eq, Bool.false_eq_true, true_iff, false_iff, iff_true, iff_false]
        first | omega | (split <;> omega)
       ·try simp only [NM] at h24
        try simp only [isM, decide_eq_true_eq, decide_eq_false_iff_not] at h24
        refine WO_gf rfl rfl ?_
        refine WO_gf rfl rfl ?_
        refine WO_gf rfl rfl ?_
        refine WO_pick (v := .s (.bool _)) rfl rfl ?_
        refine WO_mv (v := .s (.bool _)) rfl ?_
        refine WO_nil ?_
        refine WP_ret ?_
        refine ⟨_, RS_tmp (v := .s (.bool _)) rfl (RS_nil), ?_⟩
        refine congrArg (fun b => V.s (S.bool b)) ?_
        simp only [mayM, decide_eq_true_eq, decide_eq_false_iff_not] at *
        unfold canM
        rw [Bool.eq_iff_iff]
        simp only [beq_iff_eq, decide_eq_true_eq, Bool.false_eq_true, true_iff, false_iff, iff_true, iff_false]
        first | omega | (split <;> omega)
      ·try simp only [NM] at h23
       try simp only [isM, decide_eq_true_eq, decide_eq_false_iff_not] at h23
       refine WP_skip ?_
       refine WP_seq ?_
       refine WP_ops ?_
       refine WO_fa (o' := 2) rfl rfl rfl ?_
       refine WO_ldI rfl rfl (.tail _ (.head _)) rfl ?_
       refine WO_bin (r := .bool _) rfl rfl rfl ?_
       refine WO_mv (v := .s (.bool _)) rfl ?_
       refine WO_nil ?_
       refine WP_ret ?_
       refine ⟨_, RS_tmp (v := .s (.bool _)) rfl (RS_nil), ?_⟩
       refine congrArg (fun b => V.s (S.bool b)) ?_
       simp only [mayM, decide_eq_true_eq, decide_eq_false_iff_not] at *
       unfold canM
       rw [Bool.eq_iff_iff]
       simp only [beq_iff_eq, decide_eq_true_eq, Bool.false_eq_true, true_iff, false_iff, iff_true, iff_false]
       first | omega | (split <;> omega)
     ·try simp only [NM] at h22
      try simp only [isM, decide_eq_true_eq, decide_eq_false_iff_not] at h22
      refine WO_gf rfl rfl ?_
      refine WO_gf rfl rfl ?_
      refine WO_gf rfl rfl ?_
      refine WO_gf rfl rfl ?_
      refine WO_gt rfl ?_
      refine WO_pick (v := .s (.bool _)) rfl rfl ?_
      refine WO_gt rfl ?_
      refine WO_pick (v := .s (.bool _)) rfl rfl ?_
      refine WO_pick (v := .s (.bool _)) rfl rfl ?_
      refine WO_mv (v := .s (.bool _)) rfl ?_
      refine WO_nil ?_
      refine WP_seq ?_
      refine WP_seq ?_
      refine WP_ops ?_
      refine WO_mv (v := .s (.bool _)) rfl ?_
      refine WO_nil ?_
      refine WP_cond rfl (fun h => nomatch h) (fun _ => ?_)
      refine WP_skip ?_
      refine WP_seq ?_
      refine WP_ops ?_
      refine WO_fa (o' := 2) rfl rfl rfl ?_
      refine WO_ldI rfl rfl (.tail _ (.head _)) rfl ?_
      refine WO_bin (r := .bool _) rfl rfl rfl ?_
      refine WO_mv (v := .s (.bool _)) rfl ?_
      refine WO_nil ?_
      refine WP_ret ?_
      refine ⟨_, RS_tmp (v := .s (.bool _)) rfl (RS_nil), ?_⟩
      refine congrArg (fun b => V.s (S.bool b)) ?_
      simp only [mayM, decide_eq_true_eq, decide_eq_false_iff_not] at *
      unfold canM
      rw [Bool.eq_iff_iff]
      simp only [beq_iff_eq, decide_eq_true_eq, Bool.false_eq_true, true_iff, false_iff, iff_true, iff_false]
      first | omega | (split <;> omega)
   ·try simp only [NM] at h15
    try simp only [isM, decide_eq_true_eq, decide_eq_false_iff_not] at h15
    refine WO_gf rfl rfl ?_
    refine WO_gf rfl rfl ?_
    refine WO_gf rfl rfl ?_
    refine WO_gf rfl rfl ?_
    refine WO_gu rfl ?_
    refine WO_gu rfl ?_
    refine WO_gu rfl ?_
    refine WO_gu rfl ?_
    refine WO_gf rfl rfl ?_
    refine WO_gf rfl rfl ?_
    refine WO_gu rfl ?_
    refine WO_gu rfl ?_
    refine WO_gu rfl ?_
    refine WO_gu rfl ?_
    refine WO_gu rfl ?_
    refine WO_gu rfl ?_
    refine WO_gu rfl ?_
    refine WO_gu rfl ?_
    refine WO_gu rfl ?_
    refine WO_gf rfl rfl ?_
    refine WO_pick (v := .s (.bool _)) rfl rfl ?_
    refine WO_mv (v := .s (.bool _)) rfl ?_
    refine WO_nil ?_
    refine WP_seq ?_
    refine WP_seq ?_
    refine WP_ops ?_
    refine WO_mv (v := .s (.bool _)) rfl ?_
    refine WO_nil ?_
    refine WP_cond rfl (fun h => nomatch h) (fun _ => ?_)
    refine WP_skip ?_
    refine WP_seq ?_
    refine WP_ops ?_
    refine WO_fa (o' := 2) rfl rfl rfl ?_
    refine WO_ldI rfl rfl (.tail _ (.head _)) rfl ?_
    refine WO_bin (r := .bool _) rfl rfl rfl ?_
    refine WO_mv (v := .s (.bool _)) rfl ?_
    refine WO_nil ?_
    refine WP_ret ?_
    refine ⟨_, RS_tmp (v := .s (.bool _)) rfl (RS_nil), ?_⟩
    refine congrArg (fun b => V.s (S.bool b)) ?_
    simp only [mayM, decide_eq_true_eq, decide_eq_false_iff_not] at *
    unfold canM
    rw [Bool.eq_iff_iff]
    simp only [beq_iff_eq, decide_eq_true_eq, Bool.false_eq_true, true_iff, false_iff, iff_true, iff_false]
    first | omega | (split <;> omega)
theorem rover_run (P m : Nat → Int) (ha : 0 ≤ m 0 ∧ m 0 < 64) (ht : 0 ≤ m 1 ∧ m 1 < 64) : WR AM 105 [.agg 133 (ia P), .agg 3 (ia m)] [] (fun v _ _ => v = .s (.bool (decide (P (sqI (m 0)) = 1 ∧ m 1 % 8 ≠ m 0 % 8 ∧ m 1 = P 130 ∧ emptyM P (m 1) = true)))) := by
 refine WR_fn (a := a105) rfl rfl (entryF _) (entry_E (Nat.le_of_ble_eq_true rfl)) (m := 0) rfl ?_
 refine WP_seq ?_
 refine WP_ops ?_
 refine WO_boxA rfl ?_
 refine WO_boxA rfl ?_
 refine WO_mv rfl ?_
 refine WO_nil ?_
 refine WP_seq ?_
 refine WP_ops ?_
 refine WO_fa (o' := 0) rfl rfl rfl ?_
 refine WO_ldI rfl rfl (.head _) rfl ?_
 refine WO_fa (o' := 0) rfl rfl rfl ?_
 refine WO_ixa rfl rfl rfl (by omega) ?_
 refine WO_fa rfl rfl rfl ?_
 refine WO_ldI (x := P (sqI (m 0))) rfl rfl (.tail _ (.head _)) (rfl) ?_
 refine WO_bin (r := .bool _) rfl rfl rfl ?_
 refine WO_mv (v := .s (.bool _)) rfl ?_
 refine WO_case (t := 12) rfl (fun h25 => ?_) (fun h25 => ?_)
 ·try simp only [NM] at h25
  try simp only [isM, decide_eq_true_eq, decide_eq_false_iff_not] at h25
  refine WO_gt rfl ?_
  refine WO_fa (o' := 0) rfl rfl rfl ?_
  refine WO_gt rfl ?_
  refine WO_ldI (x := m 0) rfl rfl (.head _) (rfl) ?_
  refine WO_gt rfl ?_
  refine WO_rem rfl rfl (by omega) ?_
  refine WO_gt rfl ?_
  refine WO_fa (o' := 1) rfl rfl rfl ?_
  refine WO_gt rfl ?_
  refine WO_ldI (x := m 1) rfl rfl (.head _) (rfl) ?_
  refine WO_gt rfl ?_
  refine WO_rem rfl rfl (by omega) ?_
  refine WO_gt rfl ?_
  refine WO_bin (r := .bool _) rfl rfl rfl ?_
  refine WO_pick (v := .s (.bool _)) rfl rfl ?_
  refine WO_mv (v := .s (.bool _)) rfl ?_
  refine WO_case (t := 21) rfl (fun h26 => ?_) (fun h26 => ?_)
  ·try simp only [NM] at h26
   try simp only [isM, decide_eq_true_eq, decide_eq_false_iff_not] at h26
   refine WO_gt rfl ?_
   refine WO_fa (o' := 1) rfl rfl rfl ?_
   refine WO_gt rfl ?_
   refine WO_ldI (x := m 1) rfl rfl (.head _) (rfl) ?_
   refine WO_gt rfl ?_
   refine WO_fa (o' := 130) rfl rfl rfl ?_
   refine WO_gt rfl ?_
   refine WO_ldI (x := P 130) rfl rfl (.tail _ (.head _)) (rfl) ?_
   refine WO_gt rfl ?_
   refine WO_bin (r := .bool _) rfl rfl rfl ?_
   refine WO_pick (v := .s (.bool _)) rfl rfl ?_
   refine WO_mv (v := .s (.bool _)) rfl ?_
   refine WO_case (t := 28) rfl (fun h27 => ?_) (fun h27 => ?_)
   ·try simp only [NM] at h27
    try simp only [isM, decide_eq_true_eq, decide_eq_false_iff_not] at h27
    refine WO_gt rfl ?_
    refine WO_fa (o' := 1) rfl rfl rfl ?_
    refine WO_gt rfl ?_
    refine WO_ldI rfl rfl (.head _) rfl ?_
    refine WO_gt rfl ?_
    refine WO_fa (o' := 0) rfl rfl rfl ?_
    refine WO_gt rfl ?_
    refine WO_ixa rfl rfl rfl (by omega) ?_
    refine WO_gt rfl ?_
    first | refine WO_ldA0 rfl rfl (.tail _ (.head _)) ?_ | refine WO_ldAI rfl rfl (.tail _ (.head _)) ?_
    refine WO_gt rfl ?_
    refine WO_buildI rfl .nil ?_
    refine WO_gt rfl ?_
    refine WO_eqa rfl rfl ?_
    refine WO_pick (v := .s (.bool _)) rfl rfl ?_
    refine WO_mv (v := .s (.bool _)) rfl ?_
    refine WO_nil ?_
    refine WP_ret ?_
    refine ⟨_, RS_tmp (v := .s (.bool _)) rfl (RS_nil), ?_⟩
    refine congrArg (fun b => V.s (S.bool b)) ?_
    obtain ⟨e, he⟩ : ∃ e, e = emptyM P (m 1) := ⟨_, rfl⟩
    first | (show emptyM P (m 1) = _; rw [← he]; cases e) | rw [← he]
    all_goals rw [Bool.eq_iff_iff]
    all_goals simp only [beq_iff_eq, decide_eq_true_eq, Bool.false_eq_true, true_iff, false_iff, iff_true, iff_false, and_true, and_false, not_false_eq_true]
    all_goals omega
   ·try simp only [NM] at h27
    try simp only [isM, decide_eq_true_eq, decide_eq_false_iff_not] at h27
    refine WO_gf rfl rfl ?_
    refine WO_gf rfl rfl ?_
    refine WO_gf rfl rfl ?_
    refine WO_gf rfl rfl ?_
    refine WO_gf rfl rfl ?_
    refine WO_gf rfl rfl ?_
    refine WO_gf rfl rfl ?_
    refine WO_pick (v := .s (.bool _)) rfl rfl ?_
    refine WO_mv (v := .s (.bool _)) rfl ?_
    refine WO_nil ?_
    refine WP_ret ?_
    refine ⟨_, RS_tmp (v := .s (.bool _)) rfl (RS_nil), ?_⟩
    refine congrArg (fun b => V.s (S.bool b)) ?_
    obtain ⟨e, he⟩ : ∃ e, e = emptyM P (m 1) := ⟨_, rfl⟩
    first | (show emptyM P (m 1) = _; rw [← he]; cases e) | rw [← he]
    all_goals rw [Bool.eq_iff_iff]
    all_goals simp only [beq_iff_eq, decide_eq_true_eq, Bool.false_eq_true, true_iff, false_iff, iff_true, iff_false, and_true, and_false, not_false_eq_true]
    all_goals omega
  ·try simp only [NM] at h26
   try simp only [isM, decide_eq_true_eq, decide_eq_false_iff_not] at h26
   refine WO_gf rfl rfl ?_
   refine WO_gf rfl rfl ?_
   refine WO_gf rfl rfl ?_
   refine WO_gf rfl rfl ?_
   refine WO_gf rfl rfl ?_
   refine WO_pick (v := .s (.bool _)) rfl rfl ?_
   refine WO_mv (v := .s (.bool _)) rfl ?_
   refine WO_gf rfl rfl ?_
   refine WO_gf rfl rfl ?_
   refine WO_gf rfl rfl ?_
   refine WO_gf rfl rfl ?_
   refine WO_gf rfl rfl ?_
   refine WO_gf rfl rfl ?_
   refine WO_gf rfl rfl ?_
   refine WO_pick (v := .s (.bool _)) rfl rfl ?_
   refine WO_mv (v := .s (.bool _)) rfl ?_
   refine WO_nil ?_
   refine WP_ret ?_
   refine ⟨_, RS_tmp (v := .s (.bool _)) rfl (RS_nil), ?_⟩
   refine congrArg (fun b => V.s (S.bool b)) ?_
   obtain ⟨e, he⟩ : ∃ e, e = emptyM P (m 1) := ⟨_, rfl⟩
   first | (show emptyM P (m 1) = _; rw [← he]; cases e) | rw [← he]
   all_goals rw [Bool.eq_iff_iff]
   all_goals simp only [beq_iff_eq, decide_eq_true_eq, Bool.false_eq_true, true_iff, false_iff, iff_true, iff_false, and_true, and_false, not_false_eq_true]
   all_goals omega
 ·try simp only [NM] at h25
  try simp only [isM, decide_eq_true_eq, decide_eq_false_iff_not] at h25
  refine WO_gf rfl rfl ?_
  refine WO_gf rfl rfl ?_
  refine WO_gf rfl rfl ?_
  refine WO_gf rfl rfl ?_
  refine WO_gf rfl rfl ?_
  refine WO_gf rfl rfl ?_
  refine WO_gf rfl rfl ?_
  refine WO_pick (v := .s (.bool _)) rfl rfl ?_
  refine WO_mv (v := .s (.bool _)) rfl ?_
  refine WO_gf rfl rfl ?_
  refine WO_gf rfl rfl ?_
  refine WO_gf rfl rfl ?_
  refine WO_gf rfl rfl ?_
  refine WO_gf rfl rfl ?_
  refine WO_pick (v := .s (.bool _)) rfl rfl ?_
  refine WO_mv (v := .s (.bool _)) rfl ?_
  refine WO_gf rfl rfl ?_
  refine WO_gf rfl rfl ?_
  refine WO_gf rfl rfl ?_
  refine WO_gf rfl rfl ?_
  refine WO_gf rfl rfl ?_
  refine WO_gf rfl rfl ?_
  refine WO_gf rfl rfl ?_
  refine WO_pick (v := .s (.bool _)) rfl rfl ?_
  refine WO_mv (v := .s (.bool _)) rfl ?_
  refine WO_nil ?_
  refine WP_ret ?_
  refine ⟨_, RS_tmp (v := .s (.bool _)) rfl (RS_nil), ?_⟩
  refine congrArg (fun b => V.s (S.bool b)) ?_
  obtain ⟨e, he⟩ : ∃ e, e = emptyM P (m 1) := ⟨_, rfl⟩
  first | (show emptyM P (m 1) = _; rw [← he]; cases e) | rw [← he]
  all_goals rw [Bool.eq_iff_iff]
  all_goals simp only [beq_iff_eq, decide_eq_true_eq, Bool.false_eq_true, true_iff, false_iff, iff_true, iff_false, and_true, and_false, not_false_eq_true]
  all_goals omega
theorem rlong_run (X m : Nat → Int) (hc : X 1 = 0 ∨ X 1 = 1) (ha : 0 ≤ m 0 ∧ m 0 < 64) (ht : 0 ≤ m 1 ∧ m 1 < 64) : WR AM 103 [.agg 2 (ia X), .agg 3 (ia m)] [] (fun v _ _ => v = .s (.bool (longM (X 0) (m 0) (m 1) (X 1)))) := by
 refine WR_fn (a := a103) rfl rfl (entryF _) (entry_E (Nat.le_of_ble_eq_true rfl)) (m := 0) rfl ?_
 refine WP_seq ?_
 refine WP_ops ?_
 refine WO_boxA rfl ?_
 refine WO_boxA rfl ?_
 refine WO_mv rfl ?_
 refine WO_nil ?_
 refine WP_seq ?_
 refine WP_seq ?_
 refine WP_ops ?_
 refine WO_fa (o' := 0) rfl rfl rfl ?_
 refine WO_ldI rfl rfl (.tail _ (.head _)) rfl ?_
 refine WO_bin (r := .bool _) rfl rfl rfl ?_
 refine WO_mv (v := .s (.bool _)) rfl ?_
 refine WO_case (t := 8) rfl (fun h28 => ?_) (fun h28 => ?_)
 ·try simp only [NM] at h28
  try simp only [isM, decide_eq_true_eq, decide_eq_false_iff_not] at h28
  refine WO_gf rfl rfl ?_
  refine WO_gf rfl rfl ?_
  refine WO_gf rfl rfl ?_
  refine WO_gf rfl rfl ?_
  refine WO_gf rfl rfl ?_
  refine WO_gf rfl rfl ?_
  refine WO_gf rfl rfl ?_
  refine WO_pick (v := .s (.bool _)) rfl rfl ?_
  refine WO_nil ?_
  refine WP_cond rfl (fun _ => ?_) (fun h => nomatch h)
  refine WP_seq ?_
  refine WP_ops ?_
  refine WO_mv rfl ?_
  refine WO_nil ?_
  refine WP_ret ?_
  refine ⟨_, RS_tmp (v := .s (.bool _)) rfl (RS_nil), ?_⟩
  refine congrArg (fun b => V.s (S.bool b)) ?_
  unfold longM
  rw [Bool.eq_iff_iff]
  simp only [beq_iff_eq, decide_eq_true_eq, Bool.false_eq_true, true_iff, false_iff, iff_true, iff_false]
  omega
 ·try simp only [NM] at h28
  try simp only [isM, decide_eq_true_eq, decide_eq_false_iff_not] at h28
  refine WO_gt rfl ?_
  refine WO_fa (o' := 0) rfl rfl rfl ?_
  refine WO_gt rfl ?_
  refine WO_ldI rfl rfl (.head _) rfl ?_
  refine WO_gt rfl ?_
  refine WO_rem rfl rfl (by omega) ?_
  refine WO_gt rfl ?_
  refine WO_fa (o' := 1) rfl rfl rfl ?_
  refine WO_gt rfl ?_
  refine WO_ldI rfl rfl (.head _) rfl ?_
  refine WO_gt rfl ?_
  refine WO_rem rfl rfl (by omega) ?_
  refine WO_gt rfl ?_
  refine WO_bin (r := .bool _) rfl rfl rfl ?_
  refine WO_pick (v := .s (.bool _)) rfl rfl ?_
  refine WO_nil ?_
  refine WP_cond rfl (fun h29 => ?_) (fun h29 => ?_)
  ·try simp only [NM] at h29
   try simp only [isM, decide_eq_true_eq, decide_eq_false_iff_not] at h29
   refine WP_seq ?_
   refine WP_ops ?_
   refine WO_mv rfl ?_
   refine WO_nil ?_
   refine WP_ret ?_
   refine ⟨_, RS_tmp (v := .s (.bool _)) rfl (RS_nil), ?_⟩
   refine congrArg (fun b => V.s (S.bool b)) ?_
   unfold longM
   rw [Bool.eq_iff_iff]
   simp only [beq_iff_eq, decide_eq_true_eq, Bool.false_eq_true, true_iff, false_iff, iff_true, iff_false]
   omega
  ·try simp only [NM] at h29
   try simp only [isM, decide_eq_true_eq, decide_eq_false_iff_not] at h29
   refine WP_skip ?_
   refine WP_seq ?_
   refine WP_ops ?_
   refine WO_fa (o' := 1) rfl rfl rfl ?_
   refine WO_ldI rfl rfl (.tail _ (.head _)) rfl ?_
   refine WO_bin (r := .bool _) rfl rfl rfl ?_
   refine WO_mv (v := .s (.bool _)) rfl ?_
   refine WO_case (t := 20) rfl (fun h30 => ?_) (fun h30 => ?_)
   ·try simp only [NM] at h30
    try simp only [isM, decide_eq_true_eq, decide_eq_false_iff_not] at h30
    refine WO_gt rfl ?_
    refine WO_fa (o' := 0) rfl rfl rfl ?_
    refine WO_gt rfl ?_
    refine WO_ldI rfl rfl (.head _) rfl ?_
    refine WO_gt rfl ?_
    refine WO_quo rfl rfl (by omega) ?_
    refine WO_gt rfl ?_
    refine WO_bin (r := .bool _) rfl rfl rfl ?_
    refine WO_pick (v := .s (.bool _)) rfl rfl ?_
    refine WO_mv (v := .s (.bool _)) rfl ?_
    refine WO_case (t := 26) rfl (fun h31 => ?_) (fun h31 => ?_)
    ·try simp only [NM] at h31
     try simp only [isM, decide_eq_true_eq, decide_eq_false_iff_not] at h31
     refine WO_gt rfl ?_
     refine WO_fa (o' := 1) rfl rfl rfl ?_
     refine WO_gt rfl ?_
     refine WO_ldI rfl rfl (.head _) rfl ?_
     refine WO_gt rfl ?_
     refine WO_quo rfl rfl (by omega) ?_
     refine WO_gt rfl ?_
     refine WO_bin (r := .bool _) rfl rfl rfl ?_
     refine WO_pick (v := .s (.bool _)) rfl rfl ?_
     refine WO_mv (v := .s (.bool _)) rfl ?_
     refine WO_case (t := 32) rfl (fun h32 => ?_) (fun h32 => ?_)
     ·try simp only [NM] at h32
      try simp only [isM, decide_eq_true_eq, decide_eq_false_iff_not] at h32
      refine WO_gf rfl rfl ?_
      refine WO_gf rfl rfl ?_
      refine WO_gf rfl rfl ?_
      refine WO_gf rfl rfl ?_
      refine WO_gu rfl ?_
      refine WO_gu rfl ?_
      refine WO_gu rfl ?_
      refine WO_gu rfl ?_
      refine WO_gf rfl rfl ?_
      refine WO_gf rfl rfl ?_
      refine WO_gu rfl ?_
      refine WO_gu rfl ?_
      refine WO_gu rfl ?_
      refine WO_gu rfl ?_
      refine WO_gf rfl rfl ?_
      refine WO_pick (v := .s (.bool _)) rfl rfl ?_
      refine WO_mv (v := .s (.bool _)) rfl ?_
      refine WO_nil ?_
      refine WP_ret ?_
      refine ⟨_, RS_tmp (v := .s (.bool _)) rfl (RS_nil), ?_⟩
      refine congrArg (fun b => V.s (S.bool b)) ?_
      unfold longM
      rw [Bool.eq_iff_iff]
      simp only [beq_iff_eq, decide_eq_true_eq, Bool.false_eq_true, true_iff, false_iff, iff_true, iff_false]
      omega
     ·try simp only [NM] at h32
      try simp only [isM, decide_eq_true_eq, decide_eq_false_iff_not] at h32
      refine WO_gt rfl ?_
      refine WO_fa (o' := 1) rfl rfl rfl ?_
      refine WO_gt rfl ?_
      refine WO_ldI rfl rfl (.tail _ (.head _)) rfl ?_
      refine WO_gt rfl ?_
      refine WO_bin (r := .bool _) rfl rfl rfl ?_
      refine WO_gt rfl ?_
      refine WO_mv (v := .s (.bool _)) rfl ?_
      refine WO_case (t := 36) rfl (fun h33 => ?_) (fun h33 => ?_)
      ·try simp only [NM] at h33
       try simp only [isM, decide_eq_true_eq, decide_eq_false_iff_not] at h33
       refine WO_gt rfl ?_
       refine WO_fa (o' := 0) rfl rfl rfl ?_
       refine WO_gt rfl ?_
       refine WO_ldI rfl rfl (.head _) rfl ?_
       refine WO_gt rfl ?_
       refine WO_quo rfl rfl (by omega) ?_
       refine WO_gt rfl ?_
       refine WO_bin (r := .bool _) rfl rfl rfl ?_
       refine WO_gt rfl ?_
       refine WO_pick (v := .s (.bool _)) rfl rfl ?_
       refine WO_gt rfl ?_
       refine WO_mv (v := .s (.bool _)) rfl ?_
       refine WO_case (t := 42) rfl (fun h34 => ?_) (fun h34 => ?_)
       ·try simp only [NM] at h34
        try simp only [isM, decide_eq_true_eq, decide_eq_false_iff_not] at h34
        refine WO_gt rfl ?_
        refine WO_fa (o' := 1) rfl rfl rfl ?_
        refine WO_gt rfl ?_
        refine WO_ldI rfl rfl (.head _) rfl ?_
        refine WO_gt rfl ?_
        refine WO_quo rfl rfl (by omega) ?_
        refine WO_gt rfl ?_
        refine WO_bin (r := .bool _) rfl rfl rfl ?_
        refine WO_gt rfl ?_
        refine WO_pick (v := .s (.bool _)) rfl rfl ?_
        refine WO_pick (v := .s (.bool _)) rfl rfl ?_
        refine WO_mv (v := .s (.bool _)) rfl ?_
        refine WO_nil ?_
        refine WP_ret ?_
        refine ⟨_, RS_tmp (v := .s (.bool _)) rfl (RS_nil), ?_⟩
        refine congrArg (fun b => V.s (S.bool b)) ?_
        unfold longM
        rw [Bool.eq_iff_iff]
        simp only [beq_iff_eq, decide_eq_true_eq, Bool.false_eq_true, true_iff, false_iff, iff_true, iff_false]
        omega
       ·try simp only [NM] at h34
        try simp only [isM, decide_eq_true_eq, decide_eq_false_iff_not] at h34
        refine WO_gf rfl rfl ?_
        refine WO_gf rfl rfl ?_
        refine WO_gf rfl rfl ?_
        refine WO_gf rfl rfl ?_
        refine WO_gt rfl ?_
        refine WO_pick (v := .s (.bool _)) rfl rfl ?_
        refine WO_pick (v := .s (.bool _)) rfl rfl ?_
        refine WO_mv (v := .s (.bool _)) rfl ?_
        refine WO_nil ?_
        refine WP_ret ?_
        refine ⟨_, RS_tmp (v := .s (.bool _)) rfl (RS_nil), ?_⟩
        refine congrArg (fun b => V.s (S.bool b)) ?_
        unfold longM
        rw [Bool.eq_iff_iff]
        simp only [beq_iff_eq, decide_eq_true_eq, Bool.false_eq_true, true_iff, false_iff, iff_true, iff_false]
        omega
      ·try simp only [NM] at h33
       try simp only [isM, decide_eq_true_eq, decide_eq_false_iff_not] at h33
       refine WO_gf rfl rfl ?_
       refine WO_gf rfl rfl ?_
       refine WO_gf rfl rfl ?_
       refine WO_gf rfl rfl ?_
       refine WO_gt rfl ?_
       refine WO_pick (v := .s (.bool _)) rfl rfl ?_
       refine WO_gt rfl ?_
       refine WO_mv (v := .s (.bool _)) rfl ?_
       refine WO_gf rfl rfl ?_
       refine WO_gf rfl rfl ?_
       refine WO_gf rfl rfl ?_
       refine WO_gf rfl rfl ?_
       refine WO_gt rfl ?_
       refine WO_pick (v := .s (.bool _)) rfl rfl ?_
       refine WO_pick (v := .s (.bool _)) rfl rfl ?_
       refine WO_mv (v := .s (.bool _)) rfl ?_
       refine WO_nil ?_
       refine WP_ret ?_
       refine ⟨_, RS_tmp (v := .s (.bool _)) rfl (RS_nil), ?_⟩
       refine congrArg (fun b => V.s (S.bool b)) ?_
       unfold longM
       rw [Bool.eq_iff_iff]
       simp only [beq_iff_eq, decide_eq_true_eq, Bool.false_eq_true, true_iff, false_iff, iff_true, iff_false]
       omega
    ·try simp only [NM] at h31
     try simp only [isM, decide_eq_true_eq, decide_eq_false_iff_not] at h31
     refine WO_gf rfl rfl ?_
     refine WO_gf rfl rfl ?_
     refine WO_gf rfl rfl ?_
     refine WO_gf rfl rfl ?_
     refine WO_pick (v := .s (.bool _)) rfl rfl ?_
     refine WO_mv (v := .s (.bool _)) rfl ?_
     refine WO_gt rfl ?_
     refine WO_fa (o' := 1) rfl rfl rfl ?_
     refine WO_gt rfl ?_
     refine WO_ldI rfl rfl (.tail _ (.head _)) rfl ?_
     refine WO_gt rfl ?_
     refine WO_bin (r := .bool _) rfl rfl rfl ?_
     refine WO_gt rfl ?_
     refine WO_mv (v := .s (.bool _)) rfl ?_
     refine WO_case (t := 36) rfl (fun h35 => ?_) (fun h35 => ?_)
     ·try simp only [NM] at h35
      try simp only [isM, decide_eq_true_eq, decide_eq_false_iff_not] at h35
      refine WO_gt rfl ?_
      refine WO_fa (o' := 0) rfl rfl rfl ?_
      refine WO_gt rfl ?_
      refine WO_ldI rfl rfl (.head _) rfl ?_
      refine WO_gt rfl ?_
      refine WO_quo rfl rfl (by omega) ?_
      refine WO_gt rfl ?_
      refine WO_bin (r := .bool _) rfl rfl rfl ?_
      refine WO_gt rfl ?_
      refine WO_pick (v := .s (.bool _)) rfl rfl ?_
      refine WO_gt rfl ?_
      refine WO_mv (v := .s (.bool _)) rfl ?_
      refine WO_case (t := 42) rfl (fun h36 => ?_) (fun h36 => ?_)
      ·try simp only [NM] at h36
       try simp only [isM, decide_eq_true_eq, decide_eq_false_iff_not] at h36
       refine WO_gt rfl ?_
       refine WO_fa (o' := 1) rfl rfl rfl ?_
       refine WO_gt rfl ?_
       refine WO_ldI rfl rfl (.head _) rfl ?_
       refine WO_gt rfl ?_
       refine WO_quo rfl rfl (by omega) ?_
       refine WO_gt rfl ?_
       refine WO_bin (r := .bool _) rfl rfl rfl ?_
       refine WO_gt rfl ?_
       refine WO_pick (v := .s (.bool _)) rfl rfl ?_
       refine WO_pick (v := .s (.bool _)) rfl rfl ?_
       refine WO_mv (v := .s (.bool _)) rfl ?_
       refine WO_nil ?_
       refine WP_ret ?_
       refine ⟨_, RS_tmp (v := .s (.bool _)) rfl (RS_nil), ?_⟩
       refine congrArg (fun b => V.s (S.bool b)) ?_
       unfold longM
       rw [Bool.eq_iff_iff]
       simp only [beq_iff_eq, decide_eq_true_eq, Bool.false_eq_true, true_iff, false_iff, iff_true, iff_false]
       omega
      ·try simp only [NM] at h36
       try simp only [isM, decide_eq_true_eq, decide_eq_false_iff_not] at h36
       refine WO_gf rfl rfl ?_
       refine WO_gf rfl rfl ?_
       refine WO_gf rfl rfl ?_
       refine WO_gf rfl rfl ?_
       refine WO_gt rfl ?_
       refine WO_pick (v := .s (.bool _)) rfl rfl ?_
       refine WO_pick (v := .s (.bool _)) rfl rfl ?_
       refine WO_mv (v := .s (.bool _)) rfl ?_
       refine WO_nil ?_
       refine WP_ret ?_
       refine ⟨_, RS_tmp (v := .s (.bool _)) rfl (RS_nil), ?_⟩
       refine congrArg (fun b => V.s (S.bool b)) ?_
       unfold longM
       rw [Bool.eq_iff_iff]
       simp only [beq_iff_eq, decide_eq_true_eq, Bool.false_eq_true, true_iff, false_iff, iff_true, iff_false]
       omega
     ·try simp only [NM] at h35
      try simp only [isM, decide_eq_true_eq, decide_eq_false_iff_not] at h35
      refine WO_gf rfl rfl ?_
      refine WO_gf rfl rfl ?_
      refine WO_gf rfl rfl ?_
      refine WO_gf rfl rfl ?_
      refine WO_gt rfl ?_
      refine WO_pick (v := .s (.bool _)) rfl rfl ?_
      refine WO_gt rfl ?_
      refine WO_mv (v := .s (.bool _)) rfl ?_
      refine WO_gf rfl rfl ?_
      refine WO_gf rfl rfl ?_
      refine WO_gf rfl rfl ?_
      refine WO_gf rfl rfl ?_
      refine WO_gt rfl ?_
      refine WO_pick (v := .s (.bool _)) rfl rfl ?_
      refine WO_pick (v := .s (.bool _)) rfl rfl ?_
      refine WO_mv (v := .s (.bool _)) rfl ?_
      refine WO_nil ?_
      refine WP_ret ?_
      refine ⟨_, RS_tmp (v := .s (.bool _)) rfl (RS_nil), ?_⟩
      refine congrArg (fun b => V.s (S.bool b)) ?_
      unfold longM
      rw [Bool.eq_iff_iff]
      simp only [beq_iff_eq, decide_eq_true_eq, Bool.false_eq_true, true_iff, false_iff, iff_true, iff_false]
      omega
   ·try simp only [NM] at h30
    try simp only [isM, decide_eq_true_eq, decide_eq_false_iff_not] at h30
    refine WO_gf rfl rfl ?_
    refine WO_gf rfl rfl ?_
    refine WO_gf rfl rfl ?_
    refine WO_gf rfl rfl ?_
    refine WO_pick (v := .s (.bool _)) rfl rfl ?_
    refine WO_mv (v := .s (.bool _)) rfl ?_
    refine WO_gf rfl rfl ?_
    refine WO_gf rfl rfl ?_
    refine WO_gf rfl rfl ?_
    refine WO_gf rfl rfl ?_
    refine WO_pick (v := .s (.bool _)) rfl rfl ?_
    refine WO_mv (v := .s (.bool _)) rfl ?_
    refine WO_gt rfl ?_
    refine WO_fa (o' := 1) rfl rfl rfl ?_
    refine WO_gt rfl ?_
    refine WO_ldI rfl rfl (.tail _ (.head _)) rfl ?_
    refine WO_gt rfl ?_
    refine WO_bin (r := .bool _) rfl rfl rfl ?_
    refine WO_gt rfl ?_
    refine WO_mv (v := .s (.bool _)) rfl ?_
    refine WO_case (t := 36) rfl (fun h37 => ?_) (fun h37 => ?_)
    ·try simp only [NM] at h37
     try simp only [isM, decide_eq_true_eq, decide_eq_false_iff_not] at h37
     refine WO_gt rfl ?_
     refine WO_fa (o' := 0) rfl rfl rfl ?_
     refine WO_gt rfl ?_
     refine WO_ldI rfl rfl (.head _) rfl ?_
     refine WO_gt rfl ?_
     refine WO_quo rfl rfl (by omega) ?_
     refine WO_gt rfl ?_
     refine WO_bin (r := .bool _) rfl rfl rfl ?_
     refine WO_gt rfl ?_
     refine WO_pick (v := .s (.bool _)) rfl rfl ?_
     refine WO_gt rfl ?_
     refine WO_mv (v := .s (.bool _)) rfl ?_
     refine WO_case (t := 42) rfl (fun h38 => ?_) (fun h38 => ?_)
     ·try simp only [NM] at h38
      try simp only [isM, decide_eq_true_eq, decide_eq_false_iff_not] at h38
      refine WO_gt rfl ?_
      refine WO_fa (o' := 1) rfl rfl rfl ?_
      refine WO_gt rfl ?_
      refine WO_ldI rfl rfl (.head _) rfl ?_
      refine WO_gt rfl ?_
      refine WO_quo rfl rfl (by omega) ?_
      refine WO_gt rfl ?_
      refine WO_bin (r := .bool _) rfl rfl rfl ?_
      refine WO_gt rfl ?_
      refine WO_pick (v := .s (.bool _)) rfl rfl ?_
      refine WO_pick (v := .s (.bool _)) rfl rfl ?_
      refine WO_mv (v := .s (.bool _)) rfl ?_
      refine WO_nil ?_
      refine WP_ret ?_
      refine ⟨_, RS_tmp (v := .s (.bool _)) rfl (RS_nil), ?_⟩
      refine congrArg (fun b => V.s (S.bool b)) ?_
      unfold longM
      rw [Bool.eq_iff_iff]
      simp only [beq_iff_eq, decide_eq_true_eq, Bool.false_eq_true, true_iff, false_iff, iff_true, iff_false]
      omega
     ·try simp only [NM] at h38
      try simp only [isM, decide_eq_true_eq, decide_eq_false_iff_not] at h38
      refine WO_gf rfl rfl ?_
      refine WO_gf rfl rfl ?_
      refine WO_gf rfl rfl ?_
      refine WO_gf rfl rfl ?_
      refine WO_gt rfl ?_
      refine WO_pick (v := .s (.bool _)) rfl rfl ?_
      refine WO_pick (v := .s (.bool _)) rfl rfl ?_
      refine WO_mv (v := .s (.bool _)) rfl ?_
      refine WO_nil ?_
      refine WP_ret ?_
      refine ⟨_, RS_tmp (v := .s (.bool _)) rfl (RS_nil), ?_⟩
      refine congrArg (fun b => V.s (S.bool b)) ?_
      unfold longM
      rw [Bool.eq_iff_iff]
      simp only [beq_iff_eq, decide_eq_true_eq, Bool.false_eq_true, true_iff, false_iff, iff_true, iff_false]
      omega
    ·try simp only [NM] at h37
     try simp only [isM, decide_eq_true_eq, decide_eq_false_iff_not] at h37
     refine WO_gf rfl rfl ?_
     refine WO_gf rfl rfl ?_
     refine WO_gf rfl rfl ?_
     refine WO_gf rfl rfl ?_
     refine WO_gt rfl ?_
     refine WO_pick (v := .s (.bool _)) rfl rfl ?_
     refine WO_gt rfl ?_
     refine WO_mv (v := .s (.bool _)) rfl ?_
     refine WO_gf rfl rfl ?_
     refine WO_gf rfl rfl ?_
     refine WO_gf rfl rfl ?_
     refine WO_gf rfl rfl ?_
     refine WO_gt rfl ?_
     refine WO_pick (v := .s (.bool _)) rfl rfl ?_
     refine WO_pick (v := .s (.bool _)) rfl rfl ?_
     refine WO_mv (v := .s (.bool _)) rfl ?_
     refine WO_nil ?_
     refine WP_ret ?_
     refine ⟨_, RS_tmp (v := .s (.bool _)) rfl (RS_nil), ?_⟩
     refine congrArg (fun b => V.s (S.bool b)) ?_
     unfold longM
     rw [Bool.eq_iff_iff]
     simp only [beq_iff_eq, decide_eq_true_eq, Bool.false_eq_true, true_iff, false_iff, iff_true, iff_false]
     omega
theorem bit_div {C : Int} (h : 0 ≤ C) (s : Int) (hs : s = 1 ∨ s = 2 ∨ s = 4 ∨ s = 8) : 0 ≤ C / s := Int.ediv_nonneg h (by omega)

theorem rcastling_run (P m : Nat → Int) (hc : P (sqI (m 0) + 1) = 0 ∨ P (sqI (m 0) + 1) = 1) (ha : 0 ≤ m 0 ∧ m 0 < 64) (ht : 0 ≤ m 1 ∧ m 1 < 64) : WR AM 99 [.agg 133 (ia P), .agg 3 (ia m)] [] (fun v _ _ => v = .s (.int .i64 (castlingM (P (sqI (m 0))) (m 0) (m 1) (P (sqI (m 0) + 1)) (castM P)))) := by
 have hC := castM_bd P
 have d1 := bit_div hC.1 1 (by omega)
 have d2 := bit_div hC.1 2 (by omega)
 have d4 := bit_div hC.1 4 (by omega)
 have d8 := bit_div hC.1 8 (by omega)
 refine WR_fn (a := a99) rfl rfl (entryF _) (entry_E (Nat.le_of_ble_eq_true rfl)) (m := 0) rfl ?_
 refine WP_seq ?_
 refine WP_ops ?_
 refine WO_boxA rfl ?_
 refine WO_boxA rfl ?_
 refine WO_mv rfl ?_
 refine WO_nil ?_
 refine WP_seq ?_
 refine WP_ops ?_
 refine WO_fa (o' := 0) rfl rfl rfl ?_
 refine WO_ldI rfl rfl (.head _) rfl ?_
 refine WO_fa (o' := 0) rfl rfl rfl ?_
 refine WO_ixa rfl rfl rfl (by omega) ?_
 first | refine WO_ldA0 rfl rfl (.tail _ (.head _)) ?_ | refine WO_ldAI rfl rfl (.tail _ (.head _)) ?_
 refine WO_allocI ?_
 refine WO_stA rfl rfl rfl rfl .here ?_
 refine WO_nil ?_
 refine WP_seq ?_
 refine WP_ops ?_
 refine WO_mv rfl ?_
 refine WO_mv rfl ?_
 refine WO_mv rfl ?_
 refine WO_nil ?_
 refine WP_seq ?_
 refine WP_seq ?_
 refine WP_ops ?_
 refine WO_fa (o' := 1) rfl rfl rfl ?_
 refine WO_ldI (x := P (sqI (m 0) + 1)) rfl rfl (.head _) (rfl) ?_
 refine WO_bin (r := .bool _) rfl rfl rfl ?_
 refine WO_nil ?_
 refine WP_cond rfl (fun h39 => ?_) (fun h39 => ?_)
 ·try simp only [NM] at h39
  try simp only [isM, decide_eq_true_eq, decide_eq_false_iff_not] at h39
  refine WP_ops ?_
  refine WO_mv rfl ?_
  refine WO_mv rfl ?_
  refine WO_mv rfl ?_
  refine WO_nil ?_
  refine WP_seq ?_
  refine WP_seq ?_
  refine WP_ops ?_
  refine WO_fa (o' := 0) rfl rfl rfl ?_
  refine WO_ldI (x := P (sqI (m 0))) rfl rfl (.head _) (rfl) ?_
  refine WO_bin (r := .bool _) rfl rfl rfl ?_
  refine WO_mv (v := .s (.bool _)) rfl ?_
  refine WO_case (t := 20) rfl (fun h40 => ?_) (fun h40 => ?_)
  ·try simp only [NM] at h40
   try simp only [isM, decide_eq_true_eq, decide_eq_false_iff_not] at h40
   refine WO_gf rfl rfl ?_
   refine WO_gf rfl rfl ?_
   refine WO_gf rfl rfl ?_
   refine WO_gf rfl rfl ?_
   refine WO_pick (v := .s (.bool _)) rfl rfl ?_
   refine WO_nil ?_
   refine WP_cond rfl (fun _ => ?_) (fun h => nomatch h)
   refine WP_seq ?_
   refine WP_ops ?_
   refine WO_mv rfl ?_
   refine WO_nil ?_
   refine WP_ret ?_
   refine ⟨_, RS_tmp (v := .s (.int _ _)) rfl (RS_nil), ?_⟩
   refine congrArg (fun b => V.s (S.int .i64 b)) ?_
   rcases hc with hc | hc
   all_goals simp only [castlingM, shortM, hc, if_true, if_false, Int.reduceEq, Int.reduceMul, Int.reduceAdd]
   all_goals (repeat' split) <;> omega
  ·try simp only [NM] at h40
   try simp only [isM, decide_eq_true_eq, decide_eq_false_iff_not] at h40
   refine WO_gt rfl ?_
   refine WO_fa (o' := 0) rfl rfl rfl ?_
   refine WO_gt rfl ?_
   refine WO_ldI (x := m 0) rfl rfl (.tail _ (.head _)) (rfl) ?_
   refine WO_gt rfl ?_
   refine WO_mv (v := .s (.int _ _)) rfl ?_
   refine WO_gt rfl ?_
   refine WO_bin (r := .bool _) rfl rfl rfl ?_
   refine WO_pick (v := .s (.bool _)) rfl rfl ?_
   refine WO_nil ?_
   refine WP_cond rfl (fun h41 => ?_) (fun h41 => ?_)
   ·try simp only [NM] at h41
    try simp only [isM, decide_eq_true_eq, decide_eq_false_iff_not] at h41
    refine WP_seq ?_
    refine WP_ops ?_
    refine WO_mv rfl ?_
    refine WO_nil ?_
    refine WP_ret ?_
    refine ⟨_, RS_tmp (v := .s (.int _ _)) rfl (RS_nil), ?_⟩
    refine congrArg (fun b => V.s (S.int .i64 b)) ?_
    rcases hc with hc | hc
    all_goals simp only [castlingM, shortM, hc, if_true, if_false, Int.reduceEq, Int.reduceMul, Int.reduceAdd]
    all_goals (repeat' split) <;> omega
   ·try simp only [NM] at h41
    try simp only [isM, decide_eq_true_eq, decide_eq_false_iff_not] at h41
    refine WP_skip ?_
    refine WP_seq ?_
    refine WP_seq ?_
    refine WP_ops ?_
    refine WO_fa (o' := 1) rfl rfl rfl ?_
    refine WO_ldI (x := m 1) rfl rfl (.tail _ (.head _)) (rfl) ?_
    refine WO_mv (v := .s (.int _ _)) rfl ?_
    refine WO_add rfl rfl (by omega) ?_
    refine WO_bin (r := .bool _) rfl rfl rfl ?_
    refine WO_mv (v := .s (.bool _)) rfl ?_
    refine WO_case (t := 31) rfl (fun h42 => ?_) (fun h42 => ?_)
    ·try simp only [NM] at h42
     try simp only [isM, decide_eq_true_eq, decide_eq_false_iff_not] at h42
     refine WO_gt rfl ?_
     first | refine WO_ldA0 rfl rfl (.tail _ (.tail _ (.head _))) ?_ | refine WO_ldAI rfl rfl (.tail _ (.tail _ (.head _))) ?_
     refine WO_gt rfl ?_
     refine WO_call0 rfl (RF_of (rcastles_run _)) rfl rfl rfl ?_
     refine WO_gt rfl ?_
     refine WO_mv (v := .s (.int _ _)) rfl ?_
     refine WO_gt rfl ?_
     refine WO_quo rfl rfl (by omega) ?_
     refine WO_gt rfl ?_
     refine WO_rem rfl rfl (by omega) ?_
     refine WO_gt rfl ?_
     refine WO_bin (r := .bool _) rfl rfl rfl ?_
     refine WO_pick (v := .s (.bool _)) rfl rfl ?_
     refine WO_nil ?_
     refine WP_cond rfl (fun h43 => ?_) (fun h43 => ?_)
     ·try simp only [NM] at h43
      try simp only [isM, decide_eq_true_eq, decide_eq_false_iff_not] at h43
      refine WP_seq ?_
      refine WP_ops ?_
      refine WO_mv rfl ?_
      refine WO_nil ?_
      refine WP_ret ?_
      refine ⟨_, RS_tmp (v := .s (.int _ _)) rfl (RS_nil), ?_⟩
      refine congrArg (fun b => V.s (S.int .i64 b)) ?_
      rcases hc with hc | hc
      all_goals simp only [castlingM, shortM, hc, if_true, if_false, Int.reduceEq, Int.reduceMul, Int.reduceAdd]
      all_goals (repeat' split) <;> omega
     ·try simp only [NM] at h43
      try simp only [isM, decide_eq_true_eq, decide_eq_false_iff_not] at h43
      refine WP_skip ?_
      refine WP_seq ?_
      refine WP_seq ?_
      refine WP_ops ?_
      refine WO_fa (o' := 1) rfl rfl rfl ?_
      refine WO_ldI (x := m 1) rfl rfl (.tail _ (.head _)) (rfl) ?_
      refine WO_mv (v := .s (.int _ _)) rfl ?_
      refine WO_sub rfl rfl (by omega) ?_
      refine WO_bin (r := .bool _) rfl rfl rfl ?_
      refine WO_mv (v := .s (.bool _)) rfl ?_
      refine WO_case (t := 44) rfl (fun h44 => ?_) (fun h44 => ?_)
      ·try simp only [NM] at h44
       try simp only [isM, decide_eq_true_eq, decide_eq_false_iff_not] at h44
       refine WO_gt rfl ?_
       first | refine WO_ldA0 rfl rfl (.tail _ (.tail _ (.head _))) ?_ | refine WO_ldAI rfl rfl (.tail _ (.tail _ (.head _))) ?_
       refine WO_gt rfl ?_
       refine WO_call0 rfl (RF_of (rcastles_run _)) rfl rfl rfl ?_
       refine WO_gt rfl ?_
       refine WO_mv (v := .s (.int _ _)) rfl ?_
       refine WO_gt rfl ?_
       refine WO_quo rfl rfl (by omega) ?_
       refine WO_gt rfl ?_
       refine WO_rem rfl rfl (by omega) ?_
       refine WO_gt rfl ?_
       refine WO_bin (r := .bool _) rfl rfl rfl ?_
       refine WO_pick (v := .s (.bool _)) rfl rfl ?_
       refine WO_nil ?_
       refine WP_cond rfl (fun h45 => ?_) (fun h45 => ?_)
       ·try simp only [NM] at h45
        try simp only [isM, decide_eq_true_eq, decide_eq_false_iff_not] at h45
        refine WP_seq ?_
        refine WP_ops ?_
        refine WO_mv rfl ?_
        refine WO_nil ?_
        refine WP_ret ?_
        refine ⟨_, RS_tmp (v := .s (.int _ _)) rfl (RS_nil), ?_⟩
        refine congrArg (fun b => V.s (S.int .i64 b)) ?_
        rcases hc with hc | hc
        all_goals simp only [castlingM, shortM, hc, if_true, if_false, Int.reduceEq, Int.reduceMul, Int.reduceAdd]
        all_goals (repeat' split) <;> omega
       ·try simp only [NM] at h45
        try simp only [isM, decide_eq_true_eq, decide_eq_false_iff_not] at h45
        refine WP_skip ?_
        refine WP_seq ?_
        refine WP_ops ?_
        refine WO_mv rfl ?_
        refine WO_nil ?_
        refine WP_ret ?_
        refine ⟨_, RS_tmp (v := .s (.int _ _)) rfl (RS_nil), ?_⟩
        refine congrArg (fun b => V.s (S.int .i64 b)) ?_
        rcases hc with hc | hc
        all_goals simp only [castlingM, shortM, hc, if_true, if_false, Int.reduceEq, Int.reduceMul, Int.reduceAdd]
        all_goals (repeat' split) <;> omega
      ·try simp only [NM] at h44
       try simp only [isM, decide_eq_true_eq, decide_eq_false_iff_not] at h44
       refine WO_gf rfl rfl ?_
       refine WO_gf rfl rfl ?_
       refine WO_gf rfl rfl ?_
       refine WO_gf rfl rfl ?_
       refine WO_gf rfl rfl ?_
       refine WO_gf rfl rfl ?_
       refine WO_pick (v := .s (.bool _)) rfl rfl ?_
       refine WO_nil ?_
       refine WP_cond rfl (fun h => nomatch h) (fun _ => ?_)
       refine WP_skip ?_
       refine WP_seq ?_
       refine WP_ops ?_
       refine WO_mv rfl ?_
       refine WO_nil ?_
       refine WP_ret ?_
       refine ⟨_, RS_tmp (v := .s (.int _ _)) rfl (RS_nil), ?_⟩
       refine congrArg (fun b => V.s (S.int .i64 b)) ?_
       rcases hc with hc | hc
       all_goals simp only [castlingM, shortM, hc, if_true, if_false, Int.reduceEq, Int.reduceMul, Int.reduceAdd]
       all_goals (repeat' split) <;> omega
    ·try simp only [NM] at h42
     try simp only [isM, decide_eq_true_eq, decide_eq_false_iff_not] at h42
     refine WO_gf rfl rfl ?_
     refine WO_gf rfl rfl ?_
     refine WO_gf rfl rfl ?_
     refine WO_gf rfl rfl ?_
     refine WO_gf rfl rfl ?_
     refine WO_gf rfl rfl ?_
     refine WO_pick (v := .s (.bool _)) rfl rfl ?_
     refine WO_nil ?_
     refine WP_cond rfl (fun h => nomatch h) (fun _ => ?_)
     refine WP_skip ?_
     refine WP_seq ?_
     refine WP_seq ?_
     refine WP_ops ?_
     refine WO_fa (o' := 1) rfl rfl rfl ?_
     refine WO_ldI (x := m 1) rfl rfl (.tail _ (.head _)) (rfl) ?_
     refine WO_mv (v := .s (.int _ _)) rfl ?_
     refine WO_sub rfl rfl (by omega) ?_
     refine WO_bin (r := .bool _) rfl rfl rfl ?_
     refine WO_mv (v := .s (.bool _)) rfl ?_
     refine WO_case (t := 44) rfl (fun h46 => ?_) (fun h46 => ?_)
     ·try simp only [NM] at h46
      try simp only [isM, decide_eq_true_eq, decide_eq_false_iff_not] at h46
      refine WO_gt rfl ?_
      first | refine WO_ldA0 rfl rfl (.tail _ (.tail _ (.head _))) ?_ | refine WO_ldAI rfl rfl (.tail _ (.tail _ (.head _))) ?_
      refine WO_gt rfl ?_
      refine WO_call0 rfl (RF_of (rcastles_run _)) rfl rfl rfl ?_
      refine WO_gt rfl ?_
      refine WO_mv (v := .s (.int _ _)) rfl ?_
      refine WO_gt rfl ?_
      refine WO_quo rfl rfl (by omega) ?_
      refine WO_gt rfl ?_
      refine WO_rem rfl rfl (by omega) ?_
      refine WO_gt rfl ?_
      refine WO_bin (r := .bool _) rfl rfl rfl ?_
      refine WO_pick (v := .s (.bool _)) rfl rfl ?_
      refine WO_nil ?_
      refine WP_cond rfl (fun h47 => ?_) (fun h47 => ?_)
      ·try simp only [NM] at h47
       try simp only [isM, decide_eq_true_eq, decide_eq_false_iff_not] at h47
       refine WP_seq ?_
       refine WP_ops ?_
       refine WO_mv rfl ?_
       refine WO_nil ?_
       refine WP_ret ?_
       refine ⟨_, RS_tmp (v := .s (.int _ _)) rfl (RS_nil), ?_⟩
       refine congrArg (fun b => V.s (S.int .i64 b)) ?_
       rcases hc with hc | hc
       all_goals simp only [castlingM, shortM, hc, if_true, if_false, Int.reduceEq, Int.reduceMul, Int.reduceAdd]
       all_goals (repeat' split) <;> omega
      ·try simp only [NM] at h47
       try simp only [isM, decide_eq_true_eq, decide_eq_false_iff_not] at h47
       refine WP_skip ?_
       refine WP_seq ?_
       refine WP_ops ?_
       refine WO_mv rfl ?_
       refine WO_nil ?_
       refine WP_ret ?_
       refine ⟨_, RS_tmp (v := .s (.int _ _)) rfl (RS_nil), ?_⟩
       refine congrArg (fun b => V.s (S.int .i64 b)) ?_
       rcases hc with hc | hc
       all_goals simp only [castlingM, shortM, hc, if_true, if_false, Int.reduceEq, Int.reduceMul, Int.reduceAdd]
       all_goals (repeat' split) <;> omega
     ·try simp only [NM] at h46
      try simp only [isM, decide_eq_true_eq, decide_eq_false_iff_not] at h46
      refine WO_gf rfl rfl ?_
      refine WO_gf rfl rfl ?_
      refine WO_gf rfl rfl ?_
      refine WO_gf rfl rfl ?_
      refine WO_gf rfl rfl ?_
      refine WO_gf rfl rfl ?_
      refine WO_pick (v := .s (.bool _)) rfl rfl ?_
      refine WO_nil ?_
      refine WP_cond rfl (fun h => nomatch h) (fun _ => ?_)
      refine WP_skip ?_
      refine WP_seq ?_
      refine WP_ops ?_
      refine WO_mv rfl ?_
      refine WO_nil ?_
      refine WP_ret ?_
      refine ⟨_, RS_tmp (v := .s (.int _ _)) rfl (RS_nil), ?_⟩
      refine congrArg (fun b => V.s (S.int .i64 b)) ?_
      rcases hc with hc | hc
      all_goals simp only [castlingM, shortM, hc, if_true, if_false, Int.reduceEq, Int.reduceMul, Int.reduceAdd]
      all_goals (repeat' split) <;> omega
 ·try simp only [NM] at h39
  try simp only [isM, decide_eq_true_eq, decide_eq_false_iff_not] at h39
  refine WP_skip ?_
  refine WP_seq ?_
  refine WP_seq ?_
  refine WP_ops ?_
  refine WO_fa (o' := 0) rfl rfl rfl ?_
  refine WO_ldI (x := P (sqI (m 0))) rfl rfl (.head _) (rfl) ?_
  refine WO_bin (r := .bool _) rfl rfl rfl ?_
  refine WO_mv (v := .s (.bool _)) rfl ?_
  refine WO_case (t := 20) rfl (fun h48 => ?_) (fun h48 => ?_)
  ·try simp only [NM] at h48
   try simp only [isM, decide_eq_true_eq, decide_eq_false_iff_not] at h48
   refine WO_gf rfl rfl ?_
   refine WO_gf rfl rfl ?_
   refine WO_gf rfl rfl ?_
   refine WO_gf rfl rfl ?_
   refine WO_pick (v := .s (.bool _)) rfl rfl ?_
   refine WO_nil ?_
   refine WP_cond rfl (fun _ => ?_) (fun h => nomatch h)
   refine WP_seq ?_
   refine WP_ops ?_
   refine WO_mv rfl ?_
   refine WO_nil ?_
   refine WP_ret ?_
   refine ⟨_, RS_tmp (v := .s (.int _ _)) rfl (RS_nil), ?_⟩
   refine congrArg (fun b => V.s (S.int .i64 b)) ?_
   rcases hc with hc | hc
   all_goals simp only [castlingM, shortM, hc, if_true, if_false, Int.reduceEq, Int.reduceMul, Int.reduceAdd]
   all_goals (repeat' split) <;> omega
  ·try simp only [NM] at h48
   try simp only [isM, decide_eq_true_eq, decide_eq_false_iff_not] at h48
   refine WO_gt rfl ?_
   refine WO_fa (o' := 0) rfl rfl rfl ?_
   refine WO_gt rfl ?_
   refine WO_ldI (x := m 0) rfl rfl (.tail _ (.head _)) (rfl) ?_
   refine WO_gt rfl ?_
   refine WO_mv (v := .s (.int _ _)) rfl ?_
   refine WO_gt rfl ?_
   refine WO_bin (r := .bool _) rfl rfl rfl ?_
   refine WO_pick (v := .s (.bool _)) rfl rfl ?_
   refine WO_nil ?_
   refine WP_cond rfl (fun h49 => ?_) (fun h49 => ?_)
   ·try simp only [NM] at h49
    try simp only [isM, decide_eq_true_eq, decide_eq_false_iff_not] at h49
    refine WP_seq ?_
    refine WP_ops ?_
    refine WO_mv rfl ?_
    refine WO_nil ?_
    refine WP_ret ?_
    refine ⟨_, RS_tmp (v := .s (.int _ _)) rfl (RS_nil), ?_⟩
    refine congrArg (fun b => V.s (S.int .i64 b)) ?_
    rcases hc with hc | hc
    all_goals simp only [castlingM, shortM, hc, if_true, if_false, Int.reduceEq, Int.reduceMul, Int.reduceAdd]
    all_goals (repeat' split) <;> omega
   ·try simp only [NM] at h49
    try simp only [isM, decide_eq_true_eq, decide_eq_false_iff_not] at h49
    refine WP_skip ?_
    refine WP_seq ?_
    refine WP_seq ?_
    refine WP_ops ?_
    refine WO_fa (o' := 1) rfl rfl rfl ?_
    refine WO_ldI (x := m 1) rfl rfl (.tail _ (.head _)) (rfl) ?_
    refine WO_mv (v := .s (.int _ _)) rfl ?_
    refine WO_add rfl rfl (by omega) ?_
    refine WO_bin (r := .bool _) rfl rfl rfl ?_
    refine WO_mv (v := .s (.bool _)) rfl ?_
    refine WO_case (t := 31) rfl (fun h50 => ?_) (fun h50 => ?_)
    ·try simp only [NM] at h50
     try simp only [isM, decide_eq_true_eq, decide_eq_false_iff_not] at h50
     refine WO_gt rfl ?_
     first | refine WO_ldA0 rfl rfl (.tail _ (.tail _ (.head _))) ?_ | refine WO_ldAI rfl rfl (.tail _ (.tail _ (.head _))) ?_
     refine WO_gt rfl ?_
     refine WO_call0 rfl (RF_of (rcastles_run _)) rfl rfl rfl ?_
     refine WO_gt rfl ?_
     refine WO_mv (v := .s (.int _ _)) rfl ?_
     refine WO_gt rfl ?_
     refine WO_quo rfl rfl (by omega) ?_
     refine WO_gt rfl ?_
     refine WO_rem rfl rfl (by omega) ?_
     refine WO_gt rfl ?_
     refine WO_bin (r := .bool _) rfl rfl rfl ?_
     refine WO_pick (v := .s (.bool _)) rfl rfl ?_
     refine WO_nil ?_
     refine WP_cond rfl (fun h51 => ?_) (fun h51 => ?_)
     ·try simp only [NM] at h51
      try simp only [isM, decide_eq_true_eq, decide_eq_false_iff_not] at h51
      refine WP_seq ?_
      refine WP_ops ?_
      refine WO_mv rfl ?_
      refine WO_nil ?_
      refine WP_ret ?_
      refine ⟨_, RS_tmp (v := .s (.int _ _)) rfl (RS_nil), ?_⟩
      refine congrArg (fun b => V.s (S.int .i64 b)) ?_
      rcases hc with hc | hc
      all_goals simp only [castlingM, shortM, hc, if_true, if_false, Int.reduceEq, Int.reduceMul, Int.reduceAdd]
      all_goals (repeat' split) <;> omega
     ·try simp only [NM] at h51
      try simp only [isM, decide_eq_true_eq, decide_eq_false_iff_not] at h51
      refine WP_skip ?_
      refine WP_seq ?_
      refine WP_seq ?_
      refine WP_ops ?_
      refine WO_fa (o' := 1) rfl rfl rfl ?_
      refine WO_ldI (x := m 1) rfl rfl (.tail _ (.head _)) (rfl) ?_
      refine WO_mv (v := .s (.int _ _)) rfl ?_
      refine WO_sub rfl rfl (by omega) ?_
      refine WO_bin (r := .bool _) rfl rfl rfl ?_
      refine WO_mv (v := .s (.bool _)) rfl ?_
      refine WO_case (t := 44) rfl (fun h52 => ?_) (fun h52 => ?_)
      ·try simp only [NM] at h52
       try simp only [isM, decide_eq_true_eq, decide_eq_false_iff_not] at h52
       refine WO_gt rfl ?_
       first | refine WO_ldA0 rfl rfl (.tail _ (.tail _ (.head _))) ?_ | refine WO_ldAI rfl rfl (.tail _ (.tail _ (.head _))) ?_
       refine WO_gt rfl ?_
       refine WO_call0 rfl (RF_of (rcastles_run _)) rfl rfl rfl ?_
       refine WO_gt rfl ?_
       refine WO_mv (v := .s (.int _ _)) rfl ?_
       refine WO_gt rfl ?_
       refine WO_quo rfl rfl (by omega) ?_
       refine WO_gt rfl ?_
       refine WO_rem rfl rfl (by omega) ?_
       refine WO_gt rfl ?_
       refine WO_bin (r := .bool _) rfl rfl rfl ?_
       refine WO_pick (v := .s (.bool _)) rfl rfl ?_
       refine WO_nil ?_
       refine WP_cond rfl (fun h53 => ?_) (fun h53 => ?_)
       ·try simp only [NM] at h53
        try simp only [isM, decide_eq_true_eq, decide_eq_false_iff_not] at h53
        refine WP_seq ?_
        refine WP_ops ?_
        refine WO_mv rfl ?_
        refine WO_nil ?_
        refine WP_ret ?_
        refine ⟨_, RS_tmp (v := .s (.int _ _)) rfl (RS_nil), ?_⟩
        refine congrArg (fun b => V.s (S.int .i64 b)) ?_
        rcases hc with hc | hc
        all_goals simp only [castlingM, shortM, hc, if_true, if_false, Int.reduceEq, Int.reduceMul, Int.reduceAdd]
        all_goals (repeat' split) <;> omega
       ·try simp only [NM] at h53
        try simp only [isM, decide_eq_true_eq, decide_eq_false_iff_not] at h53
        refine WP_skip ?_
        refine WP_seq ?_
        refine WP_ops ?_
        refine WO_mv rfl ?_
        refine WO_nil ?_
        refine WP_ret ?_
        refine ⟨_, RS_tmp (v := .s (.int _ _)) rfl (RS_nil), ?_⟩
        refine congrArg (fun b => V.s (S.int .i64 b)) ?_
        rcases hc with hc | hc
        all_goals simp only [castlingM, shortM, hc, if_true, if_false, Int.reduceEq, Int.reduceMul, Int.reduceAdd]
        all_goals (repeat' split) <;> omega
      ·try simp only [NM] at h52
       try simp only [isM, decide_eq_true_eq, decide_eq_false_iff_not] at h52
       refine WO_gf rfl rfl ?_
       refine WO_gf rfl rfl ?_
       refine WO_gf rfl rfl ?_
       refine WO_gf rfl rfl ?_
       refine WO_gf rfl rfl ?_
       refine WO_gf rfl rfl ?_
       refine WO_pick (v := .s (.bool _)) rfl rfl ?_
       refine WO_nil ?_
       refine WP_cond rfl (fun h => nomatch h) (fun _ => ?_)
       refine WP_skip ?_
       refine WP_seq ?_
       refine WP_ops ?_
       refine WO_mv rfl ?_
       refine WO_nil ?_
       refine WP_ret ?_
       refine ⟨_, RS_tmp (v := .s (.int _ _)) rfl (RS_nil), ?_⟩
       refine congrArg (fun b => V.s (S.int .i64 b)) ?_
       rcases hc with hc | hc
       all_goals simp only [castlingM, shortM, hc, if_true, if_false, Int.reduceEq, Int.reduceMul, Int.reduceAdd]
       all_goals (repeat' split) <;> omega
    ·try simp only [NM] at h50
     try simp only [isM, decide_eq_true_eq, decide_eq_false_iff_not] at h50
     refine WO_gf rfl rfl ?_
     refine WO_gf rfl rfl ?_
     refine WO_gf rfl rfl ?_
     refine WO_gf rfl rfl ?_
     refine WO_gf rfl rfl ?_
     refine WO_gf rfl rfl ?_
     refine WO_pick (v := .s (.bool _)) rfl rfl ?_
     refine WO_nil ?_
     refine WP_cond rfl (fun h => nomatch h) (fun _ => ?_)
     refine WP_skip ?_
     refine WP_seq ?_
     refine WP_seq ?_
     refine WP_ops ?_
     refine WO_fa (o' := 1) rfl rfl rfl ?_
     refine WO_ldI (x := m 1) rfl rfl (.tail _ (.head _)) (rfl) ?_
     refine WO_mv (v := .s (.int _ _)) rfl ?_
     refine WO_sub rfl rfl (by omega) ?_
     refine WO_bin (r := .bool _) rfl rfl rfl ?_
     refine WO_mv (v := .s (.bool _)) rfl ?_
     refine WO_case (t := 44) rfl (fun h54 => ?_) (fun h54 => ?_)
     ·try simp only [NM] at h54
      try simp only [isM, decide_eq_true_eq, decide_eq_false_iff_not] at h54
      refine WO_gt rfl ?_
      first | refine WO_ldA0 rfl rfl (.tail _ (.tail _ (.head _))) ?_ | refine WO_ldAI rfl rfl (.tail _ (.tail _ (.head _))) ?_
      refine WO_gt rfl ?_
      refine WO_call0 rfl (RF_of (rcastles_run _)) rfl rfl rfl ?_
      refine WO_gt rfl ?_
      refine WO_mv (v := .s (.int _ _)) rfl ?_
      refine WO_gt rfl ?_
      refine WO_quo rfl rfl (by omega) ?_
      refine WO_gt rfl ?_
      refine WO_rem rfl rfl (by omega) ?_
      refine WO_gt rfl ?_
      refine WO_bin (r := .bool _) rfl rfl rfl ?_
      refine WO_pick (v := .s (.bool _)) rfl rfl ?_
      refine WO_nil ?_
      refine WP_cond rfl (fun h55 => ?_) (fun h55 => ?_)
      ·try simp only [NM] at h55
       try simp only [isM, decide_eq_true_eq, decide_eq_false_iff_not] at h55
       refine WP_seq ?_
       refine WP_ops ?_
       refine WO_mv rfl ?_
       refine WO_nil ?_
       refine WP_ret ?_
       refine ⟨_, RS_tmp (v := .s (.int _ _)) rfl (RS_nil), ?_⟩
       refine congrArg (fun b => V.s (S.int .i64 b)) ?_
       rcases hc with hc | hc
       all_goals simp only [castlingM, shortM, hc, if_true, if_false, Int.reduceEq, Int.reduceMul, Int.reduceAdd]
       all_goals (repeat' split) <;> omega
      ·try simp only [NM] at h55
       try simp only [isM, decide_eq_true_eq, decide_eq_false_iff_not] at h55
       refine WP_skip ?_
       refine WP_seq ?_
       refine WP_ops ?_
       refine WO_mv rfl ?_
       refine WO_nil ?_
       refine WP_ret ?_
       refine ⟨_, RS_tmp (v := .s (.int _ _)) rfl (RS_nil), ?_⟩
       refine congrArg (fun b => V.s (S.int .i64 b)) ?_
       rcases hc with hc | hc
       all_goals simp only [castlingM, shortM, hc, if_true, if_false, Int.reduceEq, Int.reduceMul, Int.reduceAdd]
       all_goals (repeat' split) <;> omega
     ·try simp only [NM] at h54
      try simp only [isM, decide_eq_true_eq, decide_eq_false_iff_not] at h54
      refine WO_gf rfl rfl ?_
      refine WO_gf rfl rfl ?_
      refine WO_gf rfl rfl ?_
      refine WO_gf rfl rfl ?_
      refine WO_gf rfl rfl ?_
      refine WO_gf rfl rfl ?_
      refine WO_pick (v := .s (.bool _)) rfl rfl ?_
      refine WO_nil ?_
      refine WP_cond rfl (fun h => nomatch h) (fun _ => ?_)
      refine WP_skip ?_
      refine WP_seq ?_
      refine WP_ops ?_
      refine WO_mv rfl ?_
      refine WO_nil ?_
      refine WP_ret ?_
      refine ⟨_, RS_tmp (v := .s (.int _ _)) rfl (RS_nil), ?_⟩
      refine congrArg (fun b => V.s (S.int .i64 b)) ?_
      rcases hc with hc | hc
      all_goals simp only [castlingM, shortM, hc, if_true, if_false, Int.reduceEq, Int.reduceMul, Int.reduceAdd]
      all_goals (repeat' split) <;> omega
theorem rTakes_run (P m : Nat → Int) : WR AM 67 [.agg 133 (ia P), .agg 3 (ia m)] [] (fun v _ _ => v = .s (.int .i64 (if errM P (m 0) (m 1) (m 2) = 0 then takesM P (P (sqI (m 0))) (m 0) (m 1) else -1))) := by
 refine WR_fn (a := a67) rfl rfl (entryF _) (entry_E (Nat.le_of_ble_eq_true rfl)) (m := 0) rfl ?_
 refine WP_seq ?_
 refine WP_ops ?_
 refine WO_boxA rfl ?_
 refine WO_boxA rfl ?_
 refine WO_mv rfl ?_
 refine WO_nil ?_
 refine WP_seq ?_
 refine WP_seq ?_
 refine WP_ops ?_
 refine WO_fa (o' := 0) rfl rfl rfl ?_
 refine WO_ldI rfl rfl (.head _) rfl ?_
 refine WO_call0 rfl (RF_of (ris_run _)) rfl rfl rfl ?_
 refine WO_un (r := .bool _) rfl rfl ?_
 refine WO_mv (v := .s (.bool _)) rfl ?_
 refine WO_case (t := 10) rfl (fun h56 => ?_) (fun h56 => ?_)
 ·try simp only [NM] at h56
  try simp only [isM, decide_eq_true_eq, decide_eq_false_iff_not] at h56
  refine WO_gf rfl rfl ?_
  refine WO_gf rfl rfl ?_
  refine WO_gf rfl rfl ?_
  refine WO_gf rfl rfl ?_
  refine WO_pick (v := .s (.bool _)) rfl rfl ?_
  refine WO_mv (v := .s (.bool _)) rfl ?_
  refine WO_gf rfl rfl ?_
  refine WO_gf rfl rfl ?_
  refine WO_gf rfl rfl ?_
  refine WO_gf rfl rfl ?_
  refine WO_gf rfl rfl ?_
  refine WO_pick (v := .s (.bool _)) rfl rfl ?_
  refine WO_mv (v := .s (.bool _)) rfl ?_
  refine WO_gf rfl rfl ?_
  refine WO_gf rfl rfl ?_
  refine WO_gf rfl rfl ?_
  refine WO_gf rfl rfl ?_
  refine WO_pick (v := .s (.bool _)) rfl rfl ?_
  refine WO_nil ?_
  refine WP_cond rfl (fun _ => ?_) (fun h => nomatch h)
  refine WP_seq ?_
  refine WP_ops ?_
  refine WO_mv rfl ?_
  refine WO_nil ?_
  refine WP_ret ?_
  refine ⟨_, RS_tmp (v := .s (.int _ _)) rfl (RS_nil), ?_⟩
  refine congrArg (fun b => V.s (S.int .i64 b)) ?_
  first | (rw [if_pos ge, takesM, show emptyM P (atT P (P (sqI (m 0))) (m 0) (m 1)) = true from (by assumption)]; rfl) | (rw [if_pos ge, takesM, show emptyM P (atT P (P (sqI (m 0))) (m 0) (m 1)) = false from (by assumption)]; rfl) | (rw [errM_out (by omega)]; rfl) | (rw [errM_not (by omega) (by assumption)]; rfl)
 ·try simp only [NM] at h56
  try simp only [isM, decide_eq_true_eq, decide_eq_false_iff_not] at h56
  refine WO_gt rfl ?_
  refine WO_fa (o' := 1) rfl rfl rfl ?_
  refine WO_gt rfl ?_
  refine WO_ldI rfl rfl (.head _) rfl ?_
  refine WO_gt rfl ?_
  refine WO_call0 rfl (RF_of (ris_run _)) rfl rfl rfl ?_
  refine WO_gt rfl ?_
  refine WO_un (r := .bool _) rfl rfl ?_
  refine WO_pick (v := .s (.bool _)) rfl rfl ?_
  refine WO_mv (v := .s (.bool _)) rfl ?_
  refine WO_case (t := 16) rfl (fun h57 => ?_) (fun h57 => ?_)
  ·try simp only [NM] at h57
   try simp only [isM, decide_eq_true_eq, decide_eq_false_iff_not] at h57
   refine WO_gf rfl rfl ?_
   refine WO_gf rfl rfl ?_
   refine WO_gf rfl rfl ?_
   refine WO_gf rfl rfl ?_
   refine WO_gf rfl rfl ?_
   refine WO_pick (v := .s (.bool _)) rfl rfl ?_
   refine WO_mv (v := .s (.bool _)) rfl ?_
   refine WO_gf rfl rfl ?_
   refine WO_gf rfl rfl ?_
   refine WO_gf rfl rfl ?_
   refine WO_gf rfl rfl ?_
   refine WO_pick (v := .s (.bool _)) rfl rfl ?_
   refine WO_nil ?_
   refine WP_cond rfl (fun _ => ?_) (fun h => nomatch h)
   refine WP_seq ?_
   refine WP_ops ?_
   refine WO_mv rfl ?_
   refine WO_nil ?_
   refine WP_ret ?_
   refine ⟨_, RS_tmp (v := .s (.int _ _)) rfl (RS_nil), ?_⟩
   refine congrArg (fun b => V.s (S.int .i64 b)) ?_
   first | (rw [if_pos ge, takesM, show emptyM P (atT P (P (sqI (m 0))) (m 0) (m 1)) = true from (by assumption)]; rfl) | (rw [if_pos ge, takesM, show emptyM P (atT P (P (sqI (m 0))) (m 0) (m 1)) = false from (by assumption)]; rfl) | (rw [errM_out (by omega)]; rfl) | (rw [errM_not (by omega) (by assumption)]; rfl)
  ·try simp only [NM] at h57
   try simp only [isM, decide_eq_true_eq, decide_eq_false_iff_not] at h57
   refine WO_gt rfl ?_
   refine WO_fa (o' := 0) rfl rfl rfl ?_
   refine WO_gt rfl ?_
   refine WO_ldI rfl rfl (.head _) rfl ?_
   refine WO_gt rfl ?_
   refine WO_fa (o' := 1) rfl rfl rfl ?_
   refine WO_gt rfl ?_
   refine WO_ldI rfl rfl (.head _) rfl ?_
   refine WO_gt rfl ?_
   refine WO_bin (r := .bool _) rfl rfl rfl ?_
   refine WO_pick (v := .s (.bool _)) rfl rfl ?_
   refine WO_mv (v := .s (.bool _)) rfl ?_
   refine WO_case (t := 23) rfl (fun h58 => ?_) (fun h58 => ?_)
   ·try simp only [NM] at h58
    try simp only [isM, decide_eq_true_eq, decide_eq_false_iff_not] at h58
    refine WO_gf rfl rfl ?_
    refine WO_gf rfl rfl ?_
    refine WO_gf rfl rfl ?_
    refine WO_gf rfl rfl ?_
    refine WO_pick (v := .s (.bool _)) rfl rfl ?_
    refine WO_nil ?_
    refine WP_cond rfl (fun _ => ?_) (fun h => nomatch h)
    refine WP_seq ?_
    refine WP_ops ?_
    refine WO_mv rfl ?_
    refine WO_nil ?_
    refine WP_ret ?_
    refine ⟨_, RS_tmp (v := .s (.int _ _)) rfl (RS_nil), ?_⟩
    refine congrArg (fun b => V.s (S.int .i64 b)) ?_
    first | (rw [if_pos ge, takesM, show emptyM P (atT P (P (sqI (m 0))) (m 0) (m 1)) = true from (by assumption)]; rfl) | (rw [if_pos ge, takesM, show emptyM P (atT P (P (sqI (m 0))) (m 0) (m 1)) = false from (by assumption)]; rfl) | (rw [errM_out (by omega)]; rfl) | (rw [errM_not (by omega) (by assumption)]; rfl)
   ·try simp only [NM] at h58
    try simp only [isM, decide_eq_true_eq, decide_eq_false_iff_not] at h58
    refine WO_gt rfl ?_
    first | refine WO_ldA0 rfl rfl (.tail _ (.head _)) ?_ | refine WO_ldAI rfl rfl (.tail _ (.head _)) ?_
    refine WO_gt rfl ?_
    first | refine WO_ldA0 rfl rfl (.head _) ?_ | refine WO_ldAI rfl rfl (.head _) ?_
    refine WO_gt rfl ?_
    refine WO_call0 rfl (RF_of (rCan_run _ _ (by assumption) (by assumption))) rfl rfl rfl ?_
    refine WO_gt rfl ?_
    refine WO_un (r := .bool _) rfl rfl ?_
    refine WO_pick (v := .s (.bool _)) rfl rfl ?_
    refine WO_nil ?_
    refine WP_cond rfl (fun h59 => ?_) (fun h59 => ?_)
    ·try simp only [NM] at h59
     try simp only [isM, decide_eq_true_eq, decide_eq_false_iff_not] at h59
     refine WP_seq ?_
     refine WP_ops ?_
     refine WO_mv rfl ?_
     refine WO_nil ?_
     refine WP_ret ?_
     refine ⟨_, RS_tmp (v := .s (.int _ _)) rfl (RS_nil), ?_⟩
     refine congrArg (fun b => V.s (S.int .i64 b)) ?_
     first | (rw [if_pos ge, takesM, show emptyM P (atT P (P (sqI (m 0))) (m 0) (m 1)) = true from (by assumption)]; rfl) | (rw [if_pos ge, takesM, show emptyM P (atT P (P (sqI (m 0))) (m 0) (m 1)) = false from (by assumption)]; rfl) | (rw [errM_out (by omega)]; rfl) | (rw [errM_not (by omega) (by assumption)]; rfl)
    ·try simp only [NM] at h59
     try simp only [isM, decide_eq_true_eq, decide_eq_false_iff_not] at h59
     refine WP_skip ?_
     refine WP_seq ?_
     refine WP_ops ?_
     refine WO_fa (o' := 1) rfl rfl rfl ?_
     refine WO_ldI rfl rfl (.head _) rfl ?_
     refine WO_mv (v := .s (.int _ _)) rfl ?_
     refine WO_nil ?_
     refine WP_cut (fun f n L => (errM P (m 0) (m 1) (m 2) = 0) ∧ (0 ≤ m 0 ∧ m 0 < 64) ∧ (0 ≤ m 1 ∧ m 1 < 64) ∧ (f 2 = .ptr 0 0 133) ∧ (f 3 = .ptr 1 0 3) ∧ (f 4 = .s (.int .i64 0)) ∧ (f 5 = .s (.int .i64 (atT P (P (sqI (m 0))) (m 0) (m 1)))) ∧ (L = [(1, .sc .var 3 (ia m)), (0, .sc .var 133 (ia P))]) ∧ (n = 2)) ?_ (fun f nb L hI => ?_)
     ·skip
      refine WP_seq ?_
      refine WP_ops ?_
      first | refine WO_ldA0 rfl rfl (.tail _ (.head _)) ?_ | refine WO_ldAI rfl rfl (.tail _ (.head _)) ?_
      first | refine WO_ldA0 rfl rfl (.head _) ?_ | refine WO_ldAI rfl rfl (.head _) ?_
      refine WO_call0 rfl (RF_of (rover_run _ _ (by assumption) (by assumption))) rfl rfl rfl ?_
      refine WO_nil ?_
      refine WP_cond rfl (fun h60 => ?_) (fun h60 => ?_)
      ·try simp only [NM] at h60
       try simp only [isM, decide_eq_true_eq, decide_eq_false_iff_not] at h60
       refine WP_ops ?_
       refine WO_fa (o' := 0) rfl rfl rfl ?_
       refine WO_ldI rfl rfl (.head _) rfl ?_
       refine WO_quo rfl rfl (by omega) ?_
       refine WO_mul rfl rfl (by omega) ?_
       refine WO_fa (o' := 1) rfl rfl rfl ?_
       refine WO_ldI rfl rfl (.head _) rfl ?_
       refine WO_rem rfl rfl (by omega) ?_
       refine WO_add rfl rfl (by omega) ?_
       refine WO_mv (v := .s (.int _ _)) rfl ?_
       refine WO_nil ?_
       refine ⟨_, (.cons_cons _ (.cons_cons _ .slnil)), ?_, by assumption, by assumption, rfl, rfl, rfl, ?_, rfl, rfl⟩
       · exact errM_ok (by omega) (by assumption)
       · refine congrArg (fun b => V.s (S.int .i64 b)) ?_
         unfold atT
         try simp only [decide_eq_true_eq, decide_eq_false_iff_not] at *
         first | exact (if_pos (by assumption)).symm | exact (if_neg (by assumption)).symm
      ·try simp only [NM] at h60
       try simp only [isM, decide_eq_true_eq, decide_eq_false_iff_not] at h60
       refine WP_skip ?_
       refine ⟨_, (.cons_cons _ (.cons_cons _ .slnil)), ?_, by assumption, by assumption, rfl, rfl, rfl, ?_, rfl, rfl⟩
       · exact errM_ok (by omega) (by assumption)
       · refine congrArg (fun b => V.s (S.int .i64 b)) ?_
         unfold atT
         try simp only [decide_eq_true_eq, decide_eq_false_iff_not] at *
         first | exact (if_pos (by assumption)).symm | exact (if_neg (by assumption)).symm
     ·skip
      obtain ⟨ge, ha, ht, k2, k3, k4, k5, rfl, rfl⟩ := hI
      refine WP_know (d := 2) (v := .ptr 0 0 133) k2 ?_
      refine WP_know (d := 3) (v := .ptr 1 0 3) k3 ?_
      refine WP_know (d := 4) (v := .s (.int .i64 0)) k4 ?_
      refine WP_know (d := 5) (v := .s (.int .i64 (atT P (P (sqI (m 0))) (m 0) (m 1)))) k5 ?_
      have hat := atT_bd (P := P) (k := P (sqI (m 0))) ha ht
      refine WP_seq ?_
      refine WP_seq ?_
      refine WP_ops ?_
      refine WO_mv (v := .s (.int _ _)) rfl ?_
      refine WO_fa (o' := 0) rfl rfl rfl ?_
      refine WO_ixa rfl rfl rfl (by omega) ?_
      first | refine WO_ldA0 rfl rfl (.tail _ (.head _)) ?_ | refine WO_ldAI rfl rfl (.tail _ (.head _)) ?_
      refine WO_buildI rfl .nil ?_
      refine WO_eqa rfl rfl ?_
      refine WO_nil ?_
      refine WP_cond rfl (fun h61 => ?_) (fun h61 => ?_)
      ·try simp only [NM] at h61
       try simp only [isM, decide_eq_true_eq, decide_eq_false_iff_not] at h61
       refine WP_seq ?_
       refine WP_ops ?_
       refine WO_mv rfl ?_
       refine WO_nil ?_
       refine WP_ret ?_
       refine ⟨_, RS_tmp (v := .s (.int _ _)) rfl (RS_nil), ?_⟩
       refine congrArg (fun b => V.s (S.int .i64 b)) ?_
       first | (rw [if_pos ge, takesM, show emptyM P (atT P (P (sqI (m 0))) (m 0) (m 1)) = true from (by assumption)]; rfl) | (rw [if_pos ge, takesM, show emptyM P (atT P (P (sqI (m 0))) (m 0) (m 1)) = false from (by assumption)]; rfl) | (rw [errM_out (by omega)]; rfl) | (rw [errM_not (by omega) (by assumption)]; rfl)
      ·try simp only [NM] at h61
       try simp only [isM, decide_eq_true_eq, decide_eq_false_iff_not] at h61
       refine WP_skip ?_
       refine WP_seq ?_
       refine WP_ops ?_
       refine WO_mv (v := .s (.int _ _)) rfl ?_
       refine WO_mv (v := .s (.int _ _)) rfl ?_
       refine WO_nil ?_
       refine WP_ret ?_
       refine ⟨_, RS_tmp (v := .s (.int _ _)) rfl (RS_nil), ?_⟩
       refine congrArg (fun b => V.s (S.int .i64 b)) ?_
       first | (rw [if_pos ge, takesM, show emptyM P (atT P (P (sqI (m 0))) (m 0) (m 1)) = true from (by assumption)]; rfl) | (rw [if_pos ge, takesM, show emptyM P (atT P (P (sqI (m 0))) (m 0) (m 1)) = false from (by assumption)]; rfl) | (rw [errM_out (by omega)]; rfl) | (rw [errM_not (by omega) (by assumption)]; rfl)
end Go.Proofs.Ytjldefmcnppdoaa
