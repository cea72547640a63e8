/- The walks of squares: ways, rings, lists that are alike. -/
import Derived.Test.YtjldefmcnppdoaaSquareC
namespace Go.Proofs.Ytjldefmcnppdoaa
open Go Go.Am
set_option linter.unusedSimpArgs false
set_option linter.unusedVariables false
/-- The squares of a way, one behind the other, and -1 behind the last. -/
def rayF (s f r : Int) : Nat → Int
  | 0 => stepM s f r
  | k + 1 => stepM (rayF s f r k) f r
/-- So many steps are left at most. -/
def muM (s f r : Int) : Nat := if s < 0 then 0 else if 0 < f then (8 - s % 8).toNat else if f < 0 then (s % 8 + 1).toNat else if 0 < r then (8 - s / 8).toNat else (s / 8 + 1).toNat
theorem stepM_is {s f r : Int} (h : stepM s f r ≠ -1) : (0 ≤ s ∧ s < 64) ∧ (0 ≤ s % 8 + f ∧ s % 8 + f < 8) ∧ (0 ≤ s / 8 + r ∧ s / 8 + r < 8) ∧ stepM s f r = (s / 8 + r) * 8 + (s % 8 + f) := by
  unfold stepM atM at h ⊢
  by_cases c : (0 ≤ s ∧ s < 64) ∧ (-8 < f ∧ f < 8) ∧ (-8 < r ∧ r < 8)
  · rw [if_pos c] at h ⊢
    by_cases e : 0 ≤ s % 8 + f ∧ s % 8 + f < 8 ∧ 0 ≤ s / 8 + r ∧ s / 8 + r < 8
    · rw [if_pos e]; exact ⟨c.1, ⟨e.1, e.2.1⟩, ⟨e.2.2.1, e.2.2.2⟩, rfl⟩
    · rw [if_neg e] at h; exact absurd rfl h
  · rw [if_neg c] at h; exact absurd rfl h
theorem muM_step {s f r : Int} (hz : ¬ (f = 0 ∧ r = 0)) (hs : s ≠ -1) (hb : -1 ≤ s ∧ s < 64) : muM (stepM s f r) f r < muM s f r := by
  have h0 := stepM_bd s f r
  by_cases h : stepM s f r = -1
  · rw [h, show muM (-1) f r = 0 from if_pos (by decide)]
    have n2 : ¬ s < 0 := by omega
    unfold muM
    rw [if_neg n2]
    by_cases a : 0 < f
    · rw [if_pos a]; omega
    · rw [if_neg a]
      by_cases b : f < 0
      · rw [if_pos b]; omega
      · rw [if_neg b]
        by_cases c : 0 < r
        · rw [if_pos c]; omega
        · rw [if_neg c]; omega
  · have ⟨h1, h2, h3, h4⟩ := stepM_is h
    have e1 : stepM s f r % 8 = s % 8 + f := by omega
    have e2 : stepM s f r / 8 = s / 8 + r := by omega
    have n1 : ¬ stepM s f r < 0 := by omega
    have n2 : ¬ s < 0 := by omega
    unfold muM
    rw [if_neg n1, if_neg n2, e1, e2]
    by_cases a : 0 < f
    · rw [if_pos a, if_pos a]; omega
    · rw [if_neg a, if_neg a]
      by_cases b : f < 0
      · rw [if_pos b, if_pos b]; omega
      · rw [if_neg b, if_neg b]
        by_cases c : 0 < r
        · rw [if_pos c, if_pos c]; omega
        · rw [if_neg c, if_neg c]; omega
theorem muM_bd {s f r : Int} (h : s < 64) : muM s f r ≤ 8 := by
  unfold muM
  split
  · omega
  · split
    · omega
    · split
      · omega
      · split <;> omega
/-- A way of n squares. -/
structure RayOf (s f r : Int) (n : Nat) : Prop where
  on : ∀ j : Nat, j < n → rayF s f r j ≠ -1
  off : rayF s f r n = -1
theorem RayOf.uniq {s f r : Int} {n m : Nat} (h : RayOf s f r n) (k : RayOf s f r m) : n = m := by
  by_cases a : n < m
  · exact absurd h.off (k.on n a)
  · by_cases b : m < n
    · exact absurd k.off (h.on m b)
    · omega
theorem rayF_bd (s f r : Int) (j : Nat) : -1 ≤ rayF s f r j ∧ rayF s f r j < 64 := by
  cases j with
  | zero => exact stepM_bd _ _ _
  | succ j => exact stepM_bd _ _ _
theorem gr_at {G R : Nat → Int} {c : Nat} {j : Nat} (h : j < c + 1) : (bif Nat.blt j (c * 1) then G (0 + j) else R (0 + (j - c * 1))) = if j < c then G j else R 0 := by
  by_cases k : j < c
  · rw [show Nat.blt j (c * 1) = true from Nat.ble_eq_true_of_le (by omega), if_pos k, Nat.zero_add]; rfl
  · have : Nat.blt j (c * 1) = false := by
      cases hb : Nat.blt j (c * 1) with
      | false => rfl
      | true => have := Nat.le_of_ble_eq_true hb; omega
    rw [this, if_neg k, show 0 + (j - c * 1) = 0 by omega]; rfl
theorem gr_ray {F R : Nat → Int} {s f r : Int} {c : Nat} (h : ∀ j : Nat, j < c → F j = rayF s f r j) (hr : R 0 = rayF s f r c) : ∀ j : Nat, j < c + 1 → (bif Nat.blt j (c * 1) then F (0 + j) else R (0 + (j - c * 1))) = rayF s f r j := by
  intro j hj
  rw [gr_at hj]
  by_cases k : j < c
  · rw [if_pos k]; exact h j k
  · rw [if_neg k]
    obtain rfl : j = c := by omega
    exact hr
theorem on_next {s f r : Int} {i : Nat} (h : ∀ j : Nat, j < i → rayF s f r j ≠ -1) (hi : rayF s f r i ≠ -1) : ∀ j : Nat, j < i + 1 → rayF s f r j ≠ -1 := fun j hj => by
  by_cases e : j = i
  · subst e; exact hi
  · exact h j (by omega)

theorem ray_mu {s p r : Int} (hz : ¬ (p = 0 ∧ r = 0)) : ∀ i : Nat, (∀ j : Nat, j < i → rayF s p r j ≠ -1) → muM (rayF s p r i) p r + i ≤ 8
  | 0, _ => by have := muM_bd (s := rayF s p r 0) (f := p) (r := r) (rayF_bd s p r 0).2; omega
  | i + 1, h => by
    have ih := ray_mu hz i (fun j hj => h j (by omega))
    have := muM_step (f := p) (r := r) hz (h i (by omega)) (rayF_bd s p r i)
    show muM (stepM (rayF s p r i) p r) p r + (i + 1) ≤ 8
    omega
theorem ray_le {s p r : Int} {i : Nat} (hz : ¬ (p = 0 ∧ r = 0)) (h : ∀ j : Nat, j < i → rayF s p r j ≠ -1) : i ≤ 64 := by
  have := ray_mu hz i h; omega

theorem Ray_walk (s p r : Int) : WR AM 32 [.s (.int .i64 s), .s (.int .i64 p), .s (.int .i64 r)] [] (fun v _ L => (p = 0 ∧ r = 0 ∧ v = .snil) ∨ (¬ (p = 0 ∧ r = 0) ∧ ∃ (n : Nat) (F : Nat → Int), RayOf s p r n ∧ n ≤ 8 ∧ (∀ j : Nat, j < n → F j = rayF s p r j) ∧ ((n = 0 ∧ v = .snil) ∨ (0 < n ∧ ∃ b q, v = .sl b 0 n 1 .whole ∧ (b, Blk.sc .grow q (ia F)) ∈ L)))) := by
 refine WR_fn (a := a32) rfl rfl (entryF _) (entry_E (Nat.le_of_ble_eq_true rfl)) (m := 0) rfl ?_
 refine WP_seq ?_
 refine WP_ops ?_
 refine WO_mv rfl ?_
 refine WO_nil ?_
 refine WP_seq ?_
 refine WP_seq ?_
 refine WP_ops ?_
 refine WO_mv (v := .s (.int _ _)) rfl ?_
 refine WO_bin (r := .bool _) rfl rfl rfl ?_
 refine WO_mv (v := .s (.bool _)) rfl ?_
 refine WO_case (t := 9) rfl (fun h1 => ?_) (fun h1 => ?_)
 ·try simp only [NM] at h1
  refine WO_gt rfl ?_
  refine WO_mv (v := .s (.int _ _)) rfl ?_
  refine WO_gt rfl ?_
  refine WO_bin (r := .bool _) rfl rfl rfl ?_
  refine WO_pick (v := .s (.bool _)) rfl rfl ?_
  refine WO_nil ?_
  refine WP_cond rfl (fun h2 => ?_) (fun h2 => ?_)
  ·try simp only [NM] at h2
   refine WP_seq ?_
   refine WP_ops ?_
   refine WO_mv rfl ?_
   refine WO_nil ?_
   refine WP_ret ?_
   refine ⟨_, RS_tmp (v := .snil) rfl (RS_nil), ?_⟩
   exact .inl ⟨by omega, by omega, rfl⟩
  ·try simp only [NM] at h2
   refine WP_skip ?_
   refine WP_seq ?_
   refine WP_seq ?_
   refine WP_ops ?_
   refine WO_mv (v := .s (.int _ _)) rfl ?_
   refine WO_mv (v := .s (.int _ _)) rfl ?_
   refine WO_mv (v := .s (.int _ _)) rfl ?_
   have hz : ¬ (p = 0 ∧ r = 0) := by omega
   refine WO_call0 rfl (Step_run _ _ _) rfl rfl rfl ?_
   refine WO_mv (v := .s (.int _ _)) rfl ?_
   refine WO_nil ?_
   refine WP_block ?_
   refine WP_sub (L' := []) .slnil ?_
   refine WP_loop (fun m f nn L => ∃ (i : Nat), (m = muM (rayF s p r i) p r) ∧ (∀ j : Nat, j < i → rayF s p r j ≠ -1) ∧ (f 1 = .s (.int .i64 p)) ∧ (f 2 = .s (.int .i64 r)) ∧ (f 0 = .s (.int .i64 (rayF s p r i))) ∧ (((i = 0) ∧ (f 6 = .snil) ∧ (L = [])) ∨ (∃ (b cnt q : Nat) (F : Nat → Int), (cnt = i ∧ 0 < cnt) ∧ (∀ j : Nat, j < cnt → F j = rayF s p r j) ∧ (f 6 = .sl b 0 cnt 1 .whole) ∧ (L = (b, Blk.sc .grow q (ia F)) :: [])))) (fun m f nb L hI => ?_) (_) ⟨0, rfl, fun j h => by omega, rfl, rfl, rfl, .inl ⟨rfl, rfl, rfl⟩⟩
   obtain ⟨i, hm, hon, k1, k2, k0, hI2⟩ := hI
   rcases hI2 with ⟨hi0, kS, rfl⟩ | ⟨b, cnt, q, F, hc, hF, kS, rfl⟩
   ·skip
    refine WP_know (d := 1) (v := .s (.int .i64 p)) k1 ?_
    refine WP_know (d := 2) (v := .s (.int .i64 r)) k2 ?_
    refine WP_know (d := 0) (v := .s (.int .i64 (rayF s p r i))) k0 ?_
    refine WP_know (d := 6) (v := .snil) kS ?_
    have hbd0 := muM_bd (s := rayF s p r i) (f := p) (r := r) (rayF_bd s p r i).2
    have hi8 : i ≤ 64 := ray_le hz hon
    refine WP_seq ?_
    refine WP_seq ?_
    refine WP_ops ?_
    refine WO_mv (v := .s (.int _ _)) rfl ?_
    refine WO_bin (r := .bool _) rfl rfl rfl ?_
    refine WO_nil ?_
    refine WP_cond rfl (fun h3 => ?_) (fun h3 => ?_)
    ·try simp only [NM] at h3
     refine WP_skip ?_
     refine WP_seq ?_
     refine WP_block ?_
     refine WP_ops ?_
     refine WO_mv (v := .snil) rfl ?_
     refine WO_mv (v := .s (.int _ _)) rfl ?_
     refine WO_mkslS rfl (.one rfl .nil) ?_
     refine WO_appendNil rfl rfl (.head _) (by decide) rfl ?_
     refine WO_mv (v := .sl _ _ _ _ _) rfl ?_
     refine WO_nil ?_
     refine WP_ops ?_
     refine WO_mv (v := .s (.int _ _)) rfl ?_
     refine WO_mv (v := .s (.int _ _)) rfl ?_
     refine WO_mv (v := .s (.int _ _)) rfl ?_
     refine WO_call0 rfl (Step_run _ _ _) rfl rfl rfl ?_
     refine WO_mv (v := .s (.int _ _)) rfl ?_
     refine WO_nil ?_
     have hne : rayF s p r i ≠ -1 := by omega
     have hbd := rayF_bd s p r i
     have muM_lt : muM (rayF s p r (i + 1)) p r < m := by rw [hm]; exact muM_step hz hne hbd
     refine ⟨muM (rayF s p r (i + 1)) p r, _, muM_lt, (.cons_cons _ (.cons _ .slnil)), i + 1, rfl, on_next hon hne, rfl, rfl, rfl, .inr ⟨_, 1, _, _, by omega, ?_, rfl, rfl⟩⟩
     intro j hj
     obtain rfl : j = 0 := by omega
     subst hi0
     rfl
    ·try simp only [NM] at h3
     refine WP_exit ?_
     refine xhere ?_
     refine WP_seq ?_
     refine WP_ops ?_
     refine WO_mv (v := .snil) rfl ?_
     refine WO_mv (v := .snil) rfl ?_
     refine WO_nil ?_
     refine WP_ret ?_
     refine ⟨_, RS_tmp (v := .snil) rfl (RS_nil), ?_⟩
     have hbd1 := rayF_bd s p r i
     have hi8b := ray_mu hz i hon
     subst hi0
     exact .inr ⟨hz, 0, fun _ => 0, ⟨fun j h => by omega, by omega⟩, by omega, fun j h => by omega, .inl ⟨rfl, rfl⟩⟩
   ·skip
    refine WP_know (d := 1) (v := .s (.int .i64 p)) k1 ?_
    refine WP_know (d := 2) (v := .s (.int .i64 r)) k2 ?_
    refine WP_know (d := 0) (v := .s (.int .i64 (rayF s p r i))) k0 ?_
    refine WP_know (d := 6) (v := .sl b 0 cnt 1 .whole) kS ?_
    have hbd0 := muM_bd (s := rayF s p r i) (f := p) (r := r) (rayF_bd s p r i).2
    have hi8 : i ≤ 64 := ray_le hz hon
    refine WP_seq ?_
    refine WP_seq ?_
    refine WP_ops ?_
    refine WO_mv (v := .s (.int _ _)) rfl ?_
    refine WO_bin (r := .bool _) rfl rfl rfl ?_
    refine WO_nil ?_
    refine WP_cond rfl (fun h4 => ?_) (fun h4 => ?_)
    ·try simp only [NM] at h4
     refine WP_skip ?_
     refine WP_seq ?_
     refine WP_block ?_
     refine WP_ops ?_
     refine WO_mv (v := .sl _ _ _ _ _) rfl ?_
     refine WO_mv (v := .s (.int _ _)) rfl ?_
     refine WO_mkslS rfl (.one rfl .nil) ?_
     refine WO_appendW rfl rfl (.head _) (.there .here) (by simp [roomy]; omega) ?_
     refine WO_mv (v := .sl _ _ _ _ _) rfl ?_
     refine WO_nil ?_
     refine WP_ops ?_
     refine WO_mv (v := .s (.int _ _)) rfl ?_
     refine WO_mv (v := .s (.int _ _)) rfl ?_
     refine WO_mv (v := .s (.int _ _)) rfl ?_
     refine WO_call0 rfl (Step_run _ _ _) rfl rfl rfl ?_
     refine WO_mv (v := .s (.int _ _)) rfl ?_
     refine WO_nil ?_
     have hne : rayF s p r i ≠ -1 := by omega
     have hbd := rayF_bd s p r i
     have muM_lt : muM (rayF s p r (i + 1)) p r < m := by rw [hm]; exact muM_step hz hne hbd
     refine ⟨muM (rayF s p r (i + 1)) p r, _, muM_lt, (.cons_cons _ (.cons _ (.cons _ .slnil))), i + 1, rfl, on_next hon hne, rfl, rfl, rfl, .inr ⟨_, cnt + 1, _, _, by omega, ?_, rfl, rfl⟩⟩
     obtain ⟨rfl, hc0⟩ := hc
     exact gr_ray hF rfl
    ·try simp only [NM] at h4
     refine WP_exit ?_
     refine xhere ?_
     refine WP_seq ?_
     refine WP_ops ?_
     refine WO_mv (v := .sl _ _ _ _ _) rfl ?_
     refine WO_mv (v := .sl _ _ _ _ _) rfl ?_
     refine WO_nil ?_
     refine WP_ret ?_
     refine ⟨_, RS_tmp (v := .sl _ _ _ _ _) rfl (RS_nil), ?_⟩
     have hbd1 := rayF_bd s p r i
     have hi8b := ray_mu hz i hon
     obtain ⟨rfl, hc0⟩ := hc
     exact .inr ⟨hz, cnt, F, ⟨hon, by omega⟩, by omega, hF, .inr ⟨hc0, _, _, rfl, (.head _)⟩⟩
 ·try simp only [NM] at h1
  refine WO_gf rfl rfl ?_
  refine WO_gf rfl rfl ?_
  refine WO_pick (v := .s (.bool _)) rfl rfl ?_
  refine WO_nil ?_
  refine WP_cond rfl (fun h => nomatch h) (fun _ => ?_)
  refine WP_skip ?_
  refine WP_seq ?_
  refine WP_seq ?_
  refine WP_ops ?_
  refine WO_mv (v := .s (.int _ _)) rfl ?_
  refine WO_mv (v := .s (.int _ _)) rfl ?_
  refine WO_mv (v := .s (.int _ _)) rfl ?_
  have hz : ¬ (p = 0 ∧ r = 0) := by omega
  refine WO_call0 rfl (Step_run _ _ _) rfl rfl rfl ?_
  refine WO_mv (v := .s (.int _ _)) rfl ?_
  refine WO_nil ?_
  refine WP_block ?_
  refine WP_sub (L' := []) .slnil ?_
  refine WP_loop (fun m f nn L => ∃ (i : Nat), (m = muM (rayF s p r i) p r) ∧ (∀ j : Nat, j < i → rayF s p r j ≠ -1) ∧ (f 1 = .s (.int .i64 p)) ∧ (f 2 = .s (.int .i64 r)) ∧ (f 0 = .s (.int .i64 (rayF s p r i))) ∧ (((i = 0) ∧ (f 6 = .snil) ∧ (L = [])) ∨ (∃ (b cnt q : Nat) (F : Nat → Int), (cnt = i ∧ 0 < cnt) ∧ (∀ j : Nat, j < cnt → F j = rayF s p r j) ∧ (f 6 = .sl b 0 cnt 1 .whole) ∧ (L = (b, Blk.sc .grow q (ia F)) :: [])))) (fun m f nb L hI => ?_) (_) ⟨0, rfl, fun j h => by omega, rfl, rfl, rfl, .inl ⟨rfl, rfl, rfl⟩⟩
  obtain ⟨i, hm, hon, k1, k2, k0, hI2⟩ := hI
  rcases hI2 with ⟨hi0, kS, rfl⟩ | ⟨b, cnt, q, F, hc, hF, kS, rfl⟩
  ·skip
   refine WP_know (d := 1) (v := .s (.int .i64 p)) k1 ?_
   refine WP_know (d := 2) (v := .s (.int .i64 r)) k2 ?_
   refine WP_know (d := 0) (v := .s (.int .i64 (rayF s p r i))) k0 ?_
   refine WP_know (d := 6) (v := .snil) kS ?_
   have hbd0 := muM_bd (s := rayF s p r i) (f := p) (r := r) (rayF_bd s p r i).2
   have hi8 : i ≤ 64 := ray_le hz hon
   refine WP_seq ?_
   refine WP_seq ?_
   refine WP_ops ?_
   refine WO_mv (v := .s (.int _ _)) rfl ?_
   refine WO_bin (r := .bool _) rfl rfl rfl ?_
   refine WO_nil ?_
   refine WP_cond rfl (fun h5 => ?_) (fun h5 => ?_)
   ·try simp only [NM] at h5
    refine WP_skip ?_
    refine WP_seq ?_
    refine WP_block ?_
    refine WP_ops ?_
    refine WO_mv (v := .snil) rfl ?_
    refine WO_mv (v := .s (.int _ _)) rfl ?_
    refine WO_mkslS rfl (.one rfl .nil) ?_
    refine WO_appendNil rfl rfl (.head _) (by decide) rfl ?_
    refine WO_mv (v := .sl _ _ _ _ _) rfl ?_
    refine WO_nil ?_
    refine WP_ops ?_
    refine WO_mv (v := .s (.int _ _)) rfl ?_
    refine WO_mv (v := .s (.int _ _)) rfl ?_
    refine WO_mv (v := .s (.int _ _)) rfl ?_
    refine WO_call0 rfl (Step_run _ _ _) rfl rfl rfl ?_
    refine WO_mv (v := .s (.int _ _)) rfl ?_
    refine WO_nil ?_
    have hne : rayF s p r i ≠ -1 := by omega
    have hbd := rayF_bd s p r i
    have muM_lt : muM (rayF s p r (i + 1)) p r < m := by rw [hm]; exact muM_step hz hne hbd
    refine ⟨muM (rayF s p r (i + 1)) p r, _, muM_lt, (.cons_cons _ (.cons _ .slnil)), i + 1, rfl, on_next hon hne, rfl, rfl, rfl, .inr ⟨_, 1, _, _, by omega, ?_, rfl, rfl⟩⟩
    intro j hj
    obtain rfl : j = 0 := by omega
    subst hi0
    rfl
   ·try simp only [NM] at h5
    refine WP_exit ?_
    refine xhere ?_
    refine WP_seq ?_
    refine WP_ops ?_
    refine WO_mv (v := .snil) rfl ?_
    refine WO_mv (v := .snil) rfl ?_
    refine WO_nil ?_
    refine WP_ret ?_
    refine ⟨_, RS_tmp (v := .snil) rfl (RS_nil), ?_⟩
    have hbd1 := rayF_bd s p r i
    have hi8b := ray_mu hz i hon
    subst hi0
    exact .inr ⟨hz, 0, fun _ => 0, ⟨fun j h => by omega, by omega⟩, by omega, fun j h => by omega, .inl ⟨rfl, rfl⟩⟩
  ·skip
   refine WP_know (d := 1) (v := .s (.int .i64 p)) k1 ?_
   refine WP_know (d := 2) (v := .s (.int .i64 r)) k2 ?_
   refine WP_know (d := 0) (v := .s (.int .i64 (rayF s p r i))) k0 ?_
   refine WP_know (d := 6) (v := .sl b 0 cnt 1 .whole) kS ?_
   have hbd0 := muM_bd (s := rayF s p r i) (f := p) (r := r) (rayF_bd s p r i).2
   have hi8 : i ≤ 64 := ray_le hz hon
   refine WP_seq ?_
   refine WP_seq ?_
   refine WP_ops ?_
   refine WO_mv (v := .s (.int _ _)) rfl ?_
   refine WO_bin (r := .bool _) rfl rfl rfl ?_
   refine WO_nil ?_
   refine WP_cond rfl (fun h6 => ?_) (fun h6 => ?_)
   ·try simp only [NM] at h6
    refine WP_skip ?_
    refine WP_seq ?_
    refine WP_block ?_
    refine WP_ops ?_
    refine WO_mv (v := .sl _ _ _ _ _) rfl ?_
    refine WO_mv (v := .s (.int _ _)) rfl ?_
    refine WO_mkslS rfl (.one rfl .nil) ?_
    refine WO_appendW rfl rfl (.head _) (.there .here) (by simp [roomy]; omega) ?_
    refine WO_mv (v := .sl _ _ _ _ _) rfl ?_
    refine WO_nil ?_
    refine WP_ops ?_
    refine WO_mv (v := .s (.int _ _)) rfl ?_
    refine WO_mv (v := .s (.int _ _)) rfl ?_
    refine WO_mv (v := .s (.int _ _)) rfl ?_
    refine WO_call0 rfl (Step_run _ _ _) rfl rfl rfl ?_
    refine WO_mv (v := .s (.int _ _)) rfl ?_
    refine WO_nil ?_
    have hne : rayF s p r i ≠ -1 := by omega
    have hbd := rayF_bd s p r i
    have muM_lt : muM (rayF s p r (i + 1)) p r < m := by rw [hm]; exact muM_step hz hne hbd
    refine ⟨muM (rayF s p r (i + 1)) p r, _, muM_lt, (.cons_cons _ (.cons _ (.cons _ .slnil))), i + 1, rfl, on_next hon hne, rfl, rfl, rfl, .inr ⟨_, cnt + 1, _, _, by omega, ?_, rfl, rfl⟩⟩
    obtain ⟨rfl, hc0⟩ := hc
    exact gr_ray hF rfl
   ·try simp only [NM] at h6
    refine WP_exit ?_
    refine xhere ?_
    refine WP_seq ?_
    refine WP_ops ?_
    refine WO_mv (v := .sl _ _ _ _ _) rfl ?_
    refine WO_mv (v := .sl _ _ _ _ _) rfl ?_
    refine WO_nil ?_
    refine WP_ret ?_
    refine ⟨_, RS_tmp (v := .sl _ _ _ _ _) rfl (RS_nil), ?_⟩
    have hbd1 := rayF_bd s p r i
    have hi8b := ray_mu hz i hon
    obtain ⟨rfl, hc0⟩ := hc
    exact .inr ⟨hz, cnt, F, ⟨hon, by omega⟩, by omega, hF, .inr ⟨hc0, _, _, rfl, (.head _)⟩⟩
theorem Ray_ex (s p r : Int) : (p = 0 ∧ r = 0 ∧ RF AM 32 [.s (.int .i64 s), .s (.int .i64 p), .s (.int .i64 r)] .snil) ∨ (¬ (p = 0 ∧ r = 0) ∧ ∃ (n : Nat) (F : Nat → Int), RayOf s p r n ∧ n ≤ 8 ∧ (∀ j : Nat, j < n → F j = rayF s p r j) ∧ ((n = 0 ∧ RF AM 32 [.s (.int .i64 s), .s (.int .i64 p), .s (.int .i64 r)] .snil) ∨ (0 < n ∧ ∃ q, RN AM 32 [.s (.int .i64 s), .s (.int .i64 p), .s (.int .i64 r)] [] (fun b => .sl b 0 n 1 .whole) (.sc .grow q (ia F)) []))) := by
  obtain ⟨v, σ', n', L', h1, h2, h3⟩ := Ray_walk s p r
  rcases h3 with ⟨hf, hr, rfl⟩ | ⟨hz, n, F, hR, hn, hF, h⟩
  · exact .inl ⟨hf, hr, σ', h1⟩
  · rcases h with ⟨h0, rfl⟩ | ⟨h0, b, q, rfl, hm⟩
    · exact .inr ⟨hz, n, F, hR, hn, hF, .inl ⟨h0, σ', h1⟩⟩
    · exact .inr ⟨hz, n, F, hR, hn, hF, .inr ⟨h0, q, b, σ', h1, Nat.zero_le _, (h2.2.mem hm).2, trivial⟩⟩

theorem dRay_walk (s p r : Int) : WR AM 50 [.s (.int .i64 s), .s (.int .i64 p), .s (.int .i64 r)] [] (fun v _ L => (p = 0 ∧ r = 0 ∧ v = .snil) ∨ (¬ (p = 0 ∧ r = 0) ∧ ∃ (n : Nat) (F : Nat → Int), RayOf s p r n ∧ n ≤ 8 ∧ (∀ j : Nat, j < n → F j = rayF s p r j) ∧ ((n = 0 ∧ v = .snil) ∨ (0 < n ∧ ∃ b q, v = .sl b 0 n 1 .whole ∧ (b, Blk.sc .grow q (ia F)) ∈ L)))) := by
 refine WR_fn (a := a50) rfl rfl (entryF _) (entry_E (Nat.le_of_ble_eq_true rfl)) (m := 0) rfl ?_
 refine WP_seq ?_
 refine WP_ops ?_
 refine WO_mv rfl ?_
 refine WO_nil ?_
 refine WP_seq ?_
 refine WP_ops ?_
 refine WO_mv rfl ?_
 refine WO_nil ?_
 refine WP_seq ?_
 refine WP_seq ?_
 refine WP_ops ?_
 refine WO_mv (v := .s (.int _ _)) rfl ?_
 refine WO_bin (r := .bool _) rfl rfl rfl ?_
 refine WO_mv (v := .s (.bool _)) rfl ?_
 refine WO_case (t := 11) rfl (fun h7 => ?_) (fun h7 => ?_)
 ·try simp only [NM] at h7
  refine WO_gt rfl ?_
  refine WO_mv (v := .s (.int _ _)) rfl ?_
  refine WO_gt rfl ?_
  refine WO_bin (r := .bool _) rfl rfl rfl ?_
  refine WO_pick (v := .s (.bool _)) rfl rfl ?_
  refine WO_nil ?_
  refine WP_cond rfl (fun h8 => ?_) (fun h8 => ?_)
  ·try simp only [NM] at h8
   refine WP_seq ?_
   refine WP_ops ?_
   refine WO_mv rfl ?_
   refine WO_nil ?_
   refine WP_ret ?_
   refine ⟨_, RS_tmp (v := .snil) rfl (RS_nil), ?_⟩
   exact .inl ⟨by omega, by omega, rfl⟩
  ·try simp only [NM] at h8
   refine WP_skip ?_
   refine WP_seq ?_
   refine WP_seq ?_
   refine WP_ops ?_
   refine WO_mv (v := .s (.int _ _)) rfl ?_
   refine WO_mv (v := .s (.int _ _)) rfl ?_
   refine WO_mv (v := .s (.int _ _)) rfl ?_
   have hz : ¬ (p = 0 ∧ r = 0) := by omega
   refine WO_call0 rfl (dStep_run _ _ _) rfl rfl rfl ?_
   refine WO_mv (v := .s (.int _ _)) rfl ?_
   refine WO_nil ?_
   refine WP_block ?_
   refine WP_sub (L' := []) .slnil ?_
   refine WP_loop (fun m f nn L => ∃ (i : Nat), (m = muM (rayF s p r i) p r) ∧ (∀ j : Nat, j < i → rayF s p r j ≠ -1) ∧ (f 1 = .s (.int .i64 p)) ∧ (f 2 = .s (.int .i64 r)) ∧ (f 8 = .s (.int .i64 (rayF s p r i))) ∧ (((i = 0) ∧ (f 7 = .snil) ∧ (L = [])) ∨ (∃ (b cnt q : Nat) (F : Nat → Int), (cnt = i ∧ 0 < cnt) ∧ (∀ j : Nat, j < cnt → F j = rayF s p r j) ∧ (f 7 = .sl b 0 cnt 1 .whole) ∧ (L = (b, Blk.sc .grow q (ia F)) :: [])))) (fun m f nb L hI => ?_) (_) ⟨0, rfl, fun j h => by omega, rfl, rfl, rfl, .inl ⟨rfl, rfl, rfl⟩⟩
   obtain ⟨i, hm, hon, k1, k2, k8, hI2⟩ := hI
   rcases hI2 with ⟨hi0, kS, rfl⟩ | ⟨b, cnt, q, F, hc, hF, kS, rfl⟩
   ·skip
    refine WP_know (d := 1) (v := .s (.int .i64 p)) k1 ?_
    refine WP_know (d := 2) (v := .s (.int .i64 r)) k2 ?_
    refine WP_know (d := 8) (v := .s (.int .i64 (rayF s p r i))) k8 ?_
    refine WP_know (d := 7) (v := .snil) kS ?_
    have hbd0 := muM_bd (s := rayF s p r i) (f := p) (r := r) (rayF_bd s p r i).2
    have hi8 : i ≤ 64 := ray_le hz hon
    refine WP_seq ?_
    refine WP_seq ?_
    refine WP_ops ?_
    refine WO_mv (v := .s (.int _ _)) rfl ?_
    refine WO_bin (r := .bool _) rfl rfl rfl ?_
    refine WO_nil ?_
    refine WP_cond rfl (fun h9 => ?_) (fun h9 => ?_)
    ·try simp only [NM] at h9
     refine WP_skip ?_
     refine WP_seq ?_
     refine WP_block ?_
     refine WP_ops ?_
     refine WO_mv (v := .snil) rfl ?_
     refine WO_mv (v := .s (.int _ _)) rfl ?_
     refine WO_mkslS rfl (.one rfl .nil) ?_
     refine WO_appendNil rfl rfl (.head _) (by decide) rfl ?_
     refine WO_mv (v := .sl _ _ _ _ _) rfl ?_
     refine WO_nil ?_
     refine WP_ops ?_
     refine WO_mv (v := .s (.int _ _)) rfl ?_
     refine WO_mv (v := .s (.int _ _)) rfl ?_
     refine WO_mv (v := .s (.int _ _)) rfl ?_
     refine WO_call0 rfl (dStep_run _ _ _) rfl rfl rfl ?_
     refine WO_mv (v := .s (.int _ _)) rfl ?_
     refine WO_nil ?_
     have hne : rayF s p r i ≠ -1 := by omega
     have hbd := rayF_bd s p r i
     have muM_lt : muM (rayF s p r (i + 1)) p r < m := by rw [hm]; exact muM_step hz hne hbd
     refine ⟨muM (rayF s p r (i + 1)) p r, _, muM_lt, (.cons_cons _ (.cons _ .slnil)), i + 1, rfl, on_next hon hne, rfl, rfl, rfl, .inr ⟨_, 1, _, _, by omega, ?_, rfl, rfl⟩⟩
     intro j hj
     obtain rfl : j = 0 := by omega
     subst hi0
     rfl
    ·try simp only [NM] at h9
     refine WP_exit ?_
     refine xhere ?_
     refine WP_seq ?_
     refine WP_ops ?_
     refine WO_mv (v := .snil) rfl ?_
     refine WO_mv (v := .snil) rfl ?_
     refine WO_nil ?_
     refine WP_ret ?_
     refine ⟨_, RS_tmp (v := .snil) rfl (RS_nil), ?_⟩
     have hbd1 := rayF_bd s p r i
     have hi8b := ray_mu hz i hon
     subst hi0
     exact .inr ⟨hz, 0, fun _ => 0, ⟨fun j h => by omega, by omega⟩, by omega, fun j h => by omega, .inl ⟨rfl, rfl⟩⟩
   ·skip
    refine WP_know (d := 1) (v := .s (.int .i64 p)) k1 ?_
    refine WP_know (d := 2) (v := .s (.int .i64 r)) k2 ?_
    refine WP_know (d := 8) (v := .s (.int .i64 (rayF s p r i))) k8 ?_
    refine WP_know (d := 7) (v := .sl b 0 cnt 1 .whole) kS ?_
    have hbd0 := muM_bd (s := rayF s p r i) (f := p) (r := r) (rayF_bd s p r i).2
    have hi8 : i ≤ 64 := ray_le hz hon
    refine WP_seq ?_
    refine WP_seq ?_
    refine WP_ops ?_
    refine WO_mv (v := .s (.int _ _)) rfl ?_
    refine WO_bin (r := .bool _) rfl rfl rfl ?_
    refine WO_nil ?_
    refine WP_cond rfl (fun h10 => ?_) (fun h10 => ?_)
    ·try simp only [NM] at h10
     refine WP_skip ?_
     refine WP_seq ?_
     refine WP_block ?_
     refine WP_ops ?_
     refine WO_mv (v := .sl _ _ _ _ _) rfl ?_
     refine WO_mv (v := .s (.int _ _)) rfl ?_
     refine WO_mkslS rfl (.one rfl .nil) ?_
     refine WO_appendW rfl rfl (.head _) (.there .here) (by simp [roomy]; omega) ?_
     refine WO_mv (v := .sl _ _ _ _ _) rfl ?_
     refine WO_nil ?_
     refine WP_ops ?_
     refine WO_mv (v := .s (.int _ _)) rfl ?_
     refine WO_mv (v := .s (.int _ _)) rfl ?_
     refine WO_mv (v := .s (.int _ _)) rfl ?_
     refine WO_call0 rfl (dStep_run _ _ _) rfl rfl rfl ?_
     refine WO_mv (v := .s (.int _ _)) rfl ?_
     refine WO_nil ?_
     have hne : rayF s p r i ≠ -1 := by omega
     have hbd := rayF_bd s p r i
     have muM_lt : muM (rayF s p r (i + 1)) p r < m := by rw [hm]; exact muM_step hz hne hbd
     refine ⟨muM (rayF s p r (i + 1)) p r, _, muM_lt, (.cons_cons _ (.cons _ (.cons _ .slnil))), i + 1, rfl, on_next hon hne, rfl, rfl, rfl, .inr ⟨_, cnt + 1, _, _, by omega, ?_, rfl, rfl⟩⟩
     obtain ⟨rfl, hc0⟩ := hc
     exact gr_ray hF rfl
    ·try simp only [NM] at h10
     refine WP_exit ?_
     refine xhere ?_
     refine WP_seq ?_
     refine WP_ops ?_
     refine WO_mv (v := .sl _ _ _ _ _) rfl ?_
     refine WO_mv (v := .sl _ _ _ _ _) rfl ?_
     refine WO_nil ?_
     refine WP_ret ?_
     refine ⟨_, RS_tmp (v := .sl _ _ _ _ _) rfl (RS_nil), ?_⟩
     have hbd1 := rayF_bd s p r i
     have hi8b := ray_mu hz i hon
     obtain ⟨rfl, hc0⟩ := hc
     exact .inr ⟨hz, cnt, F, ⟨hon, by omega⟩, by omega, hF, .inr ⟨hc0, _, _, rfl, (.head _)⟩⟩
 ·try simp only [NM] at h7
  refine WO_gf rfl rfl ?_
  refine WO_gf rfl rfl ?_
  refine WO_pick (v := .s (.bool _)) rfl rfl ?_
  refine WO_nil ?_
  refine WP_cond rfl (fun h => nomatch h) (fun _ => ?_)
  refine WP_skip ?_
  refine WP_seq ?_
  refine WP_seq ?_
  refine WP_ops ?_
  refine WO_mv (v := .s (.int _ _)) rfl ?_
  refine WO_mv (v := .s (.int _ _)) rfl ?_
  refine WO_mv (v := .s (.int _ _)) rfl ?_
  have hz : ¬ (p = 0 ∧ r = 0) := by omega
  refine WO_call0 rfl (dStep_run _ _ _) rfl rfl rfl ?_
  refine WO_mv (v := .s (.int _ _)) rfl ?_
  refine WO_nil ?_
  refine WP_block ?_
  refine WP_sub (L' := []) .slnil ?_
  refine WP_loop (fun m f nn L => ∃ (i : Nat), (m = muM (rayF s p r i) p r) ∧ (∀ j : Nat, j < i → rayF s p r j ≠ -1) ∧ (f 1 = .s (.int .i64 p)) ∧ (f 2 = .s (.int .i64 r)) ∧ (f 8 = .s (.int .i64 (rayF s p r i))) ∧ (((i = 0) ∧ (f 7 = .snil) ∧ (L = [])) ∨ (∃ (b cnt q : Nat) (F : Nat → Int), (cnt = i ∧ 0 < cnt) ∧ (∀ j : Nat, j < cnt → F j = rayF s p r j) ∧ (f 7 = .sl b 0 cnt 1 .whole) ∧ (L = (b, Blk.sc .grow q (ia F)) :: [])))) (fun m f nb L hI => ?_) (_) ⟨0, rfl, fun j h => by omega, rfl, rfl, rfl, .inl ⟨rfl, rfl, rfl⟩⟩
  obtain ⟨i, hm, hon, k1, k2, k8, hI2⟩ := hI
  rcases hI2 with ⟨hi0, kS, rfl⟩ | ⟨b, cnt, q, F, hc, hF, kS, rfl⟩
  ·skip
   refine WP_know (d := 1) (v := .s (.int .i64 p)) k1 ?_
   refine WP_know (d := 2) (v := .s (.int .i64 r)) k2 ?_
   refine WP_know (d := 8) (v := .s (.int .i64 (rayF s p r i))) k8 ?_
   refine WP_know (d := 7) (v := .snil) kS ?_
   have hbd0 := muM_bd (s := rayF s p r i) (f := p) (r := r) (rayF_bd s p r i).2
   have hi8 : i ≤ 64 := ray_le hz hon
   refine WP_seq ?_
   refine WP_seq ?_
   refine WP_ops ?_
   refine WO_mv (v := .s (.int _ _)) rfl ?_
   refine WO_bin (r := .bool _) rfl rfl rfl ?_
   refine WO_nil ?_
   refine WP_cond rfl (fun h11 => ?_) (fun h11 => ?_)
   ·try simp only [NM] at h11
    refine WP_skip ?_
    refine WP_seq ?_
    refine WP_block ?_
    refine WP_ops ?_
    refine WO_mv (v := .snil) rfl ?_
    refine WO_mv (v := .s (.int _ _)) rfl ?_
    refine WO_mkslS rfl (.one rfl .nil) ?_
    refine WO_appendNil rfl rfl (.head _) (by decide) rfl ?_
    refine WO_mv (v := .sl _ _ _ _ _) rfl ?_
    refine WO_nil ?_
    refine WP_ops ?_
    refine WO_mv (v := .s (.int _ _)) rfl ?_
    refine WO_mv (v := .s (.int _ _)) rfl ?_
    refine WO_mv (v := .s (.int _ _)) rfl ?_
    refine WO_call0 rfl (dStep_run _ _ _) rfl rfl rfl ?_
    refine WO_mv (v := .s (.int _ _)) rfl ?_
    refine WO_nil ?_
    have hne : rayF s p r i ≠ -1 := by omega
    have hbd := rayF_bd s p r i
    have muM_lt : muM (rayF s p r (i + 1)) p r < m := by rw [hm]; exact muM_step hz hne hbd
    refine ⟨muM (rayF s p r (i + 1)) p r, _, muM_lt, (.cons_cons _ (.cons _ .slnil)), i + 1, rfl, on_next hon hne, rfl, rfl, rfl, .inr ⟨_, 1, _, _, by omega, ?_, rfl, rfl⟩⟩
    intro j hj
    obtain rfl : j = 0 := by omega
    subst hi0
    rfl
   ·try simp only [NM] at h11
    refine WP_exit ?_
    refine xhere ?_
    refine WP_seq ?_
    refine WP_ops ?_
    refine WO_mv (v := .snil) rfl ?_
    refine WO_mv (v := .snil) rfl ?_
    refine WO_nil ?_
    refine WP_ret ?_
    refine ⟨_, RS_tmp (v := .snil) rfl (RS_nil), ?_⟩
    have hbd1 := rayF_bd s p r i
    have hi8b := ray_mu hz i hon
    subst hi0
    exact .inr ⟨hz, 0, fun _ => 0, ⟨fun j h => by omega, by omega⟩, by omega, fun j h => by omega, .inl ⟨rfl, rfl⟩⟩
  ·skip
   refine WP_know (d := 1) (v := .s (.int .i64 p)) k1 ?_
   refine WP_know (d := 2) (v := .s (.int .i64 r)) k2 ?_
   refine WP_know (d := 8) (v := .s (.int .i64 (rayF s p r i))) k8 ?_
   refine WP_know (d := 7) (v := .sl b 0 cnt 1 .whole) kS ?_
   have hbd0 := muM_bd (s := rayF s p r i) (f := p) (r := r) (rayF_bd s p r i).2
   have hi8 : i ≤ 64 := ray_le hz hon
   refine WP_seq ?_
   refine WP_seq ?_
   refine WP_ops ?_
   refine WO_mv (v := .s (.int _ _)) rfl ?_
   refine WO_bin (r := .bool _) rfl rfl rfl ?_
   refine WO_nil ?_
   refine WP_cond rfl (fun h12 => ?_) (fun h12 => ?_)
   ·try simp only [NM] at h12
    refine WP_skip ?_
    refine WP_seq ?_
    refine WP_block ?_
    refine WP_ops ?_
    refine WO_mv (v := .sl _ _ _ _ _) rfl ?_
    refine WO_mv (v := .s (.int _ _)) rfl ?_
    refine WO_mkslS rfl (.one rfl .nil) ?_
    refine WO_appendW rfl rfl (.head _) (.there .here) (by simp [roomy]; omega) ?_
    refine WO_mv (v := .sl _ _ _ _ _) rfl ?_
    refine WO_nil ?_
    refine WP_ops ?_
    refine WO_mv (v := .s (.int _ _)) rfl ?_
    refine WO_mv (v := .s (.int _ _)) rfl ?_
    refine WO_mv (v := .s (.int _ _)) rfl ?_
    refine WO_call0 rfl (dStep_run _ _ _) rfl rfl rfl ?_
    refine WO_mv (v := .s (.int _ _)) rfl ?_
    refine WO_nil ?_
    have hne : rayF s p r i ≠ -1 := by omega
    have hbd := rayF_bd s p r i
    have muM_lt : muM (rayF s p r (i + 1)) p r < m := by rw [hm]; exact muM_step hz hne hbd
    refine ⟨muM (rayF s p r (i + 1)) p r, _, muM_lt, (.cons_cons _ (.cons _ (.cons _ .slnil))), i + 1, rfl, on_next hon hne, rfl, rfl, rfl, .inr ⟨_, cnt + 1, _, _, by omega, ?_, rfl, rfl⟩⟩
    obtain ⟨rfl, hc0⟩ := hc
    exact gr_ray hF rfl
   ·try simp only [NM] at h12
    refine WP_exit ?_
    refine xhere ?_
    refine WP_seq ?_
    refine WP_ops ?_
    refine WO_mv (v := .sl _ _ _ _ _) rfl ?_
    refine WO_mv (v := .sl _ _ _ _ _) rfl ?_
    refine WO_nil ?_
    refine WP_ret ?_
    refine ⟨_, RS_tmp (v := .sl _ _ _ _ _) rfl (RS_nil), ?_⟩
    have hbd1 := rayF_bd s p r i
    have hi8b := ray_mu hz i hon
    obtain ⟨rfl, hc0⟩ := hc
    exact .inr ⟨hz, cnt, F, ⟨hon, by omega⟩, by omega, hF, .inr ⟨hc0, _, _, rfl, (.head _)⟩⟩
theorem dRay_ex (s p r : Int) : (p = 0 ∧ r = 0 ∧ RF AM 50 [.s (.int .i64 s), .s (.int .i64 p), .s (.int .i64 r)] .snil) ∨ (¬ (p = 0 ∧ r = 0) ∧ ∃ (n : Nat) (F : Nat → Int), RayOf s p r n ∧ n ≤ 8 ∧ (∀ j : Nat, j < n → F j = rayF s p r j) ∧ ((n = 0 ∧ RF AM 50 [.s (.int .i64 s), .s (.int .i64 p), .s (.int .i64 r)] .snil) ∨ (0 < n ∧ ∃ q, RN AM 50 [.s (.int .i64 s), .s (.int .i64 p), .s (.int .i64 r)] [] (fun b => .sl b 0 n 1 .whole) (.sc .grow q (ia F)) []))) := by
  obtain ⟨v, σ', n', L', h1, h2, h3⟩ := dRay_walk s p r
  rcases h3 with ⟨hf, hr, rfl⟩ | ⟨hz, n, F, hR, hn, hF, h⟩
  · exact .inl ⟨hf, hr, σ', h1⟩
  · rcases h with ⟨h0, rfl⟩ | ⟨h0, b, q, rfl, hm⟩
    · exact .inr ⟨hz, n, F, hR, hn, hF, .inl ⟨h0, σ', h1⟩⟩
    · exact .inr ⟨hz, n, F, hR, hn, hF, .inr ⟨h0, q, b, σ', h1, Nat.zero_le _, (h2.2.mem hm).2, trivial⟩⟩

theorem neq_same {a b : Int} (h : a = b) : binS .neq (.int .i64 a) (.int .i64 b) = some (.bool false) := by
  subst h
  show (if IntKind.i64 = IntKind.i64 then some (S.bool (a != a)) else none) = _
  simp
theorem eql_same {a b : Int} (h : a = b) : binS .eql (.int .i64 a) (.int .i64 b) = some (.bool true) := by
  subst h
  show (if IntKind.i64 = IntKind.i64 then some (S.bool (a == a)) else none) = _
  simp

theorem SameInts_run {md md2 : Md} {q q2 : Nat} {c c2 : Cp} (F G : Nat → Int) (n : Nat) (hn : n ≤ 1000000) (hFG : ∀ j : Nat, j < n → F j = G j) : WR AM 49 [.sl 0 0 n 1 c, .sl 1 0 n 1 c2] [.sc md q (ia F), .sc md2 q2 (ia G)] (fun v _ L => v = .s (.bool true) ∧ (0, Blk.sc md q (ia F)) ∈ L ∧ (1, Blk.sc md2 q2 (ia G)) ∈ L) := by
 refine WR_fn (a := a49) rfl rfl (entryF _) (entry_E (Nat.le_of_ble_eq_true rfl)) (m := 2) rfl ?_
 refine WP_seq ?_
 refine WP_ops ?_
 refine WO_mv rfl ?_
 refine WO_nil ?_
 refine WP_seq ?_
 refine WP_seq ?_
 refine WP_ops ?_
 refine WO_mv (v := .sl _ _ _ _ _) rfl ?_
 refine WO_len rfl ?_
 refine WO_mv (v := .sl _ _ _ _ _) rfl ?_
 refine WO_len rfl ?_
 refine WO_bin (r := .bool _) rfl rfl rfl ?_
 refine WO_nil ?_
 refine WP_cond rfl (fun h13 => ?_) (fun h13 => ?_)
 ·try simp only [NM] at h13
  exfalso; first | omega | (simp at h13)
 ·try simp only [NM] at h13
  refine WP_skip ?_
  refine WP_seq ?_
  refine WP_seq ?_
  refine WP_ops ?_
  refine WO_mv rfl ?_
  refine WO_nil ?_
  refine WP_block ?_
  refine WP_sub (L' := [_, _]) (.cons_cons _ (.cons_cons _ .slnil)) ?_
  refine WP_loop (fun m f _ L => ∃ (i : Nat), (i ≤ n) ∧ (m = n - i) ∧ (f 0 = .sl 0 0 n 1 c) ∧ (f 1 = .sl 1 0 n 1 c2) ∧ (f 5 = .s (.int .i64 i)) ∧ (L = [(0, .sc md q (ia F)), (1, .sc md2 q2 (ia G))])) (fun m f nb L hI => ?_) (n) ⟨0, by omega, rfl, rfl, rfl, rfl, rfl⟩
  obtain ⟨i, hi, hm, k0, k1, k5, rfl⟩ := hI
  refine WP_know (d := 0) (v := .sl 0 0 n 1 c) k0 ?_
  refine WP_know (d := 1) (v := .sl 1 0 n 1 c2) k1 ?_
  refine WP_know (d := 5) (v := .s (.int .i64 i)) k5 ?_
  refine WP_seq ?_
  refine WP_seq ?_
  refine WP_ops ?_
  refine WO_mv (v := .s (.int _ _)) rfl ?_
  refine WO_mv (v := .sl _ _ _ _ _) rfl ?_
  refine WO_len rfl ?_
  refine WO_bin (r := .bool _) rfl rfl rfl ?_
  refine WO_nil ?_
  refine WP_cond rfl (fun h14 => ?_) (fun h14 => ?_)
  ·try simp only [NM] at h14
   refine WP_skip ?_
   refine WP_seq ?_
   refine WP_block ?_
   refine WP_seq ?_
   refine WP_ops ?_
   refine WO_mv (v := .sl _ _ _ _ _) rfl ?_
   refine WO_mv (v := .s (.int _ _)) rfl ?_
   refine WO_ixs rfl rfl (by omega) ?_
   refine WO_ldI (x := F i) rfl rfl (.head _) (congrArg F (by omega)) ?_
   refine WO_mv (v := .sl _ _ _ _ _) rfl ?_
   refine WO_mv (v := .s (.int _ _)) rfl ?_
   refine WO_ixs rfl rfl (by omega) ?_
   refine WO_ldI (x := G i) rfl rfl (.tail _ (.head _)) (congrArg G (by omega)) ?_
   refine WO_bin rfl rfl (neq_same (hFG i (by omega))) ?_
   refine WO_nil ?_
   refine WP_cond rfl (fun h => nomatch h) (fun _ => ?_)
   refine WP_skip ?_
   refine WP_ops ?_
   refine WO_mv (v := .s (.int _ _)) rfl ?_
   refine WO_add rfl rfl (by omega) ?_
   refine WO_mv (v := .s (.int _ _)) rfl ?_
   refine WO_nil ?_
   exact ⟨n - (i + 1), _, by omega, (.cons_cons _ (.cons_cons _ .slnil)), i + 1, by omega, rfl, rfl, rfl, rfl, rfl⟩
  ·try simp only [NM] at h14
   refine WP_exit ?_
   refine xhere ?_
   refine WP_seq ?_
   refine WP_ops ?_
   refine WO_mv rfl ?_
   refine WO_nil ?_
   refine WP_ret ?_
   refine ⟨_, RS_tmp (v := .s (.bool _)) rfl (RS_nil), ?_⟩
   exact ⟨rfl, (.head _), (.tail _ (.head _))⟩
theorem SameInts_nil  : WR AM 49 [.snil, .snil] [] (fun v _ L => v = .s (.bool true)) := by
 refine WR_fn (a := a49) rfl rfl (entryF _) (entry_E (Nat.le_of_ble_eq_true rfl)) (m := 0) rfl ?_
 refine WP_seq ?_
 refine WP_ops ?_
 refine WO_mv rfl ?_
 refine WO_nil ?_
 refine WP_seq ?_
 refine WP_seq ?_
 refine WP_ops ?_
 refine WO_mv (v := .snil) rfl ?_
 refine WO_lenN rfl ?_
 refine WO_mv (v := .snil) rfl ?_
 refine WO_lenN rfl ?_
 refine WO_bin (r := .bool _) rfl rfl rfl ?_
 refine WO_nil ?_
 refine WP_cond rfl (fun h15 => ?_) (fun h15 => ?_)
 ·try simp only [NM] at h15
  exfalso; first | omega | (simp at h15)
 ·try simp only [NM] at h15
  refine WP_skip ?_
  refine WP_seq ?_
  refine WP_seq ?_
  refine WP_ops ?_
  refine WO_mv rfl ?_
  refine WO_nil ?_
  refine WP_block ?_
  refine WP_loop (fun m f _ L => f 0 = .snil ∧ f 5 = .s (.int .i64 0) ∧ L = []) (fun m f nb L hI => ?_) 0 ⟨rfl, rfl, rfl⟩
  obtain ⟨k0, k5, rfl⟩ := hI
  refine WP_know (d := 0) (v := .snil) k0 ?_
  refine WP_know (d := 5) (v := .s (.int .i64 0)) k5 ?_
  refine WP_seq ?_
  refine WP_seq ?_
  refine WP_ops ?_
  refine WO_mv (v := .s (.int _ _)) rfl ?_
  refine WO_mv (v := .snil) rfl ?_
  refine WO_lenN rfl ?_
  refine WO_bin (r := .bool _) rfl rfl rfl ?_
  refine WO_nil ?_
  refine WP_cond rfl (fun h16 => ?_) (fun h16 => ?_)
  ·try simp only [NM] at h16
   exfalso; first | omega | (simp at h16)
  ·try simp only [NM] at h16
   refine WP_exit ?_
   refine xhere ?_
   refine WP_seq ?_
   refine WP_ops ?_
   refine WO_mv rfl ?_
   refine WO_nil ?_
   refine WP_ret ?_
   refine ⟨_, RS_tmp (v := .s (.bool _)) rfl (RS_nil), ?_⟩
   rfl
/-- The squares at n steps. -/
def ringM (s : Int) (K : Nat → Int) : Nat → Nat × (Nat → Int)
  | 0 => (0, fun _ => 0)
  | i + 1 => if stepM s (dp K (0 + (i : Int).toNat * 2) 0) (dp K (0 + (i : Int).toNat * 2) 1) = -1 then ringM s K i else ((ringM s K i).1 + 1, fun j => if j < (ringM s K i).1 then (ringM s K i).2 j else stepM s (dp K (0 + (i : Int).toNat * 2) 0) (dp K (0 + (i : Int).toNat * 2) 1))
theorem ringM_le (s : Int) (K : Nat → Int) : ∀ n, (ringM s K n).1 ≤ n
  | 0 => Nat.le_refl _
  | i + 1 => by
    have := ringM_le s K i
    unfold ringM
    split
    · omega
    · show _ + 1 ≤ _; omega
theorem ring_no {s : Int} {K : Nat → Int} {i : Nat} (h : stepM s (dp K (0 + (i : Int).toNat * 2) 0) (dp K (0 + (i : Int).toNat * 2) 1) = -1) : ringM s K (i + 1) = ringM s K i := by rw [ringM, if_pos h]
theorem ring_yes {s : Int} {K : Nat → Int} {i : Nat} (h : ¬ stepM s (dp K (0 + (i : Int).toNat * 2) 0) (dp K (0 + (i : Int).toNat * 2) 1) = -1) : ringM s K (i + 1) = ((ringM s K i).1 + 1, fun j => if j < (ringM s K i).1 then (ringM s K i).2 j else stepM s (dp K (0 + (i : Int).toNat * 2) 0) (dp K (0 + (i : Int).toNat * 2) 1)) := by rw [ringM, if_neg h]
theorem gr_ring {F R G : Nat → Int} {c : Nat} {t : Int} (h : ∀ j : Nat, j < c → F j = G j) (hr : R 0 = t) : ∀ j : Nat, j < c + 1 → (bif Nat.blt j (c * 1) then F (0 + j) else R (0 + (j - c * 1))) = if j < c then G j else t := by
  intro j hj
  rw [gr_at hj]
  by_cases k : j < c
  · rw [if_pos k, if_pos k]; exact h j k
  · rw [if_neg k, if_neg k]; exact hr

theorem Ring_walk {md : Md} {q1 : Nat} {c : Cp} (s : Int) (K : Nat → Int) (n : Nat) (hn : n ≤ 1000000) : WR AM 51 [.s (.int .i64 s), .sl 0 0 n 2 c] [.sc md q1 (ia K)] (fun v _ L => ((ringM s K n).1 = 0 ∧ v = .snil ∧ (0, Blk.sc md q1 (ia K)) ∈ L) ∨ (0 < (ringM s K n).1 ∧ ∃ b q F, v = .sl b 0 (ringM s K n).1 1 .whole ∧ 1 ≤ b ∧ (∀ j : Nat, j < (ringM s K n).1 → F j = (ringM s K n).2 j) ∧ (b, Blk.sc .grow q (ia F)) ∈ L ∧ (0, Blk.sc md q1 (ia K)) ∈ L)) := by
 refine WR_fn (a := a51) rfl rfl (entryF _) (entry_E (Nat.le_of_ble_eq_true rfl)) (m := 1) rfl ?_
 refine WP_seq ?_
 refine WP_ops ?_
 refine WO_mv rfl ?_
 refine WO_nil ?_
 refine WP_seq ?_
 refine WP_seq ?_
 refine WP_ops ?_
 refine WO_mv (v := .sl _ _ _ _ _) rfl ?_
 refine WO_len rfl ?_
 refine WO_mv rfl ?_
 refine WO_nil ?_
 refine WP_block ?_
 refine WP_sub (L' := [_]) (.cons_cons _ .slnil) ?_
 refine WP_loop (fun m f nn L => ∃ (i : Nat), (i ≤ n) ∧ (m = n - i) ∧ (1 ≤ nn) ∧ (f 0 = .s (.int .i64 s)) ∧ (f 8 = .sl 0 0 n 2 c) ∧ (f 9 = .s (.int .i64 n)) ∧ (f 10 = .s (.int .i64 i)) ∧ ((((ringM s K i).1 = 0) ∧ (f 4 = .snil) ∧ (L = [(0, .sc md q1 (ia K))])) ∨ (∃ (b cnt q : Nat) (F : Nat → Int), (1 ≤ b) ∧ (cnt = (ringM s K i).1 ∧ 0 < cnt) ∧ (∀ j : Nat, j < cnt → F j = (ringM s K i).2 j) ∧ (f 4 = .sl b 0 cnt 1 .whole) ∧ (L = (b, Blk.sc .grow q (ia F)) :: [(0, .sc md q1 (ia K))])))) (fun m f nb L hI => ?_) (n) ⟨0, by omega, rfl, by omega, rfl, rfl, rfl, rfl, .inl ⟨rfl, rfl, rfl⟩⟩
 obtain ⟨i, hi, hm, hnn, k0, k8, k9, k10, hI2⟩ := hI
 rcases hI2 with ⟨hc, kS, rfl⟩ | ⟨b, cnt, q, F, hb1, hc, hF, kS, rfl⟩
 ·skip
  refine WP_know (d := 0) (v := .s (.int .i64 s)) k0 ?_
  refine WP_know (d := 8) (v := .sl 0 0 n 2 c) k8 ?_
  refine WP_know (d := 9) (v := .s (.int .i64 n)) k9 ?_
  refine WP_know (d := 10) (v := .s (.int .i64 i)) k10 ?_
  refine WP_know (d := 4) (v := .snil) kS ?_
  have hle := ringM_le s K i
  refine WP_seq ?_
  refine WP_ops ?_
  refine WO_bin (r := .bool _) rfl rfl rfl ?_
  refine WO_nil ?_
  refine WP_seq ?_
  refine WP_cond rfl (fun h17 => ?_) (fun h17 => ?_)
  ·try simp only [NM] at h17
   refine WP_skip ?_
   refine WP_seq ?_
   refine WP_block ?_
   refine WP_seq ?_
   refine WP_ops ?_
   refine WO_ixs rfl rfl (by omega) ?_
   first | refine WO_ldA0 rfl rfl (.head _) ?_ | refine WO_ldAI rfl rfl (.head _) ?_
   refine WO_allocI ?_
   refine WO_stA rfl rfl rfl rfl .here ?_
   refine WO_nil ?_
   refine WP_seq ?_
   refine WP_ops ?_
   refine WO_mv (v := .s (.int _ _)) rfl ?_
   refine WO_ixa rfl rfl rfl (by omega) ?_
   refine WO_ldI (x := dp K (0 + (i : Int).toNat * 2) 0) rfl rfl (.head _) (rfl) ?_
   refine WO_ixa rfl rfl rfl (by omega) ?_
   refine WO_ldI (x := dp K (0 + (i : Int).toNat * 2) 1) rfl rfl (.head _) (rfl) ?_
   refine WO_call0 rfl (Step_run _ _ _) rfl rfl rfl ?_
   refine WO_mv (v := .s (.int _ _)) rfl ?_
   refine WO_nil ?_
   refine WP_seq ?_
   refine WP_ops ?_
   refine WO_mv (v := .s (.int _ _)) rfl ?_
   refine WO_bin (r := .bool _) rfl rfl rfl ?_
   refine WO_nil ?_
   refine WP_cond rfl (fun h18 => ?_) (fun h18 => ?_)
   ·try simp only [NM] at h18
    refine WP_ops ?_
    refine WO_mv (v := .snil) rfl ?_
    refine WO_mv (v := .s (.int _ _)) rfl ?_
    refine WO_mkslS rfl (.one rfl .nil) ?_
    refine WO_appendNil rfl rfl (.head _) (by decide) rfl ?_
    refine WO_mv (v := .sl _ _ _ _ _) rfl ?_
    refine WO_nil ?_
    refine WP_ops ?_
    refine WO_add rfl rfl (by omega) ?_
    refine WO_mv (v := .s (.int _ _)) rfl ?_
    refine WO_nil ?_
    have hbs := stepM_bd s (dp K (0 + (i : Int).toNat * 2) 0) (dp K (0 + (i : Int).toNat * 2) 1)
    have hr := ring_yes (s := s) (K := K) (i := i) (by omega)
    refine ⟨n - (i + 1), _, by omega, (.cons_cons _ (.cons _ (.cons _ (.cons_cons _ .slnil)))), i + 1, by omega, rfl, by omega, rfl, rfl, rfl, rfl, .inr ⟨_, 1, _, _, (by omega), ⟨by rw [hr]; show 1 = _ + 1; omega, by omega⟩, ?_, rfl, rfl⟩⟩
    intro j hj
    obtain rfl : j = 0 := by omega
    rw [hr]
    show _ = if 0 < (ringM s K i).1 then _ else _
    rw [if_neg (by omega)]; rfl
   ·try simp only [NM] at h18
    refine WP_skip ?_
    refine WP_ops ?_
    refine WO_add rfl rfl (by omega) ?_
    refine WO_mv (v := .s (.int _ _)) rfl ?_
    refine WO_nil ?_
    have hbs := stepM_bd s (dp K (0 + (i : Int).toNat * 2) 0) (dp K (0 + (i : Int).toNat * 2) 1)
    have hr := ring_no (s := s) (K := K) (i := i) (by omega)
    refine ⟨n - (i + 1), _, by omega, (.cons _ (.cons_cons _ .slnil)), i + 1, by omega, rfl, by omega, rfl, rfl, rfl, rfl, .inl ⟨by rw [hr]; exact hc, rfl, rfl⟩⟩
  ·try simp only [NM] at h17
   refine WP_exit ?_
   refine xhere ?_
   refine WP_seq ?_
   refine WP_ops ?_
   refine WO_mv (v := .snil) rfl ?_
   refine WO_mv (v := .snil) rfl ?_
   refine WO_nil ?_
   refine WP_ret ?_
   refine ⟨_, RS_tmp (v := .snil) rfl (RS_nil), ?_⟩
   obtain rfl : i = n := by omega
   exact .inl ⟨hc, rfl, (.head _)⟩
 ·skip
  refine WP_know (d := 0) (v := .s (.int .i64 s)) k0 ?_
  refine WP_know (d := 8) (v := .sl 0 0 n 2 c) k8 ?_
  refine WP_know (d := 9) (v := .s (.int .i64 n)) k9 ?_
  refine WP_know (d := 10) (v := .s (.int .i64 i)) k10 ?_
  refine WP_know (d := 4) (v := .sl b 0 cnt 1 .whole) kS ?_
  have hle := ringM_le s K i
  refine WP_seq ?_
  refine WP_ops ?_
  refine WO_bin (r := .bool _) rfl rfl rfl ?_
  refine WO_nil ?_
  refine WP_seq ?_
  refine WP_cond rfl (fun h19 => ?_) (fun h19 => ?_)
  ·try simp only [NM] at h19
   refine WP_skip ?_
   refine WP_seq ?_
   refine WP_block ?_
   refine WP_seq ?_
   refine WP_ops ?_
   refine WO_ixs rfl rfl (by omega) ?_
   first | refine WO_ldA0 rfl rfl (.tail _ (.head _)) ?_ | refine WO_ldAI rfl rfl (.tail _ (.head _)) ?_
   refine WO_allocI ?_
   refine WO_stA rfl rfl rfl rfl .here ?_
   refine WO_nil ?_
   refine WP_seq ?_
   refine WP_ops ?_
   refine WO_mv (v := .s (.int _ _)) rfl ?_
   refine WO_ixa rfl rfl rfl (by omega) ?_
   refine WO_ldI (x := dp K (0 + (i : Int).toNat * 2) 0) rfl rfl (.head _) (rfl) ?_
   refine WO_ixa rfl rfl rfl (by omega) ?_
   refine WO_ldI (x := dp K (0 + (i : Int).toNat * 2) 1) rfl rfl (.head _) (rfl) ?_
   refine WO_call0 rfl (Step_run _ _ _) rfl rfl rfl ?_
   refine WO_mv (v := .s (.int _ _)) rfl ?_
   refine WO_nil ?_
   refine WP_seq ?_
   refine WP_ops ?_
   refine WO_mv (v := .s (.int _ _)) rfl ?_
   refine WO_bin (r := .bool _) rfl rfl rfl ?_
   refine WO_nil ?_
   refine WP_cond rfl (fun h20 => ?_) (fun h20 => ?_)
   ·try simp only [NM] at h20
    refine WP_ops ?_
    refine WO_mv (v := .sl _ _ _ _ _) rfl ?_
    refine WO_mv (v := .s (.int _ _)) rfl ?_
    refine WO_mkslS rfl (.one rfl .nil) ?_
    refine WO_appendW rfl rfl (.head _) (.there (.there .here)) (by simp [roomy]; omega) ?_
    refine WO_mv (v := .sl _ _ _ _ _) rfl ?_
    refine WO_nil ?_
    refine WP_ops ?_
    refine WO_add rfl rfl (by omega) ?_
    refine WO_mv (v := .s (.int _ _)) rfl ?_
    refine WO_nil ?_
    have hbs := stepM_bd s (dp K (0 + (i : Int).toNat * 2) 0) (dp K (0 + (i : Int).toNat * 2) 1)
    have hr := ring_yes (s := s) (K := K) (i := i) (by omega)
    obtain ⟨hc1, hc0⟩ := hc
    have hle := ringM_le s K i
    refine ⟨n - (i + 1), _, by omega, (.cons_cons _ (.cons _ (.cons _ (.cons _ (.cons_cons _ .slnil))))), i + 1, by omega, rfl, by omega, rfl, rfl, rfl, rfl, .inr ⟨_, cnt + 1, _, _, (by omega), ⟨by rw [hr, hc1], by omega⟩, ?_, rfl, rfl⟩⟩
    rw [hr]
    rw [← hc1]
    exact gr_ring hF rfl
   ·try simp only [NM] at h20
    refine WP_skip ?_
    refine WP_ops ?_
    refine WO_add rfl rfl (by omega) ?_
    refine WO_mv (v := .s (.int _ _)) rfl ?_
    refine WO_nil ?_
    have hbs := stepM_bd s (dp K (0 + (i : Int).toNat * 2) 0) (dp K (0 + (i : Int).toNat * 2) 1)
    have hr := ring_no (s := s) (K := K) (i := i) (by omega)
    refine ⟨n - (i + 1), _, by omega, (.cons _ (.cons_cons _ (.cons_cons _ .slnil))), i + 1, by omega, rfl, by omega, rfl, rfl, rfl, rfl, .inr ⟨_, cnt, _, _, hb1, by rw [hr]; exact hc, by rw [hr]; exact hF, rfl, rfl⟩⟩
  ·try simp only [NM] at h19
   refine WP_exit ?_
   refine xhere ?_
   refine WP_seq ?_
   refine WP_ops ?_
   refine WO_mv (v := .sl _ _ _ _ _) rfl ?_
   refine WO_mv (v := .sl _ _ _ _ _) rfl ?_
   refine WO_nil ?_
   refine WP_ret ?_
   refine ⟨_, RS_tmp (v := .sl _ _ _ _ _) rfl (RS_nil), ?_⟩
   obtain rfl : i = n := by omega
   obtain ⟨rfl, hc0⟩ := hc
   exact .inr ⟨hc0, _, _, F, rfl, hb1, hF, (.head _), (.tail _ (.head _))⟩
theorem dRing_walk {md : Md} {q1 : Nat} {c : Cp} (s : Int) (K : Nat → Int) (n : Nat) (hn : n ≤ 1000000) : WR AM 52 [.s (.int .i64 s), .sl 0 0 n 2 c] [.sc md q1 (ia K)] (fun v _ L => ((ringM s K n).1 = 0 ∧ v = .snil ∧ (0, Blk.sc md q1 (ia K)) ∈ L) ∨ (0 < (ringM s K n).1 ∧ ∃ b q F, v = .sl b 0 (ringM s K n).1 1 .whole ∧ 1 ≤ b ∧ (∀ j : Nat, j < (ringM s K n).1 → F j = (ringM s K n).2 j) ∧ (b, Blk.sc .grow q (ia F)) ∈ L ∧ (0, Blk.sc md q1 (ia K)) ∈ L)) := by
 refine WR_fn (a := a52) rfl rfl (entryF _) (entry_E (Nat.le_of_ble_eq_true rfl)) (m := 1) rfl ?_
 refine WP_seq ?_
 refine WP_ops ?_
 refine WO_mv rfl ?_
 refine WO_nil ?_
 refine WP_seq ?_
 refine WP_ops ?_
 refine WO_mv rfl ?_
 refine WO_nil ?_
 refine WP_seq ?_
 refine WP_seq ?_
 refine WP_ops ?_
 refine WO_mv rfl ?_
 refine WO_nil ?_
 refine WP_block ?_
 refine WP_sub (L' := [_]) (.cons_cons _ .slnil) ?_
 refine WP_loop (fun m f nn L => ∃ (i : Nat), (i ≤ n) ∧ (m = n - i) ∧ (1 ≤ nn) ∧ (f 0 = .s (.int .i64 s)) ∧ (f 1 = .sl 0 0 n 2 c) ∧ (f 6 = .s (.int .i64 i)) ∧ ((((ringM s K i).1 = 0) ∧ (f 5 = .snil) ∧ (L = [(0, .sc md q1 (ia K))])) ∨ (∃ (b cnt q : Nat) (F : Nat → Int), (1 ≤ b) ∧ (cnt = (ringM s K i).1 ∧ 0 < cnt) ∧ (∀ j : Nat, j < cnt → F j = (ringM s K i).2 j) ∧ (f 5 = .sl b 0 cnt 1 .whole) ∧ (L = (b, Blk.sc .grow q (ia F)) :: [(0, .sc md q1 (ia K))])))) (fun m f nb L hI => ?_) (n) ⟨0, by omega, rfl, by omega, rfl, rfl, rfl, .inl ⟨rfl, rfl, rfl⟩⟩
 obtain ⟨i, hi, hm, hnn, k0, k1, k6, hI2⟩ := hI
 rcases hI2 with ⟨hc, kS, rfl⟩ | ⟨b, cnt, q, F, hb1, hc, hF, kS, rfl⟩
 ·skip
  refine WP_know (d := 0) (v := .s (.int .i64 s)) k0 ?_
  refine WP_know (d := 1) (v := .sl 0 0 n 2 c) k1 ?_
  refine WP_know (d := 6) (v := .s (.int .i64 i)) k6 ?_
  refine WP_know (d := 5) (v := .snil) kS ?_
  have hle := ringM_le s K i
  refine WP_seq ?_
  refine WP_seq ?_
  refine WP_ops ?_
  refine WO_mv (v := .s (.int _ _)) rfl ?_
  refine WO_mv (v := .sl _ _ _ _ _) rfl ?_
  refine WO_len rfl ?_
  refine WO_bin (r := .bool _) rfl rfl rfl ?_
  refine WO_nil ?_
  refine WP_cond rfl (fun h21 => ?_) (fun h21 => ?_)
  ·try simp only [NM] at h21
   refine WP_skip ?_
   refine WP_seq ?_
   refine WP_block ?_
   refine WP_seq ?_
   refine WP_ops ?_
   refine WO_mv (v := .s (.int _ _)) rfl ?_
   refine WO_mv (v := .sl _ _ _ _ _) rfl ?_
   refine WO_mv (v := .s (.int _ _)) rfl ?_
   refine WO_ixs rfl rfl (by omega) ?_
   refine WO_ixa rfl rfl rfl (by omega) ?_
   refine WO_ldI (x := dp K (0 + (i : Int).toNat * 2) 0) rfl rfl (.head _) (rfl) ?_
   refine WO_mv (v := .sl _ _ _ _ _) rfl ?_
   refine WO_mv (v := .s (.int _ _)) rfl ?_
   refine WO_ixs rfl rfl (by omega) ?_
   refine WO_ixa rfl rfl rfl (by omega) ?_
   refine WO_ldI (x := dp K (0 + (i : Int).toNat * 2) 1) rfl rfl (.head _) (rfl) ?_
   refine WO_call0 rfl (dStep_run _ _ _) rfl rfl rfl ?_
   refine WO_mv (v := .s (.int _ _)) rfl ?_
   refine WO_nil ?_
   refine WP_seq ?_
   refine WP_ops ?_
   refine WO_mv (v := .s (.int _ _)) rfl ?_
   refine WO_bin (r := .bool _) rfl rfl rfl ?_
   refine WO_nil ?_
   refine WP_cond rfl (fun h22 => ?_) (fun h22 => ?_)
   ·try simp only [NM] at h22
    refine WP_ops ?_
    refine WO_mv (v := .snil) rfl ?_
    refine WO_mv (v := .s (.int _ _)) rfl ?_
    refine WO_mkslS rfl (.one rfl .nil) ?_
    refine WO_appendNil rfl rfl (.head _) (by decide) rfl ?_
    refine WO_mv (v := .sl _ _ _ _ _) rfl ?_
    refine WO_nil ?_
    refine WP_ops ?_
    refine WO_mv (v := .s (.int _ _)) rfl ?_
    refine WO_add rfl rfl (by omega) ?_
    refine WO_mv (v := .s (.int _ _)) rfl ?_
    refine WO_nil ?_
    have hbs := stepM_bd s (dp K (0 + (i : Int).toNat * 2) 0) (dp K (0 + (i : Int).toNat * 2) 1)
    have hr := ring_yes (s := s) (K := K) (i := i) (by omega)
    refine ⟨n - (i + 1), _, by omega, (.cons_cons _ (.cons _ (.cons_cons _ .slnil))), i + 1, by omega, rfl, by omega, rfl, rfl, rfl, .inr ⟨_, 1, _, _, (by omega), ⟨by rw [hr]; show 1 = _ + 1; omega, by omega⟩, ?_, rfl, rfl⟩⟩
    intro j hj
    obtain rfl : j = 0 := by omega
    rw [hr]
    show _ = if 0 < (ringM s K i).1 then _ else _
    rw [if_neg (by omega)]; rfl
   ·try simp only [NM] at h22
    refine WP_skip ?_
    refine WP_ops ?_
    refine WO_mv (v := .s (.int _ _)) rfl ?_
    refine WO_add rfl rfl (by omega) ?_
    refine WO_mv (v := .s (.int _ _)) rfl ?_
    refine WO_nil ?_
    have hbs := stepM_bd s (dp K (0 + (i : Int).toNat * 2) 0) (dp K (0 + (i : Int).toNat * 2) 1)
    have hr := ring_no (s := s) (K := K) (i := i) (by omega)
    refine ⟨n - (i + 1), _, by omega, (.cons_cons _ .slnil), i + 1, by omega, rfl, by omega, rfl, rfl, rfl, .inl ⟨by rw [hr]; exact hc, rfl, rfl⟩⟩
  ·try simp only [NM] at h21
   refine WP_exit ?_
   refine xhere ?_
   refine WP_seq ?_
   refine WP_ops ?_
   refine WO_mv (v := .snil) rfl ?_
   refine WO_mv (v := .snil) rfl ?_
   refine WO_nil ?_
   refine WP_ret ?_
   refine ⟨_, RS_tmp (v := .snil) rfl (RS_nil), ?_⟩
   obtain rfl : i = n := by omega
   exact .inl ⟨hc, rfl, (.head _)⟩
 ·skip
  refine WP_know (d := 0) (v := .s (.int .i64 s)) k0 ?_
  refine WP_know (d := 1) (v := .sl 0 0 n 2 c) k1 ?_
  refine WP_know (d := 6) (v := .s (.int .i64 i)) k6 ?_
  refine WP_know (d := 5) (v := .sl b 0 cnt 1 .whole) kS ?_
  have hle := ringM_le s K i
  refine WP_seq ?_
  refine WP_seq ?_
  refine WP_ops ?_
  refine WO_mv (v := .s (.int _ _)) rfl ?_
  refine WO_mv (v := .sl _ _ _ _ _) rfl ?_
  refine WO_len rfl ?_
  refine WO_bin (r := .bool _) rfl rfl rfl ?_
  refine WO_nil ?_
  refine WP_cond rfl (fun h23 => ?_) (fun h23 => ?_)
  ·try simp only [NM] at h23
   refine WP_skip ?_
   refine WP_seq ?_
   refine WP_block ?_
   refine WP_seq ?_
   refine WP_ops ?_
   refine WO_mv (v := .s (.int _ _)) rfl ?_
   refine WO_mv (v := .sl _ _ _ _ _) rfl ?_
   refine WO_mv (v := .s (.int _ _)) rfl ?_
   refine WO_ixs rfl rfl (by omega) ?_
   refine WO_ixa rfl rfl rfl (by omega) ?_
   refine WO_ldI (x := dp K (0 + (i : Int).toNat * 2) 0) rfl rfl (.tail _ (.head _)) (rfl) ?_
   refine WO_mv (v := .sl _ _ _ _ _) rfl ?_
   refine WO_mv (v := .s (.int _ _)) rfl ?_
   refine WO_ixs rfl rfl (by omega) ?_
   refine WO_ixa rfl rfl rfl (by omega) ?_
   refine WO_ldI (x := dp K (0 + (i : Int).toNat * 2) 1) rfl rfl (.tail _ (.head _)) (rfl) ?_
   refine WO_call0 rfl (dStep_run _ _ _) rfl rfl rfl ?_
   refine WO_mv (v := .s (.int _ _)) rfl ?_
   refine WO_nil ?_
   refine WP_seq ?_
   refine WP_ops ?_
   refine WO_mv (v := .s (.int _ _)) rfl ?_
   refine WO_bin (r := .bool _) rfl rfl rfl ?_
   refine WO_nil ?_
   refine WP_cond rfl (fun h24 => ?_) (fun h24 => ?_)
   ·try simp only [NM] at h24
    refine WP_ops ?_
    refine WO_mv (v := .sl _ _ _ _ _) rfl ?_
    refine WO_mv (v := .s (.int _ _)) rfl ?_
    refine WO_mkslS rfl (.one rfl .nil) ?_
    refine WO_appendW rfl rfl (.head _) (.there .here) (by simp [roomy]; omega) ?_
    refine WO_mv (v := .sl _ _ _ _ _) rfl ?_
    refine WO_nil ?_
    refine WP_ops ?_
    refine WO_mv (v := .s (.int _ _)) rfl ?_
    refine WO_add rfl rfl (by omega) ?_
    refine WO_mv (v := .s (.int _ _)) rfl ?_
    refine WO_nil ?_
    have hbs := stepM_bd s (dp K (0 + (i : Int).toNat * 2) 0) (dp K (0 + (i : Int).toNat * 2) 1)
    have hr := ring_yes (s := s) (K := K) (i := i) (by omega)
    obtain ⟨hc1, hc0⟩ := hc
    have hle := ringM_le s K i
    refine ⟨n - (i + 1), _, by omega, (.cons_cons _ (.cons _ (.cons _ (.cons_cons _ .slnil)))), i + 1, by omega, rfl, by omega, rfl, rfl, rfl, .inr ⟨_, cnt + 1, _, _, (by omega), ⟨by rw [hr, hc1], by omega⟩, ?_, rfl, rfl⟩⟩
    rw [hr]
    rw [← hc1]
    exact gr_ring hF rfl
   ·try simp only [NM] at h24
    refine WP_skip ?_
    refine WP_ops ?_
    refine WO_mv (v := .s (.int _ _)) rfl ?_
    refine WO_add rfl rfl (by omega) ?_
    refine WO_mv (v := .s (.int _ _)) rfl ?_
    refine WO_nil ?_
    have hbs := stepM_bd s (dp K (0 + (i : Int).toNat * 2) 0) (dp K (0 + (i : Int).toNat * 2) 1)
    have hr := ring_no (s := s) (K := K) (i := i) (by omega)
    refine ⟨n - (i + 1), _, by omega, (.cons_cons _ (.cons_cons _ .slnil)), i + 1, by omega, rfl, by omega, rfl, rfl, rfl, .inr ⟨_, cnt, _, _, hb1, by rw [hr]; exact hc, by rw [hr]; exact hF, rfl, rfl⟩⟩
  ·try simp only [NM] at h23
   refine WP_exit ?_
   refine xhere ?_
   refine WP_seq ?_
   refine WP_ops ?_
   refine WO_mv (v := .sl _ _ _ _ _) rfl ?_
   refine WO_mv (v := .sl _ _ _ _ _) rfl ?_
   refine WO_nil ?_
   refine WP_ret ?_
   refine ⟨_, RS_tmp (v := .sl _ _ _ _ _) rfl (RS_nil), ?_⟩
   obtain rfl : i = n := by omega
   obtain ⟨rfl, hc0⟩ := hc
   exact .inr ⟨hc0, _, _, F, rfl, hb1, hF, (.head _), (.tail _ (.head _))⟩
theorem dRing_walkN (s : Int) : WR AM 52 [.s (.int .i64 s), .snil] [] (fun v _ L => v = .snil) := by
 refine WR_fn (a := a52) rfl rfl (entryF _) (entry_E (Nat.le_of_ble_eq_true rfl)) (m := 0) rfl ?_
 refine WP_seq ?_
 refine WP_ops ?_
 refine WO_mv rfl ?_
 refine WO_nil ?_
 refine WP_seq ?_
 refine WP_ops ?_
 refine WO_mv rfl ?_
 refine WO_nil ?_
 refine WP_seq ?_
 refine WP_seq ?_
 refine WP_ops ?_
 refine WO_mv rfl ?_
 refine WO_nil ?_
 refine WP_block ?_
 refine WP_loop (fun m f _ L => f 1 = .snil ∧ f 6 = .s (.int .i64 0) ∧ f 5 = .snil ∧ L = []) (fun m f nb L hI => ?_) 0 ⟨rfl, rfl, rfl, rfl⟩
 obtain ⟨k1, k6, k5, rfl⟩ := hI
 refine WP_know (d := 1) (v := .snil) k1 ?_
 refine WP_know (d := 6) (v := .s (.int .i64 0)) k6 ?_
 refine WP_know (d := 5) (v := .snil) k5 ?_
 refine WP_seq ?_
 refine WP_seq ?_
 refine WP_ops ?_
 refine WO_mv (v := .s (.int _ _)) rfl ?_
 refine WO_mv (v := .snil) rfl ?_
 refine WO_lenN rfl ?_
 refine WO_bin (r := .bool _) rfl rfl rfl ?_
 refine WO_nil ?_
 refine WP_cond rfl (fun h25 => ?_) (fun h25 => ?_)
 ·try simp only [NM] at h25
  exfalso; first | omega | (simp at h25)
 ·try simp only [NM] at h25
  refine WP_exit ?_
  refine xhere ?_
  refine WP_seq ?_
  refine WP_ops ?_
  refine WO_mv (v := .snil) rfl ?_
  refine WO_mv (v := .snil) rfl ?_
  refine WO_nil ?_
  refine WP_ret ?_
  refine ⟨_, RS_tmp (v := .snil) rfl (RS_nil), ?_⟩
  rfl
theorem dRing_walkZ (s : Int) : WR AM 52 [.s (.int .i64 s), .slz] [] (fun v _ L => v = .snil) := by
 refine WR_fn (a := a52) rfl rfl (entryF _) (entry_E (Nat.le_of_ble_eq_true rfl)) (m := 0) rfl ?_
 refine WP_seq ?_
 refine WP_ops ?_
 refine WO_mv rfl ?_
 refine WO_nil ?_
 refine WP_seq ?_
 refine WP_ops ?_
 refine WO_mv rfl ?_
 refine WO_nil ?_
 refine WP_seq ?_
 refine WP_seq ?_
 refine WP_ops ?_
 refine WO_mv rfl ?_
 refine WO_nil ?_
 refine WP_block ?_
 refine WP_loop (fun m f _ L => f 1 = .slz ∧ f 6 = .s (.int .i64 0) ∧ f 5 = .snil ∧ L = []) (fun m f nb L hI => ?_) 0 ⟨rfl, rfl, rfl, rfl⟩
 obtain ⟨k1, k6, k5, rfl⟩ := hI
 refine WP_know (d := 1) (v := .slz) k1 ?_
 refine WP_know (d := 6) (v := .s (.int .i64 0)) k6 ?_
 refine WP_know (d := 5) (v := .snil) k5 ?_
 refine WP_seq ?_
 refine WP_seq ?_
 refine WP_ops ?_
 refine WO_mv (v := .s (.int _ _)) rfl ?_
 refine WO_mv (v := .slz) rfl ?_
 refine WO_lenZ rfl ?_
 refine WO_bin (r := .bool _) rfl rfl rfl ?_
 refine WO_nil ?_
 refine WP_cond rfl (fun h26 => ?_) (fun h26 => ?_)
 ·try simp only [NM] at h26
  exfalso; first | omega | (simp at h26)
 ·try simp only [NM] at h26
  refine WP_exit ?_
  refine xhere ?_
  refine WP_seq ?_
  refine WP_ops ?_
  refine WO_mv (v := .snil) rfl ?_
  refine WO_mv (v := .snil) rfl ?_
  refine WO_nil ?_
  refine WP_ret ?_
  refine ⟨_, RS_tmp (v := .snil) rfl (RS_nil), ?_⟩
  rfl
theorem Ring_walkZ (s : Int) : WR AM 51 [.s (.int .i64 s), .slz] [] (fun v _ L => v = .snil) := by
 refine WR_fn (a := a51) rfl rfl (entryF _) (entry_E (Nat.le_of_ble_eq_true rfl)) (m := 0) rfl ?_
 refine WP_seq ?_
 refine WP_ops ?_
 refine WO_mv rfl ?_
 refine WO_nil ?_
 refine WP_seq ?_
 refine WP_seq ?_
 refine WP_ops ?_
 refine WO_mv (v := .slz) rfl ?_
 refine WO_lenZ rfl ?_
 refine WO_mv rfl ?_
 refine WO_nil ?_
 refine WP_block ?_
 refine WP_loop (fun m f _ L => f 8 = .slz ∧ f 10 = .s (.int .i64 0) ∧ f 4 = .snil ∧ f 9 = .s (.int .i64 0) ∧ L = []) (fun m f nb L hI => ?_) 0 ⟨rfl, rfl, rfl, rfl, rfl⟩
 obtain ⟨k8, k10, k4, k9, rfl⟩ := hI
 refine WP_know (d := 8) (v := .slz) k8 ?_
 refine WP_know (d := 10) (v := .s (.int .i64 0)) k10 ?_
 refine WP_know (d := 4) (v := .snil) k4 ?_
 refine WP_know (d := 9) (v := .s (.int .i64 0)) k9 ?_
 refine WP_seq ?_
 refine WP_ops ?_
 refine WO_bin (r := .bool _) rfl rfl rfl ?_
 refine WO_nil ?_
 refine WP_seq ?_
 refine WP_cond rfl (fun h27 => ?_) (fun h27 => ?_)
 ·try simp only [NM] at h27
  exfalso; first | omega | (simp at h27)
 ·try simp only [NM] at h27
  refine WP_exit ?_
  refine xhere ?_
  refine WP_seq ?_
  refine WP_ops ?_
  refine WO_mv (v := .snil) rfl ?_
  refine WO_mv (v := .snil) rfl ?_
  refine WO_nil ?_
  refine WP_ret ?_
  refine ⟨_, RS_tmp (v := .snil) rfl (RS_nil), ?_⟩
  rfl
end Go.Proofs.Ytjldefmcnppdoaa
