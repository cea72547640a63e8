/- The walk of SquareRays. -/
import Derived.Test.YtjldefmcnppdoaaSquareE
namespace Go.Proofs.Ytjldefmcnppdoaa
open Go Go.Am
set_option linter.unusedSimpArgs false
set_option linter.unusedVariables false
/-- The begin of a way, and its squares. -/
def posF (a p r : Int) : Nat → Int
  | 0 => a
  | k + 1 => rayF a p r k
theorem pos_step (a p r : Int) : ∀ k : Nat, posF a p r (k + 1) = stepM (posF a p r k) p r
  | 0 => rfl
  | _ + 1 => rfl
theorem pos_on {a p r : Int} {n : Nat} (ha : 0 ≤ a ∧ a < 64) (h : RayOf a p r n) {k : Nat} (hk : k ≤ n) : 0 ≤ posF a p r k ∧ posF a p r k < 64 := by
  cases k with
  | zero => exact ha
  | succ k =>
    have h1 := h.on k (by omega)
    have h2 := rayF_bd a p r k
    show 0 ≤ rayF a p r k ∧ rayF a p r k < 64
    omega
theorem mu_pos {s p r : Int} (h : 0 ≤ s ∧ s < 64) : 1 ≤ muM s p r := by
  have n2 : ¬ s < 0 := by omega
  unfold muM
  rw [if_neg n2]
  by_cases a : 0 < p
  · rw [if_pos a]; omega
  · rw [if_neg a]
    by_cases b : p < 0
    · rw [if_pos b]; omega
    · rw [if_neg b]
      by_cases c : 0 < r
      · rw [if_pos c]; omega
      · rw [if_neg c]; omega
theorem mu_add {a p r : Int} {n : Nat} (hz : ¬ (p = 0 ∧ r = 0)) (ha : 0 ≤ a ∧ a < 64) (h : RayOf a p r n) {k : Nat} : ∀ d : Nat, k + d ≤ n → muM (posF a p r (k + d)) p r + d ≤ muM (posF a p r k) p r
  | 0, _ => Nat.le_refl _
  | d + 1, hd => by
    have ih := mu_add hz ha h (k := k) d (by omega)
    have hb := pos_on ha h (k := k + d) (by omega)
    have := muM_step (f := p) (r := r) hz (s := posF a p r (k + d)) (by omega) (by omega)
    rw [← pos_step] at this
    show muM (posF a p r (k + d + 1)) p r + (d + 1) ≤ _
    omega
theorem pos_ne {a p r : Int} {n j k : Nat} (hz : ¬ (p = 0 ∧ r = 0)) (ha : 0 ≤ a ∧ a < 64) (h : RayOf a p r n) (hk : k < j) (hj : j ≤ n) : posF a p r j ≠ posF a p r k := by
  intro e
  have := mu_add hz ha h (k := k) (j - k) (by omega)
  rw [show k + (j - k) = j by omega, e] at this
  omega
theorem ray7 {a p r : Int} {n : Nat} (hz : ¬ (p = 0 ∧ r = 0)) (ha : 0 ≤ a ∧ a < 64) (h : RayOf a p r n) : n ≤ 7 := by
  have := mu_add hz ha h (k := 0) n (by omega)
  have h1 := mu_pos (p := p) (r := r) (pos_on ha h (k := n) (Nat.le_refl _))
  have h2 := muM_bd (s := a) (f := p) (r := r) ha.2
  rw [Nat.zero_add] at this
  have e : posF a p r 0 = a := rfl
  rw [e] at this
  omega
theorem pos_back {a p r : Int} {n : Nat} (ha : 0 ≤ a ∧ a < 64) (h : RayOf a p r n) {k : Nat} (hk : k < n) : stepM (posF a p r (k + 1)) (-p) (-r) = posF a p r k := by
  have := pos_on ha h (k := k + 1) (by omega)
  rw [pos_step] at this ⊢
  exact step_back this.1
theorem ray_back {a p r : Int} {n : Nat} (ha : 0 ≤ a ∧ a < 64) (h : RayOf a p r n) : ∀ j : Nat, j < n → rayF (posF a p r n) (-p) (-r) j = posF a p r (n - 1 - j)
  | 0, hj => by
    have := pos_back ha h (k := n - 1) (by omega)
    rw [show n - 1 + 1 = n by omega] at this
    exact this
  | j + 1, hj => by
    have ih := ray_back ha h j (by omega)
    show stepM (rayF (posF a p r n) (-p) (-r) j) (-p) (-r) = _
    rw [ih]
    have := pos_back ha h (k := n - 1 - (j + 1)) (by omega)
    rw [show n - 1 - (j + 1) + 1 = n - 1 - j by omega] at this
    exact this
theorem back_len {a p r : Int} {n m : Nat} (ha : 0 ≤ a ∧ a < 64) (h : RayOf a p r n) (k : RayOf (posF a p r n) (-p) (-r) m) : n ≤ m := by
  refine Nat.le_of_not_lt fun hm => ?_
  have h1 := k.off
  rw [ray_back ha h m hm] at h1
  have := pos_on ha h (k := n - 1 - m) (by omega)
  omega
theorem way_bd {a p r : Int} {n : Nat} (h : RayOf a p r n) (h0 : 0 < n) : (-8 < p ∧ p < 8) ∧ (-8 < r ∧ r < 8) := by
  have := stepM_is (s := a) (f := p) (r := r) (h.on 0 h0)
  omega
theorem eql_no {a b : Int} (h : a ≠ b) : binS .eql (.int .i64 a) (.int .i64 b) = some (.bool false) := by
  show (if IntKind.i64 = IntKind.i64 then some (S.bool (a == b)) else none) = _
  rw [if_pos rfl, beq_eq_false_iff_ne.2 h]

theorem SquareRays_run (x p r : Int) : WR AM 6 [.s (.int .i64 x), .s (.int .i64 p), .s (.int .i64 r)] [] (fun v _ _ => v = .s (.bool true)) := by
 refine WR_fn (a := a6) rfl rfl (entryF _) (entry_E (Nat.le_of_ble_eq_true rfl)) (m := 0) rfl ?_
 refine WP_seq ?_
 refine WP_ops ?_
 refine WO_mv rfl ?_
 refine WO_nil ?_
 refine WP_seq ?_
 refine WP_seq ?_
 refine WP_ops ?_
 refine WO_call0 rfl (sqAwake_run) rfl rfl rfl ?_
 refine WO_un (r := .bool _) rfl rfl ?_
 refine WO_nil ?_
 refine WP_cond rfl (fun h => nomatch h) (fun _ => ?_)
 refine WP_skip ?_
 refine WP_seq ?_
 refine WP_ops ?_
 refine WO_mv (v := .s (.int _ _)) rfl ?_
 have hq := pickM_bd x (n := 64) (by omega)
 refine WO_call0 rfl (RF_of (Pick_run x 64 (by omega) (by omega))) rfl rfl rfl ?_
 obtain ⟨a, hna⟩ : ∃ q, q = pickM x 64 := ⟨_, rfl⟩
 rw [← hna]
 have ha : 0 ≤ a ∧ a < 64 := by omega
 refine WO_mv (v := .s (.int _ _)) rfl ?_
 refine WO_nil ?_
 refine WP_seq ?_
 refine WP_ops ?_
 refine WO_mv (v := .s (.int _ _)) rfl ?_
 refine WO_mv (v := .s (.int _ _)) rfl ?_
 refine WO_mv (v := .s (.int _ _)) rfl ?_
 rcases Ray_ex a p r with ⟨hp0, hr0, hT⟩ | ⟨hz, n1, F1, hR1, hn1, hF1, hT | hT⟩
 ·skip
  refine WO_call0 rfl (hT) rfl rfl rfl ?_
  refine WO_mv (v := .snil) rfl ?_
  refine WO_nil ?_
  refine WP_seq ?_
  refine WP_seq ?_
  refine WP_ops ?_
  refine WO_mv (v := .snil) rfl ?_
  refine WO_lenN rfl ?_
  refine WO_bin (r := .bool _) rfl rfl rfl ?_
  refine WO_mv (v := .s (.bool _)) rfl ?_
  refine WO_case (t := 25) rfl (fun h1 => ?_) (fun h1 => ?_)
  ·try simp only [NM] at h1
   exfalso; first | omega | (simp at h1)
  ·try simp only [NM] at h1
   refine WO_gt rfl ?_
   refine WO_mv (v := .s (.int _ _)) rfl ?_
   refine WO_gt rfl ?_
   refine WO_bin (r := .bool _) rfl rfl rfl ?_
   refine WO_gt rfl ?_
   refine WO_mv (v := .s (.bool _)) rfl ?_
   refine WO_case (t := 28) rfl (fun h2 => ?_) (fun h2 => ?_)
   ·try simp only [NM] at h2
    refine WO_gt rfl ?_
    refine WO_mv (v := .s (.int _ _)) rfl ?_
    refine WO_gt rfl ?_
    refine WO_bin (r := .bool _) rfl rfl rfl ?_
    refine WO_gt rfl ?_
    refine WO_pick (v := .s (.bool _)) rfl rfl ?_
    refine WO_gt rfl ?_
    refine WO_mv (v := .s (.bool _)) rfl ?_
    refine WO_case (t := 32) rfl (fun h3 => ?_) (fun h3 => ?_)
    ·try simp only [NM] at h3
     refine WO_gt rfl ?_
     refine WO_mv (v := .snil) rfl ?_
     refine WO_gt rfl ?_
     refine WO_lenN rfl ?_
     refine WO_gt rfl ?_
     refine WO_bin (r := .bool _) rfl rfl rfl ?_
     refine WO_gt rfl ?_
     refine WO_pick (v := .s (.bool _)) rfl rfl ?_
     refine WO_pick (v := .s (.bool _)) rfl rfl ?_
     refine WO_nil ?_
     refine WP_cond rfl (fun h4 => ?_) (fun h4 => ?_)
     ·try simp only [NM] at h4
      exfalso; first | omega | (simp at h4)
     ·try simp only [NM] at h4
      refine WP_skip ?_
      refine WP_seq ?_
      refine WP_ops ?_
      refine WO_mv (v := .s (.int _ _)) rfl ?_
      refine WO_mv (v := .s (.int _ _)) rfl ?_
      refine WO_nil ?_
      refine WP_seq ?_
      refine WP_seq ?_
      refine WP_ops ?_
      refine WO_mv rfl ?_
      refine WO_nil ?_
      refine WP_block ?_
      refine WP_loop (fun m f _ L => f 1 = .s (.int .i64 p) ∧ f 2 = .s (.int .i64 r) ∧ f 7 = .s (.int .i64 a) ∧ f 8 = .snil ∧ f 9 = .s (.int .i64 a) ∧ f 10 = .s (.int .i64 0) ∧ L = []) (fun m f nb L hI => ?_) 0 ⟨rfl, rfl, rfl, rfl, rfl, rfl, rfl⟩
      obtain ⟨k1, k2, k7, k8, k9, k10, rfl⟩ := hI
      refine WP_know (d := 1) (v := .s (.int .i64 p)) k1 ?_
      refine WP_know (d := 2) (v := .s (.int .i64 r)) k2 ?_
      refine WP_know (d := 7) (v := .s (.int .i64 a)) k7 ?_
      refine WP_know (d := 8) (v := .snil) k8 ?_
      refine WP_know (d := 9) (v := .s (.int .i64 a)) k9 ?_
      refine WP_know (d := 10) (v := .s (.int .i64 0)) k10 ?_
      refine WP_seq ?_
      refine WP_seq ?_
      refine WP_ops ?_
      refine WO_mv (v := .s (.int _ _)) rfl ?_
      refine WO_mv (v := .snil) rfl ?_
      refine WO_lenN rfl ?_
      refine WO_bin (r := .bool _) rfl rfl rfl ?_
      refine WO_nil ?_
      refine WP_cond rfl (fun h5 => ?_) (fun h5 => ?_)
      ·try simp only [NM] at h5
       exfalso; first | omega | (simp at h5)
      ·try simp only [NM] at h5
       refine WP_exit ?_
       refine xhere ?_
       refine WP_seq ?_
       refine WP_seq ?_
       refine WP_ops ?_
       refine WO_mv (v := .snil) rfl ?_
       refine WO_lenN rfl ?_
       refine WO_bin (r := .bool _) rfl rfl rfl ?_
       refine WO_nil ?_
       refine WP_cond rfl (fun h6 => ?_) (fun h6 => ?_)
       ·try simp only [NM] at h6
        refine WP_seq ?_
        refine WP_ops ?_
        refine WO_mv (v := .s (.int _ _)) rfl ?_
        refine WO_bin (r := .bool _) rfl rfl rfl ?_
        refine WO_mv (v := .s (.bool _)) rfl ?_
        refine WO_case (t := 85) rfl (fun h7 => ?_) (fun h7 => ?_)
        ·try simp only [NM] at h7
         refine WO_gt rfl ?_
         refine WO_mv (v := .s (.int _ _)) rfl ?_
         refine WO_gt rfl ?_
         refine WO_bin (r := .bool _) rfl rfl rfl ?_
         refine WO_pick (v := .s (.bool _)) rfl rfl ?_
         refine WO_mv (v := .s (.bool _)) rfl ?_
         refine WO_case (t := 89) rfl (fun h8 => ?_) (fun h8 => ?_)
         ·try simp only [NM] at h8
          refine WO_gf rfl rfl ?_
          refine WO_gf rfl rfl ?_
          refine WO_gf rfl rfl ?_
          refine WO_gf rfl rfl ?_
          refine WO_gf rfl rfl ?_
          refine WO_pick (v := .s (.bool _)) rfl rfl ?_
          refine WO_mv (v := .s (.bool _)) rfl ?_
          refine WO_nil ?_
          refine WP_ret ?_
          refine ⟨_, RS_tmp (v := .s (.bool _)) rfl (RS_nil), ?_⟩
          first | rfl | (exfalso; omega)
         ·try simp only [NM] at h8
          exfalso; first | omega | (simp at h8)
        ·try simp only [NM] at h7
         exfalso; first | omega | (simp at h7)
       ·try simp only [NM] at h6
        exfalso; first | omega | (simp at h6)
    ·try simp only [NM] at h3
     refine WO_gf rfl rfl ?_
     refine WO_gf rfl rfl ?_
     refine WO_gf rfl rfl ?_
     refine WO_gt rfl ?_
     refine WO_pick (v := .s (.bool _)) rfl rfl ?_
     refine WO_pick (v := .s (.bool _)) rfl rfl ?_
     refine WO_nil ?_
     refine WP_cond rfl (fun h => nomatch h) (fun _ => ?_)
     refine WP_skip ?_
     refine WP_seq ?_
     refine WP_ops ?_
     refine WO_mv (v := .s (.int _ _)) rfl ?_
     refine WO_mv (v := .s (.int _ _)) rfl ?_
     refine WO_nil ?_
     refine WP_seq ?_
     refine WP_seq ?_
     refine WP_ops ?_
     refine WO_mv rfl ?_
     refine WO_nil ?_
     refine WP_block ?_
     refine WP_loop (fun m f _ L => f 1 = .s (.int .i64 p) ∧ f 2 = .s (.int .i64 r) ∧ f 7 = .s (.int .i64 a) ∧ f 8 = .snil ∧ f 9 = .s (.int .i64 a) ∧ f 10 = .s (.int .i64 0) ∧ L = []) (fun m f nb L hI => ?_) 0 ⟨rfl, rfl, rfl, rfl, rfl, rfl, rfl⟩
     obtain ⟨k1, k2, k7, k8, k9, k10, rfl⟩ := hI
     refine WP_know (d := 1) (v := .s (.int .i64 p)) k1 ?_
     refine WP_know (d := 2) (v := .s (.int .i64 r)) k2 ?_
     refine WP_know (d := 7) (v := .s (.int .i64 a)) k7 ?_
     refine WP_know (d := 8) (v := .snil) k8 ?_
     refine WP_know (d := 9) (v := .s (.int .i64 a)) k9 ?_
     refine WP_know (d := 10) (v := .s (.int .i64 0)) k10 ?_
     refine WP_seq ?_
     refine WP_seq ?_
     refine WP_ops ?_
     refine WO_mv (v := .s (.int _ _)) rfl ?_
     refine WO_mv (v := .snil) rfl ?_
     refine WO_lenN rfl ?_
     refine WO_bin (r := .bool _) rfl rfl rfl ?_
     refine WO_nil ?_
     refine WP_cond rfl (fun h9 => ?_) (fun h9 => ?_)
     ·try simp only [NM] at h9
      exfalso; first | omega | (simp at h9)
     ·try simp only [NM] at h9
      refine WP_exit ?_
      refine xhere ?_
      refine WP_seq ?_
      refine WP_seq ?_
      refine WP_ops ?_
      refine WO_mv (v := .snil) rfl ?_
      refine WO_lenN rfl ?_
      refine WO_bin (r := .bool _) rfl rfl rfl ?_
      refine WO_nil ?_
      refine WP_cond rfl (fun h10 => ?_) (fun h10 => ?_)
      ·try simp only [NM] at h10
       refine WP_seq ?_
       refine WP_ops ?_
       refine WO_mv (v := .s (.int _ _)) rfl ?_
       refine WO_bin (r := .bool _) rfl rfl rfl ?_
       refine WO_mv (v := .s (.bool _)) rfl ?_
       refine WO_case (t := 85) rfl (fun h11 => ?_) (fun h11 => ?_)
       ·try simp only [NM] at h11
        refine WO_gt rfl ?_
        refine WO_mv (v := .s (.int _ _)) rfl ?_
        refine WO_gt rfl ?_
        refine WO_bin (r := .bool _) rfl rfl rfl ?_
        refine WO_pick (v := .s (.bool _)) rfl rfl ?_
        refine WO_mv (v := .s (.bool _)) rfl ?_
        refine WO_case (t := 89) rfl (fun h12 => ?_) (fun h12 => ?_)
        ·try simp only [NM] at h12
         refine WO_gf rfl rfl ?_
         refine WO_gf rfl rfl ?_
         refine WO_gf rfl rfl ?_
         refine WO_gf rfl rfl ?_
         refine WO_gf rfl rfl ?_
         refine WO_pick (v := .s (.bool _)) rfl rfl ?_
         refine WO_mv (v := .s (.bool _)) rfl ?_
         refine WO_nil ?_
         refine WP_ret ?_
         refine ⟨_, RS_tmp (v := .s (.bool _)) rfl (RS_nil), ?_⟩
         first | rfl | (exfalso; omega)
        ·try simp only [NM] at h12
         exfalso; first | omega | (simp at h12)
       ·try simp only [NM] at h11
        exfalso; first | omega | (simp at h11)
      ·try simp only [NM] at h10
       exfalso; first | omega | (simp at h10)
   ·try simp only [NM] at h2
    refine WO_gf rfl rfl ?_
    refine WO_gf rfl rfl ?_
    refine WO_gt rfl ?_
    refine WO_pick (v := .s (.bool _)) rfl rfl ?_
    refine WO_gt rfl ?_
    refine WO_mv (v := .s (.bool _)) rfl ?_
    refine WO_gf rfl rfl ?_
    refine WO_gf rfl rfl ?_
    refine WO_gf rfl rfl ?_
    refine WO_gt rfl ?_
    refine WO_pick (v := .s (.bool _)) rfl rfl ?_
    refine WO_pick (v := .s (.bool _)) rfl rfl ?_
    refine WO_nil ?_
    refine WP_cond rfl (fun h => nomatch h) (fun _ => ?_)
    refine WP_skip ?_
    refine WP_seq ?_
    refine WP_ops ?_
    refine WO_mv (v := .s (.int _ _)) rfl ?_
    refine WO_mv (v := .s (.int _ _)) rfl ?_
    refine WO_nil ?_
    refine WP_seq ?_
    refine WP_seq ?_
    refine WP_ops ?_
    refine WO_mv rfl ?_
    refine WO_nil ?_
    refine WP_block ?_
    refine WP_loop (fun m f _ L => f 1 = .s (.int .i64 p) ∧ f 2 = .s (.int .i64 r) ∧ f 7 = .s (.int .i64 a) ∧ f 8 = .snil ∧ f 9 = .s (.int .i64 a) ∧ f 10 = .s (.int .i64 0) ∧ L = []) (fun m f nb L hI => ?_) 0 ⟨rfl, rfl, rfl, rfl, rfl, rfl, rfl⟩
    obtain ⟨k1, k2, k7, k8, k9, k10, rfl⟩ := hI
    refine WP_know (d := 1) (v := .s (.int .i64 p)) k1 ?_
    refine WP_know (d := 2) (v := .s (.int .i64 r)) k2 ?_
    refine WP_know (d := 7) (v := .s (.int .i64 a)) k7 ?_
    refine WP_know (d := 8) (v := .snil) k8 ?_
    refine WP_know (d := 9) (v := .s (.int .i64 a)) k9 ?_
    refine WP_know (d := 10) (v := .s (.int .i64 0)) k10 ?_
    refine WP_seq ?_
    refine WP_seq ?_
    refine WP_ops ?_
    refine WO_mv (v := .s (.int _ _)) rfl ?_
    refine WO_mv (v := .snil) rfl ?_
    refine WO_lenN rfl ?_
    refine WO_bin (r := .bool _) rfl rfl rfl ?_
    refine WO_nil ?_
    refine WP_cond rfl (fun h13 => ?_) (fun h13 => ?_)
    ·try simp only [NM] at h13
     exfalso; first | omega | (simp at h13)
    ·try simp only [NM] at h13
     refine WP_exit ?_
     refine xhere ?_
     refine WP_seq ?_
     refine WP_seq ?_
     refine WP_ops ?_
     refine WO_mv (v := .snil) rfl ?_
     refine WO_lenN rfl ?_
     refine WO_bin (r := .bool _) rfl rfl rfl ?_
     refine WO_nil ?_
     refine WP_cond rfl (fun h14 => ?_) (fun h14 => ?_)
     ·try simp only [NM] at h14
      refine WP_seq ?_
      refine WP_ops ?_
      refine WO_mv (v := .s (.int _ _)) rfl ?_
      refine WO_bin (r := .bool _) rfl rfl rfl ?_
      refine WO_mv (v := .s (.bool _)) rfl ?_
      refine WO_case (t := 85) rfl (fun h15 => ?_) (fun h15 => ?_)
      ·try simp only [NM] at h15
       refine WO_gt rfl ?_
       refine WO_mv (v := .s (.int _ _)) rfl ?_
       refine WO_gt rfl ?_
       refine WO_bin (r := .bool _) rfl rfl rfl ?_
       refine WO_pick (v := .s (.bool _)) rfl rfl ?_
       refine WO_mv (v := .s (.bool _)) rfl ?_
       refine WO_case (t := 89) rfl (fun h16 => ?_) (fun h16 => ?_)
       ·try simp only [NM] at h16
        refine WO_gf rfl rfl ?_
        refine WO_gf rfl rfl ?_
        refine WO_gf rfl rfl ?_
        refine WO_gf rfl rfl ?_
        refine WO_gf rfl rfl ?_
        refine WO_pick (v := .s (.bool _)) rfl rfl ?_
        refine WO_mv (v := .s (.bool _)) rfl ?_
        refine WO_nil ?_
        refine WP_ret ?_
        refine ⟨_, RS_tmp (v := .s (.bool _)) rfl (RS_nil), ?_⟩
        first | rfl | (exfalso; omega)
       ·try simp only [NM] at h16
        exfalso; first | omega | (simp at h16)
      ·try simp only [NM] at h15
       exfalso; first | omega | (simp at h15)
     ·try simp only [NM] at h14
      exfalso; first | omega | (simp at h14)
 ·skip
  obtain ⟨rfl, hT⟩ := hT
  have hoff : stepM a p r = -1 := hR1.off
  refine WO_call0 rfl (hT) rfl rfl rfl ?_
  refine WO_mv (v := .snil) rfl ?_
  refine WO_nil ?_
  refine WP_seq ?_
  refine WP_seq ?_
  refine WP_ops ?_
  refine WO_mv (v := .snil) rfl ?_
  refine WO_lenN rfl ?_
  refine WO_bin (r := .bool _) rfl rfl rfl ?_
  refine WO_mv (v := .s (.bool _)) rfl ?_
  refine WO_case (t := 25) rfl (fun h17 => ?_) (fun h17 => ?_)
  ·try simp only [NM] at h17
   exfalso; first | omega | (simp at h17)
  ·try simp only [NM] at h17
   refine WO_gt rfl ?_
   refine WO_mv (v := .s (.int _ _)) rfl ?_
   refine WO_gt rfl ?_
   refine WO_bin (r := .bool _) rfl rfl rfl ?_
   refine WO_gt rfl ?_
   refine WO_mv (v := .s (.bool _)) rfl ?_
   refine WO_case (t := 28) rfl (fun h18 => ?_) (fun h18 => ?_)
   ·try simp only [NM] at h18
    refine WO_gt rfl ?_
    refine WO_mv (v := .s (.int _ _)) rfl ?_
    refine WO_gt rfl ?_
    refine WO_bin (r := .bool _) rfl rfl rfl ?_
    refine WO_gt rfl ?_
    refine WO_pick (v := .s (.bool _)) rfl rfl ?_
    refine WO_gt rfl ?_
    refine WO_mv (v := .s (.bool _)) rfl ?_
    refine WO_case (t := 32) rfl (fun h19 => ?_) (fun h19 => ?_)
    ·try simp only [NM] at h19
     refine WO_gt rfl ?_
     refine WO_mv (v := .snil) rfl ?_
     refine WO_gt rfl ?_
     refine WO_lenN rfl ?_
     refine WO_gt rfl ?_
     refine WO_bin (r := .bool _) rfl rfl rfl ?_
     refine WO_gt rfl ?_
     refine WO_pick (v := .s (.bool _)) rfl rfl ?_
     refine WO_pick (v := .s (.bool _)) rfl rfl ?_
     refine WO_nil ?_
     refine WP_cond rfl (fun h20 => ?_) (fun h20 => ?_)
     ·try simp only [NM] at h20
      exfalso; first | omega | (simp at h20)
     ·try simp only [NM] at h20
      refine WP_skip ?_
      refine WP_seq ?_
      refine WP_ops ?_
      refine WO_mv (v := .s (.int _ _)) rfl ?_
      refine WO_mv (v := .s (.int _ _)) rfl ?_
      refine WO_nil ?_
      refine WP_seq ?_
      refine WP_seq ?_
      refine WP_ops ?_
      refine WO_mv rfl ?_
      refine WO_nil ?_
      refine WP_block ?_
      refine WP_loop (fun m f _ L => f 1 = .s (.int .i64 p) ∧ f 2 = .s (.int .i64 r) ∧ f 7 = .s (.int .i64 a) ∧ f 8 = .snil ∧ f 9 = .s (.int .i64 a) ∧ f 10 = .s (.int .i64 0) ∧ L = []) (fun m f nb L hI => ?_) 0 ⟨rfl, rfl, rfl, rfl, rfl, rfl, rfl⟩
      obtain ⟨k1, k2, k7, k8, k9, k10, rfl⟩ := hI
      refine WP_know (d := 1) (v := .s (.int .i64 p)) k1 ?_
      refine WP_know (d := 2) (v := .s (.int .i64 r)) k2 ?_
      refine WP_know (d := 7) (v := .s (.int .i64 a)) k7 ?_
      refine WP_know (d := 8) (v := .snil) k8 ?_
      refine WP_know (d := 9) (v := .s (.int .i64 a)) k9 ?_
      refine WP_know (d := 10) (v := .s (.int .i64 0)) k10 ?_
      refine WP_seq ?_
      refine WP_seq ?_
      refine WP_ops ?_
      refine WO_mv (v := .s (.int _ _)) rfl ?_
      refine WO_mv (v := .snil) rfl ?_
      refine WO_lenN rfl ?_
      refine WO_bin (r := .bool _) rfl rfl rfl ?_
      refine WO_nil ?_
      refine WP_cond rfl (fun h21 => ?_) (fun h21 => ?_)
      ·try simp only [NM] at h21
       exfalso; first | omega | (simp at h21)
      ·try simp only [NM] at h21
       refine WP_exit ?_
       refine xhere ?_
       refine WP_seq ?_
       refine WP_seq ?_
       refine WP_ops ?_
       refine WO_mv (v := .snil) rfl ?_
       refine WO_lenN rfl ?_
       refine WO_bin (r := .bool _) rfl rfl rfl ?_
       refine WO_nil ?_
       refine WP_cond rfl (fun h22 => ?_) (fun h22 => ?_)
       ·try simp only [NM] at h22
        refine WP_seq ?_
        refine WP_ops ?_
        refine WO_mv (v := .s (.int _ _)) rfl ?_
        refine WO_bin (r := .bool _) rfl rfl rfl ?_
        refine WO_mv (v := .s (.bool _)) rfl ?_
        refine WO_case (t := 85) rfl (fun h23 => ?_) (fun h23 => ?_)
        ·try simp only [NM] at h23
         refine WO_gt rfl ?_
         refine WO_mv (v := .s (.int _ _)) rfl ?_
         refine WO_gt rfl ?_
         refine WO_bin (r := .bool _) rfl rfl rfl ?_
         refine WO_pick (v := .s (.bool _)) rfl rfl ?_
         refine WO_mv (v := .s (.bool _)) rfl ?_
         refine WO_case (t := 89) rfl (fun h24 => ?_) (fun h24 => ?_)
         ·try simp only [NM] at h24
          refine WO_gf rfl rfl ?_
          refine WO_gf rfl rfl ?_
          refine WO_gf rfl rfl ?_
          refine WO_gf rfl rfl ?_
          refine WO_gf rfl rfl ?_
          refine WO_pick (v := .s (.bool _)) rfl rfl ?_
          refine WO_mv (v := .s (.bool _)) rfl ?_
          refine WO_nil ?_
          refine WP_ret ?_
          refine ⟨_, RS_tmp (v := .s (.bool _)) rfl (RS_nil), ?_⟩
          first | rfl | (exfalso; omega)
         ·try simp only [NM] at h24
          refine WO_gt rfl ?_
          refine WO_mv (v := .s (.int _ _)) rfl ?_
          refine WO_gt rfl ?_
          refine WO_mv (v := .s (.int _ _)) rfl ?_
          refine WO_gt rfl ?_
          refine WO_mv (v := .s (.int _ _)) rfl ?_
          refine WO_gt rfl ?_
          refine WO_call0 rfl (Step_run _ _ _) rfl rfl rfl ?_
          refine WO_gt rfl ?_
          refine WO_bin rfl rfl (eql_same hoff) ?_
          refine WO_pick (v := .s (.bool _)) rfl rfl ?_
          refine WO_mv (v := .s (.bool _)) rfl ?_
          refine WO_nil ?_
          refine WP_ret ?_
          refine ⟨_, RS_tmp (v := .s (.bool _)) rfl (RS_nil), ?_⟩
          first | rfl | (exfalso; omega)
        ·try simp only [NM] at h23
         refine WO_gf rfl rfl ?_
         refine WO_gf rfl rfl ?_
         refine WO_pick (v := .s (.bool _)) rfl rfl ?_
         refine WO_mv (v := .s (.bool _)) rfl ?_
         refine WO_gt rfl ?_
         refine WO_mv (v := .s (.int _ _)) rfl ?_
         refine WO_gt rfl ?_
         refine WO_mv (v := .s (.int _ _)) rfl ?_
         refine WO_gt rfl ?_
         refine WO_mv (v := .s (.int _ _)) rfl ?_
         refine WO_gt rfl ?_
         refine WO_call0 rfl (Step_run _ _ _) rfl rfl rfl ?_
         refine WO_gt rfl ?_
         refine WO_bin rfl rfl (eql_same hoff) ?_
         refine WO_pick (v := .s (.bool _)) rfl rfl ?_
         refine WO_mv (v := .s (.bool _)) rfl ?_
         refine WO_nil ?_
         refine WP_ret ?_
         refine ⟨_, RS_tmp (v := .s (.bool _)) rfl (RS_nil), ?_⟩
         first | rfl | (exfalso; omega)
       ·try simp only [NM] at h22
        exfalso; first | omega | (simp at h22)
    ·try simp only [NM] at h19
     refine WO_gf rfl rfl ?_
     refine WO_gf rfl rfl ?_
     refine WO_gf rfl rfl ?_
     refine WO_gt rfl ?_
     refine WO_pick (v := .s (.bool _)) rfl rfl ?_
     refine WO_pick (v := .s (.bool _)) rfl rfl ?_
     refine WO_nil ?_
     refine WP_cond rfl (fun h => nomatch h) (fun _ => ?_)
     refine WP_skip ?_
     refine WP_seq ?_
     refine WP_ops ?_
     refine WO_mv (v := .s (.int _ _)) rfl ?_
     refine WO_mv (v := .s (.int _ _)) rfl ?_
     refine WO_nil ?_
     refine WP_seq ?_
     refine WP_seq ?_
     refine WP_ops ?_
     refine WO_mv rfl ?_
     refine WO_nil ?_
     refine WP_block ?_
     refine WP_loop (fun m f _ L => f 1 = .s (.int .i64 p) ∧ f 2 = .s (.int .i64 r) ∧ f 7 = .s (.int .i64 a) ∧ f 8 = .snil ∧ f 9 = .s (.int .i64 a) ∧ f 10 = .s (.int .i64 0) ∧ L = []) (fun m f nb L hI => ?_) 0 ⟨rfl, rfl, rfl, rfl, rfl, rfl, rfl⟩
     obtain ⟨k1, k2, k7, k8, k9, k10, rfl⟩ := hI
     refine WP_know (d := 1) (v := .s (.int .i64 p)) k1 ?_
     refine WP_know (d := 2) (v := .s (.int .i64 r)) k2 ?_
     refine WP_know (d := 7) (v := .s (.int .i64 a)) k7 ?_
     refine WP_know (d := 8) (v := .snil) k8 ?_
     refine WP_know (d := 9) (v := .s (.int .i64 a)) k9 ?_
     refine WP_know (d := 10) (v := .s (.int .i64 0)) k10 ?_
     refine WP_seq ?_
     refine WP_seq ?_
     refine WP_ops ?_
     refine WO_mv (v := .s (.int _ _)) rfl ?_
     refine WO_mv (v := .snil) rfl ?_
     refine WO_lenN rfl ?_
     refine WO_bin (r := .bool _) rfl rfl rfl ?_
     refine WO_nil ?_
     refine WP_cond rfl (fun h25 => ?_) (fun h25 => ?_)
     ·try simp only [NM] at h25
      exfalso; first | omega | (simp at h25)
     ·try simp only [NM] at h25
      refine WP_exit ?_
      refine xhere ?_
      refine WP_seq ?_
      refine WP_seq ?_
      refine WP_ops ?_
      refine WO_mv (v := .snil) rfl ?_
      refine WO_lenN rfl ?_
      refine WO_bin (r := .bool _) rfl rfl rfl ?_
      refine WO_nil ?_
      refine WP_cond rfl (fun h26 => ?_) (fun h26 => ?_)
      ·try simp only [NM] at h26
       refine WP_seq ?_
       refine WP_ops ?_
       refine WO_mv (v := .s (.int _ _)) rfl ?_
       refine WO_bin (r := .bool _) rfl rfl rfl ?_
       refine WO_mv (v := .s (.bool _)) rfl ?_
       refine WO_case (t := 85) rfl (fun h27 => ?_) (fun h27 => ?_)
       ·try simp only [NM] at h27
        refine WO_gt rfl ?_
        refine WO_mv (v := .s (.int _ _)) rfl ?_
        refine WO_gt rfl ?_
        refine WO_bin (r := .bool _) rfl rfl rfl ?_
        refine WO_pick (v := .s (.bool _)) rfl rfl ?_
        refine WO_mv (v := .s (.bool _)) rfl ?_
        refine WO_case (t := 89) rfl (fun h28 => ?_) (fun h28 => ?_)
        ·try simp only [NM] at h28
         refine WO_gf rfl rfl ?_
         refine WO_gf rfl rfl ?_
         refine WO_gf rfl rfl ?_
         refine WO_gf rfl rfl ?_
         refine WO_gf rfl rfl ?_
         refine WO_pick (v := .s (.bool _)) rfl rfl ?_
         refine WO_mv (v := .s (.bool _)) rfl ?_
         refine WO_nil ?_
         refine WP_ret ?_
         refine ⟨_, RS_tmp (v := .s (.bool _)) rfl (RS_nil), ?_⟩
         first | rfl | (exfalso; omega)
        ·try simp only [NM] at h28
         refine WO_gt rfl ?_
         refine WO_mv (v := .s (.int _ _)) rfl ?_
         refine WO_gt rfl ?_
         refine WO_mv (v := .s (.int _ _)) rfl ?_
         refine WO_gt rfl ?_
         refine WO_mv (v := .s (.int _ _)) rfl ?_
         refine WO_gt rfl ?_
         refine WO_call0 rfl (Step_run _ _ _) rfl rfl rfl ?_
         refine WO_gt rfl ?_
         refine WO_bin rfl rfl (eql_same hoff) ?_
         refine WO_pick (v := .s (.bool _)) rfl rfl ?_
         refine WO_mv (v := .s (.bool _)) rfl ?_
         refine WO_nil ?_
         refine WP_ret ?_
         refine ⟨_, RS_tmp (v := .s (.bool _)) rfl (RS_nil), ?_⟩
         first | rfl | (exfalso; omega)
       ·try simp only [NM] at h27
        refine WO_gf rfl rfl ?_
        refine WO_gf rfl rfl ?_
        refine WO_pick (v := .s (.bool _)) rfl rfl ?_
        refine WO_mv (v := .s (.bool _)) rfl ?_
        refine WO_gt rfl ?_
        refine WO_mv (v := .s (.int _ _)) rfl ?_
        refine WO_gt rfl ?_
        refine WO_mv (v := .s (.int _ _)) rfl ?_
        refine WO_gt rfl ?_
        refine WO_mv (v := .s (.int _ _)) rfl ?_
        refine WO_gt rfl ?_
        refine WO_call0 rfl (Step_run _ _ _) rfl rfl rfl ?_
        refine WO_gt rfl ?_
        refine WO_bin rfl rfl (eql_same hoff) ?_
        refine WO_pick (v := .s (.bool _)) rfl rfl ?_
        refine WO_mv (v := .s (.bool _)) rfl ?_
        refine WO_nil ?_
        refine WP_ret ?_
        refine ⟨_, RS_tmp (v := .s (.bool _)) rfl (RS_nil), ?_⟩
        first | rfl | (exfalso; omega)
      ·try simp only [NM] at h26
       exfalso; first | omega | (simp at h26)
   ·try simp only [NM] at h18
    refine WO_gf rfl rfl ?_
    refine WO_gf rfl rfl ?_
    refine WO_gt rfl ?_
    refine WO_pick (v := .s (.bool _)) rfl rfl ?_
    refine WO_gt rfl ?_
    refine WO_mv (v := .s (.bool _)) rfl ?_
    refine WO_gf rfl rfl ?_
    refine WO_gf rfl rfl ?_
    refine WO_gf rfl rfl ?_
    refine WO_gt rfl ?_
    refine WO_pick (v := .s (.bool _)) rfl rfl ?_
    refine WO_pick (v := .s (.bool _)) rfl rfl ?_
    refine WO_nil ?_
    refine WP_cond rfl (fun h => nomatch h) (fun _ => ?_)
    refine WP_skip ?_
    refine WP_seq ?_
    refine WP_ops ?_
    refine WO_mv (v := .s (.int _ _)) rfl ?_
    refine WO_mv (v := .s (.int _ _)) rfl ?_
    refine WO_nil ?_
    refine WP_seq ?_
    refine WP_seq ?_
    refine WP_ops ?_
    refine WO_mv rfl ?_
    refine WO_nil ?_
    refine WP_block ?_
    refine WP_loop (fun m f _ L => f 1 = .s (.int .i64 p) ∧ f 2 = .s (.int .i64 r) ∧ f 7 = .s (.int .i64 a) ∧ f 8 = .snil ∧ f 9 = .s (.int .i64 a) ∧ f 10 = .s (.int .i64 0) ∧ L = []) (fun m f nb L hI => ?_) 0 ⟨rfl, rfl, rfl, rfl, rfl, rfl, rfl⟩
    obtain ⟨k1, k2, k7, k8, k9, k10, rfl⟩ := hI
    refine WP_know (d := 1) (v := .s (.int .i64 p)) k1 ?_
    refine WP_know (d := 2) (v := .s (.int .i64 r)) k2 ?_
    refine WP_know (d := 7) (v := .s (.int .i64 a)) k7 ?_
    refine WP_know (d := 8) (v := .snil) k8 ?_
    refine WP_know (d := 9) (v := .s (.int .i64 a)) k9 ?_
    refine WP_know (d := 10) (v := .s (.int .i64 0)) k10 ?_
    refine WP_seq ?_
    refine WP_seq ?_
    refine WP_ops ?_
    refine WO_mv (v := .s (.int _ _)) rfl ?_
    refine WO_mv (v := .snil) rfl ?_
    refine WO_lenN rfl ?_
    refine WO_bin (r := .bool _) rfl rfl rfl ?_
    refine WO_nil ?_
    refine WP_cond rfl (fun h29 => ?_) (fun h29 => ?_)
    ·try simp only [NM] at h29
     exfalso; first | omega | (simp at h29)
    ·try simp only [NM] at h29
     refine WP_exit ?_
     refine xhere ?_
     refine WP_seq ?_
     refine WP_seq ?_
     refine WP_ops ?_
     refine WO_mv (v := .snil) rfl ?_
     refine WO_lenN rfl ?_
     refine WO_bin (r := .bool _) rfl rfl rfl ?_
     refine WO_nil ?_
     refine WP_cond rfl (fun h30 => ?_) (fun h30 => ?_)
     ·try simp only [NM] at h30
      refine WP_seq ?_
      refine WP_ops ?_
      refine WO_mv (v := .s (.int _ _)) rfl ?_
      refine WO_bin (r := .bool _) rfl rfl rfl ?_
      refine WO_mv (v := .s (.bool _)) rfl ?_
      refine WO_case (t := 85) rfl (fun h31 => ?_) (fun h31 => ?_)
      ·try simp only [NM] at h31
       refine WO_gt rfl ?_
       refine WO_mv (v := .s (.int _ _)) rfl ?_
       refine WO_gt rfl ?_
       refine WO_bin (r := .bool _) rfl rfl rfl ?_
       refine WO_pick (v := .s (.bool _)) rfl rfl ?_
       refine WO_mv (v := .s (.bool _)) rfl ?_
       refine WO_case (t := 89) rfl (fun h32 => ?_) (fun h32 => ?_)
       ·try simp only [NM] at h32
        refine WO_gf rfl rfl ?_
        refine WO_gf rfl rfl ?_
        refine WO_gf rfl rfl ?_
        refine WO_gf rfl rfl ?_
        refine WO_gf rfl rfl ?_
        refine WO_pick (v := .s (.bool _)) rfl rfl ?_
        refine WO_mv (v := .s (.bool _)) rfl ?_
        refine WO_nil ?_
        refine WP_ret ?_
        refine ⟨_, RS_tmp (v := .s (.bool _)) rfl (RS_nil), ?_⟩
        first | rfl | (exfalso; omega)
       ·try simp only [NM] at h32
        refine WO_gt rfl ?_
        refine WO_mv (v := .s (.int _ _)) rfl ?_
        refine WO_gt rfl ?_
        refine WO_mv (v := .s (.int _ _)) rfl ?_
        refine WO_gt rfl ?_
        refine WO_mv (v := .s (.int _ _)) rfl ?_
        refine WO_gt rfl ?_
        refine WO_call0 rfl (Step_run _ _ _) rfl rfl rfl ?_
        refine WO_gt rfl ?_
        refine WO_bin rfl rfl (eql_same hoff) ?_
        refine WO_pick (v := .s (.bool _)) rfl rfl ?_
        refine WO_mv (v := .s (.bool _)) rfl ?_
        refine WO_nil ?_
        refine WP_ret ?_
        refine ⟨_, RS_tmp (v := .s (.bool _)) rfl (RS_nil), ?_⟩
        first | rfl | (exfalso; omega)
      ·try simp only [NM] at h31
       refine WO_gf rfl rfl ?_
       refine WO_gf rfl rfl ?_
       refine WO_pick (v := .s (.bool _)) rfl rfl ?_
       refine WO_mv (v := .s (.bool _)) rfl ?_
       refine WO_gt rfl ?_
       refine WO_mv (v := .s (.int _ _)) rfl ?_
       refine WO_gt rfl ?_
       refine WO_mv (v := .s (.int _ _)) rfl ?_
       refine WO_gt rfl ?_
       refine WO_mv (v := .s (.int _ _)) rfl ?_
       refine WO_gt rfl ?_
       refine WO_call0 rfl (Step_run _ _ _) rfl rfl rfl ?_
       refine WO_gt rfl ?_
       refine WO_bin rfl rfl (eql_same hoff) ?_
       refine WO_pick (v := .s (.bool _)) rfl rfl ?_
       refine WO_mv (v := .s (.bool _)) rfl ?_
       refine WO_nil ?_
       refine WP_ret ?_
       refine ⟨_, RS_tmp (v := .s (.bool _)) rfl (RS_nil), ?_⟩
       first | rfl | (exfalso; omega)
     ·try simp only [NM] at h30
      exfalso; first | omega | (simp at h30)
 ·skip
  obtain ⟨h10, q1, hT⟩ := hT
  have h7 := ray7 hz ha hR1
  have hway := way_bd hR1 h10
  refine WO_callN (mk := fun b => .sl b 0 n1 1 .whole) (rs := []) (Bs := []) One_sl rfl hT rfl rfl (Nat.le_of_ble_eq_true rfl) (fun _ h => h) rfl trivial rfl rfl .nil ?_
  refine WO_mv (v := .sl _ _ _ _ _) rfl ?_
  refine WO_nil ?_
  refine WP_seq ?_
  refine WP_seq ?_
  refine WP_ops ?_
  refine WO_mv (v := .sl _ _ _ _ _) rfl ?_
  refine WO_len rfl ?_
  refine WO_bin (r := .bool _) rfl rfl rfl ?_
  refine WO_mv (v := .s (.bool _)) rfl ?_
  refine WO_case (t := 25) rfl (fun h33 => ?_) (fun h33 => ?_)
  ·try simp only [NM] at h33
   exfalso; first | omega | (simp at h33)
  ·try simp only [NM] at h33
   refine WO_gt rfl ?_
   refine WO_mv (v := .s (.int _ _)) rfl ?_
   refine WO_gt rfl ?_
   refine WO_bin (r := .bool _) rfl rfl rfl ?_
   refine WO_gt rfl ?_
   refine WO_mv (v := .s (.bool _)) rfl ?_
   refine WO_case (t := 28) rfl (fun h34 => ?_) (fun h34 => ?_)
   ·try simp only [NM] at h34
    refine WO_gt rfl ?_
    refine WO_mv (v := .s (.int _ _)) rfl ?_
    refine WO_gt rfl ?_
    refine WO_bin (r := .bool _) rfl rfl rfl ?_
    refine WO_gt rfl ?_
    refine WO_pick (v := .s (.bool _)) rfl rfl ?_
    refine WO_gt rfl ?_
    refine WO_mv (v := .s (.bool _)) rfl ?_
    refine WO_case (t := 32) rfl (fun h35 => ?_) (fun h35 => ?_)
    ·try simp only [NM] at h35
     refine WO_gt rfl ?_
     refine WO_mv (v := .sl _ _ _ _ _) rfl ?_
     refine WO_gt rfl ?_
     refine WO_len rfl ?_
     refine WO_gt rfl ?_
     refine WO_bin (r := .bool _) rfl rfl rfl ?_
     refine WO_gt rfl ?_
     refine WO_pick (v := .s (.bool _)) rfl rfl ?_
     refine WO_pick (v := .s (.bool _)) rfl rfl ?_
     refine WO_nil ?_
     refine WP_cond rfl (fun h36 => ?_) (fun h36 => ?_)
     ·try simp only [NM] at h36
      exfalso; first | omega | (simp at h36)
     ·try simp only [NM] at h36
      refine WP_skip ?_
      refine WP_seq ?_
      refine WP_ops ?_
      refine WO_mv (v := .s (.int _ _)) rfl ?_
      refine WO_mv (v := .s (.int _ _)) rfl ?_
      refine WO_nil ?_
      refine WP_seq ?_
      refine WP_seq ?_
      refine WP_ops ?_
      refine WO_mv rfl ?_
      refine WO_nil ?_
      refine WP_block ?_
      refine WP_sub (L' := [_]) (.cons_cons _ .slnil) ?_
      refine WP_loop (fun m f _ L => ∃ (i : Nat), (i ≤ n1) ∧ (m = n1 - i) ∧ (f 1 = .s (.int .i64 p)) ∧ (f 2 = .s (.int .i64 r)) ∧ (f 7 = .s (.int .i64 a)) ∧ (f 8 = .sl 0 0 n1 1 .whole) ∧ (f 9 = .s (.int .i64 (posF a p r i))) ∧ (f 10 = .s (.int .i64 i)) ∧ (L = [(0, .sc .grow q1 (ia F1))])) (fun m f nb L hI => ?_) (n1) ⟨0, by omega, rfl, rfl, rfl, rfl, rfl, rfl, rfl, rfl⟩
      obtain ⟨i, hi, hm, k1, k2, k7, k8, k9, k10, rfl⟩ := hI
      refine WP_know (d := 1) (v := .s (.int .i64 p)) k1 ?_
      refine WP_know (d := 2) (v := .s (.int .i64 r)) k2 ?_
      refine WP_know (d := 7) (v := .s (.int .i64 a)) k7 ?_
      refine WP_know (d := 8) (v := .sl 0 0 n1 1 .whole) k8 ?_
      refine WP_know (d := 9) (v := .s (.int .i64 (posF a p r i))) k9 ?_
      refine WP_know (d := 10) (v := .s (.int .i64 i)) k10 ?_
      refine WP_seq ?_
      refine WP_seq ?_
      refine WP_ops ?_
      refine WO_mv (v := .s (.int _ _)) rfl ?_
      refine WO_mv (v := .sl _ _ _ _ _) rfl ?_
      refine WO_len rfl ?_
      refine WO_bin (r := .bool _) rfl rfl rfl ?_
      refine WO_nil ?_
      refine WP_cond rfl (fun h37 => ?_) (fun h37 => ?_)
      ·try simp only [NM] at h37
       refine WP_skip ?_
       refine WP_seq ?_
       refine WP_block ?_
       refine WP_seq ?_
       refine WP_seq ?_
       refine WP_ops ?_
       refine WO_mv (v := .sl _ _ _ _ _) rfl ?_
       refine WO_mv (v := .s (.int _ _)) rfl ?_
       refine WO_ixs rfl rfl (by omega) ?_
       refine WO_ldI (x := posF a p r (i + 1)) rfl rfl (.head _) ((congrArg F1 (by omega)).trans (hF1 i (by omega))) ?_
       refine WO_mv (v := .s (.int _ _)) rfl ?_
       refine WO_bin rfl rfl (eql_no (pos_ne (j := i + 1) (k := 0) hz ha hR1 (by omega) (by omega))) ?_
       refine WO_mv (v := .s (.bool _)) rfl ?_
       refine WO_gt rfl ?_
       refine WO_mv (v := .s (.int _ _)) rfl ?_
       refine WO_gt rfl ?_
       refine WO_mv (v := .s (.int _ _)) rfl ?_
       refine WO_gt rfl ?_
       refine WO_mv (v := .s (.int _ _)) rfl ?_
       refine WO_gt rfl ?_
       refine WO_callq0 rfl (Step_run _ _ _) rfl rfl rfl ?_
       refine WO_gt rfl ?_
       refine WO_mv (v := .sl _ _ _ _ _) rfl ?_
       refine WO_gt rfl ?_
       refine WO_mv (v := .s (.int _ _)) rfl ?_
       refine WO_gt rfl ?_
       refine WO_ixs rfl rfl (by omega) ?_
       refine WO_gt rfl ?_
       refine WO_ldI (x := posF a p r (i + 1)) rfl rfl (.head _) ((congrArg F1 (by omega)).trans (hF1 i (by omega))) ?_
       refine WO_gt rfl ?_
       refine WO_bin rfl rfl (neq_same (pos_step a p r i).symm) ?_
       refine WO_pick (v := .s (.bool _)) rfl rfl ?_
       refine WO_nil ?_
       refine WP_cond rfl (fun h => nomatch h) (fun _ => ?_)
       refine WP_skip ?_
       refine WP_seq ?_
       refine WP_seq ?_
       refine WP_ops ?_
       refine WO_mv rfl ?_
       refine WO_nil ?_
       refine WP_block ?_
       refine WP_sub (L' := [_]) (.cons_cons _ .slnil) ?_
       refine WP_loop (fun m f _ L => ∃ (k : Nat), (k ≤ i) ∧ (m = i - k) ∧ (f 1 = .s (.int .i64 p)) ∧ (f 2 = .s (.int .i64 r)) ∧ (f 7 = .s (.int .i64 a)) ∧ (f 8 = .sl 0 0 n1 1 .whole) ∧ (f 9 = .s (.int .i64 (posF a p r i))) ∧ (f 10 = .s (.int .i64 i)) ∧ (f 11 = .s (.int .i64 k)) ∧ (L = [(0, .sc .grow q1 (ia F1))])) (fun m f nb L hI => ?_) (i) ⟨0, by omega, rfl, rfl, rfl, rfl, rfl, rfl, rfl, rfl, rfl⟩
       obtain ⟨k, hk, hm, k1, k2, k7, k8, k9, k10, k11, rfl⟩ := hI
       refine WP_know (d := 1) (v := .s (.int .i64 p)) k1 ?_
       refine WP_know (d := 2) (v := .s (.int .i64 r)) k2 ?_
       refine WP_know (d := 7) (v := .s (.int .i64 a)) k7 ?_
       refine WP_know (d := 8) (v := .sl 0 0 n1 1 .whole) k8 ?_
       refine WP_know (d := 9) (v := .s (.int .i64 (posF a p r i))) k9 ?_
       refine WP_know (d := 10) (v := .s (.int .i64 i)) k10 ?_
       refine WP_know (d := 11) (v := .s (.int .i64 k)) k11 ?_
       refine WP_seq ?_
       refine WP_seq ?_
       refine WP_ops ?_
       refine WO_mv (v := .s (.int _ _)) rfl ?_
       refine WO_mv (v := .s (.int _ _)) rfl ?_
       refine WO_bin (r := .bool _) rfl rfl rfl ?_
       refine WO_nil ?_
       refine WP_cond rfl (fun h38 => ?_) (fun h38 => ?_)
       ·try simp only [NM] at h38
        refine WP_skip ?_
        refine WP_seq ?_
        refine WP_block ?_
        refine WP_seq ?_
        refine WP_ops ?_
        refine WO_mv (v := .sl _ _ _ _ _) rfl ?_
        refine WO_mv (v := .s (.int _ _)) rfl ?_
        refine WO_ixs rfl rfl (by omega) ?_
        refine WO_ldI (x := posF a p r (k + 1)) rfl rfl (.head _) ((congrArg F1 (by omega)).trans (hF1 k (by omega))) ?_
        refine WO_mv (v := .sl _ _ _ _ _) rfl ?_
        refine WO_mv (v := .s (.int _ _)) rfl ?_
        refine WO_ixs rfl rfl (by omega) ?_
        refine WO_ldI (x := posF a p r (i + 1)) rfl rfl (.head _) ((congrArg F1 (by omega)).trans (hF1 i (by omega))) ?_
        refine WO_bin rfl rfl (eql_no (pos_ne (j := i + 1) (k := k + 1) hz ha hR1 (by omega) (by omega)).symm) ?_
        refine WO_nil ?_
        refine WP_cond rfl (fun h => nomatch h) (fun _ => ?_)
        refine WP_skip ?_
        refine WP_ops ?_
        refine WO_mv (v := .s (.int _ _)) rfl ?_
        refine WO_add rfl rfl (by omega) ?_
        refine WO_mv (v := .s (.int _ _)) rfl ?_
        refine WO_nil ?_
        refine ⟨i - (k + 1), _, by omega, (.cons_cons _ .slnil), k + 1, by omega, rfl, rfl, rfl, rfl, rfl, rfl, rfl, rfl, rfl⟩
       ·try simp only [NM] at h38
        refine WP_exit ?_
        refine xhere ?_
        refine WP_ops ?_
        refine WO_mv (v := .sl _ _ _ _ _) rfl ?_
        refine WO_mv (v := .s (.int _ _)) rfl ?_
        refine WO_ixs rfl rfl (by omega) ?_
        refine WO_ldI (x := posF a p r (i + 1)) rfl rfl (.head _) ((congrArg F1 (by omega)).trans (hF1 i (by omega))) ?_
        refine WO_mv (v := .s (.int _ _)) rfl ?_
        refine WO_nil ?_
        refine WP_ops ?_
        refine WO_mv (v := .s (.int _ _)) rfl ?_
        refine WO_add rfl rfl (by omega) ?_
        refine WO_mv (v := .s (.int _ _)) rfl ?_
        refine WO_nil ?_
        refine ⟨n1 - (i + 1), _, by omega, (.cons_cons _ .slnil), i + 1, by omega, rfl, rfl, rfl, rfl, rfl, rfl, rfl, rfl⟩
      ·try simp only [NM] at h37
       refine WP_exit ?_
       refine xhere ?_
       refine WP_seq ?_
       refine WP_seq ?_
       refine WP_ops ?_
       refine WO_mv (v := .sl _ _ _ _ _) rfl ?_
       refine WO_len rfl ?_
       refine WO_bin (r := .bool _) rfl rfl rfl ?_
       refine WO_nil ?_
       refine WP_cond rfl (fun h39 => ?_) (fun h39 => ?_)
       ·try simp only [NM] at h39
        exfalso; first | omega | (simp at h39)
       ·try simp only [NM] at h39
        refine WP_skip ?_
        refine WP_seq ?_
        refine WP_ops ?_
        obtain rfl : n1 = i := by omega
        refine WO_mv (v := .s (.int _ _)) rfl ?_
        refine WO_mv (v := .s (.int _ _)) rfl ?_
        refine WO_neg rfl (by omega) ?_
        refine WO_mv (v := .s (.int _ _)) rfl ?_
        refine WO_neg rfl (by omega) ?_
        rcases Ray_ex (posF a p r n1) (-p) (-r) with ⟨hp0, hr0, _⟩ | ⟨hz2, n2, G, hR2, hn2, hG, hT2 | hT2⟩
        ·exfalso; omega
        ·exfalso; have := back_len ha hR1 hR2; have := hT2.1; omega
        ·skip
         obtain ⟨h20, q2, hT2⟩ := hT2
         have hlen := back_len ha hR1 hR2
         have hGG : ∀ j : Nat, j < n1 → G j = posF a p r (n1 - 1 - j) := fun j hj => (hG j (by omega)).trans (ray_back ha hR1 j hj)
         refine WO_callN (mk := fun b => .sl b 0 n2 1 .whole) (rs := []) (Bs := []) One_sl rfl hT2 rfl rfl (Nat.le_of_ble_eq_true rfl) (fun _ h => h) rfl trivial rfl rfl .nil ?_
         refine WO_mv (v := .sl _ _ _ _ _) rfl ?_
         refine WO_nil ?_
         refine WP_seq ?_
         refine WP_seq ?_
         refine WP_ops ?_
         refine WO_mv (v := .sl _ _ _ _ _) rfl ?_
         refine WO_len rfl ?_
         refine WO_mv (v := .sl _ _ _ _ _) rfl ?_
         refine WO_len rfl ?_
         refine WO_bin (r := .bool _) rfl rfl rfl ?_
         refine WO_mv (v := .s (.bool _)) rfl ?_
         refine WO_case (t := 107) rfl (fun h40 => ?_) (fun h40 => ?_)
         ·try simp only [NM] at h40
          exfalso; first | omega | (simp at h40)
         ·try simp only [NM] at h40
          refine WO_gt rfl ?_
          refine WO_mv (v := .sl _ _ _ _ _) rfl ?_
          refine WO_gt rfl ?_
          refine WO_mv (v := .sl _ _ _ _ _) rfl ?_
          refine WO_gt rfl ?_
          refine WO_len rfl ?_
          refine WO_gt rfl ?_
          refine WO_sub rfl rfl (by omega) ?_
          refine WO_gt rfl ?_
          refine WO_ixs rfl rfl (by omega) ?_
          refine WO_gt rfl ?_
          refine WO_ldI (x := a) rfl rfl (.head _) ((congrArg G (show 0 + ((n1 : Int) - 1).toNat * 1 = n1 - 1 by omega)).trans ((hGG (n1 - 1) (by omega)).trans (by rw [show n1 - 1 - (n1 - 1) = 0 by omega]; rfl))) ?_
          refine WO_gt rfl ?_
          refine WO_mv (v := .s (.int _ _)) rfl ?_
          refine WO_gt rfl ?_
          refine WO_bin rfl rfl (neq_same rfl) ?_
          refine WO_pick (v := .s (.bool _)) rfl rfl ?_
          refine WO_mv (v := .s (.bool _)) rfl ?_
          refine WO_gt rfl ?_
          refine WO_mv (v := .s (.int _ _)) rfl ?_
          refine WO_gt rfl ?_
          refine WO_mv (v := .s (.int _ _)) rfl ?_
          refine WO_gt rfl ?_
          refine WO_mv (v := .s (.int _ _)) rfl ?_
          refine WO_gt rfl ?_
          refine WO_call0 rfl (Step_run _ _ _) rfl rfl rfl ?_
          refine WO_gt rfl ?_
          refine WO_bin rfl rfl (neq_same ((pos_step a p r n1).symm.trans hR1.off)) ?_
          refine WO_pick (v := .s (.bool _)) rfl rfl ?_
          refine WO_nil ?_
          refine WP_cond rfl (fun h => nomatch h) (fun _ => ?_)
          refine WP_skip ?_
          refine WP_seq ?_
          refine WP_seq ?_
          refine WP_ops ?_
          refine WO_mv rfl ?_
          refine WO_nil ?_
          refine WP_block ?_
          refine WP_sub (L' := [_, _]) (.cons_cons _ (.cons_cons _ .slnil)) ?_
          refine WP_loop (fun m f _ L => ∃ (i : Nat) (bb : Nat), (i ≤ n1) ∧ (m = n1 - i) ∧ (f 8 = .sl 0 0 n1 1 .whole) ∧ (f 12 = .sl bb 0 n2 1 .whole) ∧ (f 13 = .s (.int .i64 i)) ∧ (L = [(bb, .sc .grow q2 (ia G)), (0, .sc .grow q1 (ia F1))])) (fun m f nb L hI => ?_) (n1) ⟨0, _, by omega, rfl, rfl, rfl, rfl, rfl⟩
          obtain ⟨i, bb, hi, hm, k8, k12, k13, rfl⟩ := hI
          refine WP_know (d := 8) (v := .sl 0 0 n1 1 .whole) k8 ?_
          refine WP_know (d := 12) (v := .sl bb 0 n2 1 .whole) k12 ?_
          refine WP_know (d := 13) (v := .s (.int .i64 i)) k13 ?_
          refine WP_seq ?_
          refine WP_seq ?_
          refine WP_ops ?_
          refine WO_mv (v := .s (.int _ _)) rfl ?_
          refine WO_add rfl rfl (by omega) ?_
          refine WO_mv (v := .sl _ _ _ _ _) rfl ?_
          refine WO_len rfl ?_
          refine WO_bin (r := .bool _) rfl rfl rfl ?_
          refine WO_nil ?_
          refine WP_cond rfl (fun h41 => ?_) (fun h41 => ?_)
          ·try simp only [NM] at h41
           refine WP_skip ?_
           refine WP_seq ?_
           refine WP_block ?_
           refine WP_seq ?_
           refine WP_ops ?_
           refine WO_mv (v := .sl _ _ _ _ _) rfl ?_
           refine WO_mv (v := .s (.int _ _)) rfl ?_
           refine WO_ixs rfl rfl (by omega) ?_
           refine WO_ldI (x := posF a p r (n1 - 1 - i)) rfl rfl (.head _) ((congrArg G (by omega)).trans (hGG i (by omega))) ?_
           refine WO_mv (v := .sl _ _ _ _ _) rfl ?_
           refine WO_mv (v := .sl _ _ _ _ _) rfl ?_
           refine WO_len rfl ?_
           refine WO_sub rfl rfl (by omega) ?_
           refine WO_mv (v := .s (.int _ _)) rfl ?_
           refine WO_sub rfl rfl (by omega) ?_
           refine WO_ixs rfl rfl (by omega) ?_
           refine WO_ldI (x := posF a p r (n1 - 1 - i)) rfl rfl (.tail _ (.head _)) ((congrArg F1 (show 0 + ((n1 : Int) - 2 - (i : Int)).toNat * 1 = n1 - 2 - i by omega)).trans ((hF1 (n1 - 2 - i) (by omega)).trans (by rw [show n1 - 1 - i = n1 - 2 - i + 1 by omega]; rfl))) ?_
           refine WO_bin rfl rfl (neq_same rfl) ?_
           refine WO_nil ?_
           refine WP_cond rfl (fun h => nomatch h) (fun _ => ?_)
           refine WP_skip ?_
           refine WP_ops ?_
           refine WO_mv (v := .s (.int _ _)) rfl ?_
           refine WO_add rfl rfl (by omega) ?_
           refine WO_mv (v := .s (.int _ _)) rfl ?_
           refine WO_nil ?_
           refine ⟨n1 - (i + 1), _, by omega, (.cons_cons _ (.cons_cons _ .slnil)), i + 1, _, by omega, rfl, rfl, rfl, rfl, rfl⟩
          ·try simp only [NM] at h41
           refine WP_exit ?_
           refine xhere ?_
           refine WP_seq ?_
           refine WP_ops ?_
           refine WO_mv rfl ?_
           refine WO_nil ?_
           refine WP_ret ?_
           refine ⟨_, RS_tmp (v := .s (.bool _)) rfl (RS_nil), ?_⟩
           first | rfl | (exfalso; omega)
    ·try simp only [NM] at h35
     refine WO_gf rfl rfl ?_
     refine WO_gf rfl rfl ?_
     refine WO_gf rfl rfl ?_
     refine WO_gt rfl ?_
     refine WO_pick (v := .s (.bool _)) rfl rfl ?_
     refine WO_pick (v := .s (.bool _)) rfl rfl ?_
     refine WO_nil ?_
     refine WP_cond rfl (fun h => nomatch h) (fun _ => ?_)
     refine WP_skip ?_
     refine WP_seq ?_
     refine WP_ops ?_
     refine WO_mv (v := .s (.int _ _)) rfl ?_
     refine WO_mv (v := .s (.int _ _)) rfl ?_
     refine WO_nil ?_
     refine WP_seq ?_
     refine WP_seq ?_
     refine WP_ops ?_
     refine WO_mv rfl ?_
     refine WO_nil ?_
     refine WP_block ?_
     refine WP_sub (L' := [_]) (.cons_cons _ .slnil) ?_
     refine WP_loop (fun m f _ L => ∃ (i : Nat), (i ≤ n1) ∧ (m = n1 - i) ∧ (f 1 = .s (.int .i64 p)) ∧ (f 2 = .s (.int .i64 r)) ∧ (f 7 = .s (.int .i64 a)) ∧ (f 8 = .sl 0 0 n1 1 .whole) ∧ (f 9 = .s (.int .i64 (posF a p r i))) ∧ (f 10 = .s (.int .i64 i)) ∧ (L = [(0, .sc .grow q1 (ia F1))])) (fun m f nb L hI => ?_) (n1) ⟨0, by omega, rfl, rfl, rfl, rfl, rfl, rfl, rfl, rfl⟩
     obtain ⟨i, hi, hm, k1, k2, k7, k8, k9, k10, rfl⟩ := hI
     refine WP_know (d := 1) (v := .s (.int .i64 p)) k1 ?_
     refine WP_know (d := 2) (v := .s (.int .i64 r)) k2 ?_
     refine WP_know (d := 7) (v := .s (.int .i64 a)) k7 ?_
     refine WP_know (d := 8) (v := .sl 0 0 n1 1 .whole) k8 ?_
     refine WP_know (d := 9) (v := .s (.int .i64 (posF a p r i))) k9 ?_
     refine WP_know (d := 10) (v := .s (.int .i64 i)) k10 ?_
     refine WP_seq ?_
     refine WP_seq ?_
     refine WP_ops ?_
     refine WO_mv (v := .s (.int _ _)) rfl ?_
     refine WO_mv (v := .sl _ _ _ _ _) rfl ?_
     refine WO_len rfl ?_
     refine WO_bin (r := .bool _) rfl rfl rfl ?_
     refine WO_nil ?_
     refine WP_cond rfl (fun h42 => ?_) (fun h42 => ?_)
     ·try simp only [NM] at h42
      refine WP_skip ?_
      refine WP_seq ?_
      refine WP_block ?_
      refine WP_seq ?_
      refine WP_seq ?_
      refine WP_ops ?_
      refine WO_mv (v := .sl _ _ _ _ _) rfl ?_
      refine WO_mv (v := .s (.int _ _)) rfl ?_
      refine WO_ixs rfl rfl (by omega) ?_
      refine WO_ldI (x := posF a p r (i + 1)) rfl rfl (.head _) ((congrArg F1 (by omega)).trans (hF1 i (by omega))) ?_
      refine WO_mv (v := .s (.int _ _)) rfl ?_
      refine WO_bin rfl rfl (eql_no (pos_ne (j := i + 1) (k := 0) hz ha hR1 (by omega) (by omega))) ?_
      refine WO_mv (v := .s (.bool _)) rfl ?_
      refine WO_gt rfl ?_
      refine WO_mv (v := .s (.int _ _)) rfl ?_
      refine WO_gt rfl ?_
      refine WO_mv (v := .s (.int _ _)) rfl ?_
      refine WO_gt rfl ?_
      refine WO_mv (v := .s (.int _ _)) rfl ?_
      refine WO_gt rfl ?_
      refine WO_callq0 rfl (Step_run _ _ _) rfl rfl rfl ?_
      refine WO_gt rfl ?_
      refine WO_mv (v := .sl _ _ _ _ _) rfl ?_
      refine WO_gt rfl ?_
      refine WO_mv (v := .s (.int _ _)) rfl ?_
      refine WO_gt rfl ?_
      refine WO_ixs rfl rfl (by omega) ?_
      refine WO_gt rfl ?_
      refine WO_ldI (x := posF a p r (i + 1)) rfl rfl (.head _) ((congrArg F1 (by omega)).trans (hF1 i (by omega))) ?_
      refine WO_gt rfl ?_
      refine WO_bin rfl rfl (neq_same (pos_step a p r i).symm) ?_
      refine WO_pick (v := .s (.bool _)) rfl rfl ?_
      refine WO_nil ?_
      refine WP_cond rfl (fun h => nomatch h) (fun _ => ?_)
      refine WP_skip ?_
      refine WP_seq ?_
      refine WP_seq ?_
      refine WP_ops ?_
      refine WO_mv rfl ?_
      refine WO_nil ?_
      refine WP_block ?_
      refine WP_sub (L' := [_]) (.cons_cons _ .slnil) ?_
      refine WP_loop (fun m f _ L => ∃ (k : Nat), (k ≤ i) ∧ (m = i - k) ∧ (f 1 = .s (.int .i64 p)) ∧ (f 2 = .s (.int .i64 r)) ∧ (f 7 = .s (.int .i64 a)) ∧ (f 8 = .sl 0 0 n1 1 .whole) ∧ (f 9 = .s (.int .i64 (posF a p r i))) ∧ (f 10 = .s (.int .i64 i)) ∧ (f 11 = .s (.int .i64 k)) ∧ (L = [(0, .sc .grow q1 (ia F1))])) (fun m f nb L hI => ?_) (i) ⟨0, by omega, rfl, rfl, rfl, rfl, rfl, rfl, rfl, rfl, rfl⟩
      obtain ⟨k, hk, hm, k1, k2, k7, k8, k9, k10, k11, rfl⟩ := hI
      refine WP_know (d := 1) (v := .s (.int .i64 p)) k1 ?_
      refine WP_know (d := 2) (v := .s (.int .i64 r)) k2 ?_
      refine WP_know (d := 7) (v := .s (.int .i64 a)) k7 ?_
      refine WP_know (d := 8) (v := .sl 0 0 n1 1 .whole) k8 ?_
      refine WP_know (d := 9) (v := .s (.int .i64 (posF a p r i))) k9 ?_
      refine WP_know (d := 10) (v := .s (.int .i64 i)) k10 ?_
      refine WP_know (d := 11) (v := .s (.int .i64 k)) k11 ?_
      refine WP_seq ?_
      refine WP_seq ?_
      refine WP_ops ?_
      refine WO_mv (v := .s (.int _ _)) rfl ?_
      refine WO_mv (v := .s (.int _ _)) rfl ?_
      refine WO_bin (r := .bool _) rfl rfl rfl ?_
      refine WO_nil ?_
      refine WP_cond rfl (fun h43 => ?_) (fun h43 => ?_)
      ·try simp only [NM] at h43
       refine WP_skip ?_
       refine WP_seq ?_
       refine WP_block ?_
       refine WP_seq ?_
       refine WP_ops ?_
       refine WO_mv (v := .sl _ _ _ _ _) rfl ?_
       refine WO_mv (v := .s (.int _ _)) rfl ?_
       refine WO_ixs rfl rfl (by omega) ?_
       refine WO_ldI (x := posF a p r (k + 1)) rfl rfl (.head _) ((congrArg F1 (by omega)).trans (hF1 k (by omega))) ?_
       refine WO_mv (v := .sl _ _ _ _ _) rfl ?_
       refine WO_mv (v := .s (.int _ _)) rfl ?_
       refine WO_ixs rfl rfl (by omega) ?_
       refine WO_ldI (x := posF a p r (i + 1)) rfl rfl (.head _) ((congrArg F1 (by omega)).trans (hF1 i (by omega))) ?_
       refine WO_bin rfl rfl (eql_no (pos_ne (j := i + 1) (k := k + 1) hz ha hR1 (by omega) (by omega)).symm) ?_
       refine WO_nil ?_
       refine WP_cond rfl (fun h => nomatch h) (fun _ => ?_)
       refine WP_skip ?_
       refine WP_ops ?_
       refine WO_mv (v := .s (.int _ _)) rfl ?_
       refine WO_add rfl rfl (by omega) ?_
       refine WO_mv (v := .s (.int _ _)) rfl ?_
       refine WO_nil ?_
       refine ⟨i - (k + 1), _, by omega, (.cons_cons _ .slnil), k + 1, by omega, rfl, rfl, rfl, rfl, rfl, rfl, rfl, rfl, rfl⟩
      ·try simp only [NM] at h43
       refine WP_exit ?_
       refine xhere ?_
       refine WP_ops ?_
       refine WO_mv (v := .sl _ _ _ _ _) rfl ?_
       refine WO_mv (v := .s (.int _ _)) rfl ?_
       refine WO_ixs rfl rfl (by omega) ?_
       refine WO_ldI (x := posF a p r (i + 1)) rfl rfl (.head _) ((congrArg F1 (by omega)).trans (hF1 i (by omega))) ?_
       refine WO_mv (v := .s (.int _ _)) rfl ?_
       refine WO_nil ?_
       refine WP_ops ?_
       refine WO_mv (v := .s (.int _ _)) rfl ?_
       refine WO_add rfl rfl (by omega) ?_
       refine WO_mv (v := .s (.int _ _)) rfl ?_
       refine WO_nil ?_
       refine ⟨n1 - (i + 1), _, by omega, (.cons_cons _ .slnil), i + 1, by omega, rfl, rfl, rfl, rfl, rfl, rfl, rfl, rfl⟩
     ·try simp only [NM] at h42
      refine WP_exit ?_
      refine xhere ?_
      refine WP_seq ?_
      refine WP_seq ?_
      refine WP_ops ?_
      refine WO_mv (v := .sl _ _ _ _ _) rfl ?_
      refine WO_len rfl ?_
      refine WO_bin (r := .bool _) rfl rfl rfl ?_
      refine WO_nil ?_
      refine WP_cond rfl (fun h44 => ?_) (fun h44 => ?_)
      ·try simp only [NM] at h44
       exfalso; first | omega | (simp at h44)
      ·try simp only [NM] at h44
       refine WP_skip ?_
       refine WP_seq ?_
       refine WP_ops ?_
       obtain rfl : n1 = i := by omega
       refine WO_mv (v := .s (.int _ _)) rfl ?_
       refine WO_mv (v := .s (.int _ _)) rfl ?_
       refine WO_neg rfl (by omega) ?_
       refine WO_mv (v := .s (.int _ _)) rfl ?_
       refine WO_neg rfl (by omega) ?_
       rcases Ray_ex (posF a p r n1) (-p) (-r) with ⟨hp0, hr0, _⟩ | ⟨hz2, n2, G, hR2, hn2, hG, hT2 | hT2⟩
       ·exfalso; omega
       ·exfalso; have := back_len ha hR1 hR2; have := hT2.1; omega
       ·skip
        obtain ⟨h20, q2, hT2⟩ := hT2
        have hlen := back_len ha hR1 hR2
        have hGG : ∀ j : Nat, j < n1 → G j = posF a p r (n1 - 1 - j) := fun j hj => (hG j (by omega)).trans (ray_back ha hR1 j hj)
        refine WO_callN (mk := fun b => .sl b 0 n2 1 .whole) (rs := []) (Bs := []) One_sl rfl hT2 rfl rfl (Nat.le_of_ble_eq_true rfl) (fun _ h => h) rfl trivial rfl rfl .nil ?_
        refine WO_mv (v := .sl _ _ _ _ _) rfl ?_
        refine WO_nil ?_
        refine WP_seq ?_
        refine WP_seq ?_
        refine WP_ops ?_
        refine WO_mv (v := .sl _ _ _ _ _) rfl ?_
        refine WO_len rfl ?_
        refine WO_mv (v := .sl _ _ _ _ _) rfl ?_
        refine WO_len rfl ?_
        refine WO_bin (r := .bool _) rfl rfl rfl ?_
        refine WO_mv (v := .s (.bool _)) rfl ?_
        refine WO_case (t := 107) rfl (fun h45 => ?_) (fun h45 => ?_)
        ·try simp only [NM] at h45
         exfalso; first | omega | (simp at h45)
        ·try simp only [NM] at h45
         refine WO_gt rfl ?_
         refine WO_mv (v := .sl _ _ _ _ _) rfl ?_
         refine WO_gt rfl ?_
         refine WO_mv (v := .sl _ _ _ _ _) rfl ?_
         refine WO_gt rfl ?_
         refine WO_len rfl ?_
         refine WO_gt rfl ?_
         refine WO_sub rfl rfl (by omega) ?_
         refine WO_gt rfl ?_
         refine WO_ixs rfl rfl (by omega) ?_
         refine WO_gt rfl ?_
         refine WO_ldI (x := a) rfl rfl (.head _) ((congrArg G (show 0 + ((n1 : Int) - 1).toNat * 1 = n1 - 1 by omega)).trans ((hGG (n1 - 1) (by omega)).trans (by rw [show n1 - 1 - (n1 - 1) = 0 by omega]; rfl))) ?_
         refine WO_gt rfl ?_
         refine WO_mv (v := .s (.int _ _)) rfl ?_
         refine WO_gt rfl ?_
         refine WO_bin rfl rfl (neq_same rfl) ?_
         refine WO_pick (v := .s (.bool _)) rfl rfl ?_
         refine WO_mv (v := .s (.bool _)) rfl ?_
         refine WO_gt rfl ?_
         refine WO_mv (v := .s (.int _ _)) rfl ?_
         refine WO_gt rfl ?_
         refine WO_mv (v := .s (.int _ _)) rfl ?_
         refine WO_gt rfl ?_
         refine WO_mv (v := .s (.int _ _)) rfl ?_
         refine WO_gt rfl ?_
         refine WO_call0 rfl (Step_run _ _ _) rfl rfl rfl ?_
         refine WO_gt rfl ?_
         refine WO_bin rfl rfl (neq_same ((pos_step a p r n1).symm.trans hR1.off)) ?_
         refine WO_pick (v := .s (.bool _)) rfl rfl ?_
         refine WO_nil ?_
         refine WP_cond rfl (fun h => nomatch h) (fun _ => ?_)
         refine WP_skip ?_
         refine WP_seq ?_
         refine WP_seq ?_
         refine WP_ops ?_
         refine WO_mv rfl ?_
         refine WO_nil ?_
         refine WP_block ?_
         refine WP_sub (L' := [_, _]) (.cons_cons _ (.cons_cons _ .slnil)) ?_
         refine WP_loop (fun m f _ L => ∃ (i : Nat) (bb : Nat), (i ≤ n1) ∧ (m = n1 - i) ∧ (f 8 = .sl 0 0 n1 1 .whole) ∧ (f 12 = .sl bb 0 n2 1 .whole) ∧ (f 13 = .s (.int .i64 i)) ∧ (L = [(bb, .sc .grow q2 (ia G)), (0, .sc .grow q1 (ia F1))])) (fun m f nb L hI => ?_) (n1) ⟨0, _, by omega, rfl, rfl, rfl, rfl, rfl⟩
         obtain ⟨i, bb, hi, hm, k8, k12, k13, rfl⟩ := hI
         refine WP_know (d := 8) (v := .sl 0 0 n1 1 .whole) k8 ?_
         refine WP_know (d := 12) (v := .sl bb 0 n2 1 .whole) k12 ?_
         refine WP_know (d := 13) (v := .s (.int .i64 i)) k13 ?_
         refine WP_seq ?_
         refine WP_seq ?_
         refine WP_ops ?_
         refine WO_mv (v := .s (.int _ _)) rfl ?_
         refine WO_add rfl rfl (by omega) ?_
         refine WO_mv (v := .sl _ _ _ _ _) rfl ?_
         refine WO_len rfl ?_
         refine WO_bin (r := .bool _) rfl rfl rfl ?_
         refine WO_nil ?_
         refine WP_cond rfl (fun h46 => ?_) (fun h46 => ?_)
         ·try simp only [NM] at h46
          refine WP_skip ?_
          refine WP_seq ?_
          refine WP_block ?_
          refine WP_seq ?_
          refine WP_ops ?_
          refine WO_mv (v := .sl _ _ _ _ _) rfl ?_
          refine WO_mv (v := .s (.int _ _)) rfl ?_
          refine WO_ixs rfl rfl (by omega) ?_
          refine WO_ldI (x := posF a p r (n1 - 1 - i)) rfl rfl (.head _) ((congrArg G (by omega)).trans (hGG i (by omega))) ?_
          refine WO_mv (v := .sl _ _ _ _ _) rfl ?_
          refine WO_mv (v := .sl _ _ _ _ _) rfl ?_
          refine WO_len rfl ?_
          refine WO_sub rfl rfl (by omega) ?_
          refine WO_mv (v := .s (.int _ _)) rfl ?_
          refine WO_sub rfl rfl (by omega) ?_
          refine WO_ixs rfl rfl (by omega) ?_
          refine WO_ldI (x := posF a p r (n1 - 1 - i)) rfl rfl (.tail _ (.head _)) ((congrArg F1 (show 0 + ((n1 : Int) - 2 - (i : Int)).toNat * 1 = n1 - 2 - i by omega)).trans ((hF1 (n1 - 2 - i) (by omega)).trans (by rw [show n1 - 1 - i = n1 - 2 - i + 1 by omega]; rfl))) ?_
          refine WO_bin rfl rfl (neq_same rfl) ?_
          refine WO_nil ?_
          refine WP_cond rfl (fun h => nomatch h) (fun _ => ?_)
          refine WP_skip ?_
          refine WP_ops ?_
          refine WO_mv (v := .s (.int _ _)) rfl ?_
          refine WO_add rfl rfl (by omega) ?_
          refine WO_mv (v := .s (.int _ _)) rfl ?_
          refine WO_nil ?_
          refine ⟨n1 - (i + 1), _, by omega, (.cons_cons _ (.cons_cons _ .slnil)), i + 1, _, by omega, rfl, rfl, rfl, rfl, rfl⟩
         ·try simp only [NM] at h46
          refine WP_exit ?_
          refine xhere ?_
          refine WP_seq ?_
          refine WP_ops ?_
          refine WO_mv rfl ?_
          refine WO_nil ?_
          refine WP_ret ?_
          refine ⟨_, RS_tmp (v := .s (.bool _)) rfl (RS_nil), ?_⟩
          first | rfl | (exfalso; omega)
   ·try simp only [NM] at h34
    refine WO_gf rfl rfl ?_
    refine WO_gf rfl rfl ?_
    refine WO_gt rfl ?_
    refine WO_pick (v := .s (.bool _)) rfl rfl ?_
    refine WO_gt rfl ?_
    refine WO_mv (v := .s (.bool _)) rfl ?_
    refine WO_gf rfl rfl ?_
    refine WO_gf rfl rfl ?_
    refine WO_gf rfl rfl ?_
    refine WO_gt rfl ?_
    refine WO_pick (v := .s (.bool _)) rfl rfl ?_
    refine WO_pick (v := .s (.bool _)) rfl rfl ?_
    refine WO_nil ?_
    refine WP_cond rfl (fun h => nomatch h) (fun _ => ?_)
    refine WP_skip ?_
    refine WP_seq ?_
    refine WP_ops ?_
    refine WO_mv (v := .s (.int _ _)) rfl ?_
    refine WO_mv (v := .s (.int _ _)) rfl ?_
    refine WO_nil ?_
    refine WP_seq ?_
    refine WP_seq ?_
    refine WP_ops ?_
    refine WO_mv rfl ?_
    refine WO_nil ?_
    refine WP_block ?_
    refine WP_sub (L' := [_]) (.cons_cons _ .slnil) ?_
    refine WP_loop (fun m f _ L => ∃ (i : Nat), (i ≤ n1) ∧ (m = n1 - i) ∧ (f 1 = .s (.int .i64 p)) ∧ (f 2 = .s (.int .i64 r)) ∧ (f 7 = .s (.int .i64 a)) ∧ (f 8 = .sl 0 0 n1 1 .whole) ∧ (f 9 = .s (.int .i64 (posF a p r i))) ∧ (f 10 = .s (.int .i64 i)) ∧ (L = [(0, .sc .grow q1 (ia F1))])) (fun m f nb L hI => ?_) (n1) ⟨0, by omega, rfl, rfl, rfl, rfl, rfl, rfl, rfl, rfl⟩
    obtain ⟨i, hi, hm, k1, k2, k7, k8, k9, k10, rfl⟩ := hI
    refine WP_know (d := 1) (v := .s (.int .i64 p)) k1 ?_
    refine WP_know (d := 2) (v := .s (.int .i64 r)) k2 ?_
    refine WP_know (d := 7) (v := .s (.int .i64 a)) k7 ?_
    refine WP_know (d := 8) (v := .sl 0 0 n1 1 .whole) k8 ?_
    refine WP_know (d := 9) (v := .s (.int .i64 (posF a p r i))) k9 ?_
    refine WP_know (d := 10) (v := .s (.int .i64 i)) k10 ?_
    refine WP_seq ?_
    refine WP_seq ?_
    refine WP_ops ?_
    refine WO_mv (v := .s (.int _ _)) rfl ?_
    refine WO_mv (v := .sl _ _ _ _ _) rfl ?_
    refine WO_len rfl ?_
    refine WO_bin (r := .bool _) rfl rfl rfl ?_
    refine WO_nil ?_
    refine WP_cond rfl (fun h47 => ?_) (fun h47 => ?_)
    ·try simp only [NM] at h47
     refine WP_skip ?_
     refine WP_seq ?_
     refine WP_block ?_
     refine WP_seq ?_
     refine WP_seq ?_
     refine WP_ops ?_
     refine WO_mv (v := .sl _ _ _ _ _) rfl ?_
     refine WO_mv (v := .s (.int _ _)) rfl ?_
     refine WO_ixs rfl rfl (by omega) ?_
     refine WO_ldI (x := posF a p r (i + 1)) rfl rfl (.head _) ((congrArg F1 (by omega)).trans (hF1 i (by omega))) ?_
     refine WO_mv (v := .s (.int _ _)) rfl ?_
     refine WO_bin rfl rfl (eql_no (pos_ne (j := i + 1) (k := 0) hz ha hR1 (by omega) (by omega))) ?_
     refine WO_mv (v := .s (.bool _)) rfl ?_
     refine WO_gt rfl ?_
     refine WO_mv (v := .s (.int _ _)) rfl ?_
     refine WO_gt rfl ?_
     refine WO_mv (v := .s (.int _ _)) rfl ?_
     refine WO_gt rfl ?_
     refine WO_mv (v := .s (.int _ _)) rfl ?_
     refine WO_gt rfl ?_
     refine WO_callq0 rfl (Step_run _ _ _) rfl rfl rfl ?_
     refine WO_gt rfl ?_
     refine WO_mv (v := .sl _ _ _ _ _) rfl ?_
     refine WO_gt rfl ?_
     refine WO_mv (v := .s (.int _ _)) rfl ?_
     refine WO_gt rfl ?_
     refine WO_ixs rfl rfl (by omega) ?_
     refine WO_gt rfl ?_
     refine WO_ldI (x := posF a p r (i + 1)) rfl rfl (.head _) ((congrArg F1 (by omega)).trans (hF1 i (by omega))) ?_
     refine WO_gt rfl ?_
     refine WO_bin rfl rfl (neq_same (pos_step a p r i).symm) ?_
     refine WO_pick (v := .s (.bool _)) rfl rfl ?_
     refine WO_nil ?_
     refine WP_cond rfl (fun h => nomatch h) (fun _ => ?_)
     refine WP_skip ?_
     refine WP_seq ?_
     refine WP_seq ?_
     refine WP_ops ?_
     refine WO_mv rfl ?_
     refine WO_nil ?_
     refine WP_block ?_
     refine WP_sub (L' := [_]) (.cons_cons _ .slnil) ?_
     refine WP_loop (fun m f _ L => ∃ (k : Nat), (k ≤ i) ∧ (m = i - k) ∧ (f 1 = .s (.int .i64 p)) ∧ (f 2 = .s (.int .i64 r)) ∧ (f 7 = .s (.int .i64 a)) ∧ (f 8 = .sl 0 0 n1 1 .whole) ∧ (f 9 = .s (.int .i64 (posF a p r i))) ∧ (f 10 = .s (.int .i64 i)) ∧ (f 11 = .s (.int .i64 k)) ∧ (L = [(0, .sc .grow q1 (ia F1))])) (fun m f nb L hI => ?_) (i) ⟨0, by omega, rfl, rfl, rfl, rfl, rfl, rfl, rfl, rfl, rfl⟩
     obtain ⟨k, hk, hm, k1, k2, k7, k8, k9, k10, k11, rfl⟩ := hI
     refine WP_know (d := 1) (v := .s (.int .i64 p)) k1 ?_
     refine WP_know (d := 2) (v := .s (.int .i64 r)) k2 ?_
     refine WP_know (d := 7) (v := .s (.int .i64 a)) k7 ?_
     refine WP_know (d := 8) (v := .sl 0 0 n1 1 .whole) k8 ?_
     refine WP_know (d := 9) (v := .s (.int .i64 (posF a p r i))) k9 ?_
     refine WP_know (d := 10) (v := .s (.int .i64 i)) k10 ?_
     refine WP_know (d := 11) (v := .s (.int .i64 k)) k11 ?_
     refine WP_seq ?_
     refine WP_seq ?_
     refine WP_ops ?_
     refine WO_mv (v := .s (.int _ _)) rfl ?_
     refine WO_mv (v := .s (.int _ _)) rfl ?_
     refine WO_bin (r := .bool _) rfl rfl rfl ?_
     refine WO_nil ?_
     refine WP_cond rfl (fun h48 => ?_) (fun h48 => ?_)
     ·try simp only [NM] at h48
      refine WP_skip ?_
      refine WP_seq ?_
      refine WP_block ?_
      refine WP_seq ?_
      refine WP_ops ?_
      refine WO_mv (v := .sl _ _ _ _ _) rfl ?_
      refine WO_mv (v := .s (.int _ _)) rfl ?_
      refine WO_ixs rfl rfl (by omega) ?_
      refine WO_ldI (x := posF a p r (k + 1)) rfl rfl (.head _) ((congrArg F1 (by omega)).trans (hF1 k (by omega))) ?_
      refine WO_mv (v := .sl _ _ _ _ _) rfl ?_
      refine WO_mv (v := .s (.int _ _)) rfl ?_
      refine WO_ixs rfl rfl (by omega) ?_
      refine WO_ldI (x := posF a p r (i + 1)) rfl rfl (.head _) ((congrArg F1 (by omega)).trans (hF1 i (by omega))) ?_
      refine WO_bin rfl rfl (eql_no (pos_ne (j := i + 1) (k := k + 1) hz ha hR1 (by omega) (by omega)).symm) ?_
      refine WO_nil ?_
      refine WP_cond rfl (fun h => nomatch h) (fun _ => ?_)
      refine WP_skip ?_
      refine WP_ops ?_
      refine WO_mv (v := .s (.int _ _)) rfl ?_
      refine WO_add rfl rfl (by omega) ?_
      refine WO_mv (v := .s (.int _ _)) rfl ?_
      refine WO_nil ?_
      refine ⟨i - (k + 1), _, by omega, (.cons_cons _ .slnil), k + 1, by omega, rfl, rfl, rfl, rfl, rfl, rfl, rfl, rfl, rfl⟩
     ·try simp only [NM] at h48
      refine WP_exit ?_
      refine xhere ?_
      refine WP_ops ?_
      refine WO_mv (v := .sl _ _ _ _ _) rfl ?_
      refine WO_mv (v := .s (.int _ _)) rfl ?_
      refine WO_ixs rfl rfl (by omega) ?_
      refine WO_ldI (x := posF a p r (i + 1)) rfl rfl (.head _) ((congrArg F1 (by omega)).trans (hF1 i (by omega))) ?_
      refine WO_mv (v := .s (.int _ _)) rfl ?_
      refine WO_nil ?_
      refine WP_ops ?_
      refine WO_mv (v := .s (.int _ _)) rfl ?_
      refine WO_add rfl rfl (by omega) ?_
      refine WO_mv (v := .s (.int _ _)) rfl ?_
      refine WO_nil ?_
      refine ⟨n1 - (i + 1), _, by omega, (.cons_cons _ .slnil), i + 1, by omega, rfl, rfl, rfl, rfl, rfl, rfl, rfl, rfl⟩
    ·try simp only [NM] at h47
     refine WP_exit ?_
     refine xhere ?_
     refine WP_seq ?_
     refine WP_seq ?_
     refine WP_ops ?_
     refine WO_mv (v := .sl _ _ _ _ _) rfl ?_
     refine WO_len rfl ?_
     refine WO_bin (r := .bool _) rfl rfl rfl ?_
     refine WO_nil ?_
     refine WP_cond rfl (fun h49 => ?_) (fun h49 => ?_)
     ·try simp only [NM] at h49
      exfalso; first | omega | (simp at h49)
     ·try simp only [NM] at h49
      refine WP_skip ?_
      refine WP_seq ?_
      refine WP_ops ?_
      obtain rfl : n1 = i := by omega
      refine WO_mv (v := .s (.int _ _)) rfl ?_
      refine WO_mv (v := .s (.int _ _)) rfl ?_
      refine WO_neg rfl (by omega) ?_
      refine WO_mv (v := .s (.int _ _)) rfl ?_
      refine WO_neg rfl (by omega) ?_
      rcases Ray_ex (posF a p r n1) (-p) (-r) with ⟨hp0, hr0, _⟩ | ⟨hz2, n2, G, hR2, hn2, hG, hT2 | hT2⟩
      ·exfalso; omega
      ·exfalso; have := back_len ha hR1 hR2; have := hT2.1; omega
      ·skip
       obtain ⟨h20, q2, hT2⟩ := hT2
       have hlen := back_len ha hR1 hR2
       have hGG : ∀ j : Nat, j < n1 → G j = posF a p r (n1 - 1 - j) := fun j hj => (hG j (by omega)).trans (ray_back ha hR1 j hj)
       refine WO_callN (mk := fun b => .sl b 0 n2 1 .whole) (rs := []) (Bs := []) One_sl rfl hT2 rfl rfl (Nat.le_of_ble_eq_true rfl) (fun _ h => h) rfl trivial rfl rfl .nil ?_
       refine WO_mv (v := .sl _ _ _ _ _) rfl ?_
       refine WO_nil ?_
       refine WP_seq ?_
       refine WP_seq ?_
       refine WP_ops ?_
       refine WO_mv (v := .sl _ _ _ _ _) rfl ?_
       refine WO_len rfl ?_
       refine WO_mv (v := .sl _ _ _ _ _) rfl ?_
       refine WO_len rfl ?_
       refine WO_bin (r := .bool _) rfl rfl rfl ?_
       refine WO_mv (v := .s (.bool _)) rfl ?_
       refine WO_case (t := 107) rfl (fun h50 => ?_) (fun h50 => ?_)
       ·try simp only [NM] at h50
        exfalso; first | omega | (simp at h50)
       ·try simp only [NM] at h50
        refine WO_gt rfl ?_
        refine WO_mv (v := .sl _ _ _ _ _) rfl ?_
        refine WO_gt rfl ?_
        refine WO_mv (v := .sl _ _ _ _ _) rfl ?_
        refine WO_gt rfl ?_
        refine WO_len rfl ?_
        refine WO_gt rfl ?_
        refine WO_sub rfl rfl (by omega) ?_
        refine WO_gt rfl ?_
        refine WO_ixs rfl rfl (by omega) ?_
        refine WO_gt rfl ?_
        refine WO_ldI (x := a) rfl rfl (.head _) ((congrArg G (show 0 + ((n1 : Int) - 1).toNat * 1 = n1 - 1 by omega)).trans ((hGG (n1 - 1) (by omega)).trans (by rw [show n1 - 1 - (n1 - 1) = 0 by omega]; rfl))) ?_
        refine WO_gt rfl ?_
        refine WO_mv (v := .s (.int _ _)) rfl ?_
        refine WO_gt rfl ?_
        refine WO_bin rfl rfl (neq_same rfl) ?_
        refine WO_pick (v := .s (.bool _)) rfl rfl ?_
        refine WO_mv (v := .s (.bool _)) rfl ?_
        refine WO_gt rfl ?_
        refine WO_mv (v := .s (.int _ _)) rfl ?_
        refine WO_gt rfl ?_
        refine WO_mv (v := .s (.int _ _)) rfl ?_
        refine WO_gt rfl ?_
        refine WO_mv (v := .s (.int _ _)) rfl ?_
        refine WO_gt rfl ?_
        refine WO_call0 rfl (Step_run _ _ _) rfl rfl rfl ?_
        refine WO_gt rfl ?_
        refine WO_bin rfl rfl (neq_same ((pos_step a p r n1).symm.trans hR1.off)) ?_
        refine WO_pick (v := .s (.bool _)) rfl rfl ?_
        refine WO_nil ?_
        refine WP_cond rfl (fun h => nomatch h) (fun _ => ?_)
        refine WP_skip ?_
        refine WP_seq ?_
        refine WP_seq ?_
        refine WP_ops ?_
        refine WO_mv rfl ?_
        refine WO_nil ?_
        refine WP_block ?_
        refine WP_sub (L' := [_, _]) (.cons_cons _ (.cons_cons _ .slnil)) ?_
        refine WP_loop (fun m f _ L => ∃ (i : Nat) (bb : Nat), (i ≤ n1) ∧ (m = n1 - i) ∧ (f 8 = .sl 0 0 n1 1 .whole) ∧ (f 12 = .sl bb 0 n2 1 .whole) ∧ (f 13 = .s (.int .i64 i)) ∧ (L = [(bb, .sc .grow q2 (ia G)), (0, .sc .grow q1 (ia F1))])) (fun m f nb L hI => ?_) (n1) ⟨0, _, by omega, rfl, rfl, rfl, rfl, rfl⟩
        obtain ⟨i, bb, hi, hm, k8, k12, k13, rfl⟩ := hI
        refine WP_know (d := 8) (v := .sl 0 0 n1 1 .whole) k8 ?_
        refine WP_know (d := 12) (v := .sl bb 0 n2 1 .whole) k12 ?_
        refine WP_know (d := 13) (v := .s (.int .i64 i)) k13 ?_
        refine WP_seq ?_
        refine WP_seq ?_
        refine WP_ops ?_
        refine WO_mv (v := .s (.int _ _)) rfl ?_
        refine WO_add rfl rfl (by omega) ?_
        refine WO_mv (v := .sl _ _ _ _ _) rfl ?_
        refine WO_len rfl ?_
        refine WO_bin (r := .bool _) rfl rfl rfl ?_
        refine WO_nil ?_
        refine WP_cond rfl (fun h51 => ?_) (fun h51 => ?_)
        ·try simp only [NM] at h51
         refine WP_skip ?_
         refine WP_seq ?_
         refine WP_block ?_
         refine WP_seq ?_
         refine WP_ops ?_
         refine WO_mv (v := .sl _ _ _ _ _) rfl ?_
         refine WO_mv (v := .s (.int _ _)) rfl ?_
         refine WO_ixs rfl rfl (by omega) ?_
         refine WO_ldI (x := posF a p r (n1 - 1 - i)) rfl rfl (.head _) ((congrArg G (by omega)).trans (hGG i (by omega))) ?_
         refine WO_mv (v := .sl _ _ _ _ _) rfl ?_
         refine WO_mv (v := .sl _ _ _ _ _) rfl ?_
         refine WO_len rfl ?_
         refine WO_sub rfl rfl (by omega) ?_
         refine WO_mv (v := .s (.int _ _)) rfl ?_
         refine WO_sub rfl rfl (by omega) ?_
         refine WO_ixs rfl rfl (by omega) ?_
         refine WO_ldI (x := posF a p r (n1 - 1 - i)) rfl rfl (.tail _ (.head _)) ((congrArg F1 (show 0 + ((n1 : Int) - 2 - (i : Int)).toNat * 1 = n1 - 2 - i by omega)).trans ((hF1 (n1 - 2 - i) (by omega)).trans (by rw [show n1 - 1 - i = n1 - 2 - i + 1 by omega]; rfl))) ?_
         refine WO_bin rfl rfl (neq_same rfl) ?_
         refine WO_nil ?_
         refine WP_cond rfl (fun h => nomatch h) (fun _ => ?_)
         refine WP_skip ?_
         refine WP_ops ?_
         refine WO_mv (v := .s (.int _ _)) rfl ?_
         refine WO_add rfl rfl (by omega) ?_
         refine WO_mv (v := .s (.int _ _)) rfl ?_
         refine WO_nil ?_
         refine ⟨n1 - (i + 1), _, by omega, (.cons_cons _ (.cons_cons _ .slnil)), i + 1, _, by omega, rfl, rfl, rfl, rfl, rfl⟩
        ·try simp only [NM] at h51
         refine WP_exit ?_
         refine xhere ?_
         refine WP_seq ?_
         refine WP_ops ?_
         refine WO_mv rfl ?_
         refine WO_nil ?_
         refine WP_ret ?_
         refine ⟨_, RS_tmp (v := .s (.bool _)) rfl (RS_nil), ?_⟩
         first | rfl | (exfalso; omega)
end Go.Proofs.Ytjldefmcnppdoaa
