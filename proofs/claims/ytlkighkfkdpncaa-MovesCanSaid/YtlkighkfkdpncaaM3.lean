/- Texts of this seat, joined. -/
import Derived.Test.YtlkighkfkdpncaaAm0
import Derived.Test.YtlkighkfkdpncaaAm1
import Derived.Test.YtlkighkfkdpncaaAm2
import Derived.Test.YtlkighkfkdpncaaM0
import Derived.Test.YtlkighkfkdpncaaM1
import Derived.Test.YtlkighkfkdpncaaM2
set_option linter.unusedSimpArgs false
set_option linter.unusedVariables false
namespace Go.Proofs.Ytlkighkfkdpncaa
open Go Go.Am
def beginL : List Int := [1, 16, 0, 1, 18, 0, 6, 21, 0, 6, 23, 0, 8, 16, 0, 8, 24, 0, 9, 17, 0, 9, 25, 0, 10, 18, 0, 10, 26, 0, 11, 19, 0, 11, 27, 0, 12, 20, 0, 12, 28, 0, 13, 21, 0, 13, 29, 0, 14, 22, 0, 14, 30, 0, 15, 23, 0, 15, 31, 0]
theorem begin_all : beqL (flat3 (allR startF 64)) beginL = true := by decide +kernel
theorem begin_rt : RtR AM 5 3 [.agg 133 (ia startF)] [] beginL [] := by
 have h := all_rt startF
 rw [allS_is, beqL_is begin_all] at h
 exact h
theorem eqI_t1 {n : Nat} {P Q : Nat → Int} (h : ∀ i, i < n → P i = Q i) : (bif false then !(eqI n P Q) else eqI n P Q) = true := by
 rw [eqI_iff.2 h]; rfl
theorem eqI_f1 {n : Nat} {P Q : Nat → Int} (h : ∀ i, i < n → P i = Q i) : (bif true then !(eqI n P Q) else eqI n P Q) = false := by
 rw [eqI_iff.2 h]; rfl
theorem three {A B : Nat → Int} (h0 : A 0 = B 0) (h1 : A 1 = B 1) (h2 : A 2 = B 2) : ∀ i, i < 3 → A i = B i
 | 0, _ => h0
 | 1, _ => h1
 | 2, _ => h2
 | i + 3, h => by omega
theorem neq_of1 {a b : Int} (h : a = b) : binS .neq (.int .i64 a) (.int .i64 b) = some (.bool false) := by
 subst h
 show (if IntKind.i64 = IntKind.i64 then some (S.bool (a != a)) else none) = _
 simp
theorem side_go {P : Nat → Int} {a t b : Int} (he : errM P a t b = 0) : moveM P a t b 128 = otherM (P 128) := by
 unfold moveM
 rw [if_pos he]; rfl
def hasN (l : List Int) (t : Int) (k : Nat) : Bool := (l.take k).any fun x => decide (x = t)
theorem hasN_next {l : List Int} {t : Int} {k : Nat} (hk : k < l.length) : hasN l t (k + 1) = (hasN l t k || decide (l.getD k 0 = t)) := by
 unfold hasN
 rw [take_next 0 hk, List.any_append]; simp
theorem hasN_all {l : List Int} {t : Int} (h : t ∈ l) : hasN l t l.length = true := by
 unfold hasN
 rw [List.take_length, List.any_eq_true]
 exact ⟨t, h, decide_eq_true rfl⟩
theorem awake_run  : WR AM 4 [] [] (fun v _ _ => v = .s (.bool true)) := by
 refine WR_fn (a := a4) rfl rfl (entryF _) (entry_E (Nat.le_of_ble_eq_true rfl)) (m := 0) rfl ?_
 refine WP_seq ?_
 refine WP_ops ?_
 refine WO_mv rfl ?_
 refine WO_nil ?_
 refine WP_seq ?_
 refine WP_ops ?_
 refine WO_call0 rfl (RF_of rStart_run) rfl rfl rfl ?_
 refine WO_callRt0 rfl (begin_rt) rfl rfl (fun v1 own1 n1 hr1 => ?_)
 refine WO_mv (v := v1) rfl ?_
 refine WO_nil ?_
 refine WP_seq ?_
 refine WP_ops ?_
 refine WO_mv (v := v1) rfl ?_
 refine WO_lenX rfl hr1.rx (by decide) (show beginL.length = 20 * 3 from rfl) ?_
 refine WO_bin rfl rfl (eql_yes1 rfl) ?_
 refine WO_mv (v := .s (.bool _)) rfl ?_
 refine WO_gt rfl ?_
 refine WO_mv (v := v1) rfl ?_
 refine WO_gt rfl ?_
 obtain ⟨b1, q1, md1, c1, F1, rfl, rfl, hF1⟩ := hr1.rx.at (by decide) (show beginL.length = 20 * 3 from rfl) (by omega)
 refine WO_ixs rfl rfl (by omega) ?_
 refine WO_gt rfl ?_
 first | refine WO_ldA0 rfl rfl (.head _) ?_ | refine WO_ldAI rfl rfl (.head _) ?_
 refine WO_gt rfl ?_
 refine WO_buildI rfl (.one rfl (.one rfl .nil)) ?_
 refine WO_gt rfl ?_
 refine WO_eqaC rfl rfl (eqI_t1 (three (hF1 0 (by decide)) (hF1 1 (by decide)) (hF1 2 (by decide)))) ?_
 refine WO_pick (v := .s (.bool _)) rfl rfl ?_
 refine WO_mv (v := .s (.bool _)) rfl ?_
 refine WO_gt rfl ?_
 refine WO_mv (v := .sl _ _ _ _ _) rfl ?_
 refine WO_gt rfl ?_
 refine WO_ixs rfl rfl (by omega) ?_
 refine WO_gt rfl ?_
 first | refine WO_ldA0 rfl rfl (.head _) ?_ | refine WO_ldAI rfl rfl (.head _) ?_
 refine WO_gt rfl ?_
 refine WO_buildI rfl (.one rfl (.one rfl .nil)) ?_
 refine WO_gt rfl ?_
 refine WO_eqaC rfl rfl (eqI_t1 (three (hF1 57 (by decide)) (hF1 58 (by decide)) (hF1 59 (by decide)))) ?_
 refine WO_pick (v := .s (.bool _)) rfl rfl ?_
 refine WO_mv (v := .s (.bool _)) rfl ?_
 refine WO_nil ?_
 refine WP_ret ?_
 refine ⟨_, RS_tmp (v := .s (.bool _)) rfl (RS_nil), ?_⟩
 rfl
theorem MovesCan_run (P : Nat → Int) : WR AM 3 [.agg 133 (ia P)] [] (fun v _ _ => v = .s (.bool true)) := by
 refine WR_fn (a := a3) rfl rfl (entryF _) (entry_E (Nat.le_of_ble_eq_true rfl)) (m := 0) rfl ?_
 refine WP_seq ?_
 refine WP_ops ?_
 refine WO_boxA rfl ?_
 refine WO_mv rfl ?_
 refine WO_nil ?_
 refine WP_seq ?_
 refine WP_seq ?_
 refine WP_ops ?_
 refine WO_call0 rfl (RF_of awake_run) rfl rfl rfl ?_
 refine WO_un (r := .bool _) rfl rfl ?_
 refine WO_nil ?_
 refine WP_cond rfl (fun h => nomatch h) (fun _ => ?_)
 refine WP_skip ?_
 refine WP_seq ?_
 refine WP_ops ?_
 first | refine WO_ldA0 rfl rfl (.head _) ?_ | refine WO_ldAI rfl rfl (.head _) ?_
 obtain ⟨l, hleq⟩ : ∃ l, l = allR P 64 := ⟨_, rfl⟩
 have hall := all_rt P
 rw [allS_is, ← hleq] at hall
 have hlen := allS_len P
 rw [allS_is, ← hleq] at hlen
 refine WO_callRt0 rfl (hall) rfl rfl (fun v1 own1 n1 hr1 => ?_)
 refine WO_mv (v := v1) rfl ?_
 refine WO_nil ?_
 refine WP_seq ?_
 refine WP_ops ?_
 refine WO_mv rfl ?_
 refine WO_nil ?_
 refine WP_seq ?_
 refine WP_seq ?_
 refine WP_ops ?_
 refine WO_mv rfl ?_
 refine WO_nil ?_
 refine WP_block ?_
 refine WP_sub (List.Sublist.append (.refl _) (.cons_cons _ .slnil)) ?_
 refine WP_loop (fun m f _ L => ∃ (i : Nat), (i ≤ 64) ∧ (m = 64 - i) ∧ (f 1 = .ptr 0 0 133) ∧ (f 2 = .s (.bool false)) ∧ (f 3 = v1) ∧ (f 4 = .s (.int .i64 ((cntR P i : Nat) : Int))) ∧ (f 5 = .s (.int .i64 i)) ∧ (L = (own1 ++ [(0, .sc .var 133 (ia P))]))) (fun m f nb L hI => ?_) (64) (⟨0, by omega, by omega, rfl, rfl, rfl, rfl, rfl, rfl⟩)
 obtain ⟨i, hi, hm, k1, k2, k3, k4, k5, rfl⟩ := hI
 refine WP_know (d := 1) (v := .ptr 0 0 133) k1 ?_
 refine WP_know (d := 2) (v := .s (.bool false)) k2 ?_
 refine WP_know (d := 3) (v := v1) k3 ?_
 refine WP_know (d := 4) (v := .s (.int .i64 ((cntR P i : Nat) : Int))) k4 ?_
 refine WP_know (d := 5) (v := .s (.int .i64 i)) k5 ?_
 refine WP_seq ?_
 refine WP_seq ?_
 refine WP_ops ?_
 refine WO_mv (v := .s (.int _ _)) rfl ?_
 refine WO_bin (r := .bool _) rfl rfl rfl ?_
 refine WO_nil ?_
 refine WP_cond rfl (fun h1 => ?_) (fun h1 => ?_)
 ·try simp only [NM] at h1
  refine WP_skip ?_
  refine WP_seq ?_
  refine WP_block ?_
  refine WP_seq ?_
  refine WP_ops ?_
  first | refine WO_ldA0 rfl rfl (List.mem_append_right _ (.head _)) ?_ | refine WO_ldAI rfl rfl (List.mem_append_right _ (.head _)) ?_
  refine WO_mv (v := .s (.int _ _)) rfl ?_
  obtain ⟨r, hreq⟩ : ∃ r, r = fromR P i 64 := ⟨_, rfl⟩
  have hfr := from_sv P i
  rw [fromSv_is, if_pos (show 0 ≤ (i : Int) ∧ (i : Int) < 64 by omega), ← hreq] at hfr
  have hcle := cntR_le P (s := i) (by omega)
  rw [← hreq, ← hleq] at hcle
  have hcnx := cntR_next P i
  rw [← hreq] at hcnx
  refine WO_callRt0 rfl (hfr) rfl rfl (fun v2 own2 n2 hr2 => ?_)
  refine WO_mv (v := v2) rfl ?_
  refine WO_nil ?_
  refine WP_seq ?_
  refine WP_ops ?_
  refine WO_mv rfl ?_
  refine WO_nil ?_
  refine WP_block ?_
  refine WP_sub (List.Sublist.append (.refl _) (List.Sublist.append (.refl _) (.cons_cons _ .slnil))) ?_
  refine WP_loop (fun m f _ L => ∃ (k : Nat), (k ≤ r.length) ∧ (m = r.length - k) ∧ (f 1 = .ptr 0 0 133) ∧ (f 2 = .s (.bool false)) ∧ (f 3 = v1) ∧ (f 4 = .s (.int .i64 ((cntR P i + k : Nat) : Int))) ∧ (f 5 = .s (.int .i64 i)) ∧ (f 6 = v2) ∧ (f 7 = .s (.int .i64 k)) ∧ (L = (own2 ++ (own1 ++ [(0, .sc .var 133 (ia P))])))) (fun m f nb L hI => ?_) (r.length) (⟨0, by omega, by omega, rfl, rfl, rfl, rfl, rfl, rfl, rfl, rfl⟩)
  obtain ⟨k, hk, hm2, k1, k2, k3, k4, k5, k6, k7, rfl⟩ := hI
  refine WP_know (d := 1) (v := .ptr 0 0 133) k1 ?_
  refine WP_know (d := 2) (v := .s (.bool false)) k2 ?_
  refine WP_know (d := 3) (v := v1) k3 ?_
  refine WP_know (d := 4) (v := .s (.int .i64 ((cntR P i + k : Nat) : Int))) k4 ?_
  refine WP_know (d := 5) (v := .s (.int .i64 i)) k5 ?_
  refine WP_know (d := 6) (v := v2) k6 ?_
  refine WP_know (d := 7) (v := .s (.int .i64 k)) k7 ?_
  refine WP_seq ?_
  refine WP_seq ?_
  refine WP_ops ?_
  refine WO_mv (v := .s (.int _ _)) rfl ?_
  refine WO_mv (v := v2) rfl ?_
  refine WO_lenX rfl hr2.rx (by decide) (flat3_len _) ?_
  refine WO_bin (r := .bool _) rfl rfl rfl ?_
  refine WO_nil ?_
  refine WP_cond rfl (fun h2 => ?_) (fun h2 => ?_)
  ·try simp only [NM] at h2
   refine WP_skip ?_
   refine WP_seq ?_
   refine WP_block ?_
   refine WP_seq ?_
   refine WP_seq ?_
   refine WP_par ?_
   refine WO_mv (v := .s (.int _ _)) rfl ?_
   refine WO_mv (v := v1) rfl ?_
   refine WO_lenX rfl hr1.rx (by decide) (flat3_len _) ?_
   refine WO_bin (r := .bool _) rfl rfl rfl ?_
   refine WO_mv (v := .s (.bool _)) rfl ?_
   refine WO_case (t := 38) rfl (fun h3 => ?_) (fun h3 => ?_)
   ·try simp only [NM] at h3
    exfalso; first | omega | (obtain rfl : k = r.length := (by omega); rw [hasN_all (by rw [hreq]; exact (hit (by assumption)).2)] at h3; cases h3)
   ·try simp only [NM] at h3
    refine WO_gt rfl ?_
    refine WO_mv (v := v1) rfl ?_
    refine WO_gt rfl ?_
    refine WO_mv (v := .s (.int _ _)) rfl ?_
    refine WO_gt rfl ?_
    obtain ⟨b1, q1, md1, c1, F1, rfl, rfl, hF1⟩ := hr1.rx.at (by decide) (flat3_len _) (by omega)
    refine WO_ixs rfl rfl (by omega) ?_
    refine WO_gt rfl ?_
    first | refine WO_ldA0 rfl rfl (List.mem_append_right _ (.head _)) ?_ | refine WO_ldAI rfl rfl (List.mem_append_right _ (.head _)) ?_
    refine WO_gt rfl ?_
    refine WO_mv (v := v2) rfl ?_
    refine WO_gt rfl ?_
    refine WO_mv (v := .s (.int _ _)) rfl ?_
    refine WO_gt rfl ?_
    obtain ⟨b2, q2, md2, c2, F2, rfl, rfl, hF2⟩ := hr2.rx.at (by decide) (flat3_len _) (by omega)
    refine WO_ixs rfl rfl (by omega) ?_
    refine WO_gt rfl ?_
    first | refine WO_ldA0 rfl rfl (.head _) ?_ | refine WO_ldAI rfl rfl (.head _) ?_
    refine WO_gt rfl ?_
    obtain ⟨a0, a1, a2⟩ := mvX_at hF1 (i := cntR P i + k) (by omega)
    obtain ⟨b0, b1, b2⟩ := mvX_at hF2 (i := k) (by omega)
    have hat := allR_at P (s := i) (i := k) (by omega) (by rw [← hreq]; omega)
    rw [← hleq, ← hreq] at hat
    rw [hat] at a0 a1 a2
    have hfst : (r.getD k (0, 0, 0)).1 = i := by rw [hreq]; exact fromR_at (by rw [← hreq]; omega)
    have hb0 : F2 (0 + (k : Int).toNat * 3) = (i : Int) := b0.trans hfst
    refine WO_eqaC rfl rfl (eqI_f1 (three (a0.trans b0.symm) (a1.trans b1.symm) (a2.trans b2.symm))) ?_
    refine WO_pick (v := .s (.bool _)) rfl rfl ?_
    refine WO_mv (v := .s (.bool _)) rfl ?_
    refine WO_gt rfl ?_
    refine WO_mv (v := .sl _ _ _ _ _) rfl ?_
    refine WO_gt rfl ?_
    refine WO_mv (v := .s (.int _ _)) rfl ?_
    refine WO_gt rfl ?_
    refine WO_ixs rfl rfl (by omega) ?_
    refine WO_gt rfl ?_
    refine WO_fa rfl rfl rfl ?_
    refine WO_gt rfl ?_
    refine WO_ldI (x := (i : Int)) rfl rfl (.head _) (hb0) ?_
    refine WO_gt rfl ?_
    refine WO_mv (v := .s (.int _ _)) rfl ?_
    refine WO_gt rfl ?_
    refine WO_bin rfl rfl (neq_of1 rfl) ?_
    refine WO_pick (v := .s (.bool _)) rfl rfl ?_
    refine WO_nil ?_
    refine WP_cond rfl (fun h => nomatch h) (fun _ => ?_)
    refine WP_skip ?_
    refine WP_ops ?_
    refine WO_mv (v := .s (.int _ _)) rfl ?_
    refine WO_add rfl rfl (by omega) ?_
    refine WO_mv (v := .s (.int _ _)) rfl ?_
    refine WO_nil ?_
    refine WP_ops ?_
    refine WO_mv (v := .s (.int _ _)) rfl ?_
    refine WO_add rfl rfl (by omega) ?_
    refine WO_mv (v := .s (.int _ _)) rfl ?_
    refine WO_nil ?_
    refine ⟨r.length - (k + 1), _, by omega, (.cons_cons _ (.cons_cons _ (.cons_cons _ .slnil))), k + 1, by omega, rfl, rfl, rfl, rfl, rfl, rfl, rfl, rfl, rfl⟩
  ·try simp only [NM] at h2
   refine WP_exit ?_
   refine xhere ?_
   refine WP_ops ?_
   refine WO_mv (v := .s (.int _ _)) rfl ?_
   refine WO_add rfl rfl (by omega) ?_
   refine WO_mv (v := .s (.int _ _)) rfl ?_
   refine WO_nil ?_
   refine ⟨64 - (i + 1), _, by omega, (List.sublist_append_of_sublist_right (List.Sublist.append (.refl _) (.cons_cons _ .slnil))), i + 1, by omega, rfl, rfl, rfl, rfl, ?_, rfl, rfl⟩
   show V.s (S.int .i64 _) = V.s (S.int .i64 _)
   obtain rfl : k = r.length := by omega
   rw [hcnx]
 ·try simp only [NM] at h1
  refine WP_exit ?_
  refine xhere ?_
  refine WP_seq ?_
  refine WP_seq ?_
  refine WP_ops ?_
  refine WO_mv rfl ?_
  refine WO_nil ?_
  refine WP_block ?_
  have hcnt : V.s (S.int .i64 ((cntR P i : Nat) : Int)) = .s (.int .i64 (l.length : Int)) := by obtain rfl : i = 64 := (by omega); rw [hleq]; rfl
  refine WP_sub (List.Sublist.append (.refl _) (.cons_cons _ .slnil)) ?_
  refine WP_loop (fun m f _ L => ∃ (i : Nat), (i ≤ l.length) ∧ (m = l.length - i) ∧ (f 1 = .ptr 0 0 133) ∧ (f 2 = .s (.bool false)) ∧ (f 3 = v1) ∧ (f 4 = .s (.int .i64 (l.length : Int))) ∧ (f 8 = .s (.int .i64 i)) ∧ (L = (own1 ++ [(0, .sc .var 133 (ia P))]))) (fun m f nb L hI => ?_) (l.length) (⟨0, by omega, by omega, rfl, rfl, rfl, hcnt, rfl, rfl⟩)
  obtain ⟨i, hi2, hm, k1, k2, k3, k4, k8, rfl⟩ := hI
  refine WP_know (d := 1) (v := .ptr 0 0 133) k1 ?_
  refine WP_know (d := 2) (v := .s (.bool false)) k2 ?_
  refine WP_know (d := 3) (v := v1) k3 ?_
  refine WP_know (d := 4) (v := .s (.int .i64 (l.length : Int))) k4 ?_
  refine WP_know (d := 8) (v := .s (.int .i64 i)) k8 ?_
  refine WP_seq ?_
  refine WP_seq ?_
  refine WP_ops ?_
  refine WO_mv (v := .s (.int _ _)) rfl ?_
  refine WO_mv (v := v1) rfl ?_
  refine WO_lenX rfl hr1.rx (by decide) (flat3_len _) ?_
  refine WO_bin (r := .bool _) rfl rfl rfl ?_
  refine WO_nil ?_
  refine WP_cond rfl (fun h4 => ?_) (fun h4 => ?_)
  ·try simp only [NM] at h4
   refine WP_skip ?_
   refine WP_seq ?_
   refine WP_block ?_
   refine WP_seq ?_
   refine WP_ops ?_
   refine WO_mv (v := v1) rfl ?_
   refine WO_mv (v := .s (.int _ _)) rfl ?_
   obtain ⟨b1, q1, md1, c1, F1, rfl, rfl, hF1⟩ := hr1.rx.at (by decide) (flat3_len _) (by omega)
   refine WO_ixs rfl rfl (by omega) ?_
   obtain ⟨x0, x1, x2⟩ := mvX_at hF1 (i := i) (by omega)
   have hin : (l.getD i (0, 0, 0)) ∈ allR P 64 := by rw [← hleq]; exact mv_in (by omega)
   obtain ⟨hba, hbt, hgo, _⟩ := allR_mem hin
   have he := mv_can hin
   have hmove := RF_of (Move_walk P (mvX F1 (0 + (i : Int).toNat * 3)))
   rw [show (mvX F1 (0 + (i : Int).toNat * 3)) 0 = (l.getD i (0, 0, 0)).1 from x0, show (mvX F1 (0 + (i : Int).toNat * 3)) 1 = (l.getD i (0, 0, 0)).2.1 from x1, show (mvX F1 (0 + (i : Int).toNat * 3)) 2 = (l.getD i (0, 0, 0)).2.2 from x2, he] at hmove
   obtain ⟨hmk, hmc, hms, hne⟩ := mover_of hgo
   have hit := mv_hit hin
   first | refine WO_ldA0 rfl rfl (.head _) ?_ | refine WO_ldAI rfl rfl (.head _) ?_
   refine WO_allocI ?_
   refine WO_stA rfl rfl rfl rfl .here ?_
   refine WO_nil ?_
   refine WP_seq ?_
   refine WP_seq ?_
   refine WP_par ?_
   refine WO_mv (v := .s (.int _ _)) rfl ?_
   refine WO_bin (r := .bool _) rfl rfl rfl ?_
   refine WO_mv (v := .s (.bool _)) rfl ?_
   refine WO_case (t := 72) rfl (fun h5 => ?_) (fun h5 => ?_)
   ·try simp only [NM] at h5
    refine WO_gt rfl ?_
    refine WO_mv (v := .sl _ _ _ _ _) rfl ?_
    refine WO_gt rfl ?_
    refine WO_mv (v := .s (.int _ _)) rfl ?_
    refine WO_gt rfl ?_
    refine WO_sub rfl rfl (by omega) ?_
    refine WO_gt rfl ?_
    have hpi : (i : Int) - 1 = ((i - 1 : Nat) : Int) := by omega
    obtain ⟨p0, p1, p2⟩ := mvX_at hF1 (i := i - 1) (by omega)
    rw [← hpi] at p0 p1 p2
    have hlt := lt3_at (l := l) (hleq ▸ allR_lt P 64) (i := i) (by omega) (by omega)
    have hnl := lt3_asy _ _ hlt
    have hless79 := RF_of (less_walk (dp F1 (0 + ((i : Int) - 1).toNat * 3)) (mvX F1 (0 + (i : Int).toNat * 3)))
    rw [show ((dp F1 (0 + ((i : Int) - 1).toNat * 3)) 0, (dp F1 (0 + ((i : Int) - 1).toNat * 3)) 1, (dp F1 (0 + ((i : Int) - 1).toNat * 3)) 2) = (l.getD (i - 1) (0, 0, 0)) from Prod.ext p0 (Prod.ext p1 p2), show ((mvX F1 (0 + (i : Int).toNat * 3)) 0, (mvX F1 (0 + (i : Int).toNat * 3)) 1, (mvX F1 (0 + (i : Int).toNat * 3)) 2) = (l.getD i (0, 0, 0)) from Prod.ext x0 (Prod.ext x1 x2), decide_eq_true hlt] at hless79
    have hless88 := RF_of (less_walk (mvX F1 (0 + (i : Int).toNat * 3)) (dp F1 (0 + ((i : Int) - 1).toNat * 3)))
    rw [show ((dp F1 (0 + ((i : Int) - 1).toNat * 3)) 0, (dp F1 (0 + ((i : Int) - 1).toNat * 3)) 1, (dp F1 (0 + ((i : Int) - 1).toNat * 3)) 2) = (l.getD (i - 1) (0, 0, 0)) from Prod.ext p0 (Prod.ext p1 p2), show ((mvX F1 (0 + (i : Int).toNat * 3)) 0, (mvX F1 (0 + (i : Int).toNat * 3)) 1, (mvX F1 (0 + (i : Int).toNat * 3)) 2) = (l.getD i (0, 0, 0)) from Prod.ext x0 (Prod.ext x1 x2), decide_eq_false hnl] at hless88
    refine WO_ixs rfl rfl (by omega) ?_
    refine WO_gt rfl ?_
    first | refine WO_ldA0 rfl rfl (.tail _ (.head _)) ?_ | refine WO_ldAI rfl rfl (.tail _ (.head _)) ?_
    refine WO_gt rfl ?_
    first | refine WO_ldA0 rfl rfl (.head _) ?_ | refine WO_ldAI rfl rfl (.head _) ?_
    refine WO_gt rfl ?_
    refine WO_call0 rfl (hless79) rfl rfl rfl ?_
    refine WO_gt rfl ?_
    refine WO_un (r := .bool _) rfl rfl ?_
    refine WO_gt rfl ?_
    refine WO_mv (v := .s (.bool _)) rfl ?_
    refine WO_gt rfl ?_
    first | refine WO_ldA0 rfl rfl (.head _) ?_ | refine WO_ldAI rfl rfl (.head _) ?_
    refine WO_gt rfl ?_
    refine WO_mv (v := .sl _ _ _ _ _) rfl ?_
    refine WO_gt rfl ?_
    refine WO_mv (v := .s (.int _ _)) rfl ?_
    refine WO_gt rfl ?_
    refine WO_sub rfl rfl (by omega) ?_
    refine WO_gt rfl ?_
    refine WO_ixs rfl rfl (by omega) ?_
    refine WO_gt rfl ?_
    first | refine WO_ldA0 rfl rfl (.tail _ (.head _)) ?_ | refine WO_ldAI rfl rfl (.tail _ (.head _)) ?_
    refine WO_gt rfl ?_
    refine WO_call0 rfl (hless88) rfl rfl rfl ?_
    refine WO_gt rfl ?_
    refine WO_pick (v := .s (.bool _)) rfl rfl ?_
    refine WO_pick (v := .s (.bool _)) rfl rfl ?_
    refine WO_mv (v := .s (.bool _)) rfl ?_
    refine WO_gt rfl ?_
    refine WO_fa (o' := 1) rfl rfl rfl ?_
    refine WO_gt rfl ?_
    refine WO_ldI (x := (l.getD i (0, 0, 0)).2.1) rfl rfl (.head _) (x1) ?_
    refine WO_gt rfl ?_
    refine WO_bin (r := .bool _) rfl rfl rfl ?_
    refine WO_pick (v := .s (.bool _)) rfl rfl ?_
    refine WO_mv (v := .s (.bool _)) rfl ?_
    refine WO_case (t := 96) rfl (fun h6 => ?_) (fun h6 => ?_)
    ·try simp only [NM] at h6
     exfalso; first | omega | (obtain rfl : k = r.length := (by omega); rw [hasN_all (by rw [hreq]; exact (hit (by assumption)).2)] at h6; cases h6)
    ·try simp only [NM] at h6
     refine WO_gt rfl ?_
     refine WO_fa (o' := 1) rfl rfl rfl ?_
     refine WO_gt rfl ?_
     refine WO_ldI (x := (l.getD i (0, 0, 0)).2.1) rfl rfl (.head _) (x1) ?_
     refine WO_gt rfl ?_
     refine WO_bin (r := .bool _) rfl rfl rfl ?_
     refine WO_pick (v := .s (.bool _)) rfl rfl ?_
     refine WO_nil ?_
     refine WP_cond rfl (fun h7 => ?_) (fun h7 => ?_)
     ·try simp only [NM] at h7
      exfalso; first | omega | (obtain rfl : k = r.length := (by omega); rw [hasN_all (by rw [hreq]; exact (hit (by assumption)).2)] at h7; cases h7)
     ·try simp only [NM] at h7
      refine WP_skip ?_
      refine WP_seq ?_
      refine WP_par ?_
      refine WO_fa (o' := 0) rfl rfl rfl ?_
      refine WO_ldI (x := (l.getD i (0, 0, 0)).1) rfl rfl (.head _) (x0) ?_
      refine WO_fa (o' := 0) rfl rfl rfl ?_
      refine WO_ixa rfl rfl rfl (by omega) ?_
      first | refine WO_ldA0 rfl rfl (.tail _ (.tail _ (.head _))) ?_ | refine WO_ldAI rfl rfl (.tail _ (.tail _ (.head _))) ?_
      refine WO_fa (o' := 1) rfl rfl rfl ?_
      refine WO_ldI (x := (l.getD i (0, 0, 0)).2.1) rfl rfl (.head _) (x1) ?_
      refine WO_fa (o' := 0) rfl rfl rfl ?_
      refine WO_ixa rfl rfl rfl (by omega) ?_
      first | refine WO_ldA0 rfl rfl (.tail _ (.tail _ (.head _))) ?_ | refine WO_ldAI rfl rfl (.tail _ (.tail _ (.head _))) ?_
      refine WO_allocd ?_
      refine WO_allocd ?_
      refine WO_init0 (v := .agg _ _) rfl rfl rfl (.tail _ (.head _)) ?_
      refine WO_init0 (v := .agg _ _) rfl rfl rfl (.head _) ?_
      refine WO_revive (v := .agg _ _) rfl rfl rfl (.there .here) ?_
      refine WO_revive (v := .agg _ _) rfl rfl rfl .here ?_
      refine WO_nil ?_
      refine WP_seq ?_
      refine WP_ops ?_
      first | refine WO_ldA0 rfl rfl (.tail _ (.tail _ (.tail _ (.tail _ (.head _))))) ?_ | refine WO_ldAI rfl rfl (.tail _ (.tail _ (.tail _ (.tail _ (.head _))))) ?_
      first | refine WO_ldA0 rfl rfl (.tail _ (.tail _ (.head _))) ?_ | refine WO_ldAI rfl rfl (.tail _ (.tail _ (.head _))) ?_
      refine WO_call0 rfl (hmove) rfl rfl rfl ?_
      refine WO_mv (v := .tup _) rfl ?_
      refine WO_ext (v := .agg _ _) rfl rfl ?_
      refine WO_ext (v := .s (.int _ _)) rfl rfl ?_
      refine WO_allocI ?_
      refine WO_stA rfl rfl rfl rfl .here ?_
      refine WO_mv (v := .s (.int _ _)) rfl ?_
      refine WO_nil ?_
      refine WP_seq ?_
      refine WP_seq ?_
      refine WP_par ?_
      refine WO_mv (v := .s (.int _ _)) rfl ?_
      refine WO_bin rfl rfl (neq_of1 rfl) ?_
      refine WO_mv (v := .s (.bool _)) rfl ?_
      refine WO_gt rfl ?_
      refine WO_fa (o' := 128) rfl rfl rfl ?_
      refine WO_gt rfl ?_
      refine WO_ldI (x := otherM (P 128)) rfl rfl (.head _) (side_go he) ?_
      refine WO_gt rfl ?_
      refine WO_fa (o' := 128) rfl rfl rfl ?_
      refine WO_gt rfl ?_
      refine WO_ldI (x := P 128) rfl rfl (.tail _ (.tail _ (.tail _ (.tail _ (.tail _ (.head _)))))) (rfl) ?_
      refine WO_gt rfl ?_
      refine WO_callq0 rfl (RF_of (Other_run _)) rfl rfl rfl ?_
      refine WO_gt rfl ?_
      refine WO_bin rfl rfl (neq_of1 rfl) ?_
      refine WO_pick (v := .s (.bool _)) rfl rfl ?_
      refine WO_mv (v := .s (.bool _)) rfl ?_
      refine WO_gt rfl ?_
      refine WO_fa (o' := 1) rfl rfl rfl ?_
      refine WO_gt rfl ?_
      refine WO_ldI (x := P 128) rfl rfl (.tail _ (.tail _ (.head _))) (by rw [← hms]; try rfl) ?_
      refine WO_gt rfl ?_
      refine WO_fa (o' := 128) rfl rfl rfl ?_
      refine WO_gt rfl ?_
      refine WO_ldI (x := P 128) rfl rfl (.tail _ (.tail _ (.tail _ (.tail _ (.tail _ (.head _)))))) (rfl) ?_
      refine WO_gt rfl ?_
      refine WO_bin rfl rfl (neq_of1 rfl) ?_
      refine WO_pick (v := .s (.bool _)) rfl rfl ?_
      refine WO_mv (v := .s (.bool _)) rfl ?_
      refine WO_gt rfl ?_
      first | refine WO_ldA0 rfl rfl (.tail _ (.head _)) ?_ | refine WO_ldAI rfl rfl (.tail _ (.head _)) ?_
      refine WO_gt rfl ?_
      refine WO_buildI rfl .nil ?_
      refine WO_gt rfl ?_
      refine WO_eqa rfl rfl ?_
      refine WO_gt rfl ?_
      refine WO_mv (v := .s (.bool _)) rfl ?_
      refine WO_case (t := 138) rfl (fun h8 => ?_) (fun h8 => ?_)
      ·try simp only [NM] at h8
       refine WO_gt rfl ?_
       refine WO_fa (o' := 1) rfl rfl rfl ?_
       refine WO_gt rfl ?_
       refine WO_ldI (x := P (sqI (l.getD i (0, 0, 0)).2.1 + 1)) rfl rfl (.tail _ (.head _)) (rfl) ?_
       refine WO_gt rfl ?_
       refine WO_fa (o' := 1) rfl rfl rfl ?_
       refine WO_gt rfl ?_
       refine WO_ldI (x := P 128) rfl rfl (.tail _ (.tail _ (.head _))) (by rw [← hms]; try rfl) ?_
       refine WO_gt rfl ?_
       refine WO_bin rfl rfl (eql_no1 (hit (by assumption)).1) ?_
       refine WO_gt rfl ?_
       refine WO_pick (v := .s (.bool _)) rfl rfl ?_
       refine WO_pick (v := .s (.bool _)) rfl rfl ?_
       refine WO_nil ?_
       refine WP_cond rfl (fun h => nomatch h) (fun _ => ?_)
       refine WP_skip ?_
       refine WP_seq ?_
       refine WP_ops ?_
       refine WO_mv rfl ?_
       refine WO_nil ?_
       refine WP_seq ?_
       refine WP_ops ?_
       first | refine WO_ldA0 rfl rfl (.tail _ (.tail _ (.tail _ (.tail _ (.tail _ (.head _)))))) ?_ | refine WO_ldAI rfl rfl (.tail _ (.tail _ (.tail _ (.tail _ (.tail _ (.head _)))))) ?_
       refine WO_fa (o' := 0) rfl rfl rfl ?_
       refine WO_ldI (x := (l.getD i (0, 0, 0)).1) rfl rfl (.tail _ (.tail _ (.tail _ (.head _)))) (x0) ?_
       obtain ⟨r, hreq⟩ : ∃ r, r = fromS P (l.getD i (0, 0, 0)).1 := ⟨_, rfl⟩
       have hfr := From_rt P (l.getD i (0, 0, 0)).1
       rw [← hreq] at hfr
       refine WO_callRt0 rfl (hfr) rfl rfl (fun v3 own3 n3 hr3 => ?_)
       refine WO_mv (v := v3) rfl ?_
       refine WO_nil ?_
       refine WP_seq ?_
       refine WP_seq ?_
       refine WP_ops ?_
       refine WO_mv rfl ?_
       refine WO_nil ?_
       refine WP_block ?_
       obtain ⟨n9, rfl⟩ : ∃ n9, n9 = nb := ⟨nb, rfl⟩
       have hrl := fromS_len P (l.getD i (0, 0, 0)).1
       rw [← hreq] at hrl
       refine WP_sub (List.Sublist.append (.refl _) (.cons _ (.cons_cons _ (.cons _ (.cons_cons _ (.cons_cons _ (.cons_cons _ .slnil))))))) ?_
       refine WP_loop (fun m f _ L => ∃ (k : Nat), (k ≤ r.length) ∧ (m = r.length - k) ∧ (f 1 = .ptr 0 0 133) ∧ (f 2 = .s (.bool false)) ∧ (f 3 = .sl b1 0 l.length 3 c1) ∧ (f 4 = .s (.int .i64 (l.length : Int))) ∧ (f 8 = .s (.int .i64 i)) ∧ (f 9 = .ptr n9 0 3) ∧ (f 11 = .ptr (n9 + 1 + 1) 0 2) ∧ (f 14 = .s (.bool (hasN r (l.getD i (0, 0, 0)).2.1 k))) ∧ (f 15 = v3) ∧ (f 16 = .s (.int .i64 k)) ∧ (L = (own3 ++ [(n9 + 1 + 1, .sc .var 2 (ia (dp P (0 + (l.getD i (0, 0, 0)).2.1.toNat * 2)))), (n9, .sc .var 3 (ia (mvX F1 (0 + (i : Int).toNat * 3)))), (b1, .sc md1 q1 (ia F1)), (0, .sc .var 133 (ia P))]))) (fun m f nb L hI => ?_) (r.length) (⟨0, by omega, by omega, rfl, rfl, rfl, rfl, rfl, rfl, rfl, rfl, rfl, rfl, rfl⟩)
       obtain ⟨k, hk, hm2, k1, k2, k3, k4, k8, k9, k11, k14, k15, k16, rfl⟩ := hI
       refine WP_know (d := 1) (v := .ptr 0 0 133) k1 ?_
       refine WP_know (d := 2) (v := .s (.bool false)) k2 ?_
       refine WP_know (d := 3) (v := .sl b1 0 l.length 3 c1) k3 ?_
       refine WP_know (d := 4) (v := .s (.int .i64 (l.length : Int))) k4 ?_
       refine WP_know (d := 8) (v := .s (.int .i64 i)) k8 ?_
       refine WP_know (d := 9) (v := .ptr n9 0 3) k9 ?_
       refine WP_know (d := 11) (v := .ptr (n9 + 1 + 1) 0 2) k11 ?_
       refine WP_know (d := 14) (v := .s (.bool (hasN r (l.getD i (0, 0, 0)).2.1 k))) k14 ?_
       refine WP_know (d := 15) (v := v3) k15 ?_
       refine WP_know (d := 16) (v := .s (.int .i64 k)) k16 ?_
       refine WP_seq ?_
       refine WP_seq ?_
       refine WP_ops ?_
       refine WO_mv (v := .s (.int _ _)) rfl ?_
       refine WO_mv (v := v3) rfl ?_
       refine WO_lenX rfl hr3.rx (by decide) len1 ?_
       refine WO_bin (r := .bool _) rfl rfl rfl ?_
       refine WO_nil ?_
       refine WP_cond rfl (fun h9 => ?_) (fun h9 => ?_)
       ·try simp only [NM] at h9
        refine WP_skip ?_
        refine WP_seq ?_
        refine WP_block ?_
        refine WP_par ?_
        refine WO_mv (v := .s (.bool _)) rfl ?_
        refine WO_mv (v := .s (.bool _)) rfl ?_
        refine WO_case (t := 157) rfl (fun h10 => ?_) (fun h10 => ?_)
        ·try simp only [NM] at h10
         refine WO_gf rfl rfl ?_
         refine WO_gf rfl rfl ?_
         refine WO_gf rfl rfl ?_
         refine WO_gf rfl rfl ?_
         refine WO_gf rfl rfl ?_
         refine WO_gf rfl rfl ?_
         refine WO_gf rfl rfl ?_
         refine WO_pick (v := .s (.bool _)) rfl rfl ?_
         refine WO_mv (v := .s (.bool _)) rfl ?_
         refine WO_nil ?_
         refine WP_ops ?_
         refine WO_mv (v := .s (.int _ _)) rfl ?_
         refine WO_add rfl rfl (by omega) ?_
         refine WO_mv (v := .s (.int _ _)) rfl ?_
         refine WO_nil ?_
         refine ⟨r.length - (k + 1), _, by omega, (List.Sublist.append (.refl _) (.cons_cons _ (.cons_cons _ (.cons_cons _ (.cons_cons _ .slnil))))), k + 1, by omega, rfl, rfl, rfl, rfl, rfl, rfl, rfl, rfl, ?_, rfl, rfl, rfl⟩
         refine congrArg (fun b => V.s (S.bool b)) ?_
         rw [hasN_next (by omega)]
         first | (rw [show (hasN r (l.getD i (0, 0, 0)).2.1 k) = true by assumption]; rfl) | (rw [show (hasN r (l.getD i (0, 0, 0)).2.1 k) = false by assumption]; rfl)
        ·try simp only [NM] at h10
         refine WO_gt rfl ?_
         refine WO_mv (v := v3) rfl ?_
         refine WO_gt rfl ?_
         refine WO_mv (v := .s (.int _ _)) rfl ?_
         refine WO_gt rfl ?_
         obtain ⟨b3, q3, md3, c3, F3, rfl, rfl, hF3⟩ := hr3.rx.at (by decide) len1 (by omega)
         refine WO_ixs rfl rfl (by omega) ?_
         refine WO_gt rfl ?_
         refine WO_ldI (x := r.getD k 0) rfl rfl (.head _) (ld1 hF3 (by omega)) ?_
         refine WO_gt rfl ?_
         refine WO_fa (o' := 1) rfl rfl rfl ?_
         refine WO_gt rfl ?_
         refine WO_ldI (x := (l.getD i (0, 0, 0)).2.1) rfl rfl (.tail _ (.tail _ (.head _))) (x1) ?_
         refine WO_gt rfl ?_
         refine WO_bin (r := .bool _) rfl rfl rfl ?_
         refine WO_pick (v := .s (.bool _)) rfl rfl ?_
         refine WO_mv (v := .s (.bool _)) rfl ?_
         refine WO_nil ?_
         refine WP_ops ?_
         refine WO_mv (v := .s (.int _ _)) rfl ?_
         refine WO_add rfl rfl (by omega) ?_
         refine WO_mv (v := .s (.int _ _)) rfl ?_
         refine WO_nil ?_
         refine ⟨r.length - (k + 1), _, by omega, (.cons_cons _ (.cons_cons _ (.cons_cons _ (.cons_cons _ (.cons_cons _ .slnil))))), k + 1, by omega, rfl, rfl, rfl, rfl, rfl, rfl, rfl, rfl, ?_, rfl, rfl, rfl⟩
         refine congrArg (fun b => V.s (S.bool b)) ?_
         rw [hasN_next (by omega)]
         first | (rw [show (hasN r (l.getD i (0, 0, 0)).2.1 k) = true by assumption]; rfl) | (rw [show (hasN r (l.getD i (0, 0, 0)).2.1 k) = false by assumption]; rfl)
       ·try simp only [NM] at h9
        refine WP_exit ?_
        refine xhere ?_
        refine WP_seq ?_
        refine WP_ops ?_
        first | refine WO_ldA0 rfl rfl (List.mem_append_right _ (.head _)) ?_ | refine WO_ldAI rfl rfl (List.mem_append_right _ (.head _)) ?_
        refine WO_buildI rfl .nil ?_
        refine WO_eqa rfl rfl ?_
        refine WO_mv (v := .s (.bool _)) rfl ?_
        refine WO_case (t := 169) rfl (fun h11 => ?_) (fun h11 => ?_)
        ·try simp only [NM] at h11
         refine WO_gt rfl ?_
         refine WO_mv (v := .s (.bool _)) rfl ?_
         refine WO_gt rfl ?_
         refine WO_un (r := .bool _) rfl rfl ?_
         refine WO_pick (v := .s (.bool _)) rfl rfl ?_
         refine WO_nil ?_
         refine WP_cond rfl (fun h12 => ?_) (fun h12 => ?_)
         ·try simp only [NM] at h12
          exfalso; first | omega | (obtain rfl : k = r.length := (by omega); rw [hasN_all (by rw [hreq]; exact (hit (by assumption)).2)] at h12; cases h12)
         ·try simp only [NM] at h12
          refine WP_skip ?_
          refine WP_ops ?_
          refine WO_mv (v := .s (.int _ _)) rfl ?_
          refine WO_add rfl rfl (by omega) ?_
          refine WO_mv (v := .s (.int _ _)) rfl ?_
          refine WO_nil ?_
          refine ⟨l.length - (i + 1), _, by omega, (List.sublist_append_of_sublist_right (.cons _ (.cons _ (.cons_cons _ (.cons_cons _ .slnil))))), i + 1, by omega, rfl, rfl, rfl, rfl, rfl, rfl, rfl⟩
        ·try simp only [NM] at h11
         refine WO_gf rfl rfl ?_
         refine WO_gf rfl rfl ?_
         refine WO_pick (v := .s (.bool _)) rfl rfl ?_
         refine WO_nil ?_
         refine WP_cond rfl (fun h => nomatch h) (fun _ => ?_)
         refine WP_skip ?_
         refine WP_ops ?_
         refine WO_mv (v := .s (.int _ _)) rfl ?_
         refine WO_add rfl rfl (by omega) ?_
         refine WO_mv (v := .s (.int _ _)) rfl ?_
         refine WO_nil ?_
         refine ⟨l.length - (i + 1), _, by omega, (List.sublist_append_of_sublist_right (.cons _ (.cons _ (.cons_cons _ (.cons_cons _ .slnil))))), i + 1, by omega, rfl, rfl, rfl, rfl, rfl, rfl, rfl⟩
      ·try simp only [NM] at h8
       refine WO_gf rfl rfl ?_
       refine WO_gf rfl rfl ?_
       refine WO_gf rfl rfl ?_
       refine WO_gf rfl rfl ?_
       refine WO_gf rfl rfl ?_
       refine WO_gt rfl ?_
       refine WO_pick (v := .s (.bool _)) rfl rfl ?_
       refine WO_pick (v := .s (.bool _)) rfl rfl ?_
       refine WO_nil ?_
       refine WP_cond rfl (fun h => nomatch h) (fun _ => ?_)
       refine WP_skip ?_
       refine WP_seq ?_
       refine WP_ops ?_
       refine WO_mv rfl ?_
       refine WO_nil ?_
       refine WP_seq ?_
       refine WP_ops ?_
       first | refine WO_ldA0 rfl rfl (.tail _ (.tail _ (.tail _ (.tail _ (.tail _ (.head _)))))) ?_ | refine WO_ldAI rfl rfl (.tail _ (.tail _ (.tail _ (.tail _ (.tail _ (.head _)))))) ?_
       refine WO_fa (o' := 0) rfl rfl rfl ?_
       refine WO_ldI (x := (l.getD i (0, 0, 0)).1) rfl rfl (.tail _ (.tail _ (.tail _ (.head _)))) (x0) ?_
       obtain ⟨r, hreq⟩ : ∃ r, r = fromS P (l.getD i (0, 0, 0)).1 := ⟨_, rfl⟩
       have hfr := From_rt P (l.getD i (0, 0, 0)).1
       rw [← hreq] at hfr
       refine WO_callRt0 rfl (hfr) rfl rfl (fun v4 own4 n4 hr4 => ?_)
       refine WO_mv (v := v4) rfl ?_
       refine WO_nil ?_
       refine WP_seq ?_
       refine WP_seq ?_
       refine WP_ops ?_
       refine WO_mv rfl ?_
       refine WO_nil ?_
       refine WP_block ?_
       obtain ⟨n9, rfl⟩ : ∃ n9, n9 = nb := ⟨nb, rfl⟩
       have hrl := fromS_len P (l.getD i (0, 0, 0)).1
       rw [← hreq] at hrl
       refine WP_sub (List.Sublist.append (.refl _) (.cons _ (.cons_cons _ (.cons _ (.cons_cons _ (.cons_cons _ (.cons_cons _ .slnil))))))) ?_
       refine WP_loop (fun m f _ L => ∃ (k : Nat), (k ≤ r.length) ∧ (m = r.length - k) ∧ (f 1 = .ptr 0 0 133) ∧ (f 2 = .s (.bool false)) ∧ (f 3 = .sl b1 0 l.length 3 c1) ∧ (f 4 = .s (.int .i64 (l.length : Int))) ∧ (f 8 = .s (.int .i64 i)) ∧ (f 9 = .ptr n9 0 3) ∧ (f 11 = .ptr (n9 + 1 + 1) 0 2) ∧ (f 14 = .s (.bool (hasN r (l.getD i (0, 0, 0)).2.1 k))) ∧ (f 15 = v4) ∧ (f 16 = .s (.int .i64 k)) ∧ (L = (own4 ++ [(n9 + 1 + 1, .sc .var 2 (ia (dp P (0 + (l.getD i (0, 0, 0)).2.1.toNat * 2)))), (n9, .sc .var 3 (ia (mvX F1 (0 + (i : Int).toNat * 3)))), (b1, .sc md1 q1 (ia F1)), (0, .sc .var 133 (ia P))]))) (fun m f nb L hI => ?_) (r.length) (⟨0, by omega, by omega, rfl, rfl, rfl, rfl, rfl, rfl, rfl, rfl, rfl, rfl, rfl⟩)
       obtain ⟨k, hk, hm2, k1, k2, k3, k4, k8, k9, k11, k14, k15, k16, rfl⟩ := hI
       refine WP_know (d := 1) (v := .ptr 0 0 133) k1 ?_
       refine WP_know (d := 2) (v := .s (.bool false)) k2 ?_
       refine WP_know (d := 3) (v := .sl b1 0 l.length 3 c1) k3 ?_
       refine WP_know (d := 4) (v := .s (.int .i64 (l.length : Int))) k4 ?_
       refine WP_know (d := 8) (v := .s (.int .i64 i)) k8 ?_
       refine WP_know (d := 9) (v := .ptr n9 0 3) k9 ?_
       refine WP_know (d := 11) (v := .ptr (n9 + 1 + 1) 0 2) k11 ?_
       refine WP_know (d := 14) (v := .s (.bool (hasN r (l.getD i (0, 0, 0)).2.1 k))) k14 ?_
       refine WP_know (d := 15) (v := v4) k15 ?_
       refine WP_know (d := 16) (v := .s (.int .i64 k)) k16 ?_
       refine WP_seq ?_
       refine WP_seq ?_
       refine WP_ops ?_
       refine WO_mv (v := .s (.int _ _)) rfl ?_
       refine WO_mv (v := v4) rfl ?_
       refine WO_lenX rfl hr4.rx (by decide) len1 ?_
       refine WO_bin (r := .bool _) rfl rfl rfl ?_
       refine WO_nil ?_
       refine WP_cond rfl (fun h13 => ?_) (fun h13 => ?_)
       ·try simp only [NM] at h13
        refine WP_skip ?_
        refine WP_seq ?_
        refine WP_block ?_
        refine WP_par ?_
        refine WO_mv (v := .s (.bool _)) rfl ?_
        refine WO_mv (v := .s (.bool _)) rfl ?_
        refine WO_case (t := 157) rfl (fun h14 => ?_) (fun h14 => ?_)
        ·try simp only [NM] at h14
         refine WO_gf rfl rfl ?_
         refine WO_gf rfl rfl ?_
         refine WO_gf rfl rfl ?_
         refine WO_gf rfl rfl ?_
         refine WO_gf rfl rfl ?_
         refine WO_gf rfl rfl ?_
         refine WO_gf rfl rfl ?_
         refine WO_pick (v := .s (.bool _)) rfl rfl ?_
         refine WO_mv (v := .s (.bool _)) rfl ?_
         refine WO_nil ?_
         refine WP_ops ?_
         refine WO_mv (v := .s (.int _ _)) rfl ?_
         refine WO_add rfl rfl (by omega) ?_
         refine WO_mv (v := .s (.int _ _)) rfl ?_
         refine WO_nil ?_
         refine ⟨r.length - (k + 1), _, by omega, (List.Sublist.append (.refl _) (.cons_cons _ (.cons_cons _ (.cons_cons _ (.cons_cons _ .slnil))))), k + 1, by omega, rfl, rfl, rfl, rfl, rfl, rfl, rfl, rfl, ?_, rfl, rfl, rfl⟩
         refine congrArg (fun b => V.s (S.bool b)) ?_
         rw [hasN_next (by omega)]
         first | (rw [show (hasN r (l.getD i (0, 0, 0)).2.1 k) = true by assumption]; rfl) | (rw [show (hasN r (l.getD i (0, 0, 0)).2.1 k) = false by assumption]; rfl)
        ·try simp only [NM] at h14
         refine WO_gt rfl ?_
         refine WO_mv (v := v4) rfl ?_
         refine WO_gt rfl ?_
         refine WO_mv (v := .s (.int _ _)) rfl ?_
         refine WO_gt rfl ?_
         obtain ⟨b4, q4, md4, c4, F4, rfl, rfl, hF4⟩ := hr4.rx.at (by decide) len1 (by omega)
         refine WO_ixs rfl rfl (by omega) ?_
         refine WO_gt rfl ?_
         refine WO_ldI (x := r.getD k 0) rfl rfl (.head _) (ld1 hF4 (by omega)) ?_
         refine WO_gt rfl ?_
         refine WO_fa (o' := 1) rfl rfl rfl ?_
         refine WO_gt rfl ?_
         refine WO_ldI (x := (l.getD i (0, 0, 0)).2.1) rfl rfl (.tail _ (.tail _ (.head _))) (x1) ?_
         refine WO_gt rfl ?_
         refine WO_bin (r := .bool _) rfl rfl rfl ?_
         refine WO_pick (v := .s (.bool _)) rfl rfl ?_
         refine WO_mv (v := .s (.bool _)) rfl ?_
         refine WO_nil ?_
         refine WP_ops ?_
         refine WO_mv (v := .s (.int _ _)) rfl ?_
         refine WO_add rfl rfl (by omega) ?_
         refine WO_mv (v := .s (.int _ _)) rfl ?_
         refine WO_nil ?_
         refine ⟨r.length - (k + 1), _, by omega, (.cons_cons _ (.cons_cons _ (.cons_cons _ (.cons_cons _ (.cons_cons _ .slnil))))), k + 1, by omega, rfl, rfl, rfl, rfl, rfl, rfl, rfl, rfl, ?_, rfl, rfl, rfl⟩
         refine congrArg (fun b => V.s (S.bool b)) ?_
         rw [hasN_next (by omega)]
         first | (rw [show (hasN r (l.getD i (0, 0, 0)).2.1 k) = true by assumption]; rfl) | (rw [show (hasN r (l.getD i (0, 0, 0)).2.1 k) = false by assumption]; rfl)
       ·try simp only [NM] at h13
        refine WP_exit ?_
        refine xhere ?_
        refine WP_seq ?_
        refine WP_ops ?_
        first | refine WO_ldA0 rfl rfl (List.mem_append_right _ (.head _)) ?_ | refine WO_ldAI rfl rfl (List.mem_append_right _ (.head _)) ?_
        refine WO_buildI rfl .nil ?_
        refine WO_eqa rfl rfl ?_
        refine WO_mv (v := .s (.bool _)) rfl ?_
        refine WO_case (t := 169) rfl (fun h15 => ?_) (fun h15 => ?_)
        ·try simp only [NM] at h15
         refine WO_gt rfl ?_
         refine WO_mv (v := .s (.bool _)) rfl ?_
         refine WO_gt rfl ?_
         refine WO_un (r := .bool _) rfl rfl ?_
         refine WO_pick (v := .s (.bool _)) rfl rfl ?_
         refine WO_nil ?_
         refine WP_cond rfl (fun h16 => ?_) (fun h16 => ?_)
         ·try simp only [NM] at h16
          exfalso; first | omega | (obtain rfl : k = r.length := (by omega); rw [hasN_all (by rw [hreq]; exact (hit (by assumption)).2)] at h16; cases h16)
         ·try simp only [NM] at h16
          refine WP_skip ?_
          refine WP_ops ?_
          refine WO_mv (v := .s (.int _ _)) rfl ?_
          refine WO_add rfl rfl (by omega) ?_
          refine WO_mv (v := .s (.int _ _)) rfl ?_
          refine WO_nil ?_
          refine ⟨l.length - (i + 1), _, by omega, (List.sublist_append_of_sublist_right (.cons _ (.cons _ (.cons_cons _ (.cons_cons _ .slnil))))), i + 1, by omega, rfl, rfl, rfl, rfl, rfl, rfl, rfl⟩
        ·try simp only [NM] at h15
         refine WO_gf rfl rfl ?_
         refine WO_gf rfl rfl ?_
         refine WO_pick (v := .s (.bool _)) rfl rfl ?_
         refine WO_nil ?_
         refine WP_cond rfl (fun h => nomatch h) (fun _ => ?_)
         refine WP_skip ?_
         refine WP_ops ?_
         refine WO_mv (v := .s (.int _ _)) rfl ?_
         refine WO_add rfl rfl (by omega) ?_
         refine WO_mv (v := .s (.int _ _)) rfl ?_
         refine WO_nil ?_
         refine ⟨l.length - (i + 1), _, by omega, (List.sublist_append_of_sublist_right (.cons _ (.cons _ (.cons_cons _ (.cons_cons _ .slnil))))), i + 1, by omega, rfl, rfl, rfl, rfl, rfl, rfl, rfl⟩
   ·try simp only [NM] at h5
    refine WO_gf rfl rfl ?_
    refine WO_gf rfl rfl ?_
    refine WO_gf rfl rfl ?_
    refine WO_gf rfl rfl ?_
    refine WO_gf rfl rfl ?_
    refine WO_gf rfl rfl ?_
    refine WO_gf rfl rfl ?_
    refine WO_gf rfl rfl ?_
    refine WO_gf rfl rfl ?_
    refine WO_gu rfl ?_
    refine WO_gu rfl ?_
    refine WO_gu rfl ?_
    refine WO_gu rfl ?_
    refine WO_gu rfl ?_
    refine WO_gu rfl ?_
    refine WO_gu rfl ?_
    refine WO_gf rfl rfl ?_
    refine WO_pick (v := .s (.bool _)) rfl rfl ?_
    refine WO_mv (v := .s (.bool _)) rfl ?_
    refine WO_gt rfl ?_
    refine WO_fa (o' := 1) rfl rfl rfl ?_
    refine WO_gt rfl ?_
    refine WO_ldI (x := (l.getD i (0, 0, 0)).2.1) rfl rfl (.head _) (x1) ?_
    refine WO_gt rfl ?_
    refine WO_bin (r := .bool _) rfl rfl rfl ?_
    refine WO_pick (v := .s (.bool _)) rfl rfl ?_
    refine WO_mv (v := .s (.bool _)) rfl ?_
    refine WO_case (t := 96) rfl (fun h17 => ?_) (fun h17 => ?_)
    ·try simp only [NM] at h17
     exfalso; first | omega | (obtain rfl : k = r.length := (by omega); rw [hasN_all (by rw [hreq]; exact (hit (by assumption)).2)] at h17; cases h17)
    ·try simp only [NM] at h17
     refine WO_gt rfl ?_
     refine WO_fa (o' := 1) rfl rfl rfl ?_
     refine WO_gt rfl ?_
     refine WO_ldI (x := (l.getD i (0, 0, 0)).2.1) rfl rfl (.head _) (x1) ?_
     refine WO_gt rfl ?_
     refine WO_bin (r := .bool _) rfl rfl rfl ?_
     refine WO_pick (v := .s (.bool _)) rfl rfl ?_
     refine WO_nil ?_
     refine WP_cond rfl (fun h18 => ?_) (fun h18 => ?_)
     ·try simp only [NM] at h18
      exfalso; first | omega | (obtain rfl : k = r.length := (by omega); rw [hasN_all (by rw [hreq]; exact (hit (by assumption)).2)] at h18; cases h18)
     ·try simp only [NM] at h18
      refine WP_skip ?_
      refine WP_seq ?_
      refine WP_par ?_
      refine WO_fa (o' := 0) rfl rfl rfl ?_
      refine WO_ldI (x := (l.getD i (0, 0, 0)).1) rfl rfl (.head _) (x0) ?_
      refine WO_fa (o' := 0) rfl rfl rfl ?_
      refine WO_ixa rfl rfl rfl (by omega) ?_
      first | refine WO_ldA0 rfl rfl (.tail _ (.tail _ (.head _))) ?_ | refine WO_ldAI rfl rfl (.tail _ (.tail _ (.head _))) ?_
      refine WO_fa (o' := 1) rfl rfl rfl ?_
      refine WO_ldI (x := (l.getD i (0, 0, 0)).2.1) rfl rfl (.head _) (x1) ?_
      refine WO_fa (o' := 0) rfl rfl rfl ?_
      refine WO_ixa rfl rfl rfl (by omega) ?_
      first | refine WO_ldA0 rfl rfl (.tail _ (.tail _ (.head _))) ?_ | refine WO_ldAI rfl rfl (.tail _ (.tail _ (.head _))) ?_
      refine WO_allocd ?_
      refine WO_allocd ?_
      refine WO_init0 (v := .agg _ _) rfl rfl rfl (.tail _ (.head _)) ?_
      refine WO_init0 (v := .agg _ _) rfl rfl rfl (.head _) ?_
      refine WO_revive (v := .agg _ _) rfl rfl rfl (.there .here) ?_
      refine WO_revive (v := .agg _ _) rfl rfl rfl .here ?_
      refine WO_nil ?_
      refine WP_seq ?_
      refine WP_ops ?_
      first | refine WO_ldA0 rfl rfl (.tail _ (.tail _ (.tail _ (.tail _ (.head _))))) ?_ | refine WO_ldAI rfl rfl (.tail _ (.tail _ (.tail _ (.tail _ (.head _))))) ?_
      first | refine WO_ldA0 rfl rfl (.tail _ (.tail _ (.head _))) ?_ | refine WO_ldAI rfl rfl (.tail _ (.tail _ (.head _))) ?_
      refine WO_call0 rfl (hmove) rfl rfl rfl ?_
      refine WO_mv (v := .tup _) rfl ?_
      refine WO_ext (v := .agg _ _) rfl rfl ?_
      refine WO_ext (v := .s (.int _ _)) rfl rfl ?_
      refine WO_allocI ?_
      refine WO_stA rfl rfl rfl rfl .here ?_
      refine WO_mv (v := .s (.int _ _)) rfl ?_
      refine WO_nil ?_
      refine WP_seq ?_
      refine WP_seq ?_
      refine WP_par ?_
      refine WO_mv (v := .s (.int _ _)) rfl ?_
      refine WO_bin rfl rfl (neq_of1 rfl) ?_
      refine WO_mv (v := .s (.bool _)) rfl ?_
      refine WO_gt rfl ?_
      refine WO_fa (o' := 128) rfl rfl rfl ?_
      refine WO_gt rfl ?_
      refine WO_ldI (x := otherM (P 128)) rfl rfl (.head _) (side_go he) ?_
      refine WO_gt rfl ?_
      refine WO_fa (o' := 128) rfl rfl rfl ?_
      refine WO_gt rfl ?_
      refine WO_ldI (x := P 128) rfl rfl (.tail _ (.tail _ (.tail _ (.tail _ (.tail _ (.head _)))))) (rfl) ?_
      refine WO_gt rfl ?_
      refine WO_callq0 rfl (RF_of (Other_run _)) rfl rfl rfl ?_
      refine WO_gt rfl ?_
      refine WO_bin rfl rfl (neq_of1 rfl) ?_
      refine WO_pick (v := .s (.bool _)) rfl rfl ?_
      refine WO_mv (v := .s (.bool _)) rfl ?_
      refine WO_gt rfl ?_
      refine WO_fa (o' := 1) rfl rfl rfl ?_
      refine WO_gt rfl ?_
      refine WO_ldI (x := P 128) rfl rfl (.tail _ (.tail _ (.head _))) (by rw [← hms]; try rfl) ?_
      refine WO_gt rfl ?_
      refine WO_fa (o' := 128) rfl rfl rfl ?_
      refine WO_gt rfl ?_
      refine WO_ldI (x := P 128) rfl rfl (.tail _ (.tail _ (.tail _ (.tail _ (.tail _ (.head _)))))) (rfl) ?_
      refine WO_gt rfl ?_
      refine WO_bin rfl rfl (neq_of1 rfl) ?_
      refine WO_pick (v := .s (.bool _)) rfl rfl ?_
      refine WO_mv (v := .s (.bool _)) rfl ?_
      refine WO_gt rfl ?_
      first | refine WO_ldA0 rfl rfl (.tail _ (.head _)) ?_ | refine WO_ldAI rfl rfl (.tail _ (.head _)) ?_
      refine WO_gt rfl ?_
      refine WO_buildI rfl .nil ?_
      refine WO_gt rfl ?_
      refine WO_eqa rfl rfl ?_
      refine WO_gt rfl ?_
      refine WO_mv (v := .s (.bool _)) rfl ?_
      refine WO_case (t := 138) rfl (fun h19 => ?_) (fun h19 => ?_)
      ·try simp only [NM] at h19
       refine WO_gt rfl ?_
       refine WO_fa (o' := 1) rfl rfl rfl ?_
       refine WO_gt rfl ?_
       refine WO_ldI (x := P (sqI (l.getD i (0, 0, 0)).2.1 + 1)) rfl rfl (.tail _ (.head _)) (rfl) ?_
       refine WO_gt rfl ?_
       refine WO_fa (o' := 1) rfl rfl rfl ?_
       refine WO_gt rfl ?_
       refine WO_ldI (x := P 128) rfl rfl (.tail _ (.tail _ (.head _))) (by rw [← hms]; try rfl) ?_
       refine WO_gt rfl ?_
       refine WO_bin rfl rfl (eql_no1 (hit (by assumption)).1) ?_
       refine WO_gt rfl ?_
       refine WO_pick (v := .s (.bool _)) rfl rfl ?_
       refine WO_pick (v := .s (.bool _)) rfl rfl ?_
       refine WO_nil ?_
       refine WP_cond rfl (fun h => nomatch h) (fun _ => ?_)
       refine WP_skip ?_
       refine WP_seq ?_
       refine WP_ops ?_
       refine WO_mv rfl ?_
       refine WO_nil ?_
       refine WP_seq ?_
       refine WP_ops ?_
       first | refine WO_ldA0 rfl rfl (.tail _ (.tail _ (.tail _ (.tail _ (.tail _ (.head _)))))) ?_ | refine WO_ldAI rfl rfl (.tail _ (.tail _ (.tail _ (.tail _ (.tail _ (.head _)))))) ?_
       refine WO_fa (o' := 0) rfl rfl rfl ?_
       refine WO_ldI (x := (l.getD i (0, 0, 0)).1) rfl rfl (.tail _ (.tail _ (.tail _ (.head _)))) (x0) ?_
       obtain ⟨r, hreq⟩ : ∃ r, r = fromS P (l.getD i (0, 0, 0)).1 := ⟨_, rfl⟩
       have hfr := From_rt P (l.getD i (0, 0, 0)).1
       rw [← hreq] at hfr
       refine WO_callRt0 rfl (hfr) rfl rfl (fun v5 own5 n5 hr5 => ?_)
       refine WO_mv (v := v5) rfl ?_
       refine WO_nil ?_
       refine WP_seq ?_
       refine WP_seq ?_
       refine WP_ops ?_
       refine WO_mv rfl ?_
       refine WO_nil ?_
       refine WP_block ?_
       obtain ⟨n9, rfl⟩ : ∃ n9, n9 = nb := ⟨nb, rfl⟩
       have hrl := fromS_len P (l.getD i (0, 0, 0)).1
       rw [← hreq] at hrl
       refine WP_sub (List.Sublist.append (.refl _) (.cons _ (.cons_cons _ (.cons _ (.cons_cons _ (.cons_cons _ (.cons_cons _ .slnil))))))) ?_
       refine WP_loop (fun m f _ L => ∃ (k : Nat), (k ≤ r.length) ∧ (m = r.length - k) ∧ (f 1 = .ptr 0 0 133) ∧ (f 2 = .s (.bool false)) ∧ (f 3 = .sl b1 0 l.length 3 c1) ∧ (f 4 = .s (.int .i64 (l.length : Int))) ∧ (f 8 = .s (.int .i64 i)) ∧ (f 9 = .ptr n9 0 3) ∧ (f 11 = .ptr (n9 + 1 + 1) 0 2) ∧ (f 14 = .s (.bool (hasN r (l.getD i (0, 0, 0)).2.1 k))) ∧ (f 15 = v5) ∧ (f 16 = .s (.int .i64 k)) ∧ (L = (own5 ++ [(n9 + 1 + 1, .sc .var 2 (ia (dp P (0 + (l.getD i (0, 0, 0)).2.1.toNat * 2)))), (n9, .sc .var 3 (ia (mvX F1 (0 + (i : Int).toNat * 3)))), (b1, .sc md1 q1 (ia F1)), (0, .sc .var 133 (ia P))]))) (fun m f nb L hI => ?_) (r.length) (⟨0, by omega, by omega, rfl, rfl, rfl, rfl, rfl, rfl, rfl, rfl, rfl, rfl, rfl⟩)
       obtain ⟨k, hk, hm2, k1, k2, k3, k4, k8, k9, k11, k14, k15, k16, rfl⟩ := hI
       refine WP_know (d := 1) (v := .ptr 0 0 133) k1 ?_
       refine WP_know (d := 2) (v := .s (.bool false)) k2 ?_
       refine WP_know (d := 3) (v := .sl b1 0 l.length 3 c1) k3 ?_
       refine WP_know (d := 4) (v := .s (.int .i64 (l.length : Int))) k4 ?_
       refine WP_know (d := 8) (v := .s (.int .i64 i)) k8 ?_
       refine WP_know (d := 9) (v := .ptr n9 0 3) k9 ?_
       refine WP_know (d := 11) (v := .ptr (n9 + 1 + 1) 0 2) k11 ?_
       refine WP_know (d := 14) (v := .s (.bool (hasN r (l.getD i (0, 0, 0)).2.1 k))) k14 ?_
       refine WP_know (d := 15) (v := v5) k15 ?_
       refine WP_know (d := 16) (v := .s (.int .i64 k)) k16 ?_
       refine WP_seq ?_
       refine WP_seq ?_
       refine WP_ops ?_
       refine WO_mv (v := .s (.int _ _)) rfl ?_
       refine WO_mv (v := v5) rfl ?_
       refine WO_lenX rfl hr5.rx (by decide) len1 ?_
       refine WO_bin (r := .bool _) rfl rfl rfl ?_
       refine WO_nil ?_
       refine WP_cond rfl (fun h20 => ?_) (fun h20 => ?_)
       ·try simp only [NM] at h20
        refine WP_skip ?_
        refine WP_seq ?_
        refine WP_block ?_
        refine WP_par ?_
        refine WO_mv (v := .s (.bool _)) rfl ?_
        refine WO_mv (v := .s (.bool _)) rfl ?_
        refine WO_case (t := 157) rfl (fun h21 => ?_) (fun h21 => ?_)
        ·try simp only [NM] at h21
         refine WO_gf rfl rfl ?_
         refine WO_gf rfl rfl ?_
         refine WO_gf rfl rfl ?_
         refine WO_gf rfl rfl ?_
         refine WO_gf rfl rfl ?_
         refine WO_gf rfl rfl ?_
         refine WO_gf rfl rfl ?_
         refine WO_pick (v := .s (.bool _)) rfl rfl ?_
         refine WO_mv (v := .s (.bool _)) rfl ?_
         refine WO_nil ?_
         refine WP_ops ?_
         refine WO_mv (v := .s (.int _ _)) rfl ?_
         refine WO_add rfl rfl (by omega) ?_
         refine WO_mv (v := .s (.int _ _)) rfl ?_
         refine WO_nil ?_
         refine ⟨r.length - (k + 1), _, by omega, (List.Sublist.append (.refl _) (.cons_cons _ (.cons_cons _ (.cons_cons _ (.cons_cons _ .slnil))))), k + 1, by omega, rfl, rfl, rfl, rfl, rfl, rfl, rfl, rfl, ?_, rfl, rfl, rfl⟩
         refine congrArg (fun b => V.s (S.bool b)) ?_
         rw [hasN_next (by omega)]
         first | (rw [show (hasN r (l.getD i (0, 0, 0)).2.1 k) = true by assumption]; rfl) | (rw [show (hasN r (l.getD i (0, 0, 0)).2.1 k) = false by assumption]; rfl)
        ·try simp only [NM] at h21
         refine WO_gt rfl ?_
         refine WO_mv (v := v5) rfl ?_
         refine WO_gt rfl ?_
         refine WO_mv (v := .s (.int _ _)) rfl ?_
         refine WO_gt rfl ?_
         obtain ⟨b5, q5, md5, c5, F5, rfl, rfl, hF5⟩ := hr5.rx.at (by decide) len1 (by omega)
         refine WO_ixs rfl rfl (by omega) ?_
         refine WO_gt rfl ?_
         refine WO_ldI (x := r.getD k 0) rfl rfl (.head _) (ld1 hF5 (by omega)) ?_
         refine WO_gt rfl ?_
         refine WO_fa (o' := 1) rfl rfl rfl ?_
         refine WO_gt rfl ?_
         refine WO_ldI (x := (l.getD i (0, 0, 0)).2.1) rfl rfl (.tail _ (.tail _ (.head _))) (x1) ?_
         refine WO_gt rfl ?_
         refine WO_bin (r := .bool _) rfl rfl rfl ?_
         refine WO_pick (v := .s (.bool _)) rfl rfl ?_
         refine WO_mv (v := .s (.bool _)) rfl ?_
         refine WO_nil ?_
         refine WP_ops ?_
         refine WO_mv (v := .s (.int _ _)) rfl ?_
         refine WO_add rfl rfl (by omega) ?_
         refine WO_mv (v := .s (.int _ _)) rfl ?_
         refine WO_nil ?_
         refine ⟨r.length - (k + 1), _, by omega, (.cons_cons _ (.cons_cons _ (.cons_cons _ (.cons_cons _ (.cons_cons _ .slnil))))), k + 1, by omega, rfl, rfl, rfl, rfl, rfl, rfl, rfl, rfl, ?_, rfl, rfl, rfl⟩
         refine congrArg (fun b => V.s (S.bool b)) ?_
         rw [hasN_next (by omega)]
         first | (rw [show (hasN r (l.getD i (0, 0, 0)).2.1 k) = true by assumption]; rfl) | (rw [show (hasN r (l.getD i (0, 0, 0)).2.1 k) = false by assumption]; rfl)
       ·try simp only [NM] at h20
        refine WP_exit ?_
        refine xhere ?_
        refine WP_seq ?_
        refine WP_ops ?_
        first | refine WO_ldA0 rfl rfl (List.mem_append_right _ (.head _)) ?_ | refine WO_ldAI rfl rfl (List.mem_append_right _ (.head _)) ?_
        refine WO_buildI rfl .nil ?_
        refine WO_eqa rfl rfl ?_
        refine WO_mv (v := .s (.bool _)) rfl ?_
        refine WO_case (t := 169) rfl (fun h22 => ?_) (fun h22 => ?_)
        ·try simp only [NM] at h22
         refine WO_gt rfl ?_
         refine WO_mv (v := .s (.bool _)) rfl ?_
         refine WO_gt rfl ?_
         refine WO_un (r := .bool _) rfl rfl ?_
         refine WO_pick (v := .s (.bool _)) rfl rfl ?_
         refine WO_nil ?_
         refine WP_cond rfl (fun h23 => ?_) (fun h23 => ?_)
         ·try simp only [NM] at h23
          exfalso; first | omega | (obtain rfl : k = r.length := (by omega); rw [hasN_all (by rw [hreq]; exact (hit (by assumption)).2)] at h23; cases h23)
         ·try simp only [NM] at h23
          refine WP_skip ?_
          refine WP_ops ?_
          refine WO_mv (v := .s (.int _ _)) rfl ?_
          refine WO_add rfl rfl (by omega) ?_
          refine WO_mv (v := .s (.int _ _)) rfl ?_
          refine WO_nil ?_
          refine ⟨l.length - (i + 1), _, by omega, (List.sublist_append_of_sublist_right (.cons _ (.cons _ (.cons_cons _ (.cons_cons _ .slnil))))), i + 1, by omega, rfl, rfl, rfl, rfl, rfl, rfl, rfl⟩
        ·try simp only [NM] at h22
         refine WO_gf rfl rfl ?_
         refine WO_gf rfl rfl ?_
         refine WO_pick (v := .s (.bool _)) rfl rfl ?_
         refine WO_nil ?_
         refine WP_cond rfl (fun h => nomatch h) (fun _ => ?_)
         refine WP_skip ?_
         refine WP_ops ?_
         refine WO_mv (v := .s (.int _ _)) rfl ?_
         refine WO_add rfl rfl (by omega) ?_
         refine WO_mv (v := .s (.int _ _)) rfl ?_
         refine WO_nil ?_
         refine ⟨l.length - (i + 1), _, by omega, (List.sublist_append_of_sublist_right (.cons _ (.cons _ (.cons_cons _ (.cons_cons _ .slnil))))), i + 1, by omega, rfl, rfl, rfl, rfl, rfl, rfl, rfl⟩
      ·try simp only [NM] at h19
       refine WO_gf rfl rfl ?_
       refine WO_gf rfl rfl ?_
       refine WO_gf rfl rfl ?_
       refine WO_gf rfl rfl ?_
       refine WO_gf rfl rfl ?_
       refine WO_gt rfl ?_
       refine WO_pick (v := .s (.bool _)) rfl rfl ?_
       refine WO_pick (v := .s (.bool _)) rfl rfl ?_
       refine WO_nil ?_
       refine WP_cond rfl (fun h => nomatch h) (fun _ => ?_)
       refine WP_skip ?_
       refine WP_seq ?_
       refine WP_ops ?_
       refine WO_mv rfl ?_
       refine WO_nil ?_
       refine WP_seq ?_
       refine WP_ops ?_
       first | refine WO_ldA0 rfl rfl (.tail _ (.tail _ (.tail _ (.tail _ (.tail _ (.head _)))))) ?_ | refine WO_ldAI rfl rfl (.tail _ (.tail _ (.tail _ (.tail _ (.tail _ (.head _)))))) ?_
       refine WO_fa (o' := 0) rfl rfl rfl ?_
       refine WO_ldI (x := (l.getD i (0, 0, 0)).1) rfl rfl (.tail _ (.tail _ (.tail _ (.head _)))) (x0) ?_
       obtain ⟨r, hreq⟩ : ∃ r, r = fromS P (l.getD i (0, 0, 0)).1 := ⟨_, rfl⟩
       have hfr := From_rt P (l.getD i (0, 0, 0)).1
       rw [← hreq] at hfr
       refine WO_callRt0 rfl (hfr) rfl rfl (fun v6 own6 n6 hr6 => ?_)
       refine WO_mv (v := v6) rfl ?_
       refine WO_nil ?_
       refine WP_seq ?_
       refine WP_seq ?_
       refine WP_ops ?_
       refine WO_mv rfl ?_
       refine WO_nil ?_
       refine WP_block ?_
       obtain ⟨n9, rfl⟩ : ∃ n9, n9 = nb := ⟨nb, rfl⟩
       have hrl := fromS_len P (l.getD i (0, 0, 0)).1
       rw [← hreq] at hrl
       refine WP_sub (List.Sublist.append (.refl _) (.cons _ (.cons_cons _ (.cons _ (.cons_cons _ (.cons_cons _ (.cons_cons _ .slnil))))))) ?_
       refine WP_loop (fun m f _ L => ∃ (k : Nat), (k ≤ r.length) ∧ (m = r.length - k) ∧ (f 1 = .ptr 0 0 133) ∧ (f 2 = .s (.bool false)) ∧ (f 3 = .sl b1 0 l.length 3 c1) ∧ (f 4 = .s (.int .i64 (l.length : Int))) ∧ (f 8 = .s (.int .i64 i)) ∧ (f 9 = .ptr n9 0 3) ∧ (f 11 = .ptr (n9 + 1 + 1) 0 2) ∧ (f 14 = .s (.bool (hasN r (l.getD i (0, 0, 0)).2.1 k))) ∧ (f 15 = v6) ∧ (f 16 = .s (.int .i64 k)) ∧ (L = (own6 ++ [(n9 + 1 + 1, .sc .var 2 (ia (dp P (0 + (l.getD i (0, 0, 0)).2.1.toNat * 2)))), (n9, .sc .var 3 (ia (mvX F1 (0 + (i : Int).toNat * 3)))), (b1, .sc md1 q1 (ia F1)), (0, .sc .var 133 (ia P))]))) (fun m f nb L hI => ?_) (r.length) (⟨0, by omega, by omega, rfl, rfl, rfl, rfl, rfl, rfl, rfl, rfl, rfl, rfl, rfl⟩)
       obtain ⟨k, hk, hm2, k1, k2, k3, k4, k8, k9, k11, k14, k15, k16, rfl⟩ := hI
       refine WP_know (d := 1) (v := .ptr 0 0 133) k1 ?_
       refine WP_know (d := 2) (v := .s (.bool false)) k2 ?_
       refine WP_know (d := 3) (v := .sl b1 0 l.length 3 c1) k3 ?_
       refine WP_know (d := 4) (v := .s (.int .i64 (l.length : Int))) k4 ?_
       refine WP_know (d := 8) (v := .s (.int .i64 i)) k8 ?_
       refine WP_know (d := 9) (v := .ptr n9 0 3) k9 ?_
       refine WP_know (d := 11) (v := .ptr (n9 + 1 + 1) 0 2) k11 ?_
       refine WP_know (d := 14) (v := .s (.bool (hasN r (l.getD i (0, 0, 0)).2.1 k))) k14 ?_
       refine WP_know (d := 15) (v := v6) k15 ?_
       refine WP_know (d := 16) (v := .s (.int .i64 k)) k16 ?_
       refine WP_seq ?_
       refine WP_seq ?_
       refine WP_ops ?_
       refine WO_mv (v := .s (.int _ _)) rfl ?_
       refine WO_mv (v := v6) rfl ?_
       refine WO_lenX rfl hr6.rx (by decide) len1 ?_
       refine WO_bin (r := .bool _) rfl rfl rfl ?_
       refine WO_nil ?_
       refine WP_cond rfl (fun h24 => ?_) (fun h24 => ?_)
       ·try simp only [NM] at h24
        refine WP_skip ?_
        refine WP_seq ?_
        refine WP_block ?_
        refine WP_par ?_
        refine WO_mv (v := .s (.bool _)) rfl ?_
        refine WO_mv (v := .s (.bool _)) rfl ?_
        refine WO_case (t := 157) rfl (fun h25 => ?_) (fun h25 => ?_)
        ·try simp only [NM] at h25
         refine WO_gf rfl rfl ?_
         refine WO_gf rfl rfl ?_
         refine WO_gf rfl rfl ?_
         refine WO_gf rfl rfl ?_
         refine WO_gf rfl rfl ?_
         refine WO_gf rfl rfl ?_
         refine WO_gf rfl rfl ?_
         refine WO_pick (v := .s (.bool _)) rfl rfl ?_
         refine WO_mv (v := .s (.bool _)) rfl ?_
         refine WO_nil ?_
         refine WP_ops ?_
         refine WO_mv (v := .s (.int _ _)) rfl ?_
         refine WO_add rfl rfl (by omega) ?_
         refine WO_mv (v := .s (.int _ _)) rfl ?_
         refine WO_nil ?_
         refine ⟨r.length - (k + 1), _, by omega, (List.Sublist.append (.refl _) (.cons_cons _ (.cons_cons _ (.cons_cons _ (.cons_cons _ .slnil))))), k + 1, by omega, rfl, rfl, rfl, rfl, rfl, rfl, rfl, rfl, ?_, rfl, rfl, rfl⟩
         refine congrArg (fun b => V.s (S.bool b)) ?_
         rw [hasN_next (by omega)]
         first | (rw [show (hasN r (l.getD i (0, 0, 0)).2.1 k) = true by assumption]; rfl) | (rw [show (hasN r (l.getD i (0, 0, 0)).2.1 k) = false by assumption]; rfl)
        ·try simp only [NM] at h25
         refine WO_gt rfl ?_
         refine WO_mv (v := v6) rfl ?_
         refine WO_gt rfl ?_
         refine WO_mv (v := .s (.int _ _)) rfl ?_
         refine WO_gt rfl ?_
         obtain ⟨b6, q6, md6, c6, F6, rfl, rfl, hF6⟩ := hr6.rx.at (by decide) len1 (by omega)
         refine WO_ixs rfl rfl (by omega) ?_
         refine WO_gt rfl ?_
         refine WO_ldI (x := r.getD k 0) rfl rfl (.head _) (ld1 hF6 (by omega)) ?_
         refine WO_gt rfl ?_
         refine WO_fa (o' := 1) rfl rfl rfl ?_
         refine WO_gt rfl ?_
         refine WO_ldI (x := (l.getD i (0, 0, 0)).2.1) rfl rfl (.tail _ (.tail _ (.head _))) (x1) ?_
         refine WO_gt rfl ?_
         refine WO_bin (r := .bool _) rfl rfl rfl ?_
         refine WO_pick (v := .s (.bool _)) rfl rfl ?_
         refine WO_mv (v := .s (.bool _)) rfl ?_
         refine WO_nil ?_
         refine WP_ops ?_
         refine WO_mv (v := .s (.int _ _)) rfl ?_
         refine WO_add rfl rfl (by omega) ?_
         refine WO_mv (v := .s (.int _ _)) rfl ?_
         refine WO_nil ?_
         refine ⟨r.length - (k + 1), _, by omega, (.cons_cons _ (.cons_cons _ (.cons_cons _ (.cons_cons _ (.cons_cons _ .slnil))))), k + 1, by omega, rfl, rfl, rfl, rfl, rfl, rfl, rfl, rfl, ?_, rfl, rfl, rfl⟩
         refine congrArg (fun b => V.s (S.bool b)) ?_
         rw [hasN_next (by omega)]
         first | (rw [show (hasN r (l.getD i (0, 0, 0)).2.1 k) = true by assumption]; rfl) | (rw [show (hasN r (l.getD i (0, 0, 0)).2.1 k) = false by assumption]; rfl)
       ·try simp only [NM] at h24
        refine WP_exit ?_
        refine xhere ?_
        refine WP_seq ?_
        refine WP_ops ?_
        first | refine WO_ldA0 rfl rfl (List.mem_append_right _ (.head _)) ?_ | refine WO_ldAI rfl rfl (List.mem_append_right _ (.head _)) ?_
        refine WO_buildI rfl .nil ?_
        refine WO_eqa rfl rfl ?_
        refine WO_mv (v := .s (.bool _)) rfl ?_
        refine WO_case (t := 169) rfl (fun h26 => ?_) (fun h26 => ?_)
        ·try simp only [NM] at h26
         refine WO_gt rfl ?_
         refine WO_mv (v := .s (.bool _)) rfl ?_
         refine WO_gt rfl ?_
         refine WO_un (r := .bool _) rfl rfl ?_
         refine WO_pick (v := .s (.bool _)) rfl rfl ?_
         refine WO_nil ?_
         refine WP_cond rfl (fun h27 => ?_) (fun h27 => ?_)
         ·try simp only [NM] at h27
          exfalso; first | omega | (obtain rfl : k = r.length := (by omega); rw [hasN_all (by rw [hreq]; exact (hit (by assumption)).2)] at h27; cases h27)
         ·try simp only [NM] at h27
          refine WP_skip ?_
          refine WP_ops ?_
          refine WO_mv (v := .s (.int _ _)) rfl ?_
          refine WO_add rfl rfl (by omega) ?_
          refine WO_mv (v := .s (.int _ _)) rfl ?_
          refine WO_nil ?_
          refine ⟨l.length - (i + 1), _, by omega, (List.sublist_append_of_sublist_right (.cons _ (.cons _ (.cons_cons _ (.cons_cons _ .slnil))))), i + 1, by omega, rfl, rfl, rfl, rfl, rfl, rfl, rfl⟩
        ·try simp only [NM] at h26
         refine WO_gf rfl rfl ?_
         refine WO_gf rfl rfl ?_
         refine WO_pick (v := .s (.bool _)) rfl rfl ?_
         refine WO_nil ?_
         refine WP_cond rfl (fun h => nomatch h) (fun _ => ?_)
         refine WP_skip ?_
         refine WP_ops ?_
         refine WO_mv (v := .s (.int _ _)) rfl ?_
         refine WO_add rfl rfl (by omega) ?_
         refine WO_mv (v := .s (.int _ _)) rfl ?_
         refine WO_nil ?_
         refine ⟨l.length - (i + 1), _, by omega, (List.sublist_append_of_sublist_right (.cons _ (.cons _ (.cons_cons _ (.cons_cons _ .slnil))))), i + 1, by omega, rfl, rfl, rfl, rfl, rfl, rfl, rfl⟩
  ·try simp only [NM] at h4
   refine WP_exit ?_
   refine xhere ?_
   refine WP_seq ?_
   refine WP_ops ?_
   refine WO_mv (v := .s (.int _ _)) rfl ?_
   refine WO_mv (v := v1) rfl ?_
   refine WO_lenX rfl hr1.rx (by decide) (flat3_len _) ?_
   refine WO_bin rfl rfl (eql_yes1 rfl) ?_
   refine WO_mv (v := .s (.bool _)) rfl ?_
   refine WO_nil ?_
   refine WP_ret ?_
   refine ⟨_, RS_tmp (v := .s (.bool _)) rfl (RS_nil), ?_⟩
   rfl
end Go.Proofs.Ytlkighkfkdpncaa
