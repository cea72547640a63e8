/- The walks of the chapter board: pieces put, lists lent and kept. -/
import Derived.Test.YtjldefmcnppdoaaBoardC
namespace Go.Proofs.Ytjldefmcnppdoaa
open Go Go.Am
set_option linter.unusedSimpArgs false
set_option linter.unusedVariables false
/-- Pieces put, one by one; the error. -/
def putS (P X K : Nat → Int) : Nat → Nat → Int
  | 0 => P
  | n + 1 => ovA (putS P X K n) (0 + (K n).toNat * 2) 2 X
def putE (X K : Nat → Int) (n : Nat) : Int := if ¬ (X 0 = 0 ∧ X 1 = 0) ∧ mayM (X 0) (X 1) = false then 2 else if ∀ j : Nat, j < n → isM (K j) = true then 0 else 6
def putQ (P X K : Nat → Int) (n : Nat) : Nat → Int := ovA (fun _ => 0) 0 133 (if putE X K n = 0 then putS P X K n else fun _ => 0)
theorem putS_same {P X K G : Nat → Int} : ∀ n : Nat, (∀ j : Nat, j < n → G j = K j) → putS P X G n = putS P X K n
  | 0, _ => rfl
  | n + 1, h => by rw [putS, putS, putS_same n (fun j hj => h j (by omega)), h n (by omega)]
theorem putE_same {X K G : Nat → Int} {n : Nat} (h : ∀ j : Nat, j < n → G j = K j) : putE X G n = putE X K n := by
  have e : (∀ j : Nat, j < n → isM (G j) = true) ↔ (∀ j : Nat, j < n → isM (K j) = true) := ⟨fun a j hj => by rw [← h j hj]; exact a j hj, fun a j hj => by rw [h j hj]; exact a j hj⟩
  unfold putE
  by_cases c : ¬ (X 0 = 0 ∧ X 1 = 0) ∧ mayM (X 0) (X 1) = false
  · rw [if_pos c, if_pos c]
  · rw [if_neg c, if_neg c]
    by_cases q : ∀ j : Nat, j < n → isM (K j) = true
    · rw [if_pos q, if_pos (e.2 q)]
    · rw [if_neg q, if_neg (fun z => q (e.1 z))]
theorem putQ_same {P X K G : Nat → Int} {n : Nat} (h : ∀ j : Nat, j < n → G j = K j) : putQ P X G n = putQ P X K n := by
  unfold putQ
  rw [putE_same h, putS_same n h]
theorem putE_2 {X K : Nat → Int} {n : Nat} (h : ¬ (X 0 = 0 ∧ X 1 = 0)) (hm : mayM (X 0) (X 1) = false) : putE X K n = 2 := if_pos ⟨h, hm⟩
theorem putE_6 {X K : Nat → Int} {n : Nat} (h : (X 0 = 0 ∧ X 1 = 0) ∨ mayM (X 0) (X 1) = true) (hk : ¬ ∀ j : Nat, j < n → isM (K j) = true) : putE X K n = 6 := by
  unfold putE
  rw [if_neg (fun q => by rcases h with h | h; exact q.1 h; rw [h] at q; exact absurd q.2 (by decide)), if_neg hk]
theorem putE_0 {X K : Nat → Int} {n : Nat} (h : (X 0 = 0 ∧ X 1 = 0) ∨ mayM (X 0) (X 1) = true) (hk : ∀ j : Nat, j < n → isM (K j) = true) : putE X K n = 0 := by
  unfold putE
  rw [if_neg (fun q => by rcases h with h | h; exact q.1 h; rw [h] at q; exact absurd q.2 (by decide)), if_pos hk]
theorem put_bad {P X K : Nat → Int} {n : Nat} {e : Int} (he : putE X K n = e) (h0 : e ≠ 0) : (V.tup [.agg 133 (ia (ovA (fun _ => 0) 0 133 (fun _ => 0))), .s (.int .i64 e)]) = .tup [.agg 133 (ia (putQ P X K n)), .s (.int .i64 (putE X K n))] := by
  unfold putQ
  rw [he, if_neg h0]
theorem put_good {P X K : Nat → Int} {n : Nat} (he : putE X K n = 0) : (V.tup [.agg 133 (ia (ovA (fun _ => 0) 0 133 (putS P X K n))), .s (.int .i64 0)]) = .tup [.agg 133 (ia (putQ P X K n)), .s (.int .i64 (putE X K n))] := by
  unfold putQ
  rw [he, if_pos rfl]

theorem Put1_run (x : Int) : WR AM 93 [.s (.int .i64 x)] [] (fun v _ _ => v = .s (.bool (!(isM x)))) := by
 refine WR_fn (a := a93) rfl rfl (entryF _) (entry_E (Nat.le_of_ble_eq_true rfl)) (m := 0) rfl ?_
 refine WP_seq ?_
 refine WP_ops ?_
 refine WO_mv rfl ?_
 refine WO_nil ?_
 refine WP_seq ?_
 refine WP_ops ?_
 refine WO_mv (v := .s (.int _ _)) rfl ?_
 refine WO_call0 rfl (SqIs_run _) rfl rfl rfl ?_
 refine WO_un (r := .bool _) rfl rfl ?_
 refine WO_mv (v := .s (.bool _)) rfl ?_
 refine WO_nil ?_
 refine WP_ret ?_
 refine ⟨_, RS_tmp (v := .s (.bool _)) rfl (RS_nil), ?_⟩
 rfl
theorem IndexFunc_run {md : Md} {q : Nat} {c : Cp} (K : Nat → Int) (nn : Nat) (hnn : nn ≤ 1000000) : WR AM 114 [.sl 0 0 nn 1 c, .fn 93 []] [.sc md q (ia K)] (fun v _ L => (∃ x, v = .s (.int .i64 x) ∧ ((x = -1 ∧ ∀ j : Nat, j < nn → isM (K j) = true) ∨ (0 ≤ x ∧ ¬ ∀ j : Nat, j < nn → isM (K j) = true))) ∧ (0, Blk.sc md q (ia K)) ∈ L) := by
 refine WR_fn (a := a114) rfl rfl (entryF _) (entry_E (Nat.le_of_ble_eq_true rfl)) (m := 1) rfl ?_
 refine WP_seq ?_
 refine WP_ops ?_
 refine WO_mv rfl ?_
 refine WO_nil ?_
 refine WP_seq ?_
 refine WP_seq ?_
 refine WP_ops ?_
 refine WO_mv (v := .sl _ _ _ _ _) rfl ?_
 refine WO_len rfl ?_
 refine WO_mv rfl ?_
 refine WO_nil ?_
 refine WP_block ?_
 refine WP_sub (L' := [_]) (.cons_cons _ .slnil) ?_
 refine WP_loop (fun m f _ L => ∃ (i : Nat), (i ≤ nn) ∧ (m = nn - i) ∧ (∀ j : Nat, j < i → isM (K j) = true) ∧ (f 0 = .sl 0 0 nn 1 c) ∧ (f 1 = .fn 93 []) ∧ (f 7 = .s (.int .i64 nn)) ∧ (f 8 = .s (.int .i64 i)) ∧ (L = [(0, .sc md q (ia K))])) (fun m f nb L hI => ?_) (nn) ⟨0, by omega, rfl, fun j h => by omega, rfl, rfl, rfl, rfl, rfl⟩
 obtain ⟨i, hi, hm, hn, k0, k1, k7, k8, rfl⟩ := hI
 refine WP_know (d := 0) (v := .sl 0 0 nn 1 c) k0 ?_
 refine WP_know (d := 1) (v := .fn 93 []) k1 ?_
 refine WP_know (d := 7) (v := .s (.int .i64 nn)) k7 ?_
 refine WP_know (d := 8) (v := .s (.int .i64 i)) k8 ?_
 refine WP_seq ?_
 refine WP_ops ?_
 refine WO_bin (r := .bool _) rfl rfl rfl ?_
 refine WO_nil ?_
 refine WP_seq ?_
 refine WP_cond rfl (fun h1 => ?_) (fun h1 => ?_)
 ·try simp only [NM] at h1
  refine WP_skip ?_
  refine WP_seq ?_
  refine WP_block ?_
  refine WP_seq ?_
  refine WP_ops ?_
  refine WO_mv (v := .s (.int _ _)) rfl ?_
  refine WO_mv (v := .s (.int _ _)) rfl ?_
  refine WO_nil ?_
  refine WP_seq ?_
  refine WP_ops ?_
  refine WO_mv (v := .fn _ _) rfl ?_
  refine WO_mv (v := .sl _ _ _ _ _) rfl ?_
  refine WO_mv (v := .s (.int _ _)) rfl ?_
  refine WO_ixs rfl rfl (by omega) ?_
  refine WO_ldI (x := K i) rfl rfl (.head _) (congrArg K (by omega)) ?_
  refine WO_call0 rfl (RF_of (Put1_run (K i))) rfl rfl rfl ?_
  refine WO_nil ?_
  refine WP_cond rfl (fun h2 => ?_) (fun h2 => ?_)
  ·try simp only [NM] at h2
   refine WP_seq ?_
   refine WP_ops ?_
   refine WO_mv (v := .s (.int _ _)) rfl ?_
   refine WO_mv (v := .s (.int _ _)) rfl ?_
   refine WO_nil ?_
   refine WP_ret ?_
   refine ⟨_, RS_tmp (v := .s (.int _ _)) rfl (RS_nil), ?_⟩
   first | exact ⟨⟨_, rfl, .inl ⟨rfl, fun j hj => hn j (by omega)⟩⟩, (.head _)⟩ | exact ⟨⟨_, rfl, .inr ⟨by omega, fun q => absurd ((q i (by omega)).symm.trans (by assumption)) (by decide)⟩⟩, (.head _)⟩
  ·try simp only [NM] at h2
   refine WP_skip ?_
   refine WP_ops ?_
   refine WO_add rfl rfl (by omega) ?_
   refine WO_mv (v := .s (.int _ _)) rfl ?_
   refine WO_nil ?_
   refine ⟨nn - (i + 1), _, by omega, (.cons_cons _ .slnil), i + 1, by omega, rfl, ?_, rfl, rfl, rfl, rfl, rfl⟩
   intro j hj
   by_cases e : j = i
   · subst e; assumption
   · exact hn j (by omega)
 ·try simp only [NM] at h1
  refine WP_exit ?_
  refine xhere ?_
  refine WP_seq ?_
  refine WP_ops ?_
  refine WO_mv rfl ?_
  refine WO_nil ?_
  refine WP_ret ?_
  refine ⟨_, RS_tmp (v := .s (.int _ _)) rfl (RS_nil), ?_⟩
  first | exact ⟨⟨_, rfl, .inl ⟨rfl, fun j hj => hn j (by omega)⟩⟩, (.head _)⟩ | exact ⟨⟨_, rfl, .inr ⟨by omega, fun q => absurd ((q i (by omega)).symm.trans (by assumption)) (by decide)⟩⟩, (.head _)⟩
theorem IndexFunc_ex {md : Md} {q : Nat} {c : Cp} (K : Nat → Int) (nn : Nat) (hnn : nn ≤ 1000000) : ∃ x, ((x = -1 ∧ ∀ j : Nat, j < nn → isM (K j) = true) ∨ (0 ≤ x ∧ ¬ ∀ j : Nat, j < nn → isM (K j) = true)) ∧ RB AM 114 [.sl 0 0 nn 1 c, .fn 93 []] [.sc md q (ia K)] (.s (.int .i64 x)) [.sc md q (ia K)] := by
  obtain ⟨v, σ', n', L', h1, h2, ⟨x, rfl, hx⟩, hm⟩ := IndexFunc_run (md := md) (q := q) (c := c) K nn hnn
  exact ⟨x, hx, σ', h1, (h2.2.mem hm).2, ⟨_, _, _, rfl⟩, trivial⟩

theorem ContainsFunc_run {md : Md} {q : Nat} {c : Cp} (K : Nat → Int) (nn : Nat) (hnn : nn ≤ 1000000) : WR AM 92 [.sl 0 0 nn 1 c, .fn 93 []] [.sc md q (ia K)] (fun v _ L => (∃ b, v = .s (.bool b) ∧ (b = false ↔ ∀ j : Nat, j < nn → isM (K j) = true)) ∧ (0, Blk.sc md q (ia K)) ∈ L) := by
 refine WR_fn (a := a92) rfl rfl (entryF _) (entry_E (Nat.le_of_ble_eq_true rfl)) (m := 1) rfl ?_
 refine WP_seq ?_
 refine WP_ops ?_
 refine WO_mv rfl ?_
 refine WO_nil ?_
 refine WP_seq ?_
 refine WP_ops ?_
 refine WO_mv (v := .sl _ _ _ _ _) rfl ?_
 refine WO_mv (v := .fn _ _) rfl ?_
 obtain ⟨x, hx, hI⟩ := IndexFunc_ex (md := md) (q := q) (c := c) K nn hnn
 refine WO_call (rs := [0]) (Bs := [_]) rfl (hI) rfl rfl (Nat.le_of_ble_eq_true rfl) (fun _ h => h) rfl ⟨(.head _), ⟨_, _, _, rfl⟩, trivial⟩ rfl rfl rfl (.cons .here .nil) ?_
 refine WO_bin (r := .bool _) rfl rfl rfl ?_
 refine WO_mv (v := .s (.bool _)) rfl ?_
 refine WO_nil ?_
 refine WP_ret ?_
 refine ⟨_, RS_tmp (v := .s (.bool _)) rfl (RS_nil), ?_⟩
 refine ⟨⟨_, rfl, ?_⟩, (.head _)⟩
 rcases hx with ⟨h1, h2⟩ | ⟨h1, h2⟩
 · exact ⟨fun _ => h2, fun _ => decide_eq_false (by omega)⟩
 · exact ⟨fun q => absurd (of_decide_eq_false q) (by omega), fun q => absurd q h2⟩
theorem ContainsFunc_ex {md : Md} {q : Nat} {c : Cp} (K : Nat → Int) (nn : Nat) (hnn : nn ≤ 1000000) : ∃ b, (b = false ↔ ∀ j : Nat, j < nn → isM (K j) = true) ∧ RB AM 92 [.sl 0 0 nn 1 c, .fn 93 []] [.sc md q (ia K)] (.s (.bool b)) [.sc md q (ia K)] := by
  obtain ⟨v, σ', n', L', h1, h2, ⟨x, rfl, hx⟩, hm⟩ := ContainsFunc_run (md := md) (q := q) (c := c) K nn hnn
  exact ⟨x, hx, σ', h1, (h2.2.mem hm).2, ⟨_, _, _, rfl⟩, trivial⟩

theorem Put_walk {md : Md} {q : Nat} {c : Cp} (P X K : Nat → Int) (nn : Nat) (hnn : nn ≤ 1000000) : WR AM 59 [.agg 133 (ia P), .agg 2 (ia X), .sl 0 0 nn 1 c] [.sc md q (ia K)] (fun v _ L => v = .tup [.agg 133 (ia (putQ P X K nn)), .s (.int .i64 (putE X K nn))] ∧ (0, Blk.sc md q (ia K)) ∈ L) := by
 refine WR_fn (a := a59) rfl rfl (entryF _) (entry_E (Nat.le_of_ble_eq_true rfl)) (m := 1) rfl ?_
 refine WP_seq ?_
 refine WP_ops ?_
 refine WO_boxA rfl ?_
 refine WO_boxA rfl ?_
 refine WO_allocI ?_
 refine WO_mv rfl ?_
 refine WO_nil ?_
 refine WP_seq ?_
 refine WP_seq ?_
 refine WP_ops ?_
 first | refine WO_ldA0 rfl rfl (.tail _ (.head _)) ?_ | refine WO_ldAI rfl rfl (.tail _ (.head _)) ?_
 refine WO_buildI rfl .nil ?_
 refine WO_eqa rfl rfl ?_
 refine WO_mv (v := .s (.bool _)) rfl ?_
 refine WO_case (t := 13) rfl (fun h3 => ?_) (fun h3 => ?_)
 ·try simp only [NM] at h3
  try simp only [eq_two, decide_eq_true_eq, decide_eq_false_iff_not] at h3
  refine WO_gt rfl ?_
  first | refine WO_ldA0 rfl rfl (.tail _ (.head _)) ?_ | refine WO_ldAI rfl rfl (.tail _ (.head _)) ?_
  refine WO_gt rfl ?_
  refine WO_call0 rfl (RF_of (may_run _)) rfl rfl rfl ?_
  refine WO_gt rfl ?_
  refine WO_un (r := .bool _) rfl rfl ?_
  refine WO_pick (v := .s (.bool _)) rfl rfl ?_
  refine WO_nil ?_
  refine WP_cond rfl (fun h4 => ?_) (fun h4 => ?_)
  ·try simp only [NM] at h4
   try simp only [eq_two, decide_eq_true_eq, decide_eq_false_iff_not] at h4
   refine WP_seq ?_
   refine WP_ops ?_
   refine WO_buildI rfl .nil ?_
   refine WO_stA rfl rfl rfl rfl .here ?_
   refine WO_mv rfl ?_
   refine WO_nil ?_
   refine WP_ret ?_
   refine ⟨_, RS_cell rfl rfl (.head _) (RS_tmp (v := .s (.int _ _)) rfl (RS_nil)), ?_⟩
   exact ⟨put_bad (putE_2 (by assumption) (by assumption)) (by decide), (.tail _ (.tail _ (.tail _ (.head _))))⟩
  ·try simp only [NM] at h4
   try simp only [eq_two, decide_eq_true_eq, decide_eq_false_iff_not] at h4
   refine WP_skip ?_
   refine WP_cut (fun f n L => ((X 0 = 0 ∧ X 1 = 0) ∨ mayM (X 0) (X 1) = true) ∧ (∀ j : Nat, j < nn → isM (K j) = true) ∧ (f 2 = .sl 0 0 nn 1 c) ∧ (f 3 = .ptr 1 0 133) ∧ (f 4 = .ptr 2 0 2) ∧ (f 6 = .ptr 3 0 133) ∧ (L = [(3, .sc .var 133 (ia fun _ => 0)), (2, .sc .var 2 (ia X)), (1, .sc .var 133 (ia P)), (0, .sc md q (ia K))]) ∧ (n = 4)) ?_ (fun f nb L hI => ?_)
   ·skip
    refine WP_seq ?_
    refine WP_ops ?_
    refine WO_mv (v := .sl _ _ _ _ _) rfl ?_
    obtain ⟨bc, hbc, hC⟩ := ContainsFunc_ex (md := md) (q := q) (c := c) K nn hnn
    refine WO_call (rs := [0]) (Bs := [_]) rfl (hC) rfl rfl (Nat.le_of_ble_eq_true rfl) (fun _ h => h) rfl ⟨(.tail _ (.tail _ (.tail _ (.head _)))), ⟨_, _, _, rfl⟩, trivial⟩ rfl rfl rfl (.cons (.there (.there (.there .here))) .nil) ?_
    refine WO_nil ?_
    refine WP_cond rfl (fun h5 => ?_) (fun h5 => ?_)
    ·try simp only [NM] at h5
     try simp only [eq_two, decide_eq_true_eq, decide_eq_false_iff_not] at h5
     refine WP_seq ?_
     refine WP_ops ?_
     refine WO_buildI rfl .nil ?_
     refine WO_stA rfl rfl rfl rfl .here ?_
     refine WO_mv rfl ?_
     refine WO_nil ?_
     refine WP_ret ?_
     refine ⟨_, RS_cell rfl rfl (.head _) (RS_tmp (v := .s (.int _ _)) rfl (RS_nil)), ?_⟩
     exact ⟨put_bad (putE_6 (by first | exact .inl (by assumption) | exact .inr (by assumption)) (fun q => absurd ((hbc.2 q).symm.trans (by assumption)) (by decide))) (by decide), (.tail _ (.tail _ (.tail _ (.head _))))⟩
    ·try simp only [NM] at h5
     try simp only [eq_two, decide_eq_true_eq, decide_eq_false_iff_not] at h5
     refine WP_skip ?_
     refine ⟨_, (.cons_cons _ (.cons_cons _ (.cons_cons _ (.cons_cons _ .slnil)))), ?_, hbc.1 (by assumption), rfl, rfl, rfl, rfl, rfl, rfl⟩
     first | exact .inl (by assumption) | exact .inr (by assumption)
   ·skip
    obtain ⟨hok, hall, k2, k3, k4, k6, rfl, rfl⟩ := hI
    refine WP_know (d := 2) (v := .sl 0 0 nn 1 c) k2 ?_
    refine WP_know (d := 3) (v := .ptr 1 0 133) k3 ?_
    refine WP_know (d := 4) (v := .ptr 2 0 2) k4 ?_
    refine WP_know (d := 6) (v := .ptr 3 0 133) k6 ?_
    refine WP_seq ?_
    refine WP_seq ?_
    refine WP_ops ?_
    refine WO_mv (v := .sl _ _ _ _ _) rfl ?_
    refine WO_len rfl ?_
    refine WO_mv rfl ?_
    refine WO_nil ?_
    refine WP_block ?_
    refine WP_sub (L' := [_, _, _, _]) (.cons_cons _ (.cons_cons _ (.cons_cons _ (.cons_cons _ .slnil)))) ?_
    refine WP_loop (fun m f _ L => ∃ (i : Nat), (i ≤ nn) ∧ (m = nn - i) ∧ (f 3 = .ptr 1 0 133) ∧ (f 4 = .ptr 2 0 2) ∧ (f 6 = .ptr 3 0 133) ∧ (f 22 = .sl 0 0 nn 1 c) ∧ (f 23 = .s (.int .i64 nn)) ∧ (f 24 = .s (.int .i64 i)) ∧ (L = [(3, .sc .var 133 (ia fun _ => 0)), (2, .sc .var 2 (ia X)), (1, .sc .var 133 (ia (putS P X K i))), (0, .sc md q (ia K))])) (fun m f nb L hI => ?_) (nn) ⟨0, by omega, rfl, rfl, rfl, rfl, rfl, rfl, rfl, rfl⟩
    obtain ⟨i, hi, hm, k3, k4, k6, k22, k23, k24, rfl⟩ := hI
    refine WP_know (d := 3) (v := .ptr 1 0 133) k3 ?_
    refine WP_know (d := 4) (v := .ptr 2 0 2) k4 ?_
    refine WP_know (d := 6) (v := .ptr 3 0 133) k6 ?_
    refine WP_know (d := 22) (v := .sl 0 0 nn 1 c) k22 ?_
    refine WP_know (d := 23) (v := .s (.int .i64 nn)) k23 ?_
    refine WP_know (d := 24) (v := .s (.int .i64 i)) k24 ?_
    refine WP_seq ?_
    refine WP_ops ?_
    refine WO_bin (r := .bool _) rfl rfl rfl ?_
    refine WO_nil ?_
    refine WP_seq ?_
    refine WP_cond rfl (fun h6 => ?_) (fun h6 => ?_)
    ·try simp only [NM] at h6
     try simp only [eq_two, decide_eq_true_eq, decide_eq_false_iff_not] at h6
     refine WP_skip ?_
     refine WP_seq ?_
     refine WP_block ?_
     refine WP_seq ?_
     refine WP_ops ?_
     refine WO_ixs rfl rfl (by first | omega | exact of_decide_eq_true (hall i (by omega))) ?_
     refine WO_ldI (x := K i) rfl rfl (.tail _ (.tail _ (.tail _ (.head _)))) (congrArg K (by omega)) ?_
     refine WO_mv (v := .s (.int _ _)) rfl ?_
     refine WO_nil ?_
     refine WP_ops ?_
     refine WO_mv (v := .s (.int _ _)) rfl ?_
     first | refine WO_ldA0 rfl rfl (.tail _ (.head _)) ?_ | refine WO_ldAI rfl rfl (.tail _ (.head _)) ?_
     refine WO_fa (o' := 0) rfl rfl rfl ?_
     refine WO_ixa rfl rfl rfl (by first | omega | exact of_decide_eq_true (hall i (by omega))) ?_
     refine WO_stA rfl rfl rfl rfl (.there (.there .here)) ?_
     refine WO_nil ?_
     refine WP_ops ?_
     refine WO_add rfl rfl (by omega) ?_
     refine WO_mv (v := .s (.int _ _)) rfl ?_
     refine WO_nil ?_
     exact ⟨nn - (i + 1), _, by omega, (.cons_cons _ (.cons_cons _ (.cons_cons _ (.cons_cons _ .slnil)))), i + 1, by omega, rfl, rfl, rfl, rfl, rfl, rfl, rfl, rfl⟩
    ·try simp only [NM] at h6
     try simp only [eq_two, decide_eq_true_eq, decide_eq_false_iff_not] at h6
     refine WP_exit ?_
     refine xhere ?_
     refine WP_seq ?_
     refine WP_ops ?_
     first | refine WO_ldA0 rfl rfl (.tail _ (.tail _ (.head _))) ?_ | refine WO_ldAI rfl rfl (.tail _ (.tail _ (.head _))) ?_
     refine WO_stA rfl rfl rfl rfl .here ?_
     refine WO_mv rfl ?_
     refine WO_nil ?_
     refine WP_ret ?_
     refine ⟨_, RS_cell rfl rfl (.head _) (RS_tmp (v := .s (.int _ _)) rfl (RS_nil)), ?_⟩
     obtain rfl : i = nn := by omega
     exact ⟨put_good (putE_0 hok hall), (.tail _ (.tail _ (.tail _ (.head _))))⟩
 ·try simp only [NM] at h3
  try simp only [eq_two, decide_eq_true_eq, decide_eq_false_iff_not] at h3
  refine WO_gf rfl rfl ?_
  refine WO_gf rfl rfl ?_
  refine WO_gf rfl rfl ?_
  refine WO_pick (v := .s (.bool _)) rfl rfl ?_
  refine WO_nil ?_
  refine WP_cond rfl (fun h => nomatch h) (fun _ => ?_)
  refine WP_skip ?_
  refine WP_cut (fun f n L => ((X 0 = 0 ∧ X 1 = 0) ∨ mayM (X 0) (X 1) = true) ∧ (∀ j : Nat, j < nn → isM (K j) = true) ∧ (f 2 = .sl 0 0 nn 1 c) ∧ (f 3 = .ptr 1 0 133) ∧ (f 4 = .ptr 2 0 2) ∧ (f 6 = .ptr 3 0 133) ∧ (L = [(3, .sc .var 133 (ia fun _ => 0)), (2, .sc .var 2 (ia X)), (1, .sc .var 133 (ia P)), (0, .sc md q (ia K))]) ∧ (n = 4)) ?_ (fun f nb L hI => ?_)
  ·skip
   refine WP_seq ?_
   refine WP_ops ?_
   refine WO_mv (v := .sl _ _ _ _ _) rfl ?_
   obtain ⟨bc, hbc, hC⟩ := ContainsFunc_ex (md := md) (q := q) (c := c) K nn hnn
   refine WO_call (rs := [0]) (Bs := [_]) rfl (hC) rfl rfl (Nat.le_of_ble_eq_true rfl) (fun _ h => h) rfl ⟨(.tail _ (.tail _ (.tail _ (.head _)))), ⟨_, _, _, rfl⟩, trivial⟩ rfl rfl rfl (.cons (.there (.there (.there .here))) .nil) ?_
   refine WO_nil ?_
   refine WP_cond rfl (fun h7 => ?_) (fun h7 => ?_)
   ·try simp only [NM] at h7
    try simp only [eq_two, decide_eq_true_eq, decide_eq_false_iff_not] at h7
    refine WP_seq ?_
    refine WP_ops ?_
    refine WO_buildI rfl .nil ?_
    refine WO_stA rfl rfl rfl rfl .here ?_
    refine WO_mv rfl ?_
    refine WO_nil ?_
    refine WP_ret ?_
    refine ⟨_, RS_cell rfl rfl (.head _) (RS_tmp (v := .s (.int _ _)) rfl (RS_nil)), ?_⟩
    exact ⟨put_bad (putE_6 (by first | exact .inl (by assumption) | exact .inr (by assumption)) (fun q => absurd ((hbc.2 q).symm.trans (by assumption)) (by decide))) (by decide), (.tail _ (.tail _ (.tail _ (.head _))))⟩
   ·try simp only [NM] at h7
    try simp only [eq_two, decide_eq_true_eq, decide_eq_false_iff_not] at h7
    refine WP_skip ?_
    refine ⟨_, (.cons_cons _ (.cons_cons _ (.cons_cons _ (.cons_cons _ .slnil)))), ?_, hbc.1 (by assumption), rfl, rfl, rfl, rfl, rfl, rfl⟩
    first | exact .inl (by assumption) | exact .inr (by assumption)
  ·skip
   obtain ⟨hok, hall, k2, k3, k4, k6, rfl, rfl⟩ := hI
   refine WP_know (d := 2) (v := .sl 0 0 nn 1 c) k2 ?_
   refine WP_know (d := 3) (v := .ptr 1 0 133) k3 ?_
   refine WP_know (d := 4) (v := .ptr 2 0 2) k4 ?_
   refine WP_know (d := 6) (v := .ptr 3 0 133) k6 ?_
   refine WP_seq ?_
   refine WP_seq ?_
   refine WP_ops ?_
   refine WO_mv (v := .sl _ _ _ _ _) rfl ?_
   refine WO_len rfl ?_
   refine WO_mv rfl ?_
   refine WO_nil ?_
   refine WP_block ?_
   refine WP_sub (L' := [_, _, _, _]) (.cons_cons _ (.cons_cons _ (.cons_cons _ (.cons_cons _ .slnil)))) ?_
   refine WP_loop (fun m f _ L => ∃ (i : Nat), (i ≤ nn) ∧ (m = nn - i) ∧ (f 3 = .ptr 1 0 133) ∧ (f 4 = .ptr 2 0 2) ∧ (f 6 = .ptr 3 0 133) ∧ (f 22 = .sl 0 0 nn 1 c) ∧ (f 23 = .s (.int .i64 nn)) ∧ (f 24 = .s (.int .i64 i)) ∧ (L = [(3, .sc .var 133 (ia fun _ => 0)), (2, .sc .var 2 (ia X)), (1, .sc .var 133 (ia (putS P X K i))), (0, .sc md q (ia K))])) (fun m f nb L hI => ?_) (nn) ⟨0, by omega, rfl, rfl, rfl, rfl, rfl, rfl, rfl, rfl⟩
   obtain ⟨i, hi, hm, k3, k4, k6, k22, k23, k24, rfl⟩ := hI
   refine WP_know (d := 3) (v := .ptr 1 0 133) k3 ?_
   refine WP_know (d := 4) (v := .ptr 2 0 2) k4 ?_
   refine WP_know (d := 6) (v := .ptr 3 0 133) k6 ?_
   refine WP_know (d := 22) (v := .sl 0 0 nn 1 c) k22 ?_
   refine WP_know (d := 23) (v := .s (.int .i64 nn)) k23 ?_
   refine WP_know (d := 24) (v := .s (.int .i64 i)) k24 ?_
   refine WP_seq ?_
   refine WP_ops ?_
   refine WO_bin (r := .bool _) rfl rfl rfl ?_
   refine WO_nil ?_
   refine WP_seq ?_
   refine WP_cond rfl (fun h8 => ?_) (fun h8 => ?_)
   ·try simp only [NM] at h8
    try simp only [eq_two, decide_eq_true_eq, decide_eq_false_iff_not] at h8
    refine WP_skip ?_
    refine WP_seq ?_
    refine WP_block ?_
    refine WP_seq ?_
    refine WP_ops ?_
    refine WO_ixs rfl rfl (by first | omega | exact of_decide_eq_true (hall i (by omega))) ?_
    refine WO_ldI (x := K i) rfl rfl (.tail _ (.tail _ (.tail _ (.head _)))) (congrArg K (by omega)) ?_
    refine WO_mv (v := .s (.int _ _)) rfl ?_
    refine WO_nil ?_
    refine WP_ops ?_
    refine WO_mv (v := .s (.int _ _)) rfl ?_
    first | refine WO_ldA0 rfl rfl (.tail _ (.head _)) ?_ | refine WO_ldAI rfl rfl (.tail _ (.head _)) ?_
    refine WO_fa (o' := 0) rfl rfl rfl ?_
    refine WO_ixa rfl rfl rfl (by first | omega | exact of_decide_eq_true (hall i (by omega))) ?_
    refine WO_stA rfl rfl rfl rfl (.there (.there .here)) ?_
    refine WO_nil ?_
    refine WP_ops ?_
    refine WO_add rfl rfl (by omega) ?_
    refine WO_mv (v := .s (.int _ _)) rfl ?_
    refine WO_nil ?_
    exact ⟨nn - (i + 1), _, by omega, (.cons_cons _ (.cons_cons _ (.cons_cons _ (.cons_cons _ .slnil)))), i + 1, by omega, rfl, rfl, rfl, rfl, rfl, rfl, rfl, rfl⟩
   ·try simp only [NM] at h8
    try simp only [eq_two, decide_eq_true_eq, decide_eq_false_iff_not] at h8
    refine WP_exit ?_
    refine xhere ?_
    refine WP_seq ?_
    refine WP_ops ?_
    first | refine WO_ldA0 rfl rfl (.tail _ (.tail _ (.head _))) ?_ | refine WO_ldAI rfl rfl (.tail _ (.tail _ (.head _))) ?_
    refine WO_stA rfl rfl rfl rfl .here ?_
    refine WO_mv rfl ?_
    refine WO_nil ?_
    refine WP_ret ?_
    refine ⟨_, RS_cell rfl rfl (.head _) (RS_tmp (v := .s (.int _ _)) rfl (RS_nil)), ?_⟩
    obtain rfl : i = nn := by omega
    exact ⟨put_good (putE_0 hok hall), (.tail _ (.tail _ (.tail _ (.head _))))⟩
theorem dPut_walk {md : Md} {q : Nat} {c : Cp} (P X K : Nat → Int) (nn : Nat) (hnn : nn ≤ 1000000) : WR AM 70 [.agg 133 (ia P), .agg 2 (ia X), .sl 0 0 nn 1 c] [.sc md q (ia K)] (fun v _ L => v = .tup [.agg 133 (ia (putQ P X K nn)), .s (.int .i64 (putE X K nn))] ∧ (0, Blk.sc md q (ia K)) ∈ L) := by
 refine WR_fn (a := a70) rfl rfl (entryF _) (entry_E (Nat.le_of_ble_eq_true rfl)) (m := 1) rfl ?_
 refine WP_seq ?_
 refine WP_ops ?_
 refine WO_boxA rfl ?_
 refine WO_boxA rfl ?_
 refine WO_allocI ?_
 refine WO_mv rfl ?_
 refine WO_nil ?_
 refine WP_cut (fun f n L => ((X 0 = 0 ∧ X 1 = 0) ∨ mayM (X 0) (X 1) = true) ∧ (f 2 = .sl 0 0 nn 1 c) ∧ (f 3 = .ptr 1 0 133) ∧ (f 4 = .ptr 2 0 2) ∧ (f 6 = .ptr 3 0 133) ∧ (L = [(3, .sc .var 133 (ia fun _ => 0)), (2, .sc .var 2 (ia X)), (1, .sc .var 133 (ia P)), (0, .sc md q (ia K))]) ∧ (n = 4)) ?_ (fun f nb L hI => ?_)
 ·skip
  refine WP_seq ?_
  refine WP_ops ?_
  first | refine WO_ldA0 rfl rfl (.tail _ (.head _)) ?_ | refine WO_ldAI rfl rfl (.tail _ (.head _)) ?_
  refine WO_call0 rfl (RF_of (none_run X)) rfl rfl rfl ?_
  refine WO_un (r := .bool _) rfl rfl ?_
  refine WO_mv (v := .s (.bool _)) rfl ?_
  refine WO_case (t := 13) rfl (fun h9 => ?_) (fun h9 => ?_)
  ·try simp only [NM] at h9
   try simp only [isM, decide_eq_true_eq, decide_eq_false_iff_not] at h9
   refine WO_gt rfl ?_
   first | refine WO_ldA0 rfl rfl (.tail _ (.head _)) ?_ | refine WO_ldAI rfl rfl (.tail _ (.head _)) ?_
   refine WO_gt rfl ?_
   refine WO_call0 rfl (RF_of (rMay_run X)) rfl rfl rfl ?_
   refine WO_gt rfl ?_
   refine WO_un (r := .bool _) rfl rfl ?_
   refine WO_pick (v := .s (.bool _)) rfl rfl ?_
   refine WO_nil ?_
   refine WP_cond rfl (fun h10 => ?_) (fun h10 => ?_)
   ·try simp only [NM] at h10
    try simp only [isM, decide_eq_true_eq, decide_eq_false_iff_not] at h10
    refine WP_seq ?_
    refine WP_ops ?_
    refine WO_buildI rfl .nil ?_
    refine WO_stA rfl rfl rfl rfl .here ?_
    refine WO_mv rfl ?_
    refine WO_nil ?_
    refine WP_ret ?_
    refine ⟨_, RS_cell rfl rfl (.head _) (RS_tmp (v := .s (.int _ _)) rfl (RS_nil)), ?_⟩
    exact ⟨put_bad (putE_2 (by assumption) (by assumption)) (by decide), (.tail _ (.tail _ (.tail _ (.head _))))⟩
   ·try simp only [NM] at h10
    try simp only [isM, decide_eq_true_eq, decide_eq_false_iff_not] at h10
    refine WP_skip ?_
    refine ⟨_, (.cons_cons _ (.cons_cons _ (.cons_cons _ (.cons_cons _ .slnil)))), ?_, rfl, rfl, rfl, rfl, rfl, rfl⟩
    first | exact .inl (by assumption) | exact .inr (by assumption)
  ·try simp only [NM] at h9
   try simp only [isM, decide_eq_true_eq, decide_eq_false_iff_not] at h9
   refine WO_gf rfl rfl ?_
   refine WO_gf rfl rfl ?_
   refine WO_gf rfl rfl ?_
   refine WO_pick (v := .s (.bool _)) rfl rfl ?_
   refine WO_nil ?_
   refine WP_cond rfl (fun h => nomatch h) (fun _ => ?_)
   refine WP_skip ?_
   refine ⟨_, (.cons_cons _ (.cons_cons _ (.cons_cons _ (.cons_cons _ .slnil)))), ?_, rfl, rfl, rfl, rfl, rfl, rfl⟩
   first | exact .inl (by assumption) | exact .inr (by assumption)
 ·skip
  obtain ⟨hok, k2, k3, k4, k6, rfl, rfl⟩ := hI
  refine WP_know (d := 2) (v := .sl 0 0 nn 1 c) k2 ?_
  refine WP_know (d := 3) (v := .ptr 1 0 133) k3 ?_
  refine WP_know (d := 4) (v := .ptr 2 0 2) k4 ?_
  refine WP_know (d := 6) (v := .ptr 3 0 133) k6 ?_
  refine WP_seq ?_
  refine WP_seq ?_
  refine WP_ops ?_
  refine WO_mv rfl ?_
  refine WO_nil ?_
  refine WP_block ?_
  refine WP_sub (L' := [_, _, _, _]) (.cons_cons _ (.cons_cons _ (.cons_cons _ (.cons_cons _ .slnil)))) ?_
  refine WP_loop (fun m f _ L => ∃ (i : Nat), (i ≤ nn) ∧ (m = nn - i) ∧ (∀ j : Nat, j < i → isM (K j) = true) ∧ (f 2 = .sl 0 0 nn 1 c) ∧ (f 3 = .ptr 1 0 133) ∧ (f 4 = .ptr 2 0 2) ∧ (f 6 = .ptr 3 0 133) ∧ (f 8 = .s (.int .i64 i)) ∧ (L = [(3, .sc .var 133 (ia fun _ => 0)), (2, .sc .var 2 (ia X)), (1, .sc .var 133 (ia P)), (0, .sc md q (ia K))])) (fun m f nb L hI => ?_) (nn) ⟨0, by omega, rfl, fun j h => by omega, rfl, rfl, rfl, rfl, rfl, rfl⟩
  obtain ⟨i, hi, hm, hn, k2, k3, k4, k6, k8, rfl⟩ := hI
  refine WP_know (d := 2) (v := .sl 0 0 nn 1 c) k2 ?_
  refine WP_know (d := 3) (v := .ptr 1 0 133) k3 ?_
  refine WP_know (d := 4) (v := .ptr 2 0 2) k4 ?_
  refine WP_know (d := 6) (v := .ptr 3 0 133) k6 ?_
  refine WP_know (d := 8) (v := .s (.int .i64 i)) k8 ?_
  refine WP_seq ?_
  refine WP_seq ?_
  refine WP_ops ?_
  refine WO_mv (v := .s (.int _ _)) rfl ?_
  refine WO_mv (v := .sl _ _ _ _ _) rfl ?_
  refine WO_len rfl ?_
  refine WO_bin (r := .bool _) rfl rfl rfl ?_
  refine WO_nil ?_
  refine WP_cond rfl (fun h11 => ?_) (fun h11 => ?_)
  ·try simp only [NM] at h11
   try simp only [isM, decide_eq_true_eq, decide_eq_false_iff_not] at h11
   refine WP_skip ?_
   refine WP_seq ?_
   refine WP_block ?_
   refine WP_seq ?_
   refine WP_ops ?_
   refine WO_mv (v := .sl _ _ _ _ _) rfl ?_
   refine WO_mv (v := .s (.int _ _)) rfl ?_
   refine WO_ixs rfl rfl (by first | omega | exact of_decide_eq_true (hall i (by omega))) ?_
   refine WO_ldI (x := K i) rfl rfl (.tail _ (.tail _ (.tail _ (.head _)))) (congrArg K (by omega)) ?_
   refine WO_bin (r := .bool _) rfl rfl rfl ?_
   refine WO_mv (v := .s (.bool _)) rfl ?_
   refine WO_case (t := 30) rfl (fun h12 => ?_) (fun h12 => ?_)
   ·try simp only [NM] at h12
    try simp only [isM, decide_eq_true_eq, decide_eq_false_iff_not] at h12
    refine WO_gf rfl rfl ?_
    refine WO_gf rfl rfl ?_
    refine WO_gf rfl rfl ?_
    refine WO_gf rfl rfl ?_
    refine WO_gf rfl rfl ?_
    refine WO_pick (v := .s (.bool _)) rfl rfl ?_
    refine WO_nil ?_
    refine WP_cond rfl (fun _ => ?_) (fun h => nomatch h)
    refine WP_seq ?_
    refine WP_ops ?_
    refine WO_buildI rfl .nil ?_
    refine WO_stA rfl rfl rfl rfl .here ?_
    refine WO_mv rfl ?_
    refine WO_nil ?_
    refine WP_ret ?_
    refine ⟨_, RS_cell rfl rfl (.head _) (RS_tmp (v := .s (.int _ _)) rfl (RS_nil)), ?_⟩
    exact ⟨put_bad (putE_6 hok (fun q => by have := of_decide_eq_true (q i (by omega)); omega)) (by decide), (.tail _ (.tail _ (.tail _ (.head _))))⟩
   ·try simp only [NM] at h12
    try simp only [isM, decide_eq_true_eq, decide_eq_false_iff_not] at h12
    refine WO_gt rfl ?_
    refine WO_mv (v := .sl _ _ _ _ _) rfl ?_
    refine WO_gt rfl ?_
    refine WO_mv (v := .s (.int _ _)) rfl ?_
    refine WO_gt rfl ?_
    refine WO_ixs rfl rfl (by first | omega | exact of_decide_eq_true (hall i (by omega))) ?_
    refine WO_gt rfl ?_
    refine WO_ldI (x := K i) rfl rfl (.tail _ (.tail _ (.tail _ (.head _)))) (congrArg K (by omega)) ?_
    refine WO_gt rfl ?_
    refine WO_bin (r := .bool _) rfl rfl rfl ?_
    refine WO_pick (v := .s (.bool _)) rfl rfl ?_
    refine WO_nil ?_
    refine WP_cond rfl (fun h13 => ?_) (fun h13 => ?_)
    ·try simp only [NM] at h13
     try simp only [isM, decide_eq_true_eq, decide_eq_false_iff_not] at h13
     refine WP_seq ?_
     refine WP_ops ?_
     refine WO_buildI rfl .nil ?_
     refine WO_stA rfl rfl rfl rfl .here ?_
     refine WO_mv rfl ?_
     refine WO_nil ?_
     refine WP_ret ?_
     refine ⟨_, RS_cell rfl rfl (.head _) (RS_tmp (v := .s (.int _ _)) rfl (RS_nil)), ?_⟩
     exact ⟨put_bad (putE_6 hok (fun q => by have := of_decide_eq_true (q i (by omega)); omega)) (by decide), (.tail _ (.tail _ (.tail _ (.head _))))⟩
    ·try simp only [NM] at h13
     try simp only [isM, decide_eq_true_eq, decide_eq_false_iff_not] at h13
     refine WP_skip ?_
     refine WP_ops ?_
     refine WO_mv (v := .s (.int _ _)) rfl ?_
     refine WO_add rfl rfl (by omega) ?_
     refine WO_mv (v := .s (.int _ _)) rfl ?_
     refine WO_nil ?_
     refine ⟨nn - (i + 1), _, by omega, (.cons_cons _ (.cons_cons _ (.cons_cons _ (.cons_cons _ .slnil)))), i + 1, by omega, rfl, ?_, rfl, rfl, rfl, rfl, rfl, rfl⟩
     intro j hj
     by_cases e : j = i
     · subst e; exact decide_eq_true (by omega)
     · exact hn j (by omega)
  ·try simp only [NM] at h11
   try simp only [isM, decide_eq_true_eq, decide_eq_false_iff_not] at h11
   refine WP_exit ?_
   refine xhere ?_
   refine WP_seq ?_
   refine WP_seq ?_
   refine WP_ops ?_
   refine WO_mv rfl ?_
   refine WO_nil ?_
   refine WP_block ?_
   have hall : ∀ j : Nat, j < nn → isM (K j) = true := fun j hj => hn j (by omega)
   refine WP_sub (L' := [_, _, _, _]) (.cons_cons _ (.cons_cons _ (.cons_cons _ (.cons_cons _ .slnil)))) ?_
   refine WP_loop (fun m f _ L => ∃ (i : Nat), (i ≤ nn) ∧ (m = nn - i) ∧ (f 2 = .sl 0 0 nn 1 c) ∧ (f 3 = .ptr 1 0 133) ∧ (f 4 = .ptr 2 0 2) ∧ (f 6 = .ptr 3 0 133) ∧ (f 9 = .s (.int .i64 i)) ∧ (L = [(3, .sc .var 133 (ia fun _ => 0)), (2, .sc .var 2 (ia X)), (1, .sc .var 133 (ia (putS P X K i))), (0, .sc md q (ia K))])) (fun m f nb L hI => ?_) (nn) ⟨0, by omega, rfl, rfl, rfl, rfl, rfl, rfl, rfl⟩
   obtain ⟨i, hi, hm, k2, k3, k4, k6, k9, rfl⟩ := hI
   refine WP_know (d := 2) (v := .sl 0 0 nn 1 c) k2 ?_
   refine WP_know (d := 3) (v := .ptr 1 0 133) k3 ?_
   refine WP_know (d := 4) (v := .ptr 2 0 2) k4 ?_
   refine WP_know (d := 6) (v := .ptr 3 0 133) k6 ?_
   refine WP_know (d := 9) (v := .s (.int .i64 i)) k9 ?_
   refine WP_seq ?_
   refine WP_seq ?_
   refine WP_ops ?_
   refine WO_mv (v := .s (.int _ _)) rfl ?_
   refine WO_mv (v := .sl _ _ _ _ _) rfl ?_
   refine WO_len rfl ?_
   refine WO_bin (r := .bool _) rfl rfl rfl ?_
   refine WO_nil ?_
   refine WP_cond rfl (fun h14 => ?_) (fun h14 => ?_)
   ·try simp only [NM] at h14
    try simp only [isM, decide_eq_true_eq, decide_eq_false_iff_not] at h14
    refine WP_skip ?_
    refine WP_seq ?_
    refine WP_block ?_
    refine WP_ops ?_
    refine WO_mv (v := .sl _ _ _ _ _) rfl ?_
    refine WO_mv (v := .s (.int _ _)) rfl ?_
    refine WO_ixs rfl rfl (by first | omega | exact of_decide_eq_true (hall i (by omega))) ?_
    refine WO_ldI (x := K i) rfl rfl (.tail _ (.tail _ (.tail _ (.head _)))) (congrArg K (by omega)) ?_
    first | refine WO_ldA0 rfl rfl (.tail _ (.head _)) ?_ | refine WO_ldAI rfl rfl (.tail _ (.head _)) ?_
    refine WO_fa (o' := 0) rfl rfl rfl ?_
    refine WO_ixa rfl rfl rfl (by first | omega | exact of_decide_eq_true (hall i (by omega))) ?_
    refine WO_stA rfl rfl rfl rfl (.there (.there .here)) ?_
    refine WO_nil ?_
    refine WP_ops ?_
    refine WO_mv (v := .s (.int _ _)) rfl ?_
    refine WO_add rfl rfl (by omega) ?_
    refine WO_mv (v := .s (.int _ _)) rfl ?_
    refine WO_nil ?_
    exact ⟨nn - (i + 1), _, by omega, (.cons_cons _ (.cons_cons _ (.cons_cons _ (.cons_cons _ .slnil)))), i + 1, by omega, rfl, rfl, rfl, rfl, rfl, rfl, rfl⟩
   ·try simp only [NM] at h14
    try simp only [isM, decide_eq_true_eq, decide_eq_false_iff_not] at h14
    refine WP_exit ?_
    refine xhere ?_
    refine WP_seq ?_
    refine WP_ops ?_
    first | refine WO_ldA0 rfl rfl (.tail _ (.tail _ (.head _))) ?_ | refine WO_ldAI rfl rfl (.tail _ (.tail _ (.head _))) ?_
    refine WO_stA rfl rfl rfl rfl .here ?_
    refine WO_mv rfl ?_
    refine WO_nil ?_
    refine WP_ret ?_
    refine ⟨_, RS_cell rfl rfl (.head _) (RS_tmp (v := .s (.int _ _)) rfl (RS_nil)), ?_⟩
    obtain rfl : i = nn := by omega
    exact ⟨put_good (putE_0 hok hall), (.tail _ (.tail _ (.tail _ (.head _))))⟩
theorem dPut_walkN (P X : Nat → Int) : WR AM 70 [.agg 133 (ia P), .agg 2 (ia X), .snil] [] (fun v _ L => v = .tup [.agg 133 (ia (putQ P X (fun _ => 0) 0)), .s (.int .i64 (putE X (fun _ => 0) 0))]) := by
 refine WR_fn (a := a70) rfl rfl (entryF _) (entry_E (Nat.le_of_ble_eq_true rfl)) (m := 0) rfl ?_
 refine WP_seq ?_
 refine WP_ops ?_
 refine WO_boxA rfl ?_
 refine WO_boxA rfl ?_
 refine WO_allocI ?_
 refine WO_mv rfl ?_
 refine WO_nil ?_
 refine WP_cut (fun f n L => ((X 0 = 0 ∧ X 1 = 0) ∨ mayM (X 0) (X 1) = true) ∧ (f 2 = .snil) ∧ (f 3 = .ptr 0 0 133) ∧ (f 4 = .ptr 1 0 2) ∧ (f 6 = .ptr 2 0 133) ∧ (L = [(2, .sc .var 133 (ia fun _ => 0)), (1, .sc .var 2 (ia X)), (0, .sc .var 133 (ia P))]) ∧ (n = 3)) ?_ (fun f nb L hI => ?_)
 ·skip
  refine WP_seq ?_
  refine WP_ops ?_
  first | refine WO_ldA0 rfl rfl (.tail _ (.head _)) ?_ | refine WO_ldAI rfl rfl (.tail _ (.head _)) ?_
  refine WO_call0 rfl (RF_of (none_run X)) rfl rfl rfl ?_
  refine WO_un (r := .bool _) rfl rfl ?_
  refine WO_mv (v := .s (.bool _)) rfl ?_
  refine WO_case (t := 13) rfl (fun h15 => ?_) (fun h15 => ?_)
  ·try simp only [NM] at h15
   try simp only [isM, decide_eq_true_eq, decide_eq_false_iff_not] at h15
   refine WO_gt rfl ?_
   first | refine WO_ldA0 rfl rfl (.tail _ (.head _)) ?_ | refine WO_ldAI rfl rfl (.tail _ (.head _)) ?_
   refine WO_gt rfl ?_
   refine WO_call0 rfl (RF_of (rMay_run X)) rfl rfl rfl ?_
   refine WO_gt rfl ?_
   refine WO_un (r := .bool _) rfl rfl ?_
   refine WO_pick (v := .s (.bool _)) rfl rfl ?_
   refine WO_nil ?_
   refine WP_cond rfl (fun h16 => ?_) (fun h16 => ?_)
   ·try simp only [NM] at h16
    try simp only [isM, decide_eq_true_eq, decide_eq_false_iff_not] at h16
    refine WP_seq ?_
    refine WP_ops ?_
    refine WO_buildI rfl .nil ?_
    refine WO_stA rfl rfl rfl rfl .here ?_
    refine WO_mv rfl ?_
    refine WO_nil ?_
    refine WP_ret ?_
    refine ⟨_, RS_cell rfl rfl (.head _) (RS_tmp (v := .s (.int _ _)) rfl (RS_nil)), ?_⟩
    exact put_bad (K := fun _ => 0) (n := 0) (putE_2 (by assumption) (by assumption)) (by decide)
   ·try simp only [NM] at h16
    try simp only [isM, decide_eq_true_eq, decide_eq_false_iff_not] at h16
    refine WP_skip ?_
    refine ⟨_, (.cons_cons _ (.cons_cons _ (.cons_cons _ .slnil))), ?_, rfl, rfl, rfl, rfl, rfl, rfl⟩
    first | exact .inl (by assumption) | exact .inr (by assumption)
  ·try simp only [NM] at h15
   try simp only [isM, decide_eq_true_eq, decide_eq_false_iff_not] at h15
   refine WO_gf rfl rfl ?_
   refine WO_gf rfl rfl ?_
   refine WO_gf rfl rfl ?_
   refine WO_pick (v := .s (.bool _)) rfl rfl ?_
   refine WO_nil ?_
   refine WP_cond rfl (fun h => nomatch h) (fun _ => ?_)
   refine WP_skip ?_
   refine ⟨_, (.cons_cons _ (.cons_cons _ (.cons_cons _ .slnil))), ?_, rfl, rfl, rfl, rfl, rfl, rfl⟩
   first | exact .inl (by assumption) | exact .inr (by assumption)
 ·skip
  obtain ⟨hok, k2, k3, k4, k6, rfl, rfl⟩ := hI
  refine WP_know (d := 2) (v := .snil) k2 ?_
  refine WP_know (d := 3) (v := .ptr 0 0 133) k3 ?_
  refine WP_know (d := 4) (v := .ptr 1 0 2) k4 ?_
  refine WP_know (d := 6) (v := .ptr 2 0 133) k6 ?_
  refine WP_seq ?_
  refine WP_seq ?_
  refine WP_ops ?_
  refine WO_mv rfl ?_
  refine WO_nil ?_
  refine WP_block ?_
  refine WP_loop (fun m f _ L => f 2 = .snil ∧ f 3 = .ptr 0 0 133 ∧ f 4 = .ptr 1 0 2 ∧ f 6 = .ptr 2 0 133 ∧ f 8 = .s (.int .i64 0) ∧ L = [(2, .sc .var 133 (ia fun _ => 0)), (1, .sc .var 2 (ia X)), (0, .sc .var 133 (ia P))]) (fun m f nb L hI => ?_) 0 ⟨rfl, rfl, rfl, rfl, rfl, rfl⟩
  obtain ⟨k2, k3, k4, k6, k8, rfl⟩ := hI
  refine WP_know (d := 2) (v := .snil) k2 ?_
  refine WP_know (d := 3) (v := .ptr 0 0 133) k3 ?_
  refine WP_know (d := 4) (v := .ptr 1 0 2) k4 ?_
  refine WP_know (d := 6) (v := .ptr 2 0 133) k6 ?_
  refine WP_know (d := 8) (v := .s (.int .i64 0)) k8 ?_
  refine WP_seq ?_
  refine WP_seq ?_
  refine WP_ops ?_
  refine WO_mv (v := .s (.int _ _)) rfl ?_
  refine WO_mv (v := .snil) rfl ?_
  refine WO_lenN rfl ?_
  refine WO_bin (r := .bool _) rfl rfl rfl ?_
  refine WO_nil ?_
  refine WP_cond rfl (fun h17 => ?_) (fun h17 => ?_)
  ·try simp only [NM] at h17
   try simp only [isM, decide_eq_true_eq, decide_eq_false_iff_not] at h17
   exfalso; first | omega | (simp at h17)
  ·try simp only [NM] at h17
   try simp only [isM, decide_eq_true_eq, decide_eq_false_iff_not] at h17
   refine WP_exit ?_
   refine xhere ?_
   refine WP_seq ?_
   refine WP_seq ?_
   refine WP_ops ?_
   refine WO_mv rfl ?_
   refine WO_nil ?_
   refine WP_block ?_
   refine WP_loop (fun m f _ L => f 2 = .snil ∧ f 3 = .ptr 0 0 133 ∧ f 4 = .ptr 1 0 2 ∧ f 6 = .ptr 2 0 133 ∧ f 9 = .s (.int .i64 0) ∧ L = [(2, .sc .var 133 (ia fun _ => 0)), (1, .sc .var 2 (ia X)), (0, .sc .var 133 (ia P))]) (fun m f nb L hI => ?_) 0 ⟨rfl, rfl, rfl, rfl, rfl, rfl⟩
   obtain ⟨k2, k3, k4, k6, k9, rfl⟩ := hI
   refine WP_know (d := 2) (v := .snil) k2 ?_
   refine WP_know (d := 3) (v := .ptr 0 0 133) k3 ?_
   refine WP_know (d := 4) (v := .ptr 1 0 2) k4 ?_
   refine WP_know (d := 6) (v := .ptr 2 0 133) k6 ?_
   refine WP_know (d := 9) (v := .s (.int .i64 0)) k9 ?_
   refine WP_seq ?_
   refine WP_seq ?_
   refine WP_ops ?_
   refine WO_mv (v := .s (.int _ _)) rfl ?_
   refine WO_mv (v := .snil) rfl ?_
   refine WO_lenN rfl ?_
   refine WO_bin (r := .bool _) rfl rfl rfl ?_
   refine WO_nil ?_
   refine WP_cond rfl (fun h18 => ?_) (fun h18 => ?_)
   ·try simp only [NM] at h18
    try simp only [isM, decide_eq_true_eq, decide_eq_false_iff_not] at h18
    exfalso; first | omega | (simp at h18)
   ·try simp only [NM] at h18
    try simp only [isM, decide_eq_true_eq, decide_eq_false_iff_not] at h18
    refine WP_exit ?_
    refine xhere ?_
    refine WP_seq ?_
    refine WP_ops ?_
    first | refine WO_ldA0 rfl rfl (.tail _ (.tail _ (.head _))) ?_ | refine WO_ldAI rfl rfl (.tail _ (.tail _ (.head _))) ?_
    refine WO_stA rfl rfl rfl rfl .here ?_
    refine WO_mv rfl ?_
    refine WO_nil ?_
    refine WP_ret ?_
    refine ⟨_, RS_cell rfl rfl (.head _) (RS_tmp (v := .s (.int _ _)) rfl (RS_nil)), ?_⟩
    exact put_good (K := fun _ => 0) (n := 0) (putE_0 hok (fun j h => by omega))
theorem dPut_walkZ (P X : Nat → Int) : WR AM 70 [.agg 133 (ia P), .agg 2 (ia X), .slz] [] (fun v _ L => v = .tup [.agg 133 (ia (putQ P X (fun _ => 0) 0)), .s (.int .i64 (putE X (fun _ => 0) 0))]) := by
 refine WR_fn (a := a70) rfl rfl (entryF _) (entry_E (Nat.le_of_ble_eq_true rfl)) (m := 0) rfl ?_
 refine WP_seq ?_
 refine WP_ops ?_
 refine WO_boxA rfl ?_
 refine WO_boxA rfl ?_
 refine WO_allocI ?_
 refine WO_mv rfl ?_
 refine WO_nil ?_
 refine WP_cut (fun f n L => ((X 0 = 0 ∧ X 1 = 0) ∨ mayM (X 0) (X 1) = true) ∧ (f 2 = .slz) ∧ (f 3 = .ptr 0 0 133) ∧ (f 4 = .ptr 1 0 2) ∧ (f 6 = .ptr 2 0 133) ∧ (L = [(2, .sc .var 133 (ia fun _ => 0)), (1, .sc .var 2 (ia X)), (0, .sc .var 133 (ia P))]) ∧ (n = 3)) ?_ (fun f nb L hI => ?_)
 ·skip
  refine WP_seq ?_
  refine WP_ops ?_
  first | refine WO_ldA0 rfl rfl (.tail _ (.head _)) ?_ | refine WO_ldAI rfl rfl (.tail _ (.head _)) ?_
  refine WO_call0 rfl (RF_of (none_run X)) rfl rfl rfl ?_
  refine WO_un (r := .bool _) rfl rfl ?_
  refine WO_mv (v := .s (.bool _)) rfl ?_
  refine WO_case (t := 13) rfl (fun h19 => ?_) (fun h19 => ?_)
  ·try simp only [NM] at h19
   try simp only [isM, decide_eq_true_eq, decide_eq_false_iff_not] at h19
   refine WO_gt rfl ?_
   first | refine WO_ldA0 rfl rfl (.tail _ (.head _)) ?_ | refine WO_ldAI rfl rfl (.tail _ (.head _)) ?_
   refine WO_gt rfl ?_
   refine WO_call0 rfl (RF_of (rMay_run X)) rfl rfl rfl ?_
   refine WO_gt rfl ?_
   refine WO_un (r := .bool _) rfl rfl ?_
   refine WO_pick (v := .s (.bool _)) rfl rfl ?_
   refine WO_nil ?_
   refine WP_cond rfl (fun h20 => ?_) (fun h20 => ?_)
   ·try simp only [NM] at h20
    try simp only [isM, decide_eq_true_eq, decide_eq_false_iff_not] at h20
    refine WP_seq ?_
    refine WP_ops ?_
    refine WO_buildI rfl .nil ?_
    refine WO_stA rfl rfl rfl rfl .here ?_
    refine WO_mv rfl ?_
    refine WO_nil ?_
    refine WP_ret ?_
    refine ⟨_, RS_cell rfl rfl (.head _) (RS_tmp (v := .s (.int _ _)) rfl (RS_nil)), ?_⟩
    exact put_bad (K := fun _ => 0) (n := 0) (putE_2 (by assumption) (by assumption)) (by decide)
   ·try simp only [NM] at h20
    try simp only [isM, decide_eq_true_eq, decide_eq_false_iff_not] at h20
    refine WP_skip ?_
    refine ⟨_, (.cons_cons _ (.cons_cons _ (.cons_cons _ .slnil))), ?_, rfl, rfl, rfl, rfl, rfl, rfl⟩
    first | exact .inl (by assumption) | exact .inr (by assumption)
  ·try simp only [NM] at h19
   try simp only [isM, decide_eq_true_eq, decide_eq_false_iff_not] at h19
   refine WO_gf rfl rfl ?_
   refine WO_gf rfl rfl ?_
   refine WO_gf rfl rfl ?_
   refine WO_pick (v := .s (.bool _)) rfl rfl ?_
   refine WO_nil ?_
   refine WP_cond rfl (fun h => nomatch h) (fun _ => ?_)
   refine WP_skip ?_
   refine ⟨_, (.cons_cons _ (.cons_cons _ (.cons_cons _ .slnil))), ?_, rfl, rfl, rfl, rfl, rfl, rfl⟩
   first | exact .inl (by assumption) | exact .inr (by assumption)
 ·skip
  obtain ⟨hok, k2, k3, k4, k6, rfl, rfl⟩ := hI
  refine WP_know (d := 2) (v := .slz) k2 ?_
  refine WP_know (d := 3) (v := .ptr 0 0 133) k3 ?_
  refine WP_know (d := 4) (v := .ptr 1 0 2) k4 ?_
  refine WP_know (d := 6) (v := .ptr 2 0 133) k6 ?_
  refine WP_seq ?_
  refine WP_seq ?_
  refine WP_ops ?_
  refine WO_mv rfl ?_
  refine WO_nil ?_
  refine WP_block ?_
  refine WP_loop (fun m f _ L => f 2 = .slz ∧ f 3 = .ptr 0 0 133 ∧ f 4 = .ptr 1 0 2 ∧ f 6 = .ptr 2 0 133 ∧ f 8 = .s (.int .i64 0) ∧ L = [(2, .sc .var 133 (ia fun _ => 0)), (1, .sc .var 2 (ia X)), (0, .sc .var 133 (ia P))]) (fun m f nb L hI => ?_) 0 ⟨rfl, rfl, rfl, rfl, rfl, rfl⟩
  obtain ⟨k2, k3, k4, k6, k8, rfl⟩ := hI
  refine WP_know (d := 2) (v := .slz) k2 ?_
  refine WP_know (d := 3) (v := .ptr 0 0 133) k3 ?_
  refine WP_know (d := 4) (v := .ptr 1 0 2) k4 ?_
  refine WP_know (d := 6) (v := .ptr 2 0 133) k6 ?_
  refine WP_know (d := 8) (v := .s (.int .i64 0)) k8 ?_
  refine WP_seq ?_
  refine WP_seq ?_
  refine WP_ops ?_
  refine WO_mv (v := .s (.int _ _)) rfl ?_
  refine WO_mv (v := .slz) rfl ?_
  refine WO_lenZ rfl ?_
  refine WO_bin (r := .bool _) rfl rfl rfl ?_
  refine WO_nil ?_
  refine WP_cond rfl (fun h21 => ?_) (fun h21 => ?_)
  ·try simp only [NM] at h21
   try simp only [isM, decide_eq_true_eq, decide_eq_false_iff_not] at h21
   exfalso; first | omega | (simp at h21)
  ·try simp only [NM] at h21
   try simp only [isM, decide_eq_true_eq, decide_eq_false_iff_not] at h21
   refine WP_exit ?_
   refine xhere ?_
   refine WP_seq ?_
   refine WP_seq ?_
   refine WP_ops ?_
   refine WO_mv rfl ?_
   refine WO_nil ?_
   refine WP_block ?_
   refine WP_loop (fun m f _ L => f 2 = .slz ∧ f 3 = .ptr 0 0 133 ∧ f 4 = .ptr 1 0 2 ∧ f 6 = .ptr 2 0 133 ∧ f 9 = .s (.int .i64 0) ∧ L = [(2, .sc .var 133 (ia fun _ => 0)), (1, .sc .var 2 (ia X)), (0, .sc .var 133 (ia P))]) (fun m f nb L hI => ?_) 0 ⟨rfl, rfl, rfl, rfl, rfl, rfl⟩
   obtain ⟨k2, k3, k4, k6, k9, rfl⟩ := hI
   refine WP_know (d := 2) (v := .slz) k2 ?_
   refine WP_know (d := 3) (v := .ptr 0 0 133) k3 ?_
   refine WP_know (d := 4) (v := .ptr 1 0 2) k4 ?_
   refine WP_know (d := 6) (v := .ptr 2 0 133) k6 ?_
   refine WP_know (d := 9) (v := .s (.int .i64 0)) k9 ?_
   refine WP_seq ?_
   refine WP_seq ?_
   refine WP_ops ?_
   refine WO_mv (v := .s (.int _ _)) rfl ?_
   refine WO_mv (v := .slz) rfl ?_
   refine WO_lenZ rfl ?_
   refine WO_bin (r := .bool _) rfl rfl rfl ?_
   refine WO_nil ?_
   refine WP_cond rfl (fun h22 => ?_) (fun h22 => ?_)
   ·try simp only [NM] at h22
    try simp only [isM, decide_eq_true_eq, decide_eq_false_iff_not] at h22
    exfalso; first | omega | (simp at h22)
   ·try simp only [NM] at h22
    try simp only [isM, decide_eq_true_eq, decide_eq_false_iff_not] at h22
    refine WP_exit ?_
    refine xhere ?_
    refine WP_seq ?_
    refine WP_ops ?_
    first | refine WO_ldA0 rfl rfl (.tail _ (.tail _ (.head _))) ?_ | refine WO_ldAI rfl rfl (.tail _ (.tail _ (.head _))) ?_
    refine WO_stA rfl rfl rfl rfl .here ?_
    refine WO_mv rfl ?_
    refine WO_nil ?_
    refine WP_ret ?_
    refine ⟨_, RS_cell rfl rfl (.head _) (RS_tmp (v := .s (.int _ _)) rfl (RS_nil)), ?_⟩
    exact put_good (K := fun _ => 0) (n := 0) (putE_0 hok (fun j h => by omega))
theorem mark_run (i : Int) (hi : 0 ≤ i ∧ i < 1000) : WR AM 106 [.s (.int .i64 1), .s (.int .i64 i)] [] (fun v _ _ => v = .s (.int .i64 (1000003 * (1 + 7) + i))) := by
 refine WR_fn (a := a106) rfl rfl (entryF _) (entry_E (Nat.le_of_ble_eq_true rfl)) (m := 0) rfl ?_
 refine WP_seq ?_
 refine WP_ops ?_
 refine WO_mv rfl ?_
 refine WO_nil ?_
 refine WP_seq ?_
 refine WP_ops ?_
 refine WO_mv (v := .s (.int _ _)) rfl ?_
 refine WO_add rfl rfl (by omega) ?_
 refine WO_mul rfl rfl (by omega) ?_
 refine WO_mv (v := .s (.int _ _)) rfl ?_
 refine WO_add rfl rfl (by omega) ?_
 refine WO_mv (v := .s (.int _ _)) rfl ?_
 refine WO_nil ?_
 refine WP_ret ?_
 refine ⟨_, RS_tmp (v := .s (.int _ _)) rfl (RS_nil), ?_⟩
 rfl
theorem lent_step {G Rr K : Nat → Int} {nn i : Nat} (hG : ∀ j : Nat, j < nn → G j = K j) (hM : ∀ j : Nat, j < i → G (nn + j) = 1000003 * (1 + 7) + (j : Int)) (hr : Rr 0 = 1000003 * (1 + 7) + (i : Int)) :
    (∀ j : Nat, j < nn → ovA G (0 + (nn + i) * 1) (1 * 1) (fun a => Rr (0 + a)) j = K j) ∧ (∀ j : Nat, j < i + 1 → ovA G (0 + (nn + i) * 1) (1 * 1) (fun a => Rr (0 + a)) (nn + j) = 1000003 * (1 + 7) + (j : Int)) := by
  constructor
  · intro j hj
    rw [ovA_out (by omega)]; exact hG j hj
  · intro j hj
    by_cases e : j = i
    · subst e
      rw [ovA_at (by omega), show 0 + (nn + j - (0 + (nn + j) * 1)) = 0 by omega]; exact hr
    · rw [ovA_out (by omega)]; exact hM j (by omega)

theorem Lent_walk {md : Md} {q : Nat} {c : Cp} (K : Nat → Int) (nn : Nat) (hnn : nn ≤ 1000) : WR AM 69 [.sl 0 0 nn 1 c] [.sc md q (ia K)] (fun v _ L => ∃ b G, v = .sl b 0 nn 1 (.ex (nn + 12)) ∧ 1 ≤ b ∧ (b, Blk.sc .var (nn + 12) (ia G)) ∈ L ∧ (0, Blk.sc md q (ia K)) ∈ L ∧ (∀ j : Nat, j < nn → G j = K j) ∧ (∀ j : Nat, j < 12 → G (nn + j) = 1000003 * (1 + 7) + (j : Int))) := by
 refine WR_fn (a := a69) rfl rfl (entryF _) (entry_E (Nat.le_of_ble_eq_true rfl)) (m := 1) rfl ?_
 refine WP_seq ?_
 refine WP_ops ?_
 refine WO_mv rfl ?_
 refine WO_nil ?_
 refine WP_seq ?_
 refine WP_ops ?_
 refine WO_mv (v := .sl _ _ _ _ _) rfl ?_
 refine WO_len rfl ?_
 refine WO_add rfl rfl (by omega) ?_
 rw [show (((nn : Nat) : Int) + 12) = ((nn + 12 : Nat) : Int) by omega]
 refine WO_mkslI0 rfl rfl (by omega) (by simp [roomy] <;> omega) ?_
 refine WO_mv (v := .sl _ _ _ _ _) rfl ?_
 refine WO_nil ?_
 refine WP_seq ?_
 refine WP_ops ?_
 refine WO_mv (v := .sl _ _ _ _ _) rfl ?_
 refine WO_mv (v := .sl _ _ _ _ _) rfl ?_
 refine WO_appendX rfl rfl (.tail _ (.head _)) rfl (by omega) .here ?_
 rw [show 0 + nn = nn from Nat.zero_add nn]
 refine WO_mv (v := .sl _ _ _ _ _) rfl ?_
 refine WO_nil ?_
 refine WP_seq ?_
 refine WP_seq ?_
 refine WP_ops ?_
 refine WO_mv rfl ?_
 refine WO_nil ?_
 refine WP_block ?_
 refine WP_sub (L' := [_, _]) (.cons_cons _ (.cons_cons _ .slnil)) ?_
 refine WP_loop (fun m f _ L => ∃ (i : Nat) (G : Nat → Int), (i ≤ 12) ∧ (m = 12 - i) ∧ (∀ j : Nat, j < nn → G j = K j) ∧ (∀ j : Nat, j < i → G (nn + j) = 1000003 * (1 + 7) + (j : Int)) ∧ (f 0 = .sl 0 0 nn 1 c) ∧ (f 3 = .sl 1 0 (nn + i) 1 (.ex (nn + 12))) ∧ (f 4 = .s (.int .i64 i)) ∧ (L = [(1, .sc .var (nn + 12) (ia G)), (0, .sc md q (ia K))])) (fun m f nb L hI => ?_) (12) ⟨0, _, by omega, rfl, (fun j hj => by rw [ovA_at (by omega)]; exact congrArg K (by omega)), fun j h => by omega, rfl, rfl, rfl, rfl⟩
 obtain ⟨i, G, hi, hm, hG, hM, k0, k3, k4, rfl⟩ := hI
 refine WP_know (d := 0) (v := .sl 0 0 nn 1 c) k0 ?_
 refine WP_know (d := 3) (v := .sl 1 0 (nn + i) 1 (.ex (nn + 12))) k3 ?_
 refine WP_know (d := 4) (v := .s (.int .i64 i)) k4 ?_
 refine WP_seq ?_
 refine WP_seq ?_
 refine WP_ops ?_
 refine WO_mv (v := .s (.int _ _)) rfl ?_
 refine WO_bin (r := .bool _) rfl rfl rfl ?_
 refine WO_nil ?_
 refine WP_cond rfl (fun h23 => ?_) (fun h23 => ?_)
 ·try simp only [NM] at h23
  refine WP_skip ?_
  refine WP_seq ?_
  refine WP_block ?_
  refine WP_ops ?_
  refine WO_mv (v := .sl _ _ _ _ _) rfl ?_
  refine WO_mv (v := .s (.int _ _)) rfl ?_
  refine WO_call0 rfl (RF_of (mark_run _ (by omega))) rfl rfl rfl ?_
  refine WO_mkslS rfl (.one rfl .nil) ?_
  refine WO_appendX rfl rfl (.head _) rfl (by omega) (.there .here) ?_
  refine WO_mv (v := .sl _ _ _ _ _) rfl ?_
  refine WO_nil ?_
  refine WP_ops ?_
  refine WO_mv (v := .s (.int _ _)) rfl ?_
  refine WO_add rfl rfl (by omega) ?_
  refine WO_mv (v := .s (.int _ _)) rfl ?_
  refine WO_nil ?_
  have hst := lent_step hG hM (Rr := ov (fun _ => 0) (0 * 1) (1000003 * (1 + 7) + (i : Int))) rfl
  exact ⟨12 - (i + 1), _, by omega, (.cons _ (.cons_cons _ (.cons_cons _ .slnil))), i + 1, _, by omega, rfl, hst.1, hst.2, rfl, rfl, rfl, rfl⟩
 ·try simp only [NM] at h23
  refine WP_exit ?_
  refine xhere ?_
  refine WP_seq ?_
  refine WP_ops ?_
  refine WO_mv (v := .sl _ _ _ _ _) rfl ?_
  refine WO_mv (v := .sl _ _ _ _ _) rfl ?_
  refine WO_len rfl ?_
  refine WO_slVx rfl rfl ⟨by omega, by omega⟩ ?_
  refine WO_mv (v := .sl _ _ _ _ _) rfl ?_
  refine WO_nil ?_
  refine WP_ret ?_
  refine ⟨_, RS_tmp (v := .sl _ _ _ _ _) rfl (RS_nil), ?_⟩
  obtain rfl : i = 12 := by omega
  exact ⟨1, G, rfl, by omega, (.head _), (.tail _ (.head _)), hG, hM⟩
theorem Lent_walkN  : WR AM 69 [.snil] [] (fun v _ L => ∃ b G, v = .sl b 0 0 1 (.ex (0 + 12)) ∧ (b, Blk.sc .var (0 + 12) (ia G)) ∈ L ∧ (∀ j : Nat, j < 0 → G j = (fun _ => 0) j) ∧ (∀ j : Nat, j < 12 → G (0 + j) = 1000003 * (1 + 7) + (j : Int))) := by
 refine WR_fn (a := a69) rfl rfl (entryF _) (entry_E (Nat.le_of_ble_eq_true rfl)) (m := 0) rfl ?_
 refine WP_seq ?_
 refine WP_ops ?_
 refine WO_mv rfl ?_
 refine WO_nil ?_
 refine WP_seq ?_
 refine WP_ops ?_
 refine WO_mv (v := .snil) rfl ?_
 refine WO_lenN rfl ?_
 refine WO_add rfl rfl (by omega) ?_
 rw [show ((0 : Int) + 12) = ((0 + 12 : Nat) : Int) by omega]
 refine WO_mkslI0 rfl rfl (by omega) (by simp [roomy] <;> omega) ?_
 refine WO_mv (v := .sl _ _ _ _ _) rfl ?_
 refine WO_nil ?_
 refine WP_seq ?_
 refine WP_ops ?_
 refine WO_mv (v := .sl _ _ _ _ _) rfl ?_
 refine WO_mv (v := .snil) rfl ?_
 refine WO_appendX0 rfl rfl (.inl rfl) rfl (by omega) .here ?_
 refine WO_mv (v := .sl _ _ _ _ _) rfl ?_
 refine WO_nil ?_
 refine WP_seq ?_
 refine WP_seq ?_
 refine WP_ops ?_
 refine WO_mv rfl ?_
 refine WO_nil ?_
 refine WP_block ?_
 refine WP_sub (L' := [_]) (.cons_cons _ .slnil) ?_
 refine WP_loop (fun m f _ L => ∃ (i : Nat) (G : Nat → Int), (i ≤ 12) ∧ (m = 12 - i) ∧ (∀ j : Nat, j < 0 → G j = (fun _ => 0) j) ∧ (∀ j : Nat, j < i → G (0 + j) = 1000003 * (1 + 7) + (j : Int)) ∧ (f 0 = .snil) ∧ (f 3 = .sl 0 0 (0 + i) 1 (.ex (0 + 12))) ∧ (f 4 = .s (.int .i64 i)) ∧ (L = [(0, .sc .var (0 + 12) (ia G))])) (fun m f nb L hI => ?_) (12) ⟨0, _, by omega, rfl, (fun j h => by omega), fun j h => by omega, rfl, rfl, rfl, rfl⟩
 obtain ⟨i, G, hi, hm, hG, hM, k0, k3, k4, rfl⟩ := hI
 refine WP_know (d := 0) (v := .snil) k0 ?_
 refine WP_know (d := 3) (v := .sl 0 0 (0 + i) 1 (.ex (0 + 12))) k3 ?_
 refine WP_know (d := 4) (v := .s (.int .i64 i)) k4 ?_
 refine WP_seq ?_
 refine WP_seq ?_
 refine WP_ops ?_
 refine WO_mv (v := .s (.int _ _)) rfl ?_
 refine WO_bin (r := .bool _) rfl rfl rfl ?_
 refine WO_nil ?_
 refine WP_cond rfl (fun h24 => ?_) (fun h24 => ?_)
 ·try simp only [NM] at h24
  refine WP_skip ?_
  refine WP_seq ?_
  refine WP_block ?_
  refine WP_ops ?_
  refine WO_mv (v := .sl _ _ _ _ _) rfl ?_
  refine WO_mv (v := .s (.int _ _)) rfl ?_
  refine WO_call0 rfl (RF_of (mark_run _ (by omega))) rfl rfl rfl ?_
  refine WO_mkslS rfl (.one rfl .nil) ?_
  refine WO_appendX rfl rfl (.head _) rfl (by omega) (.there .here) ?_
  refine WO_mv (v := .sl _ _ _ _ _) rfl ?_
  refine WO_nil ?_
  refine WP_ops ?_
  refine WO_mv (v := .s (.int _ _)) rfl ?_
  refine WO_add rfl rfl (by omega) ?_
  refine WO_mv (v := .s (.int _ _)) rfl ?_
  refine WO_nil ?_
  have hst := lent_step hG hM (Rr := ov (fun _ => 0) (0 * 1) (1000003 * (1 + 7) + (i : Int))) rfl
  exact ⟨12 - (i + 1), _, by omega, (.cons _ (.cons_cons _ .slnil)), i + 1, _, by omega, rfl, hst.1, hst.2, rfl, rfl, rfl, rfl⟩
 ·try simp only [NM] at h24
  refine WP_exit ?_
  refine xhere ?_
  refine WP_seq ?_
  refine WP_ops ?_
  refine WO_mv (v := .sl _ _ _ _ _) rfl ?_
  refine WO_mv (v := .snil) rfl ?_
  refine WO_lenN rfl ?_
  refine WO_slVx rfl rfl ⟨by omega, by omega⟩ ?_
  refine WO_mv (v := .sl _ _ _ _ _) rfl ?_
  refine WO_nil ?_
  refine WP_ret ?_
  refine ⟨_, RS_tmp (v := .sl _ _ _ _ _) rfl (RS_nil), ?_⟩
  obtain rfl : i = 12 := by omega
  exact ⟨0, G, rfl, (.head _), hG, hM⟩
theorem Lent_walkZ  : WR AM 69 [.slz] [] (fun v _ L => ∃ b G, v = .sl b 0 0 1 (.ex (0 + 12)) ∧ (b, Blk.sc .var (0 + 12) (ia G)) ∈ L ∧ (∀ j : Nat, j < 0 → G j = (fun _ => 0) j) ∧ (∀ j : Nat, j < 12 → G (0 + j) = 1000003 * (1 + 7) + (j : Int))) := by
 refine WR_fn (a := a69) rfl rfl (entryF _) (entry_E (Nat.le_of_ble_eq_true rfl)) (m := 0) rfl ?_
 refine WP_seq ?_
 refine WP_ops ?_
 refine WO_mv rfl ?_
 refine WO_nil ?_
 refine WP_seq ?_
 refine WP_ops ?_
 refine WO_mv (v := .slz) rfl ?_
 refine WO_lenZ rfl ?_
 refine WO_add rfl rfl (by omega) ?_
 rw [show ((0 : Int) + 12) = ((0 + 12 : Nat) : Int) by omega]
 refine WO_mkslI0 rfl rfl (by omega) (by simp [roomy] <;> omega) ?_
 refine WO_mv (v := .sl _ _ _ _ _) rfl ?_
 refine WO_nil ?_
 refine WP_seq ?_
 refine WP_ops ?_
 refine WO_mv (v := .sl _ _ _ _ _) rfl ?_
 refine WO_mv (v := .slz) rfl ?_
 refine WO_appendX0 rfl rfl (.inr rfl) rfl (by omega) .here ?_
 refine WO_mv (v := .sl _ _ _ _ _) rfl ?_
 refine WO_nil ?_
 refine WP_seq ?_
 refine WP_seq ?_
 refine WP_ops ?_
 refine WO_mv rfl ?_
 refine WO_nil ?_
 refine WP_block ?_
 refine WP_sub (L' := [_]) (.cons_cons _ .slnil) ?_
 refine WP_loop (fun m f _ L => ∃ (i : Nat) (G : Nat → Int), (i ≤ 12) ∧ (m = 12 - i) ∧ (∀ j : Nat, j < 0 → G j = (fun _ => 0) j) ∧ (∀ j : Nat, j < i → G (0 + j) = 1000003 * (1 + 7) + (j : Int)) ∧ (f 0 = .slz) ∧ (f 3 = .sl 0 0 (0 + i) 1 (.ex (0 + 12))) ∧ (f 4 = .s (.int .i64 i)) ∧ (L = [(0, .sc .var (0 + 12) (ia G))])) (fun m f nb L hI => ?_) (12) ⟨0, _, by omega, rfl, (fun j h => by omega), fun j h => by omega, rfl, rfl, rfl, rfl⟩
 obtain ⟨i, G, hi, hm, hG, hM, k0, k3, k4, rfl⟩ := hI
 refine WP_know (d := 0) (v := .slz) k0 ?_
 refine WP_know (d := 3) (v := .sl 0 0 (0 + i) 1 (.ex (0 + 12))) k3 ?_
 refine WP_know (d := 4) (v := .s (.int .i64 i)) k4 ?_
 refine WP_seq ?_
 refine WP_seq ?_
 refine WP_ops ?_
 refine WO_mv (v := .s (.int _ _)) rfl ?_
 refine WO_bin (r := .bool _) rfl rfl rfl ?_
 refine WO_nil ?_
 refine WP_cond rfl (fun h25 => ?_) (fun h25 => ?_)
 ·try simp only [NM] at h25
  refine WP_skip ?_
  refine WP_seq ?_
  refine WP_block ?_
  refine WP_ops ?_
  refine WO_mv (v := .sl _ _ _ _ _) rfl ?_
  refine WO_mv (v := .s (.int _ _)) rfl ?_
  refine WO_call0 rfl (RF_of (mark_run _ (by omega))) rfl rfl rfl ?_
  refine WO_mkslS rfl (.one rfl .nil) ?_
  refine WO_appendX rfl rfl (.head _) rfl (by omega) (.there .here) ?_
  refine WO_mv (v := .sl _ _ _ _ _) rfl ?_
  refine WO_nil ?_
  refine WP_ops ?_
  refine WO_mv (v := .s (.int _ _)) rfl ?_
  refine WO_add rfl rfl (by omega) ?_
  refine WO_mv (v := .s (.int _ _)) rfl ?_
  refine WO_nil ?_
  have hst := lent_step hG hM (Rr := ov (fun _ => 0) (0 * 1) (1000003 * (1 + 7) + (i : Int))) rfl
  exact ⟨12 - (i + 1), _, by omega, (.cons _ (.cons_cons _ .slnil)), i + 1, _, by omega, rfl, hst.1, hst.2, rfl, rfl, rfl, rfl⟩
 ·try simp only [NM] at h25
  refine WP_exit ?_
  refine xhere ?_
  refine WP_seq ?_
  refine WP_ops ?_
  refine WO_mv (v := .sl _ _ _ _ _) rfl ?_
  refine WO_mv (v := .slz) rfl ?_
  refine WO_lenZ rfl ?_
  refine WO_slVx rfl rfl ⟨by omega, by omega⟩ ?_
  refine WO_mv (v := .sl _ _ _ _ _) rfl ?_
  refine WO_nil ?_
  refine WP_ret ?_
  refine ⟨_, RS_tmp (v := .sl _ _ _ _ _) rfl (RS_nil), ?_⟩
  obtain rfl : i = 12 := by omega
  exact ⟨0, G, rfl, (.head _), hG, hM⟩
theorem eql_eq {a b : Int} (h : a = b) : binS .eql (.int .i64 a) (.int .i64 b) = some (.bool true) := by
  subst h
  show (if IntKind.i64 = IntKind.i64 then some (S.bool (a == a)) else none) = _
  simp
theorem neq_eq {a b : Int} (h : a = b) : binS .neq (.int .i64 a) (.int .i64 b) = some (.bool false) := by
  subst h
  show (if IntKind.i64 = IntKind.i64 then some (S.bool (a != a)) else none) = _
  simp

theorem Kept_walk {md : Md} {q : Nat} {c : Cp} (K G : Nat → Int) (nn : Nat) (hnn : nn ≤ 1000) (hG : ∀ j : Nat, j < nn → G j = K j) (hM : ∀ j : Nat, j < 12 → G (nn + j) = 1000003 * (1 + 7) + (j : Int)) : WR AM 71 [.sl 0 0 nn 1 (.ex (nn + 12)), .sl 1 0 nn 1 c] [.sc .var (nn + 12) (ia G), .sc md q (ia K)] (fun v _ L => v = .s (.bool true) ∧ (0, Blk.sc .var (nn + 12) (ia G)) ∈ L ∧ (1, Blk.sc md q (ia K)) ∈ L) := by
 refine WR_fn (a := a71) rfl rfl (entryF _) (entry_E (Nat.le_of_ble_eq_true rfl)) (m := 2) rfl ?_
 refine WP_seq ?_
 refine WP_ops ?_
 refine WO_mv rfl ?_
 refine WO_nil ?_
 refine WP_seq ?_
 refine WP_seq ?_
 refine WP_ops ?_
 refine WO_mv (v := .sl _ _ _ _ _) rfl ?_
 refine WO_len rfl ?_
 refine WO_mv (v := .sl _ _ _ _ _) rfl ?_
 refine WO_len rfl ?_
 refine WO_bin (r := .bool _) rfl rfl rfl ?_
 refine WO_nil ?_
 refine WP_cond rfl (fun h26 => ?_) (fun h26 => ?_)
 ·try simp only [NM] at h26
  exfalso; first | omega | (simp at h26)
 ·try simp only [NM] at h26
  refine WP_skip ?_
  refine WP_seq ?_
  refine WP_ops ?_
  refine WO_mv (v := .sl _ _ _ _ _) rfl ?_
  refine WO_mv (v := .sl _ _ _ _ _) rfl ?_
  refine WO_len rfl ?_
  refine WO_add rfl rfl (by omega) ?_
  rw [show ((nn : Int) + 12) = ((nn + 12 : Nat) : Int) by omega]
  refine WO_slVx rfl rfl ⟨by omega, by omega⟩ ?_
  refine WO_mv (v := .sl _ _ _ _ _) rfl ?_
  refine WO_nil ?_
  refine WP_seq ?_
  refine WP_seq ?_
  refine WP_ops ?_
  refine WO_mv rfl ?_
  refine WO_nil ?_
  refine WP_block ?_
  refine WP_sub (L' := [_, _]) (.cons_cons _ (.cons_cons _ .slnil)) ?_
  refine WP_loop (fun m f _ L => ∃ (i : Nat), (i ≤ nn + 12) ∧ (m = nn + 12 - i) ∧ (f 1 = .sl 1 0 nn 1 c) ∧ (f 5 = .sl 0 0 (nn + 12) 1 (.ex (nn + 12))) ∧ (f 6 = .s (.int .i64 i)) ∧ (L = [(0, .sc .var (nn + 12) (ia G)), (1, .sc md q (ia K))])) (fun m f nb L hI => ?_) (nn + 12) ⟨0, by omega, rfl, rfl, rfl, rfl, rfl⟩
  obtain ⟨i, hi, hm, k1, k5, k6, rfl⟩ := hI
  refine WP_know (d := 1) (v := .sl 1 0 nn 1 c) k1 ?_
  refine WP_know (d := 5) (v := .sl 0 0 (nn + 12) 1 (.ex (nn + 12))) k5 ?_
  refine WP_know (d := 6) (v := .s (.int .i64 i)) k6 ?_
  refine WP_seq ?_
  refine WP_seq ?_
  refine WP_ops ?_
  refine WO_mv (v := .s (.int _ _)) rfl ?_
  refine WO_mv (v := .sl _ _ _ _ _) rfl ?_
  refine WO_len rfl ?_
  refine WO_bin (r := .bool _) rfl rfl rfl ?_
  refine WO_nil ?_
  refine WP_cond rfl (fun h27 => ?_) (fun h27 => ?_)
  ·try simp only [NM] at h27
   refine WP_skip ?_
   refine WP_seq ?_
   refine WP_block ?_
   refine WP_seq ?_
   refine WP_ops ?_
   refine WO_mv (v := .s (.int _ _)) rfl ?_
   refine WO_mv (v := .sl _ _ _ _ _) rfl ?_
   refine WO_len rfl ?_
   refine WO_bin (r := .bool _) rfl rfl rfl ?_
   refine WO_mv (v := .s (.bool _)) rfl ?_
   refine WO_case (t := 27) rfl (fun h28 => ?_) (fun h28 => ?_)
   ·try simp only [NM] at h28
    refine WO_gt rfl ?_
    refine WO_mv (v := .sl _ _ _ _ _) rfl ?_
    refine WO_gt rfl ?_
    refine WO_mv (v := .s (.int _ _)) rfl ?_
    refine WO_gt rfl ?_
    refine WO_ixs rfl rfl (by omega) ?_
    refine WO_gt rfl ?_
    refine WO_ldI (x := K i) rfl rfl (.head _) ((congrArg G (by omega)).trans (hG i (by omega))) ?_
    refine WO_gt rfl ?_
    refine WO_mv (v := .sl _ _ _ _ _) rfl ?_
    refine WO_gt rfl ?_
    refine WO_mv (v := .s (.int _ _)) rfl ?_
    refine WO_gt rfl ?_
    refine WO_ixs rfl rfl (by omega) ?_
    refine WO_gt rfl ?_
    refine WO_ldI (x := K i) rfl rfl (.tail _ (.head _)) (congrArg K (by omega)) ?_
    refine WO_gt rfl ?_
    refine WO_bin rfl rfl (eql_eq rfl) ?_
    refine WO_gt rfl ?_
    refine WO_un (r := .bool _) rfl rfl ?_
    refine WO_pick (v := .s (.bool _)) rfl rfl ?_
    refine WO_mv (v := .s (.bool _)) rfl ?_
    refine WO_gt rfl ?_
    refine WO_mv (v := .s (.int _ _)) rfl ?_
    refine WO_gt rfl ?_
    refine WO_mv (v := .sl _ _ _ _ _) rfl ?_
    refine WO_gt rfl ?_
    refine WO_len rfl ?_
    refine WO_gt rfl ?_
    refine WO_bin (r := .bool _) rfl rfl rfl ?_
    refine WO_gt rfl ?_
    refine WO_mv (v := .s (.bool _)) rfl ?_
    refine WO_case (t := 44) rfl (fun h29 => ?_) (fun h29 => ?_)
    ·try simp only [NM] at h29
     exfalso; first | omega | (simp at h29)
    ·try simp only [NM] at h29
     refine WO_gf rfl rfl ?_
     refine WO_gf rfl rfl ?_
     refine WO_gf rfl rfl ?_
     refine WO_gf rfl rfl ?_
     refine WO_gf rfl rfl ?_
     refine WO_gf rfl rfl ?_
     refine WO_gf rfl rfl ?_
     refine WO_gf rfl rfl ?_
     refine WO_gf rfl rfl ?_
     refine WO_gf rfl rfl ?_
     refine WO_gf rfl rfl ?_
     refine WO_gt rfl ?_
     refine WO_pick (v := .s (.bool _)) rfl rfl ?_
     refine WO_pick (v := .s (.bool _)) rfl rfl ?_
     refine WO_nil ?_
     refine WP_cond rfl (fun h => nomatch h) (fun _ => ?_)
     refine WP_skip ?_
     refine WP_ops ?_
     refine WO_mv (v := .s (.int _ _)) rfl ?_
     refine WO_add rfl rfl (by omega) ?_
     refine WO_mv (v := .s (.int _ _)) rfl ?_
     refine WO_nil ?_
     exact ⟨nn + 12 - (i + 1), _, by omega, (.cons_cons _ (.cons_cons _ .slnil)), i + 1, by omega, rfl, rfl, rfl, rfl, rfl⟩
   ·try simp only [NM] at h28
    refine WO_gf rfl rfl ?_
    refine WO_gf rfl rfl ?_
    refine WO_gf rfl rfl ?_
    refine WO_gf rfl rfl ?_
    refine WO_gf rfl rfl ?_
    refine WO_gf rfl rfl ?_
    refine WO_gf rfl rfl ?_
    refine WO_gf rfl rfl ?_
    refine WO_gf rfl rfl ?_
    refine WO_gf rfl rfl ?_
    refine WO_pick (v := .s (.bool _)) rfl rfl ?_
    refine WO_mv (v := .s (.bool _)) rfl ?_
    refine WO_gt rfl ?_
    refine WO_mv (v := .s (.int _ _)) rfl ?_
    refine WO_gt rfl ?_
    refine WO_mv (v := .sl _ _ _ _ _) rfl ?_
    refine WO_gt rfl ?_
    refine WO_len rfl ?_
    refine WO_gt rfl ?_
    refine WO_bin (r := .bool _) rfl rfl rfl ?_
    refine WO_gt rfl ?_
    refine WO_mv (v := .s (.bool _)) rfl ?_
    refine WO_case (t := 44) rfl (fun h30 => ?_) (fun h30 => ?_)
    ·try simp only [NM] at h30
     refine WO_gt rfl ?_
     refine WO_mv (v := .sl _ _ _ _ _) rfl ?_
     refine WO_gt rfl ?_
     refine WO_mv (v := .s (.int _ _)) rfl ?_
     refine WO_gt rfl ?_
     refine WO_ixs rfl rfl (by omega) ?_
     refine WO_gt rfl ?_
     refine WO_ldI (x := 1000003 * (1 + 7) + ((i : Int) - (nn : Int))) rfl rfl (.head _) ((congrArg G (show _ = nn + (i - nn) by omega)).trans ((hM (i - nn) (by omega)).trans (by omega))) ?_
     refine WO_gt rfl ?_
     refine WO_mv (v := .s (.int _ _)) rfl ?_
     refine WO_gt rfl ?_
     refine WO_mv (v := .sl _ _ _ _ _) rfl ?_
     refine WO_gt rfl ?_
     refine WO_len rfl ?_
     refine WO_gt rfl ?_
     refine WO_sub rfl rfl (by omega) ?_
     refine WO_gt rfl ?_
     refine WO_callq0 rfl (RF_of (mark_run _ (by omega))) rfl rfl rfl ?_
     refine WO_gt rfl ?_
     refine WO_bin rfl rfl (eql_eq rfl) ?_
     refine WO_gt rfl ?_
     refine WO_un (r := .bool _) rfl rfl ?_
     refine WO_gt rfl ?_
     refine WO_pick (v := .s (.bool _)) rfl rfl ?_
     refine WO_pick (v := .s (.bool _)) rfl rfl ?_
     refine WO_nil ?_
     refine WP_cond rfl (fun h => nomatch h) (fun _ => ?_)
     refine WP_skip ?_
     refine WP_ops ?_
     refine WO_mv (v := .s (.int _ _)) rfl ?_
     refine WO_add rfl rfl (by omega) ?_
     refine WO_mv (v := .s (.int _ _)) rfl ?_
     refine WO_nil ?_
     exact ⟨nn + 12 - (i + 1), _, by omega, (.cons_cons _ (.cons_cons _ .slnil)), i + 1, by omega, rfl, rfl, rfl, rfl, rfl⟩
    ·try simp only [NM] at h30
     exfalso; first | omega | (simp at h30)
  ·try simp only [NM] at h27
   refine WP_exit ?_
   refine xhere ?_
   refine WP_seq ?_
   refine WP_ops ?_
   refine WO_mv rfl ?_
   refine WO_nil ?_
   refine WP_ret ?_
   refine ⟨_, RS_tmp (v := .s (.bool _)) rfl (RS_nil), ?_⟩
   exact ⟨rfl, (.head _), (.tail _ (.head _))⟩
theorem Kept_walkN (G : Nat → Int) (hM : ∀ j : Nat, j < 12 → G (0 + j) = 1000003 * (1 + 7) + (j : Int)) : WR AM 71 [.sl 0 0 0 1 (.ex (0 + 12)), .snil] [.sc .var (0 + 12) (ia G)] (fun v _ L => v = .s (.bool true) ∧ (0, Blk.sc .var (0 + 12) (ia G)) ∈ L) := by
 refine WR_fn (a := a71) rfl rfl (entryF _) (entry_E (Nat.le_of_ble_eq_true rfl)) (m := 1) rfl ?_
 refine WP_seq ?_
 refine WP_ops ?_
 refine WO_mv rfl ?_
 refine WO_nil ?_
 refine WP_seq ?_
 refine WP_seq ?_
 refine WP_ops ?_
 refine WO_mv (v := .sl _ _ _ _ _) rfl ?_
 refine WO_len rfl ?_
 refine WO_mv (v := .snil) rfl ?_
 refine WO_lenN rfl ?_
 refine WO_bin (r := .bool _) rfl rfl rfl ?_
 refine WO_nil ?_
 refine WP_cond rfl (fun h31 => ?_) (fun h31 => ?_)
 ·try simp only [NM] at h31
  exfalso; first | omega | (simp at h31)
 ·try simp only [NM] at h31
  refine WP_skip ?_
  refine WP_seq ?_
  refine WP_ops ?_
  refine WO_mv (v := .sl _ _ _ _ _) rfl ?_
  refine WO_mv (v := .snil) rfl ?_
  refine WO_lenN rfl ?_
  refine WO_add rfl rfl (by omega) ?_
  rw [show ((0 : Int) + 12) = ((0 + 12 : Nat) : Int) by omega]
  refine WO_slVx rfl rfl ⟨by omega, by omega⟩ ?_
  refine WO_mv (v := .sl _ _ _ _ _) rfl ?_
  refine WO_nil ?_
  refine WP_seq ?_
  refine WP_seq ?_
  refine WP_ops ?_
  refine WO_mv rfl ?_
  refine WO_nil ?_
  refine WP_block ?_
  refine WP_sub (L' := [_]) (.cons_cons _ .slnil) ?_
  refine WP_loop (fun m f _ L => ∃ (i : Nat), (i ≤ 0 + 12) ∧ (m = 0 + 12 - i) ∧ (f 1 = .snil) ∧ (f 5 = .sl 0 0 (0 + 12) 1 (.ex (0 + 12))) ∧ (f 6 = .s (.int .i64 i)) ∧ (L = [(0, .sc .var (0 + 12) (ia G))])) (fun m f nb L hI => ?_) (0 + 12) ⟨0, by omega, rfl, rfl, rfl, rfl, rfl⟩
  obtain ⟨i, hi, hm, k1, k5, k6, rfl⟩ := hI
  refine WP_know (d := 1) (v := .snil) k1 ?_
  refine WP_know (d := 5) (v := .sl 0 0 (0 + 12) 1 (.ex (0 + 12))) k5 ?_
  refine WP_know (d := 6) (v := .s (.int .i64 i)) k6 ?_
  refine WP_seq ?_
  refine WP_seq ?_
  refine WP_ops ?_
  refine WO_mv (v := .s (.int _ _)) rfl ?_
  refine WO_mv (v := .sl _ _ _ _ _) rfl ?_
  refine WO_len rfl ?_
  refine WO_bin (r := .bool _) rfl rfl rfl ?_
  refine WO_nil ?_
  refine WP_cond rfl (fun h32 => ?_) (fun h32 => ?_)
  ·try simp only [NM] at h32
   refine WP_skip ?_
   refine WP_seq ?_
   refine WP_block ?_
   refine WP_seq ?_
   refine WP_ops ?_
   refine WO_mv (v := .s (.int _ _)) rfl ?_
   refine WO_mv (v := .snil) rfl ?_
   refine WO_lenN rfl ?_
   refine WO_bin (r := .bool _) rfl rfl rfl ?_
   refine WO_mv (v := .s (.bool _)) rfl ?_
   refine WO_case (t := 27) rfl (fun h33 => ?_) (fun h33 => ?_)
   ·try simp only [NM] at h33
    exfalso; first | omega | (simp at h33)
   ·try simp only [NM] at h33
    refine WO_gf rfl rfl ?_
    refine WO_gf rfl rfl ?_
    refine WO_gf rfl rfl ?_
    refine WO_gf rfl rfl ?_
    refine WO_gf rfl rfl ?_
    refine WO_gf rfl rfl ?_
    refine WO_gf rfl rfl ?_
    refine WO_gf rfl rfl ?_
    refine WO_gf rfl rfl ?_
    refine WO_gf rfl rfl ?_
    refine WO_pick (v := .s (.bool _)) rfl rfl ?_
    refine WO_mv (v := .s (.bool _)) rfl ?_
    refine WO_gt rfl ?_
    refine WO_mv (v := .s (.int _ _)) rfl ?_
    refine WO_gt rfl ?_
    refine WO_mv (v := .snil) rfl ?_
    refine WO_gt rfl ?_
    refine WO_lenN rfl ?_
    refine WO_gt rfl ?_
    refine WO_bin (r := .bool _) rfl rfl rfl ?_
    refine WO_gt rfl ?_
    refine WO_mv (v := .s (.bool _)) rfl ?_
    refine WO_case (t := 44) rfl (fun h34 => ?_) (fun h34 => ?_)
    ·try simp only [NM] at h34
     refine WO_gt rfl ?_
     refine WO_mv (v := .sl _ _ _ _ _) rfl ?_
     refine WO_gt rfl ?_
     refine WO_mv (v := .s (.int _ _)) rfl ?_
     refine WO_gt rfl ?_
     refine WO_ixs rfl rfl (by omega) ?_
     refine WO_gt rfl ?_
     refine WO_ldI (x := 1000003 * (1 + 7) + ((i : Int) - 0)) rfl rfl (.head _) ((congrArg G (show _ = 0 + (i - 0) by omega)).trans ((hM (i - 0) (by omega)).trans (by omega))) ?_
     refine WO_gt rfl ?_
     refine WO_mv (v := .s (.int _ _)) rfl ?_
     refine WO_gt rfl ?_
     refine WO_mv (v := .snil) rfl ?_
     refine WO_gt rfl ?_
     refine WO_lenN rfl ?_
     refine WO_gt rfl ?_
     refine WO_sub rfl rfl (by omega) ?_
     refine WO_gt rfl ?_
     refine WO_callq0 rfl (RF_of (mark_run _ (by omega))) rfl rfl rfl ?_
     refine WO_gt rfl ?_
     refine WO_bin rfl rfl (eql_eq rfl) ?_
     refine WO_gt rfl ?_
     refine WO_un (r := .bool _) rfl rfl ?_
     refine WO_gt rfl ?_
     refine WO_pick (v := .s (.bool _)) rfl rfl ?_
     refine WO_pick (v := .s (.bool _)) rfl rfl ?_
     refine WO_nil ?_
     refine WP_cond rfl (fun h => nomatch h) (fun _ => ?_)
     refine WP_skip ?_
     refine WP_ops ?_
     refine WO_mv (v := .s (.int _ _)) rfl ?_
     refine WO_add rfl rfl (by omega) ?_
     refine WO_mv (v := .s (.int _ _)) rfl ?_
     refine WO_nil ?_
     exact ⟨0 + 12 - (i + 1), _, by omega, (.cons_cons _ .slnil), i + 1, by omega, rfl, rfl, rfl, rfl, rfl⟩
    ·try simp only [NM] at h34
     exfalso; first | omega | (simp at h34)
  ·try simp only [NM] at h32
   refine WP_exit ?_
   refine xhere ?_
   refine WP_seq ?_
   refine WP_ops ?_
   refine WO_mv rfl ?_
   refine WO_nil ?_
   refine WP_ret ?_
   refine ⟨_, RS_tmp (v := .s (.bool _)) rfl (RS_nil), ?_⟩
   exact ⟨rfl, (.head _)⟩
theorem Kept_walkZ (G : Nat → Int) (hM : ∀ j : Nat, j < 12 → G (0 + j) = 1000003 * (1 + 7) + (j : Int)) : WR AM 71 [.sl 0 0 0 1 (.ex (0 + 12)), .slz] [.sc .var (0 + 12) (ia G)] (fun v _ L => v = .s (.bool true) ∧ (0, Blk.sc .var (0 + 12) (ia G)) ∈ L) := by
 refine WR_fn (a := a71) rfl rfl (entryF _) (entry_E (Nat.le_of_ble_eq_true rfl)) (m := 1) rfl ?_
 refine WP_seq ?_
 refine WP_ops ?_
 refine WO_mv rfl ?_
 refine WO_nil ?_
 refine WP_seq ?_
 refine WP_seq ?_
 refine WP_ops ?_
 refine WO_mv (v := .sl _ _ _ _ _) rfl ?_
 refine WO_len rfl ?_
 refine WO_mv (v := .slz) rfl ?_
 refine WO_lenZ rfl ?_
 refine WO_bin (r := .bool _) rfl rfl rfl ?_
 refine WO_nil ?_
 refine WP_cond rfl (fun h35 => ?_) (fun h35 => ?_)
 ·try simp only [NM] at h35
  exfalso; first | omega | (simp at h35)
 ·try simp only [NM] at h35
  refine WP_skip ?_
  refine WP_seq ?_
  refine WP_ops ?_
  refine WO_mv (v := .sl _ _ _ _ _) rfl ?_
  refine WO_mv (v := .slz) rfl ?_
  refine WO_lenZ rfl ?_
  refine WO_add rfl rfl (by omega) ?_
  rw [show ((0 : Int) + 12) = ((0 + 12 : Nat) : Int) by omega]
  refine WO_slVx rfl rfl ⟨by omega, by omega⟩ ?_
  refine WO_mv (v := .sl _ _ _ _ _) rfl ?_
  refine WO_nil ?_
  refine WP_seq ?_
  refine WP_seq ?_
  refine WP_ops ?_
  refine WO_mv rfl ?_
  refine WO_nil ?_
  refine WP_block ?_
  refine WP_sub (L' := [_]) (.cons_cons _ .slnil) ?_
  refine WP_loop (fun m f _ L => ∃ (i : Nat), (i ≤ 0 + 12) ∧ (m = 0 + 12 - i) ∧ (f 1 = .slz) ∧ (f 5 = .sl 0 0 (0 + 12) 1 (.ex (0 + 12))) ∧ (f 6 = .s (.int .i64 i)) ∧ (L = [(0, .sc .var (0 + 12) (ia G))])) (fun m f nb L hI => ?_) (0 + 12) ⟨0, by omega, rfl, rfl, rfl, rfl, rfl⟩
  obtain ⟨i, hi, hm, k1, k5, k6, rfl⟩ := hI
  refine WP_know (d := 1) (v := .slz) k1 ?_
  refine WP_know (d := 5) (v := .sl 0 0 (0 + 12) 1 (.ex (0 + 12))) k5 ?_
  refine WP_know (d := 6) (v := .s (.int .i64 i)) k6 ?_
  refine WP_seq ?_
  refine WP_seq ?_
  refine WP_ops ?_
  refine WO_mv (v := .s (.int _ _)) rfl ?_
  refine WO_mv (v := .sl _ _ _ _ _) rfl ?_
  refine WO_len rfl ?_
  refine WO_bin (r := .bool _) rfl rfl rfl ?_
  refine WO_nil ?_
  refine WP_cond rfl (fun h36 => ?_) (fun h36 => ?_)
  ·try simp only [NM] at h36
   refine WP_skip ?_
   refine WP_seq ?_
   refine WP_block ?_
   refine WP_seq ?_
   refine WP_ops ?_
   refine WO_mv (v := .s (.int _ _)) rfl ?_
   refine WO_mv (v := .slz) rfl ?_
   refine WO_lenZ rfl ?_
   refine WO_bin (r := .bool _) rfl rfl rfl ?_
   refine WO_mv (v := .s (.bool _)) rfl ?_
   refine WO_case (t := 27) rfl (fun h37 => ?_) (fun h37 => ?_)
   ·try simp only [NM] at h37
    exfalso; first | omega | (simp at h37)
   ·try simp only [NM] at h37
    refine WO_gf rfl rfl ?_
    refine WO_gf rfl rfl ?_
    refine WO_gf rfl rfl ?_
    refine WO_gf rfl rfl ?_
    refine WO_gf rfl rfl ?_
    refine WO_gf rfl rfl ?_
    refine WO_gf rfl rfl ?_
    refine WO_gf rfl rfl ?_
    refine WO_gf rfl rfl ?_
    refine WO_gf rfl rfl ?_
    refine WO_pick (v := .s (.bool _)) rfl rfl ?_
    refine WO_mv (v := .s (.bool _)) rfl ?_
    refine WO_gt rfl ?_
    refine WO_mv (v := .s (.int _ _)) rfl ?_
    refine WO_gt rfl ?_
    refine WO_mv (v := .slz) rfl ?_
    refine WO_gt rfl ?_
    refine WO_lenZ rfl ?_
    refine WO_gt rfl ?_
    refine WO_bin (r := .bool _) rfl rfl rfl ?_
    refine WO_gt rfl ?_
    refine WO_mv (v := .s (.bool _)) rfl ?_
    refine WO_case (t := 44) rfl (fun h38 => ?_) (fun h38 => ?_)
    ·try simp only [NM] at h38
     refine WO_gt rfl ?_
     refine WO_mv (v := .sl _ _ _ _ _) rfl ?_
     refine WO_gt rfl ?_
     refine WO_mv (v := .s (.int _ _)) rfl ?_
     refine WO_gt rfl ?_
     refine WO_ixs rfl rfl (by omega) ?_
     refine WO_gt rfl ?_
     refine WO_ldI (x := 1000003 * (1 + 7) + ((i : Int) - 0)) rfl rfl (.head _) ((congrArg G (show _ = 0 + (i - 0) by omega)).trans ((hM (i - 0) (by omega)).trans (by omega))) ?_
     refine WO_gt rfl ?_
     refine WO_mv (v := .s (.int _ _)) rfl ?_
     refine WO_gt rfl ?_
     refine WO_mv (v := .slz) rfl ?_
     refine WO_gt rfl ?_
     refine WO_lenZ rfl ?_
     refine WO_gt rfl ?_
     refine WO_sub rfl rfl (by omega) ?_
     refine WO_gt rfl ?_
     refine WO_callq0 rfl (RF_of (mark_run _ (by omega))) rfl rfl rfl ?_
     refine WO_gt rfl ?_
     refine WO_bin rfl rfl (eql_eq rfl) ?_
     refine WO_gt rfl ?_
     refine WO_un (r := .bool _) rfl rfl ?_
     refine WO_gt rfl ?_
     refine WO_pick (v := .s (.bool _)) rfl rfl ?_
     refine WO_pick (v := .s (.bool _)) rfl rfl ?_
     refine WO_nil ?_
     refine WP_cond rfl (fun h => nomatch h) (fun _ => ?_)
     refine WP_skip ?_
     refine WP_ops ?_
     refine WO_mv (v := .s (.int _ _)) rfl ?_
     refine WO_add rfl rfl (by omega) ?_
     refine WO_mv (v := .s (.int _ _)) rfl ?_
     refine WO_nil ?_
     exact ⟨0 + 12 - (i + 1), _, by omega, (.cons_cons _ .slnil), i + 1, by omega, rfl, rfl, rfl, rfl, rfl⟩
    ·try simp only [NM] at h38
     exfalso; first | omega | (simp at h38)
  ·try simp only [NM] at h36
   refine WP_exit ?_
   refine xhere ?_
   refine WP_seq ?_
   refine WP_ops ?_
   refine WO_mv rfl ?_
   refine WO_nil ?_
   refine WP_ret ?_
   refine ⟨_, RS_tmp (v := .s (.bool _)) rfl (RS_nil), ?_⟩
   exact ⟨rfl, (.head _)⟩
end Go.Proofs.Ytjldefmcnppdoaa
