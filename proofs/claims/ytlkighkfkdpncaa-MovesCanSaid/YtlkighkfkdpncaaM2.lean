/- Texts of this seat, joined. -/
import Derived.Test.YtlkighkfkdpncaaAm0
import Derived.Test.YtlkighkfkdpncaaAm1
import Derived.Test.YtlkighkfkdpncaaAm2
import Derived.Test.YtlkighkfkdpncaaM0
import Derived.Test.YtlkighkfkdpncaaM1
set_option linter.unusedSimpArgs false
set_option linter.unusedVariables false
namespace Go.Proofs.Ytlkighkfkdpncaa
open Go Go.Am
def fnzM : List Int → Int
 | [] => 0
 | x :: l => if x = 0 then fnzM l else x
theorem fnz_no : ∀ {l : List Int}, (∀ j : Nat, j < l.length → l.getD j 0 = 0) → fnzM l = 0
 | [], _ => rfl
 | x :: l, h => by
  unfold fnzM
  have h0 := h 0 (by simp)
  rw [if_pos (by simpa using h0)]
  exact fnz_no fun j hj => by have := h (j + 1) (by simpa using hj); simpa using this
theorem fnz_at : ∀ {l : List Int} {i : Nat}, i < l.length → l.getD i 0 ≠ 0 → (∀ j : Nat, j < i → l.getD j 0 = 0) → fnzM l = l.getD i 0
 | [], i, h, _, _ => by simp at h
 | x :: l, 0, _, h, _ => by
  unfold fnzM
  rw [if_neg (by simpa using h)]; rfl
 | x :: l, i + 1, hi, h, hn => by
  unfold fnzM
  have h0 := hn 0 (by omega)
  rw [if_pos (by simpa using h0)]
  have ih := fnz_at (l := l) (i := i) (by simpa using hi) (by simpa using h) fun j hj => by have := hn (j + 1) (by omega); simpa using this
  rw [ih]; simp
def cmpM (x y : Int) : Int := if x < y then -1 else if y < x then 1 else 0
theorem less_is (a b : Mv) : decide (fnzM [cmpM a.1 b.1, cmpM a.2.1 b.2.1, cmpM a.2.2 b.2.2] < 0) = decide (lt3 a b) := by
 unfold fnzM fnzM fnzM fnzM cmpM lt3
 refine decide_eq_decide.2 ?_
 by_cases h1 : a.1 < b.1
 ·simp [h1]
 ·by_cases h2 : b.1 < a.1
  ·simp [h1, h2]; omega
  ·by_cases h3 : a.2.1 < b.2.1
   ·simp [h1, h2, h3]; omega
   ·by_cases h4 : b.2.1 < a.2.1
    ·simp [h1, h2, h3, h4]; omega
    ·by_cases h5 : a.2.2 < b.2.2
     ·simp [h1, h2, h3, h4, h5]; omega
     ·by_cases h6 : b.2.2 < a.2.2
      ·simp [h1, h2, h3, h4, h5, h6]
      ·simp [h1, h2, h3, h4, h5, h6]
theorem nan1_walk (x : Int) : WR AM 60 [.s (.int .i64 x)] [] (fun v _ _ => v = .s (.bool false)) := by
 refine WR_fn (a := a60) rfl rfl (entryF _) (entry_E (Nat.le_of_ble_eq_true rfl)) (m := 0) rfl ?_
 refine WP_seq ?_
 refine WP_ops ?_
 refine WO_mv rfl ?_
 refine WO_nil ?_
 refine WP_seq ?_
 refine WP_ops ?_
 refine WO_mv (v := .s (.int _ _)) rfl ?_
 refine WO_mv (v := .s (.int _ _)) rfl ?_
 refine WO_bin (r := .bool _) rfl rfl rfl ?_
 refine WO_mv (v := .s (.bool _)) rfl ?_
 refine WO_nil ?_
 refine WP_ret ?_
 refine ⟨_, RS_tmp (v := .s (.bool _)) rfl (RS_nil), ?_⟩
 refine congrArg (fun b => V.s (S.bool b)) ?_
 first | rfl | simp
theorem nan2_walk (x : Int) : WR AM 61 [.s (.int .i64 x)] [] (fun v _ _ => v = .s (.bool false)) := by
 refine WR_fn (a := a61) rfl rfl (entryF _) (entry_E (Nat.le_of_ble_eq_true rfl)) (m := 0) rfl ?_
 refine WP_seq ?_
 refine WP_ops ?_
 refine WO_mv rfl ?_
 refine WO_nil ?_
 refine WP_seq ?_
 refine WP_ops ?_
 refine WO_mv (v := .s (.int _ _)) rfl ?_
 refine WO_mv (v := .s (.int _ _)) rfl ?_
 refine WO_bin (r := .bool _) rfl rfl rfl ?_
 refine WO_mv (v := .s (.bool _)) rfl ?_
 refine WO_nil ?_
 refine WP_ret ?_
 refine ⟨_, RS_tmp (v := .s (.bool _)) rfl (RS_nil), ?_⟩
 refine congrArg (fun b => V.s (S.bool b)) ?_
 first | rfl | simp
theorem cmp1_walk (x y : Int) : WR AM 32 [.s (.int .i64 x), .s (.int .i64 y)] [] (fun v _ _ => v = .s (.int .i64 (cmpM x y))) := by
 refine WR_fn (a := a32) rfl rfl (entryF _) (entry_E (Nat.le_of_ble_eq_true rfl)) (m := 0) rfl ?_
 refine WP_seq ?_
 refine WP_ops ?_
 refine WO_mv rfl ?_
 refine WO_nil ?_
 refine WP_seq ?_
 refine WP_ops ?_
 refine WO_mv (v := .s (.int _ _)) rfl ?_
 refine WO_call0 rfl (RF_of (nan1_walk _)) rfl rfl rfl ?_
 refine WO_mv (v := .s (.bool _)) rfl ?_
 refine WO_nil ?_
 refine WP_seq ?_
 refine WP_ops ?_
 refine WO_mv (v := .s (.int _ _)) rfl ?_
 refine WO_call0 rfl (RF_of (nan1_walk _)) rfl rfl rfl ?_
 refine WO_mv (v := .s (.bool _)) rfl ?_
 refine WO_nil ?_
 refine WP_seq ?_
 refine WP_seq ?_
 refine WP_ops ?_
 refine WO_mv (v := .s (.bool _)) rfl ?_
 refine WO_nil ?_
 refine WP_cond rfl (fun h => nomatch h) (fun _ => ?_)
 refine WP_skip ?_
 refine WP_seq ?_
 refine WP_seq ?_
 refine WP_ops ?_
 refine WO_mv (v := .s (.bool _)) rfl ?_
 refine WO_nil ?_
 refine WP_cond rfl (fun h => nomatch h) (fun _ => ?_)
 refine WP_skip ?_
 refine WP_seq ?_
 refine WP_seq ?_
 refine WP_ops ?_
 refine WO_mv (v := .s (.int _ _)) rfl ?_
 refine WO_mv (v := .s (.int _ _)) rfl ?_
 refine WO_bin (r := .bool _) rfl rfl rfl ?_
 refine WO_nil ?_
 refine WP_cond rfl (fun h1 => ?_) (fun h1 => ?_)
 ·try simp only [NM] at h1
  refine WP_seq ?_
  refine WP_ops ?_
  refine WO_mv rfl ?_
  refine WO_nil ?_
  refine WP_ret ?_
  refine ⟨_, RS_tmp (v := .s (.int _ _)) rfl (RS_nil), ?_⟩
  refine congrArg (fun b => V.s (S.int .i64 b)) ?_
  unfold cmpM
  first | (rw [if_pos (by omega)]; done) | (rw [if_neg (by omega), if_pos (by omega)]; done) | (rw [if_neg (by omega), if_neg (by omega)]; done)
 ·try simp only [NM] at h1
  refine WP_skip ?_
  refine WP_seq ?_
  refine WP_seq ?_
  refine WP_ops ?_
  refine WO_mv (v := .s (.int _ _)) rfl ?_
  refine WO_mv (v := .s (.int _ _)) rfl ?_
  refine WO_bin (r := .bool _) rfl rfl rfl ?_
  refine WO_nil ?_
  refine WP_cond rfl (fun h2 => ?_) (fun h2 => ?_)
  ·try simp only [NM] at h2
   refine WP_seq ?_
   refine WP_ops ?_
   refine WO_mv rfl ?_
   refine WO_nil ?_
   refine WP_ret ?_
   refine ⟨_, RS_tmp (v := .s (.int _ _)) rfl (RS_nil), ?_⟩
   refine congrArg (fun b => V.s (S.int .i64 b)) ?_
   unfold cmpM
   first | (rw [if_pos (by omega)]; done) | (rw [if_neg (by omega), if_pos (by omega)]; done) | (rw [if_neg (by omega), if_neg (by omega)]; done)
  ·try simp only [NM] at h2
   refine WP_skip ?_
   refine WP_seq ?_
   refine WP_ops ?_
   refine WO_mv rfl ?_
   refine WO_nil ?_
   refine WP_ret ?_
   refine ⟨_, RS_tmp (v := .s (.int _ _)) rfl (RS_nil), ?_⟩
   refine congrArg (fun b => V.s (S.int .i64 b)) ?_
   unfold cmpM
   first | (rw [if_pos (by omega)]; done) | (rw [if_neg (by omega), if_pos (by omega)]; done) | (rw [if_neg (by omega), if_neg (by omega)]; done)
theorem cmp2_walk (x y : Int) : WR AM 33 [.s (.int .i64 x), .s (.int .i64 y)] [] (fun v _ _ => v = .s (.int .i64 (cmpM x y))) := by
 refine WR_fn (a := a33) rfl rfl (entryF _) (entry_E (Nat.le_of_ble_eq_true rfl)) (m := 0) rfl ?_
 refine WP_seq ?_
 refine WP_ops ?_
 refine WO_mv rfl ?_
 refine WO_nil ?_
 refine WP_seq ?_
 refine WP_ops ?_
 refine WO_mv (v := .s (.int _ _)) rfl ?_
 refine WO_call0 rfl (RF_of (nan2_walk _)) rfl rfl rfl ?_
 refine WO_mv (v := .s (.bool _)) rfl ?_
 refine WO_nil ?_
 refine WP_seq ?_
 refine WP_ops ?_
 refine WO_mv (v := .s (.int _ _)) rfl ?_
 refine WO_call0 rfl (RF_of (nan2_walk _)) rfl rfl rfl ?_
 refine WO_mv (v := .s (.bool _)) rfl ?_
 refine WO_nil ?_
 refine WP_seq ?_
 refine WP_seq ?_
 refine WP_ops ?_
 refine WO_mv (v := .s (.bool _)) rfl ?_
 refine WO_nil ?_
 refine WP_cond rfl (fun h => nomatch h) (fun _ => ?_)
 refine WP_skip ?_
 refine WP_seq ?_
 refine WP_seq ?_
 refine WP_ops ?_
 refine WO_mv (v := .s (.bool _)) rfl ?_
 refine WO_nil ?_
 refine WP_cond rfl (fun h => nomatch h) (fun _ => ?_)
 refine WP_skip ?_
 refine WP_seq ?_
 refine WP_seq ?_
 refine WP_ops ?_
 refine WO_mv (v := .s (.int _ _)) rfl ?_
 refine WO_mv (v := .s (.int _ _)) rfl ?_
 refine WO_bin (r := .bool _) rfl rfl rfl ?_
 refine WO_nil ?_
 refine WP_cond rfl (fun h3 => ?_) (fun h3 => ?_)
 ·try simp only [NM] at h3
  refine WP_seq ?_
  refine WP_ops ?_
  refine WO_mv rfl ?_
  refine WO_nil ?_
  refine WP_ret ?_
  refine ⟨_, RS_tmp (v := .s (.int _ _)) rfl (RS_nil), ?_⟩
  refine congrArg (fun b => V.s (S.int .i64 b)) ?_
  unfold cmpM
  first | (rw [if_pos (by omega)]; done) | (rw [if_neg (by omega), if_pos (by omega)]; done) | (rw [if_neg (by omega), if_neg (by omega)]; done)
 ·try simp only [NM] at h3
  refine WP_skip ?_
  refine WP_seq ?_
  refine WP_seq ?_
  refine WP_ops ?_
  refine WO_mv (v := .s (.int _ _)) rfl ?_
  refine WO_mv (v := .s (.int _ _)) rfl ?_
  refine WO_bin (r := .bool _) rfl rfl rfl ?_
  refine WO_nil ?_
  refine WP_cond rfl (fun h4 => ?_) (fun h4 => ?_)
  ·try simp only [NM] at h4
   refine WP_seq ?_
   refine WP_ops ?_
   refine WO_mv rfl ?_
   refine WO_nil ?_
   refine WP_ret ?_
   refine ⟨_, RS_tmp (v := .s (.int _ _)) rfl (RS_nil), ?_⟩
   refine congrArg (fun b => V.s (S.int .i64 b)) ?_
   unfold cmpM
   first | (rw [if_pos (by omega)]; done) | (rw [if_neg (by omega), if_pos (by omega)]; done) | (rw [if_neg (by omega), if_neg (by omega)]; done)
  ·try simp only [NM] at h4
   refine WP_skip ?_
   refine WP_seq ?_
   refine WP_ops ?_
   refine WO_mv rfl ?_
   refine WO_nil ?_
   refine WP_ret ?_
   refine ⟨_, RS_tmp (v := .s (.int _ _)) rfl (RS_nil), ?_⟩
   refine congrArg (fun b => V.s (S.int .i64 b)) ?_
   unfold cmpM
   first | (rw [if_pos (by omega)]; done) | (rw [if_neg (by omega), if_pos (by omega)]; done) | (rw [if_neg (by omega), if_neg (by omega)]; done)
theorem or_rd (l : List Int) (hlen : l.length ≤ 1000000) : RdR AM 31 1 [] [] l (.s (.int .i64 (fnzM l))) := by
 refine RdR_of fun v Bs hc => ?_
 refine WR_fn (a := a31) rfl rfl (entryF _) (entry_E (Nat.le_of_ble_eq_true rfl)) rfl ?_ (by first | rfl | (cases hc <;> rfl))
 have hr0 := hc.rx
 rw [show known 0 Bs = known 0 Bs ++ [] from (List.append_nil _).symm]
 generalize hown : known 0 Bs = own0 at hr0 ⊢
 refine WP_seq ?_
 refine WP_ops ?_
 refine WO_mv rfl ?_
 refine WO_nil ?_
 refine WP_seq ?_
 refine WP_ops ?_
 refine WO_mv rfl ?_
 refine WO_nil ?_
 refine WP_seq ?_
 refine WP_seq ?_
 refine WP_ops ?_
 refine WO_mv (v := v) rfl ?_
 refine WO_lenX rfl hr0 (by decide) len1 ?_
 refine WO_mv rfl ?_
 refine WO_nil ?_
 refine WP_block ?_
 refine WP_sub (List.Sublist.append (.refl _) .slnil) ?_
 refine WP_loop (fun m f _ L => ∃ (i : Nat) (u : V), (i ≤ l.length) ∧ (m = l.length - i) ∧ (∀ j : Nat, j < i → l.getD j 0 = 0) ∧ (f 0 = v) ∧ (f 3 = .s (.int .i64 0)) ∧ (f 6 = v) ∧ (f 7 = .s (.int .i64 l.length)) ∧ (f 8 = .s (.int .i64 i)) ∧ (L = (own0 ++ []))) (fun m f nb L hI => ?_) (l.length) (⟨0, .undef, by omega, by omega, fun j hj => by omega, rfl, rfl, rfl, rfl, rfl, rfl⟩)
 obtain ⟨i, u, hi, hm, hn, k0, k3, k6, k7, k8, rfl⟩ := hI
 refine WP_know (d := 0) (v := v) k0 ?_
 refine WP_know (d := 3) (v := .s (.int .i64 0)) k3 ?_
 refine WP_know (d := 6) (v := v) k6 ?_
 refine WP_know (d := 7) (v := .s (.int .i64 l.length)) k7 ?_
 refine WP_know (d := 8) (v := .s (.int .i64 i)) k8 ?_
 refine WP_seq ?_
 refine WP_ops ?_
 refine WO_bin (r := .bool _) rfl rfl rfl ?_
 refine WO_nil ?_
 refine WP_seq ?_
 refine WP_cond rfl (fun h5 => ?_) (fun h5 => ?_)
 ·try simp only [NM] at h5
  refine WP_skip ?_
  refine WP_seq ?_
  refine WP_block ?_
  refine WP_seq ?_
  refine WP_ops ?_
  obtain ⟨b0, q0, md0, c0, F0, rfl, rfl, hF0⟩ := hr0.at (by decide) len1 (by omega)
  refine WO_ixs rfl rfl (by omega) ?_
  refine WO_ldI (x := l.getD i 0) rfl rfl (.head _) (ld1 hF0 (by omega)) ?_
  refine WO_mv (v := .s (.int _ _)) rfl ?_
  refine WO_nil ?_
  refine WP_seq ?_
  refine WP_ops ?_
  refine WO_mv (v := .s (.int _ _)) rfl ?_
  refine WO_mv (v := .s (.int _ _)) rfl ?_
  refine WO_bin (r := .bool _) rfl rfl rfl ?_
  refine WO_nil ?_
  refine WP_cond rfl (fun h6 => ?_) (fun h6 => ?_)
  ·try simp only [NM] at h6
   refine WP_seq ?_
   refine WP_ops ?_
   refine WO_mv (v := .s (.int _ _)) rfl ?_
   refine WO_mv (v := .s (.int _ _)) rfl ?_
   refine WO_nil ?_
   refine WP_ret ?_
   refine ⟨_, RS_tmp (v := .s (.int _ _)) rfl (RS_nil), ?_⟩
   refine ⟨congrArg (fun b => V.s (S.int .i64 b)) ?_, (fun _ h => h)⟩
   first | exact (fnz_at (by omega) (by omega) hn).symm | exact (fnz_no fun j hj => hn j (by omega)).symm
  ·try simp only [NM] at h6
   refine WP_skip ?_
   refine WP_ops ?_
   refine WO_add rfl rfl (by omega) ?_
   refine WO_mv (v := .s (.int _ _)) rfl ?_
   refine WO_nil ?_
   refine ⟨l.length - (i + 1), _, by omega, (.cons_cons _ .slnil), i + 1, .undef, by omega, rfl, ?_, rfl, rfl, rfl, rfl, rfl, rfl⟩
   intro j hj
   by_cases e : j = i
   ·subst e; omega
   ·exact hn j (by omega)
 ·try simp only [NM] at h5
  refine WP_exit ?_
  refine xhere ?_
  refine WP_seq ?_
  refine WP_ops ?_
  refine WO_mv (v := .s (.int _ _)) rfl ?_
  refine WO_mv (v := .s (.int _ _)) rfl ?_
  refine WO_nil ?_
  refine WP_ret ?_
  refine ⟨_, RS_tmp (v := .s (.int _ _)) rfl (RS_nil), ?_⟩
  refine ⟨congrArg (fun b => V.s (S.int .i64 b)) ?_, (fun _ h => h)⟩
  first | exact (fnz_at (by omega) (by omega) hn).symm | exact (fnz_no fun j hj => hn j (by omega)).symm
theorem compare_walk (a b : Nat → Int) : WR AM 16 [.agg 3 (ia a), .agg 3 (ia b)] [] (fun v _ _ => v = .s (.int .i64 (fnzM [cmpM (a 0) (b 0), cmpM (a 1) (b 1), cmpM (a 2) (b 2)]))) := by
 refine WR_fn (a := a16) rfl rfl (entryF _) (entry_E (Nat.le_of_ble_eq_true rfl)) (m := 0) rfl ?_
 refine WP_seq ?_
 refine WP_ops ?_
 refine WO_boxA rfl ?_
 refine WO_boxA rfl ?_
 refine WO_mv rfl ?_
 refine WO_nil ?_
 refine WP_seq ?_
 refine WP_par ?_
 refine WO_fa (o' := 0) rfl rfl rfl ?_
 refine WO_ldI (x := a 0) rfl rfl (.tail _ (.head _)) (rfl) ?_
 refine WO_fa (o' := 0) rfl rfl rfl ?_
 refine WO_ldI (x := b 0) rfl rfl (.head _) (rfl) ?_
 refine WO_callq0 rfl (RF_of (cmp1_walk _ _)) rfl rfl rfl ?_
 refine WO_fa (o' := 1) rfl rfl rfl ?_
 refine WO_ldI (x := a 1) rfl rfl (.tail _ (.head _)) (rfl) ?_
 refine WO_fa (o' := 1) rfl rfl rfl ?_
 refine WO_ldI (x := b 1) rfl rfl (.head _) (rfl) ?_
 refine WO_callq0 rfl (RF_of (cmp1_walk _ _)) rfl rfl rfl ?_
 refine WO_fa (o' := 2) rfl rfl rfl ?_
 refine WO_ldI (x := a 2) rfl rfl (.tail _ (.head _)) (rfl) ?_
 refine WO_fa (o' := 2) rfl rfl rfl ?_
 refine WO_ldI (x := b 2) rfl rfl (.head _) (rfl) ?_
 refine WO_call0 rfl (RF_of (cmp2_walk _ _)) rfl rfl rfl ?_
 refine WO_mkslS rfl (.one rfl (.one rfl (.one rfl .nil))) ?_
 refine WO_callRd (caps := []) rfl (or_rd [cmpM (a 0) (b 0), cmpM (a 1) (b 1), cmpM (a 2) (b 2)] (Nat.le_of_ble_eq_true rfl)) rfl ((.row rfl lit3r)) (mem1 (.head _)) rfl rfl rfl ?_
 refine WO_mv (v := .s (.int _ _)) rfl ?_
 refine WO_nil ?_
 refine WP_ret ?_
 refine ⟨_, RS_tmp (v := .s (.int _ _)) rfl (RS_nil), ?_⟩
 rfl
theorem less_walk (a b : Nat → Int) : WR AM 7 [.agg 3 (ia a), .agg 3 (ia b)] [] (fun v _ _ => v = .s (.bool (decide (lt3 (a 0, a 1, a 2) (b 0, b 1, b 2))))) := by
 refine WR_fn (a := a7) rfl rfl (entryF _) (entry_E (Nat.le_of_ble_eq_true rfl)) (m := 0) rfl ?_
 refine WP_seq ?_
 refine WP_ops ?_
 refine WO_boxA rfl ?_
 refine WO_boxA rfl ?_
 refine WO_mv rfl ?_
 refine WO_nil ?_
 refine WP_seq ?_
 refine WP_ops ?_
 first | refine WO_ldA0 rfl rfl (.tail _ (.head _)) ?_ | refine WO_ldAI rfl rfl (.tail _ (.head _)) ?_
 first | refine WO_ldA0 rfl rfl (.head _) ?_ | refine WO_ldAI rfl rfl (.head _) ?_
 refine WO_call0 rfl (RF_of (compare_walk _ _)) rfl rfl rfl ?_
 refine WO_bin (r := .bool _) rfl rfl rfl ?_
 refine WO_mv (v := .s (.bool _)) rfl ?_
 refine WO_nil ?_
 refine WP_ret ?_
 refine ⟨_, RS_tmp (v := .s (.bool _)) rfl (RS_nil), ?_⟩
 refine congrArg (fun b => V.s (S.bool b)) ?_
 exact less_is (a 0, a 1, a 2) (b 0, b 1, b 2)
end Go.Proofs.Ytlkighkfkdpncaa
set_option linter.unusedSimpArgs false
set_option linter.unusedVariables false
namespace Go.Proofs.Ytlkighkfkdpncaa
open Go Go.Am
def capsFr (g0 g7 : Nat → S) (x : Int) (c : Nat) : List V := [.agg 133 g0, .s (.int .i64 x), .ptr 1 0 133, .ptr 2 0 1, .ptr 3 0 1, .undef, .undef, .agg 133 g7, .fn 23 [.ptr c 0 133], .undef, .undef, .undef, .undef, .undef, .undef, .undef, .undef, .undef, .undef, .undef, .undef]
theorem WO_fact {A : AP} {N : Nat} {f : FE} {n : Nat} {L : HA} {K : KN} {Zp : V → KN} {l : List I} {Pf : Prop} (h : ∀ σ, Hp σ n L → Pf) (k : Pf → WO A N l f n L K Zp) : WO A N l f n L K Zp := fun σ hσ => k (h σ hσ) σ hσ
theorem own_ge {σ : Heap} {n k : Nat} {own L0 : HA} (h : Hp σ n (own ++ L0)) (hk : ∀ i, i < k → ∃ B, (i, B) ∈ L0) : ∀ p ∈ own, k ≤ p.1 := fun p hp => by
 have hp2 := (HL_iff.1 h.2).2
 rw [List.pairwise_append] at hp2
 refine Nat.le_of_not_lt fun hlt => ?_
 obtain ⟨B, hB⟩ := hk p.1 hlt
 exact hp2.2.2 p hp _ hB rfl
theorem five_in {L : HA} {m : Nat × Blk} {a b c d e : Blk} {i : Nat} (h : i < 5) : ∃ B, (i, B) ∈ L ++ m :: [(0, a), (1, b), (2, c), (3, d), (4, e)] := by
 match i, h with
 | 0, _ => exact ⟨a, List.mem_append_right _ (.tail _ (.head _))⟩
 | 1, _ => exact ⟨b, List.mem_append_right _ (.tail _ (.tail _ (.head _)))⟩
 | 2, _ => exact ⟨c, List.mem_append_right _ (.tail _ (.tail _ (.tail _ (.head _))))⟩
 | 3, _ => exact ⟨d, List.mem_append_right _ (.tail _ (.tail _ (.tail _ (.tail _ (.head _)))))⟩
 | 4, _ => exact ⟨e, List.mem_append_right _ (.tail _ (.tail _ (.tail _ (.tail _ (.tail _ (.head _))))))⟩
theorem eql_no1 {a b : Int} (h : a ≠ b) : binS .eql (.int .i64 a) (.int .i64 b) = some (.bool false) := by
 show (if IntKind.i64 = IntKind.i64 then some (S.bool (a == b)) else none) = _
 simp [h]
theorem eql_yes1 {a b : Int} (h : a = b) : binS .eql (.int .i64 a) (.int .i64 b) = some (.bool true) := by
 subst h
 show (if IntKind.i64 = IntKind.i64 then some (S.bool (a == a)) else none) = _
 simp
section
variable (g0 g7 g1 : Nat → S) (x : Int) (Q : Nat → Int)
noncomputable def lpFr (c st : Nat) : Blk := .lp 9 rd6 (capsFr g0 g7 x c) st
theorem roundFr_no (M : Nat → Int) (hn : M 133 ≠ x) :
  WR AM 9 [.pan .undef, .yv 0, .agg 136 (ia M)] [lpFr g0 g7 x 4 0, .sc .var 133 g1, .sc .var 1 (fun _ => .int .i64 x), .vs .var [.snil], .sc .var 133 (ia Q)] (fun v n L => v = .s (.bool true) ∧ firstA L 0 [lpFr g0 g7 x 4 0, .sc .var 133 g1, .sc .var 1 (fun _ => .int .i64 x), .vs .var [.snil], .sc .var 133 (ia Q)]) := by
 refine WR_bodA (N := 21) (B := B6) (f := entryF ((capsFr g0 g7 x 4).set 9 (.agg 136 (ia M)))) (caps := capsFr g0 g7 x 4) rfl rfl rfl (list_E rfl) rfl ?_
 refine WP_ops (WO_allocI (WO_stA rfl rfl rfl rfl .here (WO_nil ?_)))
 refine ⟨9, rd6, capsFr g0 g7 x 4, rfl, ?_⟩
 refine WP_block (WP_seq (WP_ops ?_))
 refine WO_fa (o' := 133) rfl rfl rfl ?_
 refine WO_ldI (x := M 133) rfl rfl (.head _) rfl ?_
 refine WO_ldS (x := .int .i64 x) rfl rfl (.tail _ (.tail _ (.tail _ (.head _)))) rfl ?_
 refine WO_bin (r := .bool false) rfl rfl (eql_no1 hn) ?_
 refine WO_nil (WP_cond rfl (fun h => nomatch h) (fun _ => WP_skip ⟨9, rd6, capsFr g0 g7 x 4, rfl, rfl, ?_⟩))
 exact ⟨.tail _ (.head _), .tail _ (.tail _ (.head _)), .tail _ (.tail _ (.tail _ (.head _))), .tail _ (.tail _ (.tail _ (.tail _ (.head _)))), .tail _ (.tail _ (.tail _ (.tail _ (.tail _ (.head _))))), trivial⟩
theorem roundFr_yes (M : Nat → Int) (hx : M 133 = x) (ha : 0 ≤ (ovA (fun _ => 0) 0 136 M) 133 ∧ (ovA (fun _ => 0) 0 136 M) 133 < 64) (hc : (ovA (fun _ => 0) 0 136 M) 135 = 0 ∨ (ovA (fun _ => 0) 0 136 M) 135 = 1) (hb : ∀ t ∈ (squaresM (ovA (fun _ => 0) 0 136 M) ((ovA (fun _ => 0) 0 136 M) 133) ((ovA (fun _ => 0) 0 136 M) 134) ((ovA (fun _ => 0) 0 136 M) 135)), 0 ≤ t ∧ t < 64) (hl : (squaresM (ovA (fun _ => 0) 0 136 M) ((ovA (fun _ => 0) 0 136 M) 133) ((ovA (fun _ => 0) 0 136 M) 134) ((ovA (fun _ => 0) 0 136 M) 135)).length ≤ 1000) :
  WR AM 9 [.pan .undef, .yv 0, .agg 136 (ia M)] [lpFr g0 g7 x 4 0, .sc .var 133 g1, .sc .var 1 (fun _ => .int .i64 x), .vs .var [.snil], .sc .var 133 (ia Q)] (fun v n L => v = .s (.bool false) ∧ outs L [lpFr g0 g7 x 4 2, .sc .var 133 g1, .sc .var 1 (fun _ => .int .i64 x)] [.sc .var 133 (ia Q)] (flat3 (srt3 (mvsM (ovA (fun _ => 0) 0 136 M))))) := by
 refine WR_bodA (N := 21) (B := B6) (f := entryF ((capsFr g0 g7 x 4).set 9 (.agg 136 (ia M)))) (caps := capsFr g0 g7 x 4) rfl rfl rfl (list_E rfl) rfl ?_
 refine WP_ops (WO_allocI (WO_stA rfl rfl rfl rfl .here (WO_nil ?_)))
 refine ⟨9, rd6, capsFr g0 g7 x 4, rfl, ?_⟩
 refine WP_block (WP_seq (WP_ops ?_))
 refine WO_fa (o' := 133) rfl rfl rfl ?_
 refine WO_ldI (x := M 133) rfl rfl (.head _) rfl ?_
 refine WO_ldS (x := .int .i64 x) rfl rfl (.tail _ (.tail _ (.tail _ (.head _)))) rfl ?_
 refine WO_bin (r := .bool true) rfl rfl (eql_yes1 hx) ?_
 refine WO_nil (WP_cond rfl (fun _ => ?_) (fun h => nomatch h))
 refine WP_seq (WP_par ?_)
 refine WO_ldA0 rfl rfl (.head _) ?_
 refine WO_ldA0 rfl rfl (.head _) ?_
 refine WO_callqRt0 rfl (squares_rt (ovA (fun _ => 0) 0 136 M) ha hc) rfl rfl (fun v1 own1 n1 hr1 => ?_)
 refine WO_callRdRt (caps := []) rfl (to_rt (ovA (fun _ => 0) 0 136 M) hc _ hl hb) rfl hr1.rx (fun p hp => List.mem_append_left _ hp) rfl rfl (fun v2 own2 n2 hr2 => ?_)
 refine WO_mv rfl (WO_nil (WP_seq (WP_ops ?_)))
 refine WO_mv rfl ?_
 have hroom := to_len ((ovA (fun _ => 0) 0 136 M) 133) ((ovA (fun _ => 0) 0 136 M) 134) ((ovA (fun _ => 0) 0 136 M) 135) (squaresM (ovA (fun _ => 0) 0 136 M) ((ovA (fun _ => 0) 0 136 M) 133) ((ovA (fun _ => 0) 0 136 M) 134) ((ovA (fun _ => 0) 0 136 M) 135))
 refine WO_callSt (caps := []) rfl (sort3_st (mvsM (ovA (fun _ => 0) 0 136 M)) (by unfold mvsM; omega)) rfl hr2 .here rfl rfl (fun own3 hr3 => ?_)
 refine WO_nil (WP_seq (WP_ops ?_))
 refine WO_mv rfl ?_
 refine WO_fact (fun σ hσ => own_ge (k := 5) hσ (fun i hi => five_in (L := own1) hi)) (fun h5 => ?_)
 refine WO_stR (b := 3) (u := .snil) (v := v2) rfl rfl hr3.isrow (.appR _ (.appR _ (.there (.there (.there (.there .here)))))) ?_
 refine WO_less (L' := own3 ++ [(0, .lp 9 rd6 (capsFr g0 g7 x 4) 1), (1, .sc .var 133 g1), (2, .sc .var 1 (fun _ => .int .i64 x)), (3, .vs .var [v2]), (4, .sc .var 133 (ia Q))]) (List.Sublist.append (.refl _) (List.sublist_append_of_sublist_right (.cons _ (.refl _)))) ?_
 refine WO_perm List.perm_append_comm (WO_nil (WP_ret ⟨9, rd6, capsFr g0 g7 x 4, rfl, rfl, ?_⟩))
 refine outs_of hr3 ⟨.head _, .tail _ (.head _), .tail _ (.tail _ (.head _)), .tail _ (.tail _ (.tail _ (.head _))), .tail _ (.tail _ (.tail _ (.tail _ (.head _)))), trivial⟩ (fun p hp => ⟨.tail _ (.tail _ (.tail _ (.tail _ (.tail _ ?_)))), h5 p hp⟩)
 show p ∈ setL 0 _ own3
 rw [setL_none (fun p hp => by have := h5 p hp; omega)]; exact hp
theorem yldFr {l : List I} {od : Option Nat} {f : FE} {NN n : Nat} {L : HA} {K : KN} {Zp : V → KN} {xx : O} {xs : List O} (M : Nat → Int) (hf : xx.fv NN f = .yv 0) (ha : xs.map (O.fv NN f) = [.agg 136 (ia M)]) (hx : M 133 = x) (hab : 0 ≤ (ovA (fun _ => 0) 0 136 M) 133 ∧ (ovA (fun _ => 0) 0 136 M) 133 < 64) (hc : (ovA (fun _ => 0) 0 136 M) 135 = 0 ∨ (ovA (fun _ => 0) 0 136 M) 135 = 1) (hb : ∀ t ∈ (squaresM (ovA (fun _ => 0) 0 136 M) ((ovA (fun _ => 0) 0 136 M) 133) ((ovA (fun _ => 0) 0 136 M) 134) ((ovA (fun _ => 0) 0 136 M) 135)), 0 ≤ t ∧ t < 64) (hl : (squaresM (ovA (fun _ => 0) 0 136 M) ((ovA (fun _ => 0) 0 136 M) 133) ((ovA (fun _ => 0) 0 136 M) 134) ((ovA (fun _ => 0) 0 136 M) 135)).length ≤ 1000) (hL : L = [(0, lpFr g0 g7 x 4 0), (1, .sc .var 133 g1), (2, .sc .var 1 (fun _ => .int .i64 x)), (3, .vs .var [.snil]), (4, .sc .var 133 (ia Q))])
  (kk : ∀ v' own' n', Rw 3 (flat3 (srt3 (mvsM (ovA (fun _ => 0) 0 136 M)))) v' own' → (∀ p ∈ own', 5 ≤ p.1) → WOx AM NN l (updO f od (.s (.bool false))) n' (own' ++ [(0, lpFr g0 g7 x 4 2), (1, .sc .var 133 g1), (2, .sc .var 1 (fun _ => .int .i64 x)), (3, .vs .var [v']), (4, .sc .var 133 (ia Q))]) K Zp) :
  WOx AM NN (⟨od, none, .h (.call xx xs)⟩ :: l) f n L K Zp := by
 subst hL
 intro σ hσ
 have h4n : 4 < n := (hσ.2.mem (.tail _ (.tail _ (.tail _ (.tail _ (.head _)))))).1
 revert σ
 refine WOx_yldN (Lr := [(0, _), (1, _), (2, _), (3, _), (4, _)]) (L0 := []) (vs := [.yv 0, .agg 136 (ia M)]) (Bs := [lpFr g0 g7 x 4 0, .sc .var 133 g1, .sc .var 1 (fun _ => .int .i64 x), .vs .var [.snil], .sc .var 133 (ia Q)]) (.refl _) hf ha (.head _) rfl rfl rfl rfl (WR_mono (roundFr_yes g0 g7 g1 x Q M hx hab hc hb hl) ?_)
 rintro r n1 L1 ⟨rfl, ho⟩
 rcases ho with ⟨e1, e2⟩ | ⟨b, m, q, F, e1, e2, e3, e4, e5⟩
 ·exact .inl ⟨_, .s (.bool false), _, e2, rfl, rfl, rfl, rfl, kk .snil [] _ (.nil e1) (fun p hp => by cases hp)⟩
 ·refine .inr ⟨[lpFr g0 g7 x 4 2, .sc .var 133 g1, .sc .var 1 (fun _ => .int .i64 x)], [.sc .var 133 (ia Q)], b, m, 3, q, .var, .grow, ia F, .s (.bool false), [lpFr g0 g7 x 4 2, .sc .var 133 g1, .sc .var 1 (fun _ => .int .i64 x)], [.sc .var 133 (ia Q)], e3, rfl, e1, e2, rfl, rfl, rfl, rfl, rfl, (Nat.le_of_ble_eq_true rfl), kk _ [(n, _)] _ (.row e4 e5) (fun p hp => by rw [List.mem_singleton.1 hp]; exact h4n)⟩
end
theorem iter_fr (g0 g7 g1 : Nat → S) (x : Int) (P : Nat → Int) : WR AM 23 [.yv 0, .ptr 4 0 133] [(lpFr g0 g7 x 4 0), .sc .var 133 g1, .sc .var 1 (fun _ => .int .i64 x), .vs .var [.snil], .sc .var 133 (ia P)] (fun v _ L => v = .tup [] ∧ if (0 ≤ x ∧ x < 64) ∧ moverM P x = true then outs L [lpFr g0 g7 x 4 2, .sc .var 133 g1, .sc .var 1 (fun _ => .int .i64 x)] [.sc .var 133 (ia P)] (flat3 (fromSv P x)) else firstA L 0 [(lpFr g0 g7 x 4 0), .sc .var 133 g1, .sc .var 1 (fun _ => .int .i64 x), .vs .var [.snil], .sc .var 133 (ia P)]) := by
 refine WR_fn (a := a23) rfl rfl (entryF _) (entry_E (Nat.le_of_ble_eq_true rfl)) (m := 5) rfl ?_
 refine WP_seq ?_
 refine WP_ops ?_
 refine WO_fa (o' := 0) rfl rfl rfl ?_
 first | refine WO_ldA0 rfl rfl (.tail _ (.tail _ (.tail _ (.tail _ (.head _))))) ?_ | refine WO_ldAI rfl rfl (.tail _ (.tail _ (.tail _ (.tail _ (.head _))))) ?_
 refine WO_mv rfl ?_
 refine WO_nil ?_
 refine WP_block ?_
 refine WP_sub (.cons_cons _ (.cons_cons _ (.cons_cons _ (.cons_cons _ (.cons_cons _ .slnil))))) ?_
 refine WP_loop (fun m f _ L => ∃ (i : Nat), (i ≤ 64) ∧ (m = 64 - i) ∧ (∀ j : Nat, j < i → moverM P j = true → (j : Int) ≠ x) ∧ (f 0 = .yv 0) ∧ (f 1 = .ptr 4 0 133) ∧ (f 7 = .agg 128 (ia P)) ∧ (f 8 = .s (.int .i64 i)) ∧ (L = [(0, (lpFr g0 g7 x 4 0)), (1, .sc .var 133 g1), (2, .sc .var 1 (fun _ => .int .i64 x)), (3, .vs .var [.snil]), (4, .sc .var 133 (ia P))])) (fun m f nb L hI => ?_) (64) (⟨0, by omega, by omega, (fun j hj => by omega), rfl, rfl, rfl, rfl, rfl⟩)
 obtain ⟨i, hi, hm, hno, k0, k1, k7, k8, rfl⟩ := hI
 refine WP_know (d := 0) (v := .yv 0) k0 ?_
 refine WP_know (d := 1) (v := .ptr 4 0 133) k1 ?_
 refine WP_know (d := 7) (v := .agg 128 (ia P)) k7 ?_
 refine WP_know (d := 8) (v := .s (.int .i64 i)) k8 ?_
 refine WP_seq ?_
 refine WP_ops ?_
 refine WO_bin (r := .bool _) rfl rfl rfl ?_
 refine WO_nil ?_
 refine WP_seq ?_
 refine WP_cond rfl (fun h1 => ?_) (fun h1 => ?_)
 ·try simp only [NM] at h1
  try rw [beq_eq_false_iff_ne] at h1
  refine WP_skip ?_
  refine WP_seq ?_
  refine WP_block ?_
  refine WP_seq ?_
  refine WP_ops ?_
  refine WO_mv (v := .s (.int _ _)) rfl ?_
  refine WO_ixA rfl rfl rfl (by omega) ?_
  refine WO_allocI ?_
  refine WO_mv (v := .s (.int _ _)) rfl ?_
  refine WO_stA rfl rfl rfl rfl .here ?_
  refine WO_nil ?_
  refine WP_seq ?_
  refine WP_ops ?_
  refine WO_fa (o' := 0) rfl rfl rfl ?_
  refine WO_ldI (x := P (sqI i)) rfl rfl (.head _) (show P ((i : Int).toNat * 2) = _ from congrArg P (by have hq : sqI (i : Int) = 0 + (i : Int).toNat * 2 := rfl; omega)) ?_
  refine WO_bin (r := .bool _) rfl rfl rfl ?_
  refine WO_mv (v := .s (.bool _)) rfl ?_
  refine WO_case (t := 15) rfl (fun h2 => ?_) (fun h2 => ?_)
  ·try simp only [NM] at h2
   try rw [beq_eq_false_iff_ne] at h2
   refine WO_gt rfl ?_
   refine WO_fa (o' := 0) rfl rfl rfl ?_
   refine WO_gt rfl ?_
   refine WO_ldI (x := P (sqI i)) rfl rfl (.head _) (show P ((i : Int).toNat * 2) = _ from congrArg P (by have hq : sqI (i : Int) = 0 + (i : Int).toNat * 2 := rfl; omega)) ?_
   refine WO_gt rfl ?_
   refine WO_bin (r := .bool _) rfl rfl rfl ?_
   refine WO_pick (v := .s (.bool _)) rfl rfl ?_
   refine WO_mv (v := .s (.bool _)) rfl ?_
   refine WO_case (t := 20) rfl (fun h3 => ?_) (fun h3 => ?_)
   ·try simp only [NM] at h3
    try rw [beq_eq_false_iff_ne] at h3
    refine WO_gt rfl ?_
    refine WO_fa (o' := 1) rfl rfl rfl ?_
    refine WO_gt rfl ?_
    refine WO_ldI (x := P (sqI i + 1)) rfl rfl (.head _) (show P ((i : Int).toNat * 2 + 1) = _ from congrArg P (by have hq : sqI (i : Int) = 0 + (i : Int).toNat * 2 := rfl; omega)) ?_
    refine WO_gt rfl ?_
    refine WO_bin (r := .bool _) rfl rfl rfl ?_
    refine WO_gt rfl ?_
    refine WO_mv (v := .s (.bool _)) rfl ?_
    refine WO_case (t := 24) rfl (fun h4 => ?_) (fun h4 => ?_)
    ·try simp only [NM] at h4
     try rw [beq_eq_false_iff_ne] at h4
     refine WO_gf rfl rfl ?_
     refine WO_gf rfl rfl ?_
     refine WO_gf rfl rfl ?_
     refine WO_gt rfl ?_
     refine WO_pick (v := .s (.bool _)) rfl rfl ?_
     refine WO_pick (v := .s (.bool _)) rfl rfl ?_
     refine WO_mv (v := .s (.bool _)) rfl ?_
     refine WO_nil ?_
     refine WP_seq ?_
     refine WP_opsX ?_
     refine WOx_app (l1 := [_, _, _, _, _, _, _, _, _, _, _, _, _, _]) (l2 := [_, _, _]) ?_
     refine WO_mv (v := .s (.bool _)) rfl ?_
     refine WO_mv (v := .s (.bool _)) rfl ?_
     refine WO_gt rfl ?_
     refine WO_fa (o' := 1) rfl rfl rfl ?_
     refine WO_gt rfl ?_
     refine WO_ldI (x := P (sqI i + 1)) rfl rfl (.head _) (show P ((i : Int).toNat * 2 + 1) = _ from congrArg P (by have hq : sqI (i : Int) = 0 + (i : Int).toNat * 2 := rfl; omega)) ?_
     refine WO_gt rfl ?_
     refine WO_fa (o' := 128) rfl rfl rfl ?_
     refine WO_gt rfl ?_
     refine WO_ldI rfl rfl (.tail _ (.tail _ (.tail _ (.tail _ (.tail _ (.head _)))))) rfl ?_
     refine WO_gt rfl ?_
     refine WO_bin (r := .bool _) rfl rfl rfl ?_
     refine WO_pick (v := .s (.bool _)) rfl rfl ?_
     refine WO_mv (v := .s (.bool _)) rfl ?_
     refine WO_case (t := 38) rfl (fun h5 => ?_) (fun h5 => ?_)
     ·try simp only [NM] at h5
      try rw [beq_eq_false_iff_ne] at h5
      refine WO_gt rfl ?_
      refine WO_mv (v := .yv _) rfl ?_
      refine WO_gt rfl ?_
      first | refine WO_ldA0 rfl rfl (.tail _ (.tail _ (.tail _ (.tail _ (.tail _ (.head _)))))) ?_ | refine WO_ldAI rfl rfl (.tail _ (.tail _ (.tail _ (.tail _ (.tail _ (.head _)))))) ?_
      refine WO_gt rfl ?_
      refine WO_mv (v := .s (.int _ _)) rfl ?_
      refine WO_gt rfl ?_
      first | refine WO_ldA0 rfl rfl (.head _) ?_ | refine WO_ldAI rfl rfl (.head _) ?_
      refine WO_gt rfl ?_
      refine WO_buildI (Q := moverX P i) rfl (.agg rfl (.one rfl (.agg rfl .nil))) ?_
      refine WO_nil ?_
      refine WOx_less (.cons _ (.cons_cons _ (.cons_cons _ (.cons_cons _ (.cons_cons _ (.cons_cons _ .slnil)))))) ?_
      refine WOx_gt rfl ?_
      obtain ⟨x0, x1, x2, x3⟩ := moverX_at P i
      have hx4 : P (sqI i + 1) = 0 ∨ P (sqI i + 1) = 1 := by omega
      have hmv := mvs_is (P := P) (i := i) (by omega) x0 x1 x2 x3 hx4
      have hmo := mover_yes (P := P) (i := i) (by assumption) (by assumption) hx4 (by assumption)
      by_cases hxi : moverX P i 133 = x
      ·skip
       refine yldFr g0 g7 g1 x P (moverX P i) rfl rfl hxi (by omega) (by omega) (fun t ht => squares_bd ht) (Nat.le_trans (squares_len _ _ _ _) (Nat.le_of_ble_eq_true rfl)) rfl (fun v1 own1 n1 hr1 hge1 => WOx_of ?_)
       rw [hmv] at hr1
       refine WO_gt rfl ?_
       refine WO_un (r := .bool _) rfl rfl ?_
       refine WO_pick (v := .s (.bool _)) rfl rfl ?_
       refine WO_nil ?_
       refine WP_cond rfl (fun _ => ?_) (fun h => nomatch h)
       refine WP_ret ?_
       refine ⟨_, RS_nil, ?_⟩
       have hxi : (i : Int) = x := x1.symm.trans hxi
       subst hxi
       refine ⟨rfl, ?_⟩
       rw [if_pos ⟨⟨by omega, by omega⟩, hmo⟩]
       have hfs : fromSv P (i : Int) = srt3 (movesU P i) := if_pos ⟨⟨by omega, by omega⟩, hmo⟩
       rw [hfs]
       exact outs_of hr1 ⟨(List.mem_append_right _ (.head _)), (List.mem_append_right _ (.tail _ (.head _))), (List.mem_append_right _ (.tail _ (.tail _ (.head _)))), (List.mem_append_right _ (.tail _ (.tail _ (.tail _ (.head _))))), (List.mem_append_right _ (.tail _ (.tail _ (.tail _ (.tail _ (.head _)))))), trivial⟩ (fun p hp => ⟨List.mem_append_left _ hp, hge1 p hp⟩)
      ·skip
       refine WOx_yldC (Lr := [(0, _), (1, _), (2, _), (3, _), (4, _)]) (L0 := []) (vs := [.yv 0, .agg 136 (ia (moverX P i))]) (Bs := [(lpFr g0 g7 x 4 0), .sc .var 133 g1, .sc .var 1 (fun _ => .int .i64 x), .vs .var [.snil], .sc .var 133 (ia P)]) (.refl _) rfl rfl (.head _) rfl rfl rfl rfl ?_
       refine WR_mono (roundFr_no g0 g7 g1 x P (moverX P i) hxi) ?_
       rintro v n1 L1 ⟨rfl, hfa⟩
       refine ⟨[(lpFr g0 g7 x 4 0), .sc .var 133 g1, .sc .var 1 (fun _ => .int .i64 x), .vs .var [.snil], .sc .var 133 (ia P)], .s (.bool true), _, hfa, rfl, rfl, rfl, rfl, ?_⟩
       refine WOx_of ?_
       refine WO_gt rfl ?_
       refine WO_un (r := .bool _) rfl rfl ?_
       refine WO_pick (v := .s (.bool _)) rfl rfl ?_
       refine WO_nil ?_
       refine WP_cond rfl (fun h => nomatch h) (fun _ => ?_)
       refine WP_skip ?_
       refine WP_ops ?_
       refine WO_add rfl rfl (by omega) ?_
       refine WO_mv (v := .s (.int _ _)) rfl ?_
       refine WO_nil ?_
       refine ⟨64 - (i + 1), _, by omega, (.cons_cons _ (.cons_cons _ (.cons_cons _ (.cons_cons _ (.cons_cons _ .slnil))))), i + 1, by omega, rfl, ?_, rfl, rfl, rfl, rfl, rfl⟩
       intro j hj hmj
       by_cases e : j = i
       · subst e; exact fun e => hxi (x1.trans e)
       · exact hno j (by omega) hmj
     ·try simp only [NM] at h5
      try rw [beq_eq_false_iff_ne] at h5
      refine WO_gf rfl rfl ?_
      refine WO_gf rfl rfl ?_
      refine WO_gf rfl rfl ?_
      refine WO_gf rfl rfl ?_
      refine WO_gf rfl rfl ?_
      refine WO_nil ?_
      refine WOx_of ?_
      refine WO_gf rfl rfl ?_
      refine WO_gf rfl rfl ?_
      refine WO_pick (v := .s (.bool _)) rfl rfl ?_
      refine WO_nil ?_
      refine WP_cond rfl (fun h => nomatch h) (fun _ => ?_)
      refine WP_skip ?_
      refine WP_ops ?_
      refine WO_add rfl rfl (by omega) ?_
      refine WO_mv (v := .s (.int _ _)) rfl ?_
      refine WO_nil ?_
      refine ⟨64 - (i + 1), _, by omega, (.cons _ (.cons_cons _ (.cons_cons _ (.cons_cons _ (.cons_cons _ (.cons_cons _ .slnil)))))), i + 1, by omega, rfl, ?_, rfl, rfl, rfl, rfl, rfl⟩
      intro j hj hmj
      by_cases e : j = i
      · subst e; rw [mover_no (by omega)] at hmj; cases hmj
      · exact hno j (by omega) hmj
    ·try simp only [NM] at h4
     try rw [beq_eq_false_iff_ne] at h4
     refine WO_gt rfl ?_
     refine WO_fa (o' := 1) rfl rfl rfl ?_
     refine WO_gt rfl ?_
     refine WO_ldI (x := P (sqI i + 1)) rfl rfl (.head _) (show P ((i : Int).toNat * 2 + 1) = _ from congrArg P (by have hq : sqI (i : Int) = 0 + (i : Int).toNat * 2 := rfl; omega)) ?_
     refine WO_gt rfl ?_
     refine WO_bin (r := .bool _) rfl rfl rfl ?_
     refine WO_gt rfl ?_
     refine WO_pick (v := .s (.bool _)) rfl rfl ?_
     refine WO_pick (v := .s (.bool _)) rfl rfl ?_
     refine WO_mv (v := .s (.bool _)) rfl ?_
     refine WO_nil ?_
     refine WP_seq ?_
     refine WP_opsX ?_
     refine WOx_app (l1 := [_, _, _, _, _, _, _, _, _, _, _, _, _, _]) (l2 := [_, _, _]) ?_
     refine WO_mv (v := .s (.bool _)) rfl ?_
     refine WO_mv (v := .s (.bool _)) rfl ?_
     refine WO_case (t := 31) rfl (fun h6 => ?_) (fun h6 => ?_)
     ·try simp only [NM] at h6
      try rw [beq_eq_false_iff_ne] at h6
      refine WO_gt rfl ?_
      refine WO_fa (o' := 1) rfl rfl rfl ?_
      refine WO_gt rfl ?_
      refine WO_ldI (x := P (sqI i + 1)) rfl rfl (.head _) (show P ((i : Int).toNat * 2 + 1) = _ from congrArg P (by have hq : sqI (i : Int) = 0 + (i : Int).toNat * 2 := rfl; omega)) ?_
      refine WO_gt rfl ?_
      refine WO_fa (o' := 128) rfl rfl rfl ?_
      refine WO_gt rfl ?_
      refine WO_ldI rfl rfl (.tail _ (.tail _ (.tail _ (.tail _ (.tail _ (.head _)))))) rfl ?_
      refine WO_gt rfl ?_
      refine WO_bin (r := .bool _) rfl rfl rfl ?_
      refine WO_pick (v := .s (.bool _)) rfl rfl ?_
      refine WO_mv (v := .s (.bool _)) rfl ?_
      refine WO_case (t := 38) rfl (fun h7 => ?_) (fun h7 => ?_)
      ·try simp only [NM] at h7
       try rw [beq_eq_false_iff_ne] at h7
       refine WO_gt rfl ?_
       refine WO_mv (v := .yv _) rfl ?_
       refine WO_gt rfl ?_
       first | refine WO_ldA0 rfl rfl (.tail _ (.tail _ (.tail _ (.tail _ (.tail _ (.head _)))))) ?_ | refine WO_ldAI rfl rfl (.tail _ (.tail _ (.tail _ (.tail _ (.tail _ (.head _)))))) ?_
       refine WO_gt rfl ?_
       refine WO_mv (v := .s (.int _ _)) rfl ?_
       refine WO_gt rfl ?_
       first | refine WO_ldA0 rfl rfl (.head _) ?_ | refine WO_ldAI rfl rfl (.head _) ?_
       refine WO_gt rfl ?_
       refine WO_buildI (Q := moverX P i) rfl (.agg rfl (.one rfl (.agg rfl .nil))) ?_
       refine WO_nil ?_
       refine WOx_less (.cons _ (.cons_cons _ (.cons_cons _ (.cons_cons _ (.cons_cons _ (.cons_cons _ .slnil)))))) ?_
       refine WOx_gt rfl ?_
       obtain ⟨x0, x1, x2, x3⟩ := moverX_at P i
       have hx4 : P (sqI i + 1) = 0 ∨ P (sqI i + 1) = 1 := by omega
       have hmv := mvs_is (P := P) (i := i) (by omega) x0 x1 x2 x3 hx4
       have hmo := mover_yes (P := P) (i := i) (by assumption) (by assumption) hx4 (by assumption)
       by_cases hxi : moverX P i 133 = x
       ·skip
        refine yldFr g0 g7 g1 x P (moverX P i) rfl rfl hxi (by omega) (by omega) (fun t ht => squares_bd ht) (Nat.le_trans (squares_len _ _ _ _) (Nat.le_of_ble_eq_true rfl)) rfl (fun v2 own2 n2 hr2 hge2 => WOx_of ?_)
        rw [hmv] at hr2
        refine WO_gt rfl ?_
        refine WO_un (r := .bool _) rfl rfl ?_
        refine WO_pick (v := .s (.bool _)) rfl rfl ?_
        refine WO_nil ?_
        refine WP_cond rfl (fun _ => ?_) (fun h => nomatch h)
        refine WP_ret ?_
        refine ⟨_, RS_nil, ?_⟩
        have hxi : (i : Int) = x := x1.symm.trans hxi
        subst hxi
        refine ⟨rfl, ?_⟩
        rw [if_pos ⟨⟨by omega, by omega⟩, hmo⟩]
        have hfs : fromSv P (i : Int) = srt3 (movesU P i) := if_pos ⟨⟨by omega, by omega⟩, hmo⟩
        rw [hfs]
        exact outs_of hr2 ⟨(List.mem_append_right _ (.head _)), (List.mem_append_right _ (.tail _ (.head _))), (List.mem_append_right _ (.tail _ (.tail _ (.head _)))), (List.mem_append_right _ (.tail _ (.tail _ (.tail _ (.head _))))), (List.mem_append_right _ (.tail _ (.tail _ (.tail _ (.tail _ (.head _)))))), trivial⟩ (fun p hp => ⟨List.mem_append_left _ hp, hge2 p hp⟩)
       ·skip
        refine WOx_yldC (Lr := [(0, _), (1, _), (2, _), (3, _), (4, _)]) (L0 := []) (vs := [.yv 0, .agg 136 (ia (moverX P i))]) (Bs := [(lpFr g0 g7 x 4 0), .sc .var 133 g1, .sc .var 1 (fun _ => .int .i64 x), .vs .var [.snil], .sc .var 133 (ia P)]) (.refl _) rfl rfl (.head _) rfl rfl rfl rfl ?_
        refine WR_mono (roundFr_no g0 g7 g1 x P (moverX P i) hxi) ?_
        rintro v n1 L1 ⟨rfl, hfa⟩
        refine ⟨[(lpFr g0 g7 x 4 0), .sc .var 133 g1, .sc .var 1 (fun _ => .int .i64 x), .vs .var [.snil], .sc .var 133 (ia P)], .s (.bool true), _, hfa, rfl, rfl, rfl, rfl, ?_⟩
        refine WOx_of ?_
        refine WO_gt rfl ?_
        refine WO_un (r := .bool _) rfl rfl ?_
        refine WO_pick (v := .s (.bool _)) rfl rfl ?_
        refine WO_nil ?_
        refine WP_cond rfl (fun h => nomatch h) (fun _ => ?_)
        refine WP_skip ?_
        refine WP_ops ?_
        refine WO_add rfl rfl (by omega) ?_
        refine WO_mv (v := .s (.int _ _)) rfl ?_
        refine WO_nil ?_
        refine ⟨64 - (i + 1), _, by omega, (.cons_cons _ (.cons_cons _ (.cons_cons _ (.cons_cons _ (.cons_cons _ .slnil))))), i + 1, by omega, rfl, ?_, rfl, rfl, rfl, rfl, rfl⟩
        intro j hj hmj
        by_cases e : j = i
        · subst e; exact fun e => hxi (x1.trans e)
        · exact hno j (by omega) hmj
      ·try simp only [NM] at h7
       try rw [beq_eq_false_iff_ne] at h7
       refine WO_gf rfl rfl ?_
       refine WO_gf rfl rfl ?_
       refine WO_gf rfl rfl ?_
       refine WO_gf rfl rfl ?_
       refine WO_gf rfl rfl ?_
       refine WO_nil ?_
       refine WOx_of ?_
       refine WO_gf rfl rfl ?_
       refine WO_gf rfl rfl ?_
       refine WO_pick (v := .s (.bool _)) rfl rfl ?_
       refine WO_nil ?_
       refine WP_cond rfl (fun h => nomatch h) (fun _ => ?_)
       refine WP_skip ?_
       refine WP_ops ?_
       refine WO_add rfl rfl (by omega) ?_
       refine WO_mv (v := .s (.int _ _)) rfl ?_
       refine WO_nil ?_
       refine ⟨64 - (i + 1), _, by omega, (.cons _ (.cons_cons _ (.cons_cons _ (.cons_cons _ (.cons_cons _ (.cons_cons _ .slnil)))))), i + 1, by omega, rfl, ?_, rfl, rfl, rfl, rfl, rfl⟩
       intro j hj hmj
       by_cases e : j = i
       · subst e; rw [mover_no (by omega)] at hmj; cases hmj
       · exact hno j (by omega) hmj
     ·try simp only [NM] at h6
      try rw [beq_eq_false_iff_ne] at h6
      refine WO_gf rfl rfl ?_
      refine WO_gf rfl rfl ?_
      refine WO_gf rfl rfl ?_
      refine WO_gf rfl rfl ?_
      refine WO_gf rfl rfl ?_
      refine WO_pick (v := .s (.bool _)) rfl rfl ?_
      refine WO_mv (v := .s (.bool _)) rfl ?_
      refine WO_gf rfl rfl ?_
      refine WO_gf rfl rfl ?_
      refine WO_gf rfl rfl ?_
      refine WO_gf rfl rfl ?_
      refine WO_gf rfl rfl ?_
      refine WO_nil ?_
      refine WOx_of ?_
      refine WO_gf rfl rfl ?_
      refine WO_gf rfl rfl ?_
      refine WO_pick (v := .s (.bool _)) rfl rfl ?_
      refine WO_nil ?_
      refine WP_cond rfl (fun h => nomatch h) (fun _ => ?_)
      refine WP_skip ?_
      refine WP_ops ?_
      refine WO_add rfl rfl (by omega) ?_
      refine WO_mv (v := .s (.int _ _)) rfl ?_
      refine WO_nil ?_
      refine ⟨64 - (i + 1), _, by omega, (.cons _ (.cons_cons _ (.cons_cons _ (.cons_cons _ (.cons_cons _ (.cons_cons _ .slnil)))))), i + 1, by omega, rfl, ?_, rfl, rfl, rfl, rfl, rfl⟩
      intro j hj hmj
      by_cases e : j = i
      · subst e; rw [mover_no (by omega)] at hmj; cases hmj
      · exact hno j (by omega) hmj
   ·try simp only [NM] at h3
    try rw [beq_eq_false_iff_ne] at h3
    refine WO_gf rfl rfl ?_
    refine WO_gf rfl rfl ?_
    refine WO_gf rfl rfl ?_
    refine WO_gf rfl rfl ?_
    refine WO_gu rfl ?_
    refine WO_gu rfl ?_
    refine WO_gu rfl ?_
    refine WO_gf rfl rfl ?_
    refine WO_pick (v := .s (.bool _)) rfl rfl ?_
    refine WO_mv (v := .s (.bool _)) rfl ?_
    refine WO_nil ?_
    refine WP_seq ?_
    refine WP_opsX ?_
    refine WOx_app (l1 := [_, _, _, _, _, _, _, _, _, _, _, _, _, _]) (l2 := [_, _, _]) ?_
    refine WO_mv (v := .s (.bool _)) rfl ?_
    refine WO_mv (v := .s (.bool _)) rfl ?_
    refine WO_gf rfl rfl ?_
    refine WO_gf rfl rfl ?_
    refine WO_gf rfl rfl ?_
    refine WO_gf rfl rfl ?_
    refine WO_gf rfl rfl ?_
    refine WO_pick (v := .s (.bool _)) rfl rfl ?_
    refine WO_mv (v := .s (.bool _)) rfl ?_
    refine WO_gf rfl rfl ?_
    refine WO_gf rfl rfl ?_
    refine WO_gf rfl rfl ?_
    refine WO_gf rfl rfl ?_
    refine WO_gf rfl rfl ?_
    refine WO_nil ?_
    refine WOx_of ?_
    refine WO_gf rfl rfl ?_
    refine WO_gf rfl rfl ?_
    refine WO_pick (v := .s (.bool _)) rfl rfl ?_
    refine WO_nil ?_
    refine WP_cond rfl (fun h => nomatch h) (fun _ => ?_)
    refine WP_skip ?_
    refine WP_ops ?_
    refine WO_add rfl rfl (by omega) ?_
    refine WO_mv (v := .s (.int _ _)) rfl ?_
    refine WO_nil ?_
    refine ⟨64 - (i + 1), _, by omega, (.cons _ (.cons_cons _ (.cons_cons _ (.cons_cons _ (.cons_cons _ (.cons_cons _ .slnil)))))), i + 1, by omega, rfl, ?_, rfl, rfl, rfl, rfl, rfl⟩
    intro j hj hmj
    by_cases e : j = i
    · subst e; rw [mover_no (by omega)] at hmj; cases hmj
    · exact hno j (by omega) hmj
  ·try simp only [NM] at h2
   try rw [beq_eq_false_iff_ne] at h2
   refine WO_gf rfl rfl ?_
   refine WO_gf rfl rfl ?_
   refine WO_gf rfl rfl ?_
   refine WO_pick (v := .s (.bool _)) rfl rfl ?_
   refine WO_mv (v := .s (.bool _)) rfl ?_
   refine WO_gf rfl rfl ?_
   refine WO_gf rfl rfl ?_
   refine WO_gf rfl rfl ?_
   refine WO_gf rfl rfl ?_
   refine WO_gu rfl ?_
   refine WO_gu rfl ?_
   refine WO_gu rfl ?_
   refine WO_gf rfl rfl ?_
   refine WO_pick (v := .s (.bool _)) rfl rfl ?_
   refine WO_mv (v := .s (.bool _)) rfl ?_
   refine WO_nil ?_
   refine WP_seq ?_
   refine WP_opsX ?_
   refine WOx_app (l1 := [_, _, _, _, _, _, _, _, _, _, _, _, _, _]) (l2 := [_, _, _]) ?_
   refine WO_mv (v := .s (.bool _)) rfl ?_
   refine WO_mv (v := .s (.bool _)) rfl ?_
   refine WO_gf rfl rfl ?_
   refine WO_gf rfl rfl ?_
   refine WO_gf rfl rfl ?_
   refine WO_gf rfl rfl ?_
   refine WO_gf rfl rfl ?_
   refine WO_pick (v := .s (.bool _)) rfl rfl ?_
   refine WO_mv (v := .s (.bool _)) rfl ?_
   refine WO_gf rfl rfl ?_
   refine WO_gf rfl rfl ?_
   refine WO_gf rfl rfl ?_
   refine WO_gf rfl rfl ?_
   refine WO_gf rfl rfl ?_
   refine WO_nil ?_
   refine WOx_of ?_
   refine WO_gf rfl rfl ?_
   refine WO_gf rfl rfl ?_
   refine WO_pick (v := .s (.bool _)) rfl rfl ?_
   refine WO_nil ?_
   refine WP_cond rfl (fun h => nomatch h) (fun _ => ?_)
   refine WP_skip ?_
   refine WP_ops ?_
   refine WO_add rfl rfl (by omega) ?_
   refine WO_mv (v := .s (.int _ _)) rfl ?_
   refine WO_nil ?_
   refine ⟨64 - (i + 1), _, by omega, (.cons _ (.cons_cons _ (.cons_cons _ (.cons_cons _ (.cons_cons _ (.cons_cons _ .slnil)))))), i + 1, by omega, rfl, ?_, rfl, rfl, rfl, rfl, rfl⟩
   intro j hj hmj
   by_cases e : j = i
   · subst e; rw [mover_no (by omega)] at hmj; cases hmj
   · exact hno j (by omega) hmj
 ·try simp only [NM] at h1
  try rw [beq_eq_false_iff_ne] at h1
  refine WP_exit ?_
  refine xhere ?_
  refine ⟨_, RS_nil, ?_⟩
  obtain rfl : i = 64 := by omega
  refine ⟨rfl, ?_⟩
  rw [if_neg]
  ·exact ⟨(.head _), (.tail _ (.head _)), (.tail _ (.tail _ (.head _))), (.tail _ (.tail _ (.tail _ (.head _)))), (.tail _ (.tail _ (.tail _ (.tail _ (.head _))))), trivial⟩
  ·rintro ⟨hb, hm⟩
   obtain ⟨k, rfl⟩ : ∃ k : Nat, x = k := ⟨x.toNat, by omega⟩
   exact hno k (by omega) hm rfl
theorem from_sv (P : Nat → Int) (x : Int) : RtR AM 6 3 [.agg 133 (ia P), .s (.int .i64 x)] [] (flat3 (fromSv P x)) [] := by
 refine RtR_of0 ?_
 refine WR_fnV (a := a6) rfl rfl (entryF _) (entry_E (Nat.le_of_ble_eq_true rfl)) (m := 0) (c0 := 4) rfl rfl ?_
 refine WP_seq (WP_ops (WO_boxA rfl (WO_boxI rfl (WO_allocB (z := .one .snil) rfl (WO_nil ?_)))))
 refine WP_seq (WP_seq (WP_ops ?_))
 refine WO_ldA0 rfl rfl (.tail _ (.tail _ (.head _))) ?_
 refine WO_callA (fv := .fn 12 []) (rs := []) (vs := [.agg 133 (ia P)]) (Bs := []) rfl rfl rfl rfl (WR_mono (movers_run P) ?_)
 rintro v9 n9 L9 ⟨rfl, rfl, rfl⟩
 refine ⟨.fn 23 [.ptr 3 0 133], [], [.sc .var 133 (ia P)], rfl, ?_⟩
 refine WO_nil (WP_block ?_)
 refine WP_rfnN (Lr := [(0, _), (1, _), (2, _), (3, _)]) (L0 := []) (vs := [.yv 0, .ptr 4 0 133]) (Bs := [lpFr (ia P) (ia P) x 4 0, .sc .var 133 (ia P), .sc .var 1 (fun _ => .int .i64 x), .vs .var [.snil], .sc .var 133 (ia P)]) (List.reverse_perm [_, _, _, _]) rfl rfl rfl rfl rfl (WR_mono (iter_fr (ia P) (ia P) (ia P) x P) ?_)
 rintro r n1 L1 ⟨rfl, ho⟩
 by_cases hit : (0 ≤ x ∧ x < 64) ∧ moverM P x = true
 ·rw [if_pos hit] at ho
  rcases ho with ⟨e1, e2⟩ | ⟨b, m, q, F, e1, e2, e3, e4, e5⟩
  ·refine .inl ⟨_, .tup [], _, e2, rfl, rfl, rfl, rfl, 9, rd6, _, 2, _, .refl _, ?_⟩
   exact ⟨2, .var, .snil, rfl, .tail _ (.tail _ (.head _)), [], .nil e1, fun p hp => by cases hp⟩
  ·refine .inr ⟨[lpFr (ia P) (ia P) x 4 2, .sc .var 133 (ia P), .sc .var 1 (fun _ => .int .i64 x)], [.sc .var 133 (ia P)], b, m, 3, q, .var, .grow, ia F, .tup [], _, _, e3, rfl, e1, e2, rfl, rfl, rfl, rfl, rfl, (Nat.le_of_ble_eq_true rfl), 9, rd6, _, 2, _, .swap _ _ _, ?_⟩
   exact ⟨2, .var, _, rfl, .tail _ (.tail _ (.tail _ (.head _))), [(_, _)], .row e4 e5, fun p hp => by rw [List.mem_singleton.1 hp]; exact .head _⟩
 ·rw [if_neg hit] at ho
  have hl : flat3 (fromSv P x) = [] := by
   rw [show fromSv P x = [] from if_neg hit]; rfl
  refine .inl ⟨_, .tup [], _, ho, rfl, rfl, rfl, rfl, 9, rd6, _, 0, _, .refl _, ?_⟩
  refine WP_seq (WP_ops ?_)
  refine WO_stR (b := 2) (u := .snil) (v := .snil) rfl rfl rfl (.there (.there .here)) ?_
  exact WO_nil (WP_ret ⟨2, .var, .snil, rfl, .tail _ (.tail _ (.head _)), [], .nil hl, fun p hp => by cases hp⟩)
end Go.Proofs.Ytlkighkfkdpncaa
set_option linter.unusedSimpArgs false
set_option linter.unusedVariables false
namespace Go.Proofs.Ytlkighkfkdpncaa
open Go Go.Am
set_option maxRecDepth 100000
def emptyF (i : Nat) : Int := if i = 130 then -1 else if i = 132 then 1 else 0
def startF (i : Nat) : Int :=
 if i < 16 then (if i % 2 = 0 then ([4, 2, 3, 5, 6, 3, 2, 4] : List Int).getD (i / 2) 0 else 0)
 else if i < 32 then (if i % 2 = 0 then 1 else 0)
 else if i < 96 then 0
 else if i < 112 then 1
 else if i < 128 then (if i % 2 = 0 then ([4, 2, 3, 5, 6, 3, 2, 4] : List Int).getD ((i - 112) / 2) 0 else 1)
 else if i = 128 then 0 else if i = 129 then 15 else if i = 130 then -1 else if i = 131 then 0 else if i = 132 then 1 else 0
theorem emptyF_hi (i : Nat) (h : 133 ≤ i) : emptyF i = 0 := by
 unfold emptyF
 rw [if_neg (by omega), if_neg (by omega)]
theorem startF_hi (i : Nat) (h : 133 ≤ i) : startF i = 0 := by
 unfold startF
 rw [if_neg (by omega), if_neg (by omega), if_neg (by omega), if_neg (by omega), if_neg (by omega), if_neg (by omega), if_neg (by omega), if_neg (by omega), if_neg (by omega), if_neg (by omega)]
theorem ovA_is {P Q R : Nat → Int} {m : Nat} (h : ∀ i, i < m → Q i = R i) (h2 : ∀ i, m ≤ i → P i = R i) : ovA P 0 m Q = R := by
 funext i
 by_cases hi : i < m
 ·rw [ovA_at (by omega)]; exact h i hi
 ·rw [ovA_out (by omega)]; exact h2 i (by omega)
theorem rEmpty_run  : WR AM 22 [] [] (fun v _ _ => v = .agg 133 (ia emptyF)) := by
 refine WR_fn (a := a22) rfl rfl (entryF _) (entry_E (Nat.le_of_ble_eq_true rfl)) (m := 0) rfl ?_
 refine WP_seq ?_
 refine WP_ops ?_
 refine WO_allocI ?_
 refine WO_nil ?_
 refine WP_seq ?_
 refine WP_ops ?_
 refine WO_buildI rfl (.one rfl (.one rfl .nil)) ?_
 refine WO_stA rfl rfl rfl rfl .here ?_
 refine WO_nil ?_
 refine WP_ret ?_
 refine ⟨_, RS_cell rfl rfl (.head _) (RS_nil), ?_⟩
 refine congrArg (fun P => V.agg 133 (ia P)) ?_
 refine ovA_is (by decide +kernel) fun i hi => (emptyF_hi i hi).symm
theorem rStart_run  : WR AM 11 [] [] (fun v _ _ => v = .agg 133 (ia startF)) := by
 refine WR_fn (a := a11) rfl rfl (entryF _) (entry_E (Nat.le_of_ble_eq_true rfl)) (m := 0) rfl ?_
 refine WP_seq ?_
 refine WP_ops ?_
 refine WO_allocI ?_
 refine WO_nil ?_
 refine WP_seq ?_
 refine WP_ops ?_
 refine WO_call0 rfl (RF_of rEmpty_run) rfl rfl rfl ?_
 refine WO_allocI ?_
 refine WO_stA rfl rfl rfl rfl .here ?_
 refine WO_nil ?_
 refine WP_seq ?_
 refine WP_ops ?_
 refine WO_mkslS rfl (.one rfl (.one rfl (.one rfl (.one rfl (.one rfl (.one rfl (.one rfl (.one rfl .nil)))))))) ?_
 refine WO_mv (v := .sl _ _ _ _ _) rfl ?_
 refine WO_nil ?_
 refine WP_seq ?_
 refine WP_seq ?_
 refine WP_ops ?_
 refine WO_mv rfl ?_
 refine WO_nil ?_
 refine WP_block ?_
 refine WP_unroll ?_
 refine WP_seq ?_
 refine WP_seq ?_
 refine WP_ops ?_
 refine WO_mv (v := .s (.int _ _)) rfl ?_
 refine WO_bin (r := .bool _) rfl rfl rfl ?_
 refine WO_nil ?_
 refine WP_cond rfl (fun h1 => ?_) (fun h1 => ?_)
 ·try simp only [NM] at h1
  refine WP_skip ?_
  refine WP_seq ?_
  refine WP_block ?_
  refine WP_seq ?_
  refine WP_ops ?_
  refine WO_mv (v := .s (.int _ _)) rfl ?_
  refine WO_mv (v := .sl _ _ _ _ _) rfl ?_
  refine WO_mv (v := .s (.int _ _)) rfl ?_
  refine WO_ixs rfl rfl (by omega) ?_
  refine WO_ldI (x := _) rfl rfl (.head _) (rfl) ?_
  refine WO_buildI rfl (.one rfl (.one rfl .nil)) ?_
  refine WO_fa (o' := 0) rfl rfl rfl ?_
  refine WO_ixa rfl rfl rfl (by omega) ?_
  refine WO_stA rfl rfl rfl rfl (.there .here) ?_
  refine WO_nil ?_
  refine WP_seq ?_
  refine WP_ops ?_
  refine WO_mv (v := .s (.int _ _)) rfl ?_
  refine WO_add rfl rfl (by omega) ?_
  refine WO_buildI rfl (.one rfl (.one rfl .nil)) ?_
  refine WO_fa (o' := 0) rfl rfl rfl ?_
  refine WO_ixa rfl rfl rfl (by omega) ?_
  refine WO_stA rfl rfl rfl rfl (.there .here) ?_
  refine WO_nil ?_
  refine WP_seq ?_
  refine WP_ops ?_
  refine WO_mv (v := .s (.int _ _)) rfl ?_
  refine WO_add rfl rfl (by omega) ?_
  refine WO_buildI rfl (.one rfl (.one rfl .nil)) ?_
  refine WO_fa (o' := 0) rfl rfl rfl ?_
  refine WO_ixa rfl rfl rfl (by omega) ?_
  refine WO_stA rfl rfl rfl rfl (.there .here) ?_
  refine WO_nil ?_
  refine WP_ops ?_
  refine WO_mv (v := .s (.int _ _)) rfl ?_
  refine WO_add rfl rfl (by omega) ?_
  refine WO_mv (v := .sl _ _ _ _ _) rfl ?_
  refine WO_mv (v := .s (.int _ _)) rfl ?_
  refine WO_ixs rfl rfl (by omega) ?_
  refine WO_ldI (x := _) rfl rfl (.head _) (rfl) ?_
  refine WO_buildI rfl (.one rfl (.one rfl .nil)) ?_
  refine WO_fa (o' := 0) rfl rfl rfl ?_
  refine WO_ixa rfl rfl rfl (by omega) ?_
  refine WO_stA rfl rfl rfl rfl (.there .here) ?_
  refine WO_nil ?_
  refine WP_ops ?_
  refine WO_mv (v := .s (.int _ _)) rfl ?_
  refine WO_add rfl rfl (by omega) ?_
  refine WO_mv (v := .s (.int _ _)) rfl ?_
  refine WO_nil ?_
  refine WP_unroll ?_
  refine WP_seq ?_
  refine WP_seq ?_
  refine WP_ops ?_
  refine WO_mv (v := .s (.int _ _)) rfl ?_
  refine WO_bin (r := .bool _) rfl rfl rfl ?_
  refine WO_nil ?_
  refine WP_cond rfl (fun h2 => ?_) (fun h2 => ?_)
  ·try simp only [NM] at h2
   refine WP_skip ?_
   refine WP_seq ?_
   refine WP_block ?_
   refine WP_seq ?_
   refine WP_ops ?_
   refine WO_mv (v := .s (.int _ _)) rfl ?_
   refine WO_mv (v := .sl _ _ _ _ _) rfl ?_
   refine WO_mv (v := .s (.int _ _)) rfl ?_
   refine WO_ixs rfl rfl (by omega) ?_
   refine WO_ldI (x := _) rfl rfl (.head _) (rfl) ?_
   refine WO_buildI rfl (.one rfl (.one rfl .nil)) ?_
   refine WO_fa (o' := 0) rfl rfl rfl ?_
   refine WO_ixa rfl rfl rfl (by omega) ?_
   refine WO_stA rfl rfl rfl rfl (.there .here) ?_
   refine WO_nil ?_
   refine WP_seq ?_
   refine WP_ops ?_
   refine WO_mv (v := .s (.int _ _)) rfl ?_
   refine WO_add rfl rfl (by omega) ?_
   refine WO_buildI rfl (.one rfl (.one rfl .nil)) ?_
   refine WO_fa (o' := 0) rfl rfl rfl ?_
   refine WO_ixa rfl rfl rfl (by omega) ?_
   refine WO_stA rfl rfl rfl rfl (.there .here) ?_
   refine WO_nil ?_
   refine WP_seq ?_
   refine WP_ops ?_
   refine WO_mv (v := .s (.int _ _)) rfl ?_
   refine WO_add rfl rfl (by omega) ?_
   refine WO_buildI rfl (.one rfl (.one rfl .nil)) ?_
   refine WO_fa (o' := 0) rfl rfl rfl ?_
   refine WO_ixa rfl rfl rfl (by omega) ?_
   refine WO_stA rfl rfl rfl rfl (.there .here) ?_
   refine WO_nil ?_
   refine WP_ops ?_
   refine WO_mv (v := .s (.int _ _)) rfl ?_
   refine WO_add rfl rfl (by omega) ?_
   refine WO_mv (v := .sl _ _ _ _ _) rfl ?_
   refine WO_mv (v := .s (.int _ _)) rfl ?_
   refine WO_ixs rfl rfl (by omega) ?_
   refine WO_ldI (x := _) rfl rfl (.head _) (rfl) ?_
   refine WO_buildI rfl (.one rfl (.one rfl .nil)) ?_
   refine WO_fa (o' := 0) rfl rfl rfl ?_
   refine WO_ixa rfl rfl rfl (by omega) ?_
   refine WO_stA rfl rfl rfl rfl (.there .here) ?_
   refine WO_nil ?_
   refine WP_ops ?_
   refine WO_mv (v := .s (.int _ _)) rfl ?_
   refine WO_add rfl rfl (by omega) ?_
   refine WO_mv (v := .s (.int _ _)) rfl ?_
   refine WO_nil ?_
   refine WP_unroll ?_
   refine WP_seq ?_
   refine WP_seq ?_
   refine WP_ops ?_
   refine WO_mv (v := .s (.int _ _)) rfl ?_
   refine WO_bin (r := .bool _) rfl rfl rfl ?_
   refine WO_nil ?_
   refine WP_cond rfl (fun h3 => ?_) (fun h3 => ?_)
   ·try simp only [NM] at h3
    refine WP_skip ?_
    refine WP_seq ?_
    refine WP_block ?_
    refine WP_seq ?_
    refine WP_ops ?_
    refine WO_mv (v := .s (.int _ _)) rfl ?_
    refine WO_mv (v := .sl _ _ _ _ _) rfl ?_
    refine WO_mv (v := .s (.int _ _)) rfl ?_
    refine WO_ixs rfl rfl (by omega) ?_
    refine WO_ldI (x := _) rfl rfl (.head _) (rfl) ?_
    refine WO_buildI rfl (.one rfl (.one rfl .nil)) ?_
    refine WO_fa (o' := 0) rfl rfl rfl ?_
    refine WO_ixa rfl rfl rfl (by omega) ?_
    refine WO_stA rfl rfl rfl rfl (.there .here) ?_
    refine WO_nil ?_
    refine WP_seq ?_
    refine WP_ops ?_
    refine WO_mv (v := .s (.int _ _)) rfl ?_
    refine WO_add rfl rfl (by omega) ?_
    refine WO_buildI rfl (.one rfl (.one rfl .nil)) ?_
    refine WO_fa (o' := 0) rfl rfl rfl ?_
    refine WO_ixa rfl rfl rfl (by omega) ?_
    refine WO_stA rfl rfl rfl rfl (.there .here) ?_
    refine WO_nil ?_
    refine WP_seq ?_
    refine WP_ops ?_
    refine WO_mv (v := .s (.int _ _)) rfl ?_
    refine WO_add rfl rfl (by omega) ?_
    refine WO_buildI rfl (.one rfl (.one rfl .nil)) ?_
    refine WO_fa (o' := 0) rfl rfl rfl ?_
    refine WO_ixa rfl rfl rfl (by omega) ?_
    refine WO_stA rfl rfl rfl rfl (.there .here) ?_
    refine WO_nil ?_
    refine WP_ops ?_
    refine WO_mv (v := .s (.int _ _)) rfl ?_
    refine WO_add rfl rfl (by omega) ?_
    refine WO_mv (v := .sl _ _ _ _ _) rfl ?_
    refine WO_mv (v := .s (.int _ _)) rfl ?_
    refine WO_ixs rfl rfl (by omega) ?_
    refine WO_ldI (x := _) rfl rfl (.head _) (rfl) ?_
    refine WO_buildI rfl (.one rfl (.one rfl .nil)) ?_
    refine WO_fa (o' := 0) rfl rfl rfl ?_
    refine WO_ixa rfl rfl rfl (by omega) ?_
    refine WO_stA rfl rfl rfl rfl (.there .here) ?_
    refine WO_nil ?_
    refine WP_ops ?_
    refine WO_mv (v := .s (.int _ _)) rfl ?_
    refine WO_add rfl rfl (by omega) ?_
    refine WO_mv (v := .s (.int _ _)) rfl ?_
    refine WO_nil ?_
    refine WP_unroll ?_
    refine WP_seq ?_
    refine WP_seq ?_
    refine WP_ops ?_
    refine WO_mv (v := .s (.int _ _)) rfl ?_
    refine WO_bin (r := .bool _) rfl rfl rfl ?_
    refine WO_nil ?_
    refine WP_cond rfl (fun h4 => ?_) (fun h4 => ?_)
    ·try simp only [NM] at h4
     refine WP_skip ?_
     refine WP_seq ?_
     refine WP_block ?_
     refine WP_seq ?_
     refine WP_ops ?_
     refine WO_mv (v := .s (.int _ _)) rfl ?_
     refine WO_mv (v := .sl _ _ _ _ _) rfl ?_
     refine WO_mv (v := .s (.int _ _)) rfl ?_
     refine WO_ixs rfl rfl (by omega) ?_
     refine WO_ldI (x := _) rfl rfl (.head _) (rfl) ?_
     refine WO_buildI rfl (.one rfl (.one rfl .nil)) ?_
     refine WO_fa (o' := 0) rfl rfl rfl ?_
     refine WO_ixa rfl rfl rfl (by omega) ?_
     refine WO_stA rfl rfl rfl rfl (.there .here) ?_
     refine WO_nil ?_
     refine WP_seq ?_
     refine WP_ops ?_
     refine WO_mv (v := .s (.int _ _)) rfl ?_
     refine WO_add rfl rfl (by omega) ?_
     refine WO_buildI rfl (.one rfl (.one rfl .nil)) ?_
     refine WO_fa (o' := 0) rfl rfl rfl ?_
     refine WO_ixa rfl rfl rfl (by omega) ?_
     refine WO_stA rfl rfl rfl rfl (.there .here) ?_
     refine WO_nil ?_
     refine WP_seq ?_
     refine WP_ops ?_
     refine WO_mv (v := .s (.int _ _)) rfl ?_
     refine WO_add rfl rfl (by omega) ?_
     refine WO_buildI rfl (.one rfl (.one rfl .nil)) ?_
     refine WO_fa (o' := 0) rfl rfl rfl ?_
     refine WO_ixa rfl rfl rfl (by omega) ?_
     refine WO_stA rfl rfl rfl rfl (.there .here) ?_
     refine WO_nil ?_
     refine WP_ops ?_
     refine WO_mv (v := .s (.int _ _)) rfl ?_
     refine WO_add rfl rfl (by omega) ?_
     refine WO_mv (v := .sl _ _ _ _ _) rfl ?_
     refine WO_mv (v := .s (.int _ _)) rfl ?_
     refine WO_ixs rfl rfl (by omega) ?_
     refine WO_ldI (x := _) rfl rfl (.head _) (rfl) ?_
     refine WO_buildI rfl (.one rfl (.one rfl .nil)) ?_
     refine WO_fa (o' := 0) rfl rfl rfl ?_
     refine WO_ixa rfl rfl rfl (by omega) ?_
     refine WO_stA rfl rfl rfl rfl (.there .here) ?_
     refine WO_nil ?_
     refine WP_ops ?_
     refine WO_mv (v := .s (.int _ _)) rfl ?_
     refine WO_add rfl rfl (by omega) ?_
     refine WO_mv (v := .s (.int _ _)) rfl ?_
     refine WO_nil ?_
     refine WP_unroll ?_
     refine WP_seq ?_
     refine WP_seq ?_
     refine WP_ops ?_
     refine WO_mv (v := .s (.int _ _)) rfl ?_
     refine WO_bin (r := .bool _) rfl rfl rfl ?_
     refine WO_nil ?_
     refine WP_cond rfl (fun h5 => ?_) (fun h5 => ?_)
     ·try simp only [NM] at h5
      refine WP_skip ?_
      refine WP_seq ?_
      refine WP_block ?_
      refine WP_seq ?_
      refine WP_ops ?_
      refine WO_mv (v := .s (.int _ _)) rfl ?_
      refine WO_mv (v := .sl _ _ _ _ _) rfl ?_
      refine WO_mv (v := .s (.int _ _)) rfl ?_
      refine WO_ixs rfl rfl (by omega) ?_
      refine WO_ldI (x := _) rfl rfl (.head _) (rfl) ?_
      refine WO_buildI rfl (.one rfl (.one rfl .nil)) ?_
      refine WO_fa (o' := 0) rfl rfl rfl ?_
      refine WO_ixa rfl rfl rfl (by omega) ?_
      refine WO_stA rfl rfl rfl rfl (.there .here) ?_
      refine WO_nil ?_
      refine WP_seq ?_
      refine WP_ops ?_
      refine WO_mv (v := .s (.int _ _)) rfl ?_
      refine WO_add rfl rfl (by omega) ?_
      refine WO_buildI rfl (.one rfl (.one rfl .nil)) ?_
      refine WO_fa (o' := 0) rfl rfl rfl ?_
      refine WO_ixa rfl rfl rfl (by omega) ?_
      refine WO_stA rfl rfl rfl rfl (.there .here) ?_
      refine WO_nil ?_
      refine WP_seq ?_
      refine WP_ops ?_
      refine WO_mv (v := .s (.int _ _)) rfl ?_
      refine WO_add rfl rfl (by omega) ?_
      refine WO_buildI rfl (.one rfl (.one rfl .nil)) ?_
      refine WO_fa (o' := 0) rfl rfl rfl ?_
      refine WO_ixa rfl rfl rfl (by omega) ?_
      refine WO_stA rfl rfl rfl rfl (.there .here) ?_
      refine WO_nil ?_
      refine WP_ops ?_
      refine WO_mv (v := .s (.int _ _)) rfl ?_
      refine WO_add rfl rfl (by omega) ?_
      refine WO_mv (v := .sl _ _ _ _ _) rfl ?_
      refine WO_mv (v := .s (.int _ _)) rfl ?_
      refine WO_ixs rfl rfl (by omega) ?_
      refine WO_ldI (x := _) rfl rfl (.head _) (rfl) ?_
      refine WO_buildI rfl (.one rfl (.one rfl .nil)) ?_
      refine WO_fa (o' := 0) rfl rfl rfl ?_
      refine WO_ixa rfl rfl rfl (by omega) ?_
      refine WO_stA rfl rfl rfl rfl (.there .here) ?_
      refine WO_nil ?_
      refine WP_ops ?_
      refine WO_mv (v := .s (.int _ _)) rfl ?_
      refine WO_add rfl rfl (by omega) ?_
      refine WO_mv (v := .s (.int _ _)) rfl ?_
      refine WO_nil ?_
      refine WP_unroll ?_
      refine WP_seq ?_
      refine WP_seq ?_
      refine WP_ops ?_
      refine WO_mv (v := .s (.int _ _)) rfl ?_
      refine WO_bin (r := .bool _) rfl rfl rfl ?_
      refine WO_nil ?_
      refine WP_cond rfl (fun h6 => ?_) (fun h6 => ?_)
      ·try simp only [NM] at h6
       refine WP_skip ?_
       refine WP_seq ?_
       refine WP_block ?_
       refine WP_seq ?_
       refine WP_ops ?_
       refine WO_mv (v := .s (.int _ _)) rfl ?_
       refine WO_mv (v := .sl _ _ _ _ _) rfl ?_
       refine WO_mv (v := .s (.int _ _)) rfl ?_
       refine WO_ixs rfl rfl (by omega) ?_
       refine WO_ldI (x := _) rfl rfl (.head _) (rfl) ?_
       refine WO_buildI rfl (.one rfl (.one rfl .nil)) ?_
       refine WO_fa (o' := 0) rfl rfl rfl ?_
       refine WO_ixa rfl rfl rfl (by omega) ?_
       refine WO_stA rfl rfl rfl rfl (.there .here) ?_
       refine WO_nil ?_
       refine WP_seq ?_
       refine WP_ops ?_
       refine WO_mv (v := .s (.int _ _)) rfl ?_
       refine WO_add rfl rfl (by omega) ?_
       refine WO_buildI rfl (.one rfl (.one rfl .nil)) ?_
       refine WO_fa (o' := 0) rfl rfl rfl ?_
       refine WO_ixa rfl rfl rfl (by omega) ?_
       refine WO_stA rfl rfl rfl rfl (.there .here) ?_
       refine WO_nil ?_
       refine WP_seq ?_
       refine WP_ops ?_
       refine WO_mv (v := .s (.int _ _)) rfl ?_
       refine WO_add rfl rfl (by omega) ?_
       refine WO_buildI rfl (.one rfl (.one rfl .nil)) ?_
       refine WO_fa (o' := 0) rfl rfl rfl ?_
       refine WO_ixa rfl rfl rfl (by omega) ?_
       refine WO_stA rfl rfl rfl rfl (.there .here) ?_
       refine WO_nil ?_
       refine WP_ops ?_
       refine WO_mv (v := .s (.int _ _)) rfl ?_
       refine WO_add rfl rfl (by omega) ?_
       refine WO_mv (v := .sl _ _ _ _ _) rfl ?_
       refine WO_mv (v := .s (.int _ _)) rfl ?_
       refine WO_ixs rfl rfl (by omega) ?_
       refine WO_ldI (x := _) rfl rfl (.head _) (rfl) ?_
       refine WO_buildI rfl (.one rfl (.one rfl .nil)) ?_
       refine WO_fa (o' := 0) rfl rfl rfl ?_
       refine WO_ixa rfl rfl rfl (by omega) ?_
       refine WO_stA rfl rfl rfl rfl (.there .here) ?_
       refine WO_nil ?_
       refine WP_ops ?_
       refine WO_mv (v := .s (.int _ _)) rfl ?_
       refine WO_add rfl rfl (by omega) ?_
       refine WO_mv (v := .s (.int _ _)) rfl ?_
       refine WO_nil ?_
       refine WP_unroll ?_
       refine WP_seq ?_
       refine WP_seq ?_
       refine WP_ops ?_
       refine WO_mv (v := .s (.int _ _)) rfl ?_
       refine WO_bin (r := .bool _) rfl rfl rfl ?_
       refine WO_nil ?_
       refine WP_cond rfl (fun h7 => ?_) (fun h7 => ?_)
       ·try simp only [NM] at h7
        refine WP_skip ?_
        refine WP_seq ?_
        refine WP_block ?_
        refine WP_seq ?_
        refine WP_ops ?_
        refine WO_mv (v := .s (.int _ _)) rfl ?_
        refine WO_mv (v := .sl _ _ _ _ _) rfl ?_
        refine WO_mv (v := .s (.int _ _)) rfl ?_
        refine WO_ixs rfl rfl (by omega) ?_
        refine WO_ldI (x := _) rfl rfl (.head _) (rfl) ?_
        refine WO_buildI rfl (.one rfl (.one rfl .nil)) ?_
        refine WO_fa (o' := 0) rfl rfl rfl ?_
        refine WO_ixa rfl rfl rfl (by omega) ?_
        refine WO_stA rfl rfl rfl rfl (.there .here) ?_
        refine WO_nil ?_
        refine WP_seq ?_
        refine WP_ops ?_
        refine WO_mv (v := .s (.int _ _)) rfl ?_
        refine WO_add rfl rfl (by omega) ?_
        refine WO_buildI rfl (.one rfl (.one rfl .nil)) ?_
        refine WO_fa (o' := 0) rfl rfl rfl ?_
        refine WO_ixa rfl rfl rfl (by omega) ?_
        refine WO_stA rfl rfl rfl rfl (.there .here) ?_
        refine WO_nil ?_
        refine WP_seq ?_
        refine WP_ops ?_
        refine WO_mv (v := .s (.int _ _)) rfl ?_
        refine WO_add rfl rfl (by omega) ?_
        refine WO_buildI rfl (.one rfl (.one rfl .nil)) ?_
        refine WO_fa (o' := 0) rfl rfl rfl ?_
        refine WO_ixa rfl rfl rfl (by omega) ?_
        refine WO_stA rfl rfl rfl rfl (.there .here) ?_
        refine WO_nil ?_
        refine WP_ops ?_
        refine WO_mv (v := .s (.int _ _)) rfl ?_
        refine WO_add rfl rfl (by omega) ?_
        refine WO_mv (v := .sl _ _ _ _ _) rfl ?_
        refine WO_mv (v := .s (.int _ _)) rfl ?_
        refine WO_ixs rfl rfl (by omega) ?_
        refine WO_ldI (x := _) rfl rfl (.head _) (rfl) ?_
        refine WO_buildI rfl (.one rfl (.one rfl .nil)) ?_
        refine WO_fa (o' := 0) rfl rfl rfl ?_
        refine WO_ixa rfl rfl rfl (by omega) ?_
        refine WO_stA rfl rfl rfl rfl (.there .here) ?_
        refine WO_nil ?_
        refine WP_ops ?_
        refine WO_mv (v := .s (.int _ _)) rfl ?_
        refine WO_add rfl rfl (by omega) ?_
        refine WO_mv (v := .s (.int _ _)) rfl ?_
        refine WO_nil ?_
        refine WP_unroll ?_
        refine WP_seq ?_
        refine WP_seq ?_
        refine WP_ops ?_
        refine WO_mv (v := .s (.int _ _)) rfl ?_
        refine WO_bin (r := .bool _) rfl rfl rfl ?_
        refine WO_nil ?_
        refine WP_cond rfl (fun h8 => ?_) (fun h8 => ?_)
        ·try simp only [NM] at h8
         refine WP_skip ?_
         refine WP_seq ?_
         refine WP_block ?_
         refine WP_seq ?_
         refine WP_ops ?_
         refine WO_mv (v := .s (.int _ _)) rfl ?_
         refine WO_mv (v := .sl _ _ _ _ _) rfl ?_
         refine WO_mv (v := .s (.int _ _)) rfl ?_
         refine WO_ixs rfl rfl (by omega) ?_
         refine WO_ldI (x := _) rfl rfl (.head _) (rfl) ?_
         refine WO_buildI rfl (.one rfl (.one rfl .nil)) ?_
         refine WO_fa (o' := 0) rfl rfl rfl ?_
         refine WO_ixa rfl rfl rfl (by omega) ?_
         refine WO_stA rfl rfl rfl rfl (.there .here) ?_
         refine WO_nil ?_
         refine WP_seq ?_
         refine WP_ops ?_
         refine WO_mv (v := .s (.int _ _)) rfl ?_
         refine WO_add rfl rfl (by omega) ?_
         refine WO_buildI rfl (.one rfl (.one rfl .nil)) ?_
         refine WO_fa (o' := 0) rfl rfl rfl ?_
         refine WO_ixa rfl rfl rfl (by omega) ?_
         refine WO_stA rfl rfl rfl rfl (.there .here) ?_
         refine WO_nil ?_
         refine WP_seq ?_
         refine WP_ops ?_
         refine WO_mv (v := .s (.int _ _)) rfl ?_
         refine WO_add rfl rfl (by omega) ?_
         refine WO_buildI rfl (.one rfl (.one rfl .nil)) ?_
         refine WO_fa (o' := 0) rfl rfl rfl ?_
         refine WO_ixa rfl rfl rfl (by omega) ?_
         refine WO_stA rfl rfl rfl rfl (.there .here) ?_
         refine WO_nil ?_
         refine WP_ops ?_
         refine WO_mv (v := .s (.int _ _)) rfl ?_
         refine WO_add rfl rfl (by omega) ?_
         refine WO_mv (v := .sl _ _ _ _ _) rfl ?_
         refine WO_mv (v := .s (.int _ _)) rfl ?_
         refine WO_ixs rfl rfl (by omega) ?_
         refine WO_ldI (x := _) rfl rfl (.head _) (rfl) ?_
         refine WO_buildI rfl (.one rfl (.one rfl .nil)) ?_
         refine WO_fa (o' := 0) rfl rfl rfl ?_
         refine WO_ixa rfl rfl rfl (by omega) ?_
         refine WO_stA rfl rfl rfl rfl (.there .here) ?_
         refine WO_nil ?_
         refine WP_ops ?_
         refine WO_mv (v := .s (.int _ _)) rfl ?_
         refine WO_add rfl rfl (by omega) ?_
         refine WO_mv (v := .s (.int _ _)) rfl ?_
         refine WO_nil ?_
         refine WP_unroll ?_
         refine WP_seq ?_
         refine WP_seq ?_
         refine WP_ops ?_
         refine WO_mv (v := .s (.int _ _)) rfl ?_
         refine WO_bin (r := .bool _) rfl rfl rfl ?_
         refine WO_nil ?_
         refine WP_cond rfl (fun h9 => ?_) (fun h9 => ?_)
         ·try simp only [NM] at h9
          exfalso; first | omega | (simp at h9)
         ·try simp only [NM] at h9
          refine WP_exit ?_
          refine xhere ?_
          refine WP_seq ?_
          refine WP_ops ?_
          refine WO_fa (o' := 129) rfl rfl rfl ?_
          refine WO_stI rfl rfl rfl rfl (.there .here) ?_
          refine WO_nil ?_
          refine WP_seq ?_
          refine WP_ops ?_
          first | refine WO_ldA0 rfl rfl (.tail _ (.head _)) ?_ | refine WO_ldAI rfl rfl (.tail _ (.head _)) ?_
          refine WO_stA rfl rfl rfl rfl (.there (.there .here)) ?_
          refine WO_nil ?_
          refine WP_ret ?_
          refine ⟨_, RS_cell rfl rfl (.tail _ (.tail _ (.head _))) (RS_nil), ?_⟩
          refine congrArg (fun P => V.agg 133 (ia P)) ?_
          refine ovA_is (by decide +kernel) fun i hi => (startF_hi i hi).symm
        ·try simp only [NM] at h8
         exfalso; first | omega | (simp at h8)
       ·try simp only [NM] at h7
        exfalso; first | omega | (simp at h7)
      ·try simp only [NM] at h6
       exfalso; first | omega | (simp at h6)
     ·try simp only [NM] at h5
      exfalso; first | omega | (simp at h5)
    ·try simp only [NM] at h4
     exfalso; first | omega | (simp at h4)
   ·try simp only [NM] at h3
    exfalso; first | omega | (simp at h3)
  ·try simp only [NM] at h2
   exfalso; first | omega | (simp at h2)
 ·try simp only [NM] at h1
  exfalso; first | omega | (simp at h1)
end Go.Proofs.Ytlkighkfkdpncaa
namespace Go.Proofs.Ytlkighkfkdpncaa
open Go Go.Am
set_option linter.unusedSimpArgs false
set_option linter.unusedVariables false
theorem turns_run {md : Md} (H : Nat → Int) (ha : 0 ≤ H 133 ∧ H 133 < 64) (ht : 0 ≤ H 134 ∧ H 134 < 64) : WR AM 62 [.ptr 0 0 138] [.sc md 138 (ia H)] (fun v _ L => v = .s (.int .i64 (H 134 % 8 - H 133 % 8)) ∧ (0, Blk.sc md 138 (ia H)) ∈ L) := by
 refine WR_fn (a := a62) rfl rfl (entryF _) (entry_E (Nat.le_of_ble_eq_true rfl)) (m := 1) rfl ?_
 refine WP_seq ?_
 refine WP_ops ?_
 refine WO_mv rfl ?_
 refine WO_nil ?_
 refine WP_seq ?_
 refine WP_par ?_
 refine WO_mv (v := .ptr _ _ _) rfl ?_
 refine WO_nilckP rfl ?_
 refine WO_fa (o' := 133) rfl rfl rfl ?_
 refine WO_fa (o' := 134) rfl rfl rfl ?_
 refine WO_ldI rfl rfl (.head _) rfl ?_
 refine WO_callq0 rfl (File_sq (by omega)) rfl rfl rfl ?_
 refine WO_mv (v := .ptr _ _ _) rfl ?_
 refine WO_nilckP rfl ?_
 refine WO_fa (o' := 133) rfl rfl rfl ?_
 refine WO_fa (o' := 133) rfl rfl rfl ?_
 refine WO_ldI rfl rfl (.head _) rfl ?_
 refine WO_call0 rfl (File_sq (by omega)) rfl rfl rfl ?_
 refine WO_sub rfl rfl (by omega) ?_
 refine WO_mv (v := .s (.int _ _)) rfl ?_
 refine WO_nil ?_
 refine WP_ret ?_
 refine ⟨_, RS_tmp (v := .s (.int _ _)) rfl (RS_nil), ?_⟩
 exact ⟨rfl, (.head _)⟩
theorem takes_run {md : Md} (H : Nat → Int) (ha : 0 ≤ H 133 ∧ H 133 < 64) (ht : 0 ≤ H 134 ∧ H 134 < 64) : WR AM 34 [.ptr 0 0 138] [.sc md 138 (ia H)] (fun v _ L => v = .s (.int .i64 (takesM H (H 136) (H 133) (H 134))) ∧ (0, Blk.sc md 138 (ia H)) ∈ L) := by
 refine WR_fn (a := a34) rfl rfl (entryF _) (entry_E (Nat.le_of_ble_eq_true rfl)) (m := 1) rfl ?_
 refine WP_seq ?_
 refine WP_ops ?_
 refine WO_mv rfl ?_
 refine WO_nil ?_
 refine WP_seq ?_
 refine WP_ops ?_
 refine WO_mv (v := .ptr _ _ _) rfl ?_
 refine WO_nilckP rfl ?_
 refine WO_fa (o' := 133) rfl rfl rfl ?_
 refine WO_fa (o' := 134) rfl rfl rfl ?_
 refine WO_ldI rfl rfl (.head _) rfl ?_
 refine WO_mv (v := .s (.int _ _)) rfl ?_
 refine WO_nil ?_
 refine WP_cut (fun f n L => (f 0 = .ptr 0 0 138) ∧ (f 3 = .s (.int .i64 (atT H (H 136) (H 133) (H 134)))) ∧ (L = [(0, .sc md 138 (ia H))]) ∧ (n = 1)) ?_ (fun f nb L hI => ?_)
 ·skip
  refine WP_seq ?_
  refine WP_ops ?_
  refine WO_mv (v := .ptr _ _ _) rfl ?_
  refine WO_nilckP rfl ?_
  refine WO_fa (o' := 136) rfl rfl rfl ?_
  refine WO_fa (o' := 136) rfl rfl rfl ?_
  refine WO_ldI rfl rfl (.head _) rfl ?_
  refine WO_bin (r := .bool _) rfl rfl rfl ?_
  refine WO_mv (v := .s (.bool _)) rfl ?_
  refine WO_case (t := 15) rfl (fun h1 => ?_) (fun h1 => ?_)
  ·try simp only [NM] at h1
   try simp only [isM, decide_eq_true_eq, decide_eq_false_iff_not] at h1
   refine WO_gt rfl ?_
   refine WO_mv (v := .ptr _ _ _) rfl ?_
   refine WO_gt rfl ?_
   refine WO_callP rfl (RB_of1 (turns_run H ha ht)) rfl rfl rfl .here ?_
   refine WO_gt rfl ?_
   refine WO_bin (r := .bool _) rfl rfl rfl ?_
   refine WO_pick (v := .s (.bool _)) rfl rfl ?_
   refine WO_mv (v := .s (.bool _)) rfl ?_
   refine WO_case (t := 20) rfl (fun h2 => ?_) (fun h2 => ?_)
   ·try simp only [NM] at h2
    try simp only [isM, decide_eq_true_eq, decide_eq_false_iff_not] at h2
    refine WO_gt rfl ?_
    refine WO_mv (v := .s (.int _ _)) rfl ?_
    refine WO_gt rfl ?_
    refine WO_mv (v := .ptr _ _ _) rfl ?_
    refine WO_gt rfl ?_
    refine WO_nilckP rfl ?_
    refine WO_gt rfl ?_
    refine WO_fa (o' := 0) rfl rfl rfl ?_
    refine WO_gt rfl ?_
    refine WO_fa (o' := 130) rfl rfl rfl ?_
    refine WO_gt rfl ?_
    refine WO_ldI rfl rfl (.head _) rfl ?_
    refine WO_gt rfl ?_
    refine WO_bin (r := .bool _) rfl rfl rfl ?_
    refine WO_pick (v := .s (.bool _)) rfl rfl ?_
    refine WO_mv (v := .s (.bool _)) rfl ?_
    refine WO_case (t := 29) rfl (fun h3 => ?_) (fun h3 => ?_)
    ·try simp only [NM] at h3
     try simp only [isM, decide_eq_true_eq, decide_eq_false_iff_not] at h3
     refine WO_gt rfl ?_
     refine WO_mv (v := .ptr _ _ _) rfl ?_
     refine WO_gt rfl ?_
     refine WO_mv (v := .s (.int _ _)) rfl ?_
     refine WO_gt rfl ?_
     refine WO_nilckP rfl ?_
     refine WO_gt rfl ?_
     refine WO_fa (o' := 0) rfl rfl rfl ?_
     refine WO_gt rfl ?_
     refine WO_fa (o' := 0) rfl rfl rfl ?_
     refine WO_gt rfl ?_
     refine WO_ixa rfl rfl rfl (by omega) ?_
     refine WO_gt rfl ?_
     first | refine WO_ldA0 rfl rfl (.head _) ?_ | refine WO_ldAI rfl rfl (.head _) ?_
     refine WO_gt rfl ?_
     refine WO_buildI rfl .nil ?_
     refine WO_gt rfl ?_
     refine WO_eqa rfl rfl ?_
     refine WO_pick (v := .s (.bool _)) rfl rfl ?_
     refine WO_nil ?_
     refine WP_cond rfl (fun h4 => ?_) (fun h4 => ?_)
     ·try simp only [NM] at h4
      try simp only [isM, decide_eq_true_eq, decide_eq_false_iff_not] at h4
      refine WP_par ?_
      refine WO_mv (v := .s (.int _ _)) rfl ?_
      refine WO_callq0 rfl (File_sq (by omega)) rfl rfl rfl ?_
      refine WO_mv (v := .ptr _ _ _) rfl ?_
      refine WO_nilckP rfl ?_
      refine WO_fa (o' := 133) rfl rfl rfl ?_
      refine WO_fa (o' := 133) rfl rfl rfl ?_
      refine WO_ldI rfl rfl (.head _) rfl ?_
      refine WO_call0 rfl (Rank_sq (by omega)) rfl rfl rfl ?_
      refine WO_call0 rfl (RF_of (At_run _ _ (by omega) (by omega))) rfl rfl rfl ?_
      refine WO_mv (v := .s (.int _ _)) rfl ?_
      refine WO_nil ?_
      refine ⟨_, (.cons_cons _ .slnil), rfl, ?_, rfl, rfl⟩
      refine congrArg (fun b => V.s (S.int .i64 b)) ?_
      first | (rw [atT, if_pos ⟨by omega, by omega, by omega, by assumption⟩, atM, if_pos (by omega)]; done) | (rw [atT, if_neg (fun q => by omega)]; done) | (rw [atT, if_neg (fun q => Bool.false_ne_true ((show emptyM H (H 134) = false from (by assumption)).symm.trans q.2.2.2))]; done)
     ·try simp only [NM] at h4
      try simp only [isM, decide_eq_true_eq, decide_eq_false_iff_not] at h4
      refine WP_skip ?_
      refine ⟨_, (.cons_cons _ .slnil), rfl, ?_, rfl, rfl⟩
      refine congrArg (fun b => V.s (S.int .i64 b)) ?_
      first | (rw [atT, if_pos ⟨by omega, by omega, by omega, by assumption⟩, atM, if_pos (by omega)]; done) | (rw [atT, if_neg (fun q => by omega)]; done) | (rw [atT, if_neg (fun q => Bool.false_ne_true ((show emptyM H (H 134) = false from (by assumption)).symm.trans q.2.2.2))]; done)
    ·try simp only [NM] at h3
     try simp only [isM, decide_eq_true_eq, decide_eq_false_iff_not] at h3
     refine WO_gf rfl rfl ?_
     refine WO_gf rfl rfl ?_
     refine WO_gf rfl rfl ?_
     refine WO_gf rfl rfl ?_
     refine WO_gf rfl rfl ?_
     refine WO_gf rfl rfl ?_
     refine WO_gf rfl rfl ?_
     refine WO_gf rfl rfl ?_
     refine WO_gf rfl rfl ?_
     refine WO_pick (v := .s (.bool _)) rfl rfl ?_
     refine WO_nil ?_
     refine WP_cond rfl (fun h => nomatch h) (fun _ => ?_)
     refine WP_skip ?_
     refine ⟨_, (.cons_cons _ .slnil), rfl, ?_, rfl, rfl⟩
     refine congrArg (fun b => V.s (S.int .i64 b)) ?_
     first | (rw [atT, if_pos ⟨by omega, by omega, by omega, by assumption⟩, atM, if_pos (by omega)]; done) | (rw [atT, if_neg (fun q => by omega)]; done) | (rw [atT, if_neg (fun q => Bool.false_ne_true ((show emptyM H (H 134) = false from (by assumption)).symm.trans q.2.2.2))]; done)
   ·try simp only [NM] at h2
    try simp only [isM, decide_eq_true_eq, decide_eq_false_iff_not] at h2
    refine WO_gf rfl rfl ?_
    refine WO_gf rfl rfl ?_
    refine WO_gf rfl rfl ?_
    refine WO_gf rfl rfl ?_
    refine WO_gf rfl rfl ?_
    refine WO_gf rfl rfl ?_
    refine WO_gf rfl rfl ?_
    refine WO_pick (v := .s (.bool _)) rfl rfl ?_
    refine WO_mv (v := .s (.bool _)) rfl ?_
    refine WO_gf rfl rfl ?_
    refine WO_gf rfl rfl ?_
    refine WO_gf rfl rfl ?_
    refine WO_gf rfl rfl ?_
    refine WO_gf rfl rfl ?_
    refine WO_gf rfl rfl ?_
    refine WO_gf rfl rfl ?_
    refine WO_gf rfl rfl ?_
    refine WO_gf rfl rfl ?_
    refine WO_pick (v := .s (.bool _)) rfl rfl ?_
    refine WO_nil ?_
    refine WP_cond rfl (fun h => nomatch h) (fun _ => ?_)
    refine WP_skip ?_
    refine ⟨_, (.cons_cons _ .slnil), rfl, ?_, rfl, rfl⟩
    refine congrArg (fun b => V.s (S.int .i64 b)) ?_
    first | (rw [atT, if_pos ⟨by omega, by omega, by omega, by assumption⟩, atM, if_pos (by omega)]; done) | (rw [atT, if_neg (fun q => by omega)]; done) | (rw [atT, if_neg (fun q => Bool.false_ne_true ((show emptyM H (H 134) = false from (by assumption)).symm.trans q.2.2.2))]; done)
  ·try simp only [NM] at h1
   try simp only [isM, decide_eq_true_eq, decide_eq_false_iff_not] at h1
   refine WO_gf rfl rfl ?_
   refine WO_gf rfl rfl ?_
   refine WO_gf rfl rfl ?_
   refine WO_pick (v := .s (.bool _)) rfl rfl ?_
   refine WO_mv (v := .s (.bool _)) rfl ?_
   refine WO_gf rfl rfl ?_
   refine WO_gf rfl rfl ?_
   refine WO_gf rfl rfl ?_
   refine WO_gf rfl rfl ?_
   refine WO_gf rfl rfl ?_
   refine WO_gf rfl rfl ?_
   refine WO_gf rfl rfl ?_
   refine WO_pick (v := .s (.bool _)) rfl rfl ?_
   refine WO_mv (v := .s (.bool _)) rfl ?_
   refine WO_gf rfl rfl ?_
   refine WO_gf rfl rfl ?_
   refine WO_gf rfl rfl ?_
   refine WO_gf rfl rfl ?_
   refine WO_gf rfl rfl ?_
   refine WO_gf rfl rfl ?_
   refine WO_gf rfl rfl ?_
   refine WO_gf rfl rfl ?_
   refine WO_gf rfl rfl ?_
   refine WO_pick (v := .s (.bool _)) rfl rfl ?_
   refine WO_nil ?_
   refine WP_cond rfl (fun h => nomatch h) (fun _ => ?_)
   refine WP_skip ?_
   refine ⟨_, (.cons_cons _ .slnil), rfl, ?_, rfl, rfl⟩
   refine congrArg (fun b => V.s (S.int .i64 b)) ?_
   first | (rw [atT, if_pos ⟨by omega, by omega, by omega, by assumption⟩, atM, if_pos (by omega)]; done) | (rw [atT, if_neg (fun q => by omega)]; done) | (rw [atT, if_neg (fun q => Bool.false_ne_true ((show emptyM H (H 134) = false from (by assumption)).symm.trans q.2.2.2))]; done)
 ·skip
  obtain ⟨k0, k3, rfl, rfl⟩ := hI
  refine WP_know (d := 0) (v := .ptr 0 0 138) k0 ?_
  refine WP_know (d := 3) (v := .s (.int .i64 (atT H (H 136) (H 133) (H 134)))) k3 ?_
  have hat := atT_bd (P := H) (k := H 136) ha ht
  refine WP_seq ?_
  refine WP_seq ?_
  refine WP_ops ?_
  refine WO_mv (v := .ptr _ _ _) rfl ?_
  refine WO_mv (v := .s (.int _ _)) rfl ?_
  refine WO_nilckP rfl ?_
  refine WO_fa (o' := 0) rfl rfl rfl ?_
  refine WO_fa (o' := 0) rfl rfl rfl ?_
  refine WO_ixa rfl rfl rfl (by omega) ?_
  first | refine WO_ldA0 rfl rfl (.head _) ?_ | refine WO_ldAI rfl rfl (.head _) ?_
  refine WO_buildI rfl .nil ?_
  refine WO_eqa rfl rfl ?_
  refine WO_nil ?_
  refine WP_cond rfl (fun h5 => ?_) (fun h5 => ?_)
  ·try simp only [NM] at h5
   try simp only [isM, decide_eq_true_eq, decide_eq_false_iff_not] at h5
   refine WP_seq ?_
   refine WP_ops ?_
   refine WO_mv rfl ?_
   refine WO_nil ?_
   refine WP_ret ?_
   refine ⟨_, RS_tmp (v := .s (.int _ _)) rfl (RS_nil), ?_⟩
   refine ⟨congrArg (fun b => V.s (S.int .i64 b)) ?_, (.head _)⟩
   first | (rw [takesM, show emptyM H (atT H (H 136) (H 133) (H 134)) = true from (by assumption)]; rfl) | (rw [takesM, show emptyM H (atT H (H 136) (H 133) (H 134)) = false from (by assumption)]; rfl)
  ·try simp only [NM] at h5
   try simp only [isM, decide_eq_true_eq, decide_eq_false_iff_not] at h5
   refine WP_skip ?_
   refine WP_seq ?_
   refine WP_ops ?_
   refine WO_mv (v := .s (.int _ _)) rfl ?_
   refine WO_mv (v := .s (.int _ _)) rfl ?_
   refine WO_nil ?_
   refine WP_ret ?_
   refine ⟨_, RS_tmp (v := .s (.int _ _)) rfl (RS_nil), ?_⟩
   refine ⟨congrArg (fun b => V.s (S.int .i64 b)) ?_, (.head _)⟩
   first | (rw [takesM, show emptyM H (atT H (H 136) (H 133) (H 134)) = true from (by assumption)]; rfl) | (rw [takesM, show emptyM H (atT H (H 136) (H 133) (H 134)) = false from (by assumption)]; rfl)
def RookOf (k a t c C x y : Int) (z : Bool) : Prop := (castlingM k a t c C = 1 ∧ z = true ∧ x = a + 3 ∧ y = a + 1) ∨ (castlingM k a t c C = -1 ∧ z = true ∧ x = a - 4 ∧ y = a - 1) ∨ (castlingM k a t c C = 0 ∧ z = false)
theorem rook_none {k a t c C x y : Int} (h : ¬ (k = 6 ∧ a = 56 * c + 4 ∧ (t = a + 2 ∨ t = a - 2))) : RookOf k a t c C x y false := by
 refine .inr (.inr ⟨?_, rfl⟩)
 rw [castlingM, if_neg (fun q => h ⟨q.1, q.2.1, .inl q.2.2.1⟩), if_neg (fun q => h ⟨q.1, q.2.1, .inr q.2.2.1⟩)]
theorem shortM_in {c : Int} : shortM c = 1 ∨ shortM c = 4 := by unfold shortM; split <;> omega
theorem bne_and {C s : Int} (h : 0 ≤ C ∧ C ≤ 15) (hs : s = 1 ∨ s = 2 ∨ s = 4 ∨ s = 8) : (andM C s != 0) = decide (C / s % 2 = 1) := by
 rw [Bool.eq_iff_iff, decide_eq_true_eq, ← and_is h hs, bne_iff_ne]
theorem rook_short {k a t c C : Int} (hC : 0 ≤ C ∧ C ≤ 15) (hk : k = 6) (ha : a = 56 * c + 4) (ht : t = a + 2) : RookOf k a t c C (56 * c + 4 + 3) (56 * c + 4 + 1) (andM C (shortM c) != 0) := by
 have hs := shortM_in (c := c)
 rw [bne_and hC (by omega)]
 by_cases h : C / shortM c % 2 = 1
 ·refine .inl ⟨?_, decide_eq_true h, by omega, by omega⟩
  rw [castlingM, if_pos ⟨hk, ha, ht, h⟩]
 ·refine .inr (.inr ⟨?_, decide_eq_false h⟩)
  rw [castlingM, if_neg (fun q => h q.2.2.2), if_neg (fun q => by omega)]
theorem rook_long {k a t c C : Int} (hC : 0 ≤ C ∧ C ≤ 15) (hk : k = 6) (ha : a = 56 * c + 4) (ht : t = a - 2) : RookOf k a t c C (56 * c + 4 - 4) (56 * c + 4 - 1) (andM C (2 * shortM c) != 0) := by
 have hs := shortM_in (c := c)
 rw [bne_and hC (by omega)]
 by_cases h : C / (2 * shortM c) % 2 = 1
 ·refine .inr (.inl ⟨?_, decide_eq_true h, by omega, by omega⟩)
  rw [castlingM, if_neg (fun q => by omega), if_pos ⟨hk, ha, ht, h⟩]
 ·refine .inr (.inr ⟨?_, decide_eq_false h⟩)
  rw [castlingM, if_neg (fun q => by omega), if_neg (fun q => h q.2.2.2)]
theorem rook_run {md : Md} (H : Nat → Int) (ha : 0 ≤ H 133 ∧ H 133 < 64) (ht : 0 ≤ H 134 ∧ H 134 < 64) (hc : H 137 = 0 ∨ H 137 = 1) (hC : 0 ≤ H 129 ∧ H 129 ≤ 15) : WR AM 35 [.ptr 0 0 138] [.sc md 138 (ia H)] (fun v _ L => (∃ x y z, v = .tup [.s (.int .i64 x), .s (.int .i64 y), .s (.bool z)] ∧ RookOf (H 136) (H 133) (H 134) (H 137) (H 129) x y z) ∧ (0, Blk.sc md 138 (ia H)) ∈ L) := by
 refine WR_fn (a := a35) rfl rfl (entryF _) (entry_E (Nat.le_of_ble_eq_true rfl)) (m := 1) rfl ?_
 refine WP_seq ?_
 refine WP_ops ?_
 refine WO_mv rfl ?_
 refine WO_mv rfl ?_
 refine WO_mv rfl ?_
 refine WO_nil ?_
 refine WP_seq ?_
 refine WP_ops ?_
 refine WO_mv (v := .ptr _ _ _) rfl ?_
 refine WO_nilckP rfl ?_
 refine WO_fa (o' := 136) rfl rfl rfl ?_
 refine WO_fa (o' := 137) rfl rfl rfl ?_
 refine WO_ldI rfl rfl (.head _) rfl ?_
 refine WO_mul rfl rfl (by omega) ?_
 refine WO_add rfl rfl (by omega) ?_
 refine WO_mv (v := .s (.int _ _)) rfl ?_
 refine WO_nil ?_
 refine WP_seq ?_
 refine WP_ops ?_
 refine WO_mv (v := .ptr _ _ _) rfl ?_
 refine WO_nilckP rfl ?_
 refine WO_fa (o' := 136) rfl rfl rfl ?_
 refine WO_fa (o' := 137) rfl rfl rfl ?_
 refine WO_ldI rfl rfl (.head _) rfl ?_
 refine WO_mul rfl rfl (by omega) ?_
 refine WO_bin rfl rfl (cast_shl1 hc) ?_
 refine WO_mv (v := .s (.int _ _)) rfl ?_
 refine WO_nil ?_
 refine WP_seq ?_
 refine WP_block ?_
 refine WP_seq ?_
 refine WP_ops ?_
 refine WO_mv (v := .ptr _ _ _) rfl ?_
 refine WO_nilckP rfl ?_
 refine WO_fa (o' := 136) rfl rfl rfl ?_
 refine WO_fa (o' := 136) rfl rfl rfl ?_
 refine WO_ldI rfl rfl (.head _) rfl ?_
 refine WO_bin (r := .bool _) rfl rfl rfl ?_
 refine WO_mv (v := .s (.bool _)) rfl ?_
 refine WO_case (t := 28) rfl (fun h6 => ?_) (fun h6 => ?_)
 ·try simp only [NM] at h6
  try simp only [isM, decide_eq_true_eq, decide_eq_false_iff_not] at h6
  refine WO_gf rfl rfl ?_
  refine WO_gf rfl rfl ?_
  refine WO_gf rfl rfl ?_
  refine WO_gf rfl rfl ?_
  refine WO_gf rfl rfl ?_
  refine WO_gf rfl rfl ?_
  refine WO_gf rfl rfl ?_
  refine WO_pick (v := .s (.bool _)) rfl rfl ?_
  refine WO_mv (v := .s (.bool _)) rfl ?_
  refine WO_nil ?_
  refine WP_cond rfl (fun _ => ?_) (fun h => nomatch h)
  refine WP_seq ?_
  refine WP_ops ?_
  refine WO_mv rfl ?_
  refine WO_mv rfl ?_
  refine WO_mv rfl ?_
  refine WO_nil ?_
  refine WP_ret ?_
  refine ⟨_, RS_tmp (v := .s (.int _ _)) rfl (RS_tmp (v := .s (.int _ _)) rfl (RS_tmp (v := .s (.bool _)) rfl (RS_nil))), ?_⟩
  refine ⟨⟨_, _, _, rfl, ?_⟩, (.head _)⟩
  first | exact rook_none (by omega) | exact rook_short hC (by omega) (by omega) (by omega) | exact rook_long hC (by omega) (by omega) (by omega)
 ·try simp only [NM] at h6
  try simp only [isM, decide_eq_true_eq, decide_eq_false_iff_not] at h6
  refine WO_gt rfl ?_
  refine WO_mv (v := .ptr _ _ _) rfl ?_
  refine WO_gt rfl ?_
  refine WO_nilckP rfl ?_
  refine WO_gt rfl ?_
  refine WO_fa (o' := 133) rfl rfl rfl ?_
  refine WO_gt rfl ?_
  refine WO_fa (o' := 133) rfl rfl rfl ?_
  refine WO_gt rfl ?_
  refine WO_ldI rfl rfl (.head _) rfl ?_
  refine WO_gt rfl ?_
  refine WO_mv (v := .s (.int _ _)) rfl ?_
  refine WO_gt rfl ?_
  refine WO_bin (r := .bool _) rfl rfl rfl ?_
  refine WO_pick (v := .s (.bool _)) rfl rfl ?_
  refine WO_mv (v := .s (.bool _)) rfl ?_
  refine WO_nil ?_
  refine WP_cond rfl (fun h7 => ?_) (fun h7 => ?_)
  ·try simp only [NM] at h7
   try simp only [isM, decide_eq_true_eq, decide_eq_false_iff_not] at h7
   refine WP_seq ?_
   refine WP_ops ?_
   refine WO_mv rfl ?_
   refine WO_mv rfl ?_
   refine WO_mv rfl ?_
   refine WO_nil ?_
   refine WP_ret ?_
   refine ⟨_, RS_tmp (v := .s (.int _ _)) rfl (RS_tmp (v := .s (.int _ _)) rfl (RS_tmp (v := .s (.bool _)) rfl (RS_nil))), ?_⟩
   refine ⟨⟨_, _, _, rfl, ?_⟩, (.head _)⟩
   first | exact rook_none (by omega) | exact rook_short hC (by omega) (by omega) (by omega) | exact rook_long hC (by omega) (by omega) (by omega)
  ·try simp only [NM] at h7
   try simp only [isM, decide_eq_true_eq, decide_eq_false_iff_not] at h7
   refine WP_seq ?_
   refine WP_ops ?_
   refine WO_mv (v := .ptr _ _ _) rfl ?_
   refine WO_nilckP rfl ?_
   refine WO_fa (o' := 133) rfl rfl rfl ?_
   refine WO_fa (o' := 134) rfl rfl rfl ?_
   refine WO_ldI rfl rfl (.head _) rfl ?_
   refine WO_mv (v := .s (.int _ _)) rfl ?_
   refine WO_add rfl rfl (by omega) ?_
   refine WO_bin (r := .bool _) rfl rfl rfl ?_
   refine WO_mv (v := .s (.bool _)) rfl ?_
   refine WO_nil ?_
   refine WP_cond rfl (fun h8 => ?_) (fun h8 => ?_)
   ·try simp only [NM] at h8
    try simp only [isM, decide_eq_true_eq, decide_eq_false_iff_not] at h8
    refine WP_seq ?_
    refine WP_par ?_
    refine WO_mv (v := .s (.int _ _)) rfl ?_
    refine WO_add rfl rfl (by omega) ?_
    refine WO_mv (v := .s (.int _ _)) rfl ?_
    refine WO_add rfl rfl (by omega) ?_
    refine WO_mv (v := .ptr _ _ _) rfl ?_
    refine WO_nilckP rfl ?_
    refine WO_fa (o' := 0) rfl rfl rfl ?_
    refine WO_fa (o' := 129) rfl rfl rfl ?_
    refine WO_ldI rfl rfl (.head _) rfl ?_
    refine WO_mv (v := .s (.int _ _)) rfl ?_
    refine WO_bin (r := .int .i64 (andM (H 129) (shortM (H 137)))) rfl rfl rfl ?_
    refine WO_bin (r := .bool _) rfl rfl rfl ?_
    refine WO_mv (v := .s (.int _ _)) rfl ?_
    refine WO_mv (v := .s (.int _ _)) rfl ?_
    refine WO_mv (v := .s (.bool _)) rfl ?_
    refine WO_nil ?_
    refine WP_ret ?_
    refine ⟨_, RS_tmp (v := .s (.int _ _)) rfl (RS_tmp (v := .s (.int _ _)) rfl (RS_tmp (v := .s (.bool _)) rfl (RS_nil))), ?_⟩
    refine ⟨⟨_, _, _, rfl, ?_⟩, (.head _)⟩
    first | exact rook_none (by omega) | exact rook_short hC (by omega) (by omega) (by omega) | exact rook_long hC (by omega) (by omega) (by omega)
   ·try simp only [NM] at h8
    try simp only [isM, decide_eq_true_eq, decide_eq_false_iff_not] at h8
    refine WP_seq ?_
    refine WP_ops ?_
    refine WO_mv (v := .ptr _ _ _) rfl ?_
    refine WO_nilckP rfl ?_
    refine WO_fa (o' := 133) rfl rfl rfl ?_
    refine WO_fa (o' := 134) rfl rfl rfl ?_
    refine WO_ldI rfl rfl (.head _) rfl ?_
    refine WO_mv (v := .s (.int _ _)) rfl ?_
    refine WO_sub rfl rfl (by omega) ?_
    refine WO_bin (r := .bool _) rfl rfl rfl ?_
    refine WO_mv (v := .s (.bool _)) rfl ?_
    refine WO_nil ?_
    refine WP_cond rfl (fun h9 => ?_) (fun h9 => ?_)
    ·try simp only [NM] at h9
     try simp only [isM, decide_eq_true_eq, decide_eq_false_iff_not] at h9
     refine WP_seq ?_
     refine WP_par ?_
     refine WO_mv (v := .s (.int _ _)) rfl ?_
     refine WO_sub rfl rfl (by omega) ?_
     refine WO_mv (v := .s (.int _ _)) rfl ?_
     refine WO_sub rfl rfl (by omega) ?_
     refine WO_mv (v := .ptr _ _ _) rfl ?_
     refine WO_nilckP rfl ?_
     refine WO_fa (o' := 0) rfl rfl rfl ?_
     refine WO_fa (o' := 129) rfl rfl rfl ?_
     refine WO_ldI rfl rfl (.head _) rfl ?_
     refine WO_mv (v := .s (.int _ _)) rfl ?_
     refine WO_bin rfl rfl (cast_shl2 hc) ?_
     refine WO_bin (r := .int .i64 (andM (H 129) (2 * shortM (H 137)))) rfl rfl rfl ?_
     refine WO_bin (r := .bool _) rfl rfl rfl ?_
     refine WO_mv (v := .s (.int _ _)) rfl ?_
     refine WO_mv (v := .s (.int _ _)) rfl ?_
     refine WO_mv (v := .s (.bool _)) rfl ?_
     refine WO_nil ?_
     refine WP_ret ?_
     refine ⟨_, RS_tmp (v := .s (.int _ _)) rfl (RS_tmp (v := .s (.int _ _)) rfl (RS_tmp (v := .s (.bool _)) rfl (RS_nil))), ?_⟩
     refine ⟨⟨_, _, _, rfl, ?_⟩, (.head _)⟩
     first | exact rook_none (by omega) | exact rook_short hC (by omega) (by omega) (by omega) | exact rook_long hC (by omega) (by omega) (by omega)
    ·try simp only [NM] at h9
     try simp only [isM, decide_eq_true_eq, decide_eq_false_iff_not] at h9
     refine WP_skip ?_
     refine WP_seq ?_
     refine WP_ops ?_
     refine WO_mv rfl ?_
     refine WO_mv rfl ?_
     refine WO_mv rfl ?_
     refine WO_nil ?_
     refine WP_ret ?_
     refine ⟨_, RS_tmp (v := .s (.int _ _)) rfl (RS_tmp (v := .s (.int _ _)) rfl (RS_tmp (v := .s (.bool _)) rfl (RS_nil))), ?_⟩
     refine ⟨⟨_, _, _, rfl, ?_⟩, (.head _)⟩
     first | exact rook_none (by omega) | exact rook_short hC (by omega) (by omega) (by omega) | exact rook_long hC (by omega) (by omega) (by omega)
theorem long_run {md : Md} (H : Nat → Int) (ha : 0 ≤ H 133 ∧ H 133 < 64) (ht : 0 ≤ H 134 ∧ H 134 < 64) (hc : H 137 = 0 ∨ H 137 = 1) : WR AM 36 [.ptr 0 0 138] [.sc md 138 (ia H)] (fun v _ L => v = .s (.bool (longM (H 136) (H 133) (H 134) (H 137))) ∧ (0, Blk.sc md 138 (ia H)) ∈ L) := by
 refine WR_fn (a := a36) rfl rfl (entryF _) (entry_E (Nat.le_of_ble_eq_true rfl)) (m := 1) rfl ?_
 refine WP_seq ?_
 refine WP_ops ?_
 refine WO_mv rfl ?_
 refine WO_nil ?_
 refine WP_seq ?_
 refine WP_ops ?_
 refine WO_mv (v := .ptr _ _ _) rfl ?_
 refine WO_nilckP rfl ?_
 refine WO_fa (o' := 136) rfl rfl rfl ?_
 refine WO_fa (o' := 137) rfl rfl rfl ?_
 refine WO_ldI rfl rfl (.head _) rfl ?_
 refine WO_mul rfl rfl (by omega) ?_
 refine WO_sub rfl rfl (by omega) ?_
 refine WO_mv (v := .s (.int _ _)) rfl ?_
 refine WO_nil ?_
 refine WP_seq ?_
 refine WP_par ?_
 refine WO_mv (v := .ptr _ _ _) rfl ?_
 refine WO_nilckP rfl ?_
 refine WO_fa (o' := 133) rfl rfl rfl ?_
 refine WO_fa (o' := 133) rfl rfl rfl ?_
 refine WO_ldI rfl rfl (.head _) rfl ?_
 refine WO_callq0 rfl (Rank_sq (by omega)) rfl rfl rfl ?_
 refine WO_mv (v := .ptr _ _ _) rfl ?_
 refine WO_nilckP rfl ?_
 refine WO_fa (o' := 133) rfl rfl rfl ?_
 refine WO_fa (o' := 134) rfl rfl rfl ?_
 refine WO_ldI rfl rfl (.head _) rfl ?_
 refine WO_call0 rfl (Rank_sq (by omega)) rfl rfl rfl ?_
 refine WO_mv (v := .s (.int _ _)) rfl ?_
 refine WO_mv (v := .s (.int _ _)) rfl ?_
 refine WO_nil ?_
 refine WP_seq ?_
 refine WP_ops ?_
 refine WO_mv (v := .ptr _ _ _) rfl ?_
 refine WO_nilckP rfl ?_
 refine WO_fa (o' := 136) rfl rfl rfl ?_
 refine WO_fa (o' := 136) rfl rfl rfl ?_
 refine WO_ldI rfl rfl (.head _) rfl ?_
 refine WO_bin (r := .bool _) rfl rfl rfl ?_
 refine WO_mv (v := .s (.bool _)) rfl ?_
 refine WO_case (t := 31) rfl (fun h10 => ?_) (fun h10 => ?_)
 ·try simp only [NM] at h10
  try simp only [isM, decide_eq_true_eq, decide_eq_false_iff_not] at h10
  refine WO_gt rfl ?_
  refine WO_mv (v := .ptr _ _ _) rfl ?_
  refine WO_gt rfl ?_
  refine WO_callP rfl (RB_of1 (turns_run H ha ht)) rfl rfl rfl .here ?_
  refine WO_gt rfl ?_
  refine WO_bin (r := .bool _) rfl rfl rfl ?_
  refine WO_pick (v := .s (.bool _)) rfl rfl ?_
  refine WO_mv (v := .s (.bool _)) rfl ?_
  refine WO_case (t := 36) rfl (fun h11 => ?_) (fun h11 => ?_)
  ·try simp only [NM] at h11
   try simp only [isM, decide_eq_true_eq, decide_eq_false_iff_not] at h11
   refine WO_gt rfl ?_
   refine WO_mv (v := .s (.int _ _)) rfl ?_
   refine WO_gt rfl ?_
   refine WO_mv (v := .ptr _ _ _) rfl ?_
   refine WO_gt rfl ?_
   refine WO_nilckP rfl ?_
   refine WO_gt rfl ?_
   refine WO_fa (o' := 136) rfl rfl rfl ?_
   refine WO_gt rfl ?_
   refine WO_fa (o' := 137) rfl rfl rfl ?_
   refine WO_gt rfl ?_
   refine WO_ldI rfl rfl (.head _) rfl ?_
   refine WO_gt rfl ?_
   refine WO_mul rfl rfl (by omega) ?_
   refine WO_gt rfl ?_
   refine WO_add rfl rfl (by omega) ?_
   refine WO_gt rfl ?_
   refine WO_bin (r := .bool _) rfl rfl rfl ?_
   refine WO_pick (v := .s (.bool _)) rfl rfl ?_
   refine WO_mv (v := .s (.bool _)) rfl ?_
   refine WO_case (t := 47) rfl (fun h12 => ?_) (fun h12 => ?_)
   ·try simp only [NM] at h12
    try simp only [isM, decide_eq_true_eq, decide_eq_false_iff_not] at h12
    refine WO_gt rfl ?_
    refine WO_mv (v := .s (.int _ _)) rfl ?_
    refine WO_gt rfl ?_
    refine WO_mv (v := .s (.int _ _)) rfl ?_
    refine WO_gt rfl ?_
    refine WO_mv (v := .s (.int _ _)) rfl ?_
    refine WO_gt rfl ?_
    refine WO_mul rfl rfl (by omega) ?_
    refine WO_gt rfl ?_
    refine WO_add rfl rfl (by omega) ?_
    refine WO_gt rfl ?_
    refine WO_bin (r := .bool _) rfl rfl rfl ?_
    refine WO_pick (v := .s (.bool _)) rfl rfl ?_
    refine WO_mv (v := .s (.bool _)) rfl ?_
    refine WO_nil ?_
    refine WP_ret ?_
    refine ⟨_, RS_tmp (v := .s (.bool _)) rfl (RS_nil), ?_⟩
    refine ⟨congrArg (fun b => V.s (S.bool b)) ?_, (.head _)⟩
    unfold longM
    rw [Bool.eq_iff_iff]
    simp only [beq_iff_eq, decide_eq_true_eq, Bool.false_eq_true, true_iff, false_iff, iff_true, iff_false]
    omega
   ·try simp only [NM] at h12
    try simp only [isM, decide_eq_true_eq, decide_eq_false_iff_not] at h12
    refine WO_gf rfl rfl ?_
    refine WO_gf rfl rfl ?_
    refine WO_gf rfl rfl ?_
    refine WO_gf rfl rfl ?_
    refine WO_gf rfl rfl ?_
    refine WO_gf rfl rfl ?_
    refine WO_pick (v := .s (.bool _)) rfl rfl ?_
    refine WO_mv (v := .s (.bool _)) rfl ?_
    refine WO_nil ?_
    refine WP_ret ?_
    refine ⟨_, RS_tmp (v := .s (.bool _)) rfl (RS_nil), ?_⟩
    refine ⟨congrArg (fun b => V.s (S.bool b)) ?_, (.head _)⟩
    unfold longM
    rw [Bool.eq_iff_iff]
    simp only [beq_iff_eq, decide_eq_true_eq, Bool.false_eq_true, true_iff, false_iff, iff_true, iff_false]
    omega
  ·try simp only [NM] at h11
   try simp only [isM, decide_eq_true_eq, decide_eq_false_iff_not] at h11
   refine WO_gf rfl rfl ?_
   refine WO_gf rfl rfl ?_
   refine WO_gf rfl rfl ?_
   refine WO_gf rfl rfl ?_
   refine WO_gf rfl rfl ?_
   refine WO_gf rfl rfl ?_
   refine WO_gf rfl rfl ?_
   refine WO_gf rfl rfl ?_
   refine WO_gf rfl rfl ?_
   refine WO_pick (v := .s (.bool _)) rfl rfl ?_
   refine WO_mv (v := .s (.bool _)) rfl ?_
   refine WO_gf rfl rfl ?_
   refine WO_gf rfl rfl ?_
   refine WO_gf rfl rfl ?_
   refine WO_gf rfl rfl ?_
   refine WO_gf rfl rfl ?_
   refine WO_gf rfl rfl ?_
   refine WO_pick (v := .s (.bool _)) rfl rfl ?_
   refine WO_mv (v := .s (.bool _)) rfl ?_
   refine WO_nil ?_
   refine WP_ret ?_
   refine ⟨_, RS_tmp (v := .s (.bool _)) rfl (RS_nil), ?_⟩
   refine ⟨congrArg (fun b => V.s (S.bool b)) ?_, (.head _)⟩
   unfold longM
   rw [Bool.eq_iff_iff]
   simp only [beq_iff_eq, decide_eq_true_eq, Bool.false_eq_true, true_iff, false_iff, iff_true, iff_false]
   omega
 ·try simp only [NM] at h10
  try simp only [isM, decide_eq_true_eq, decide_eq_false_iff_not] at h10
  refine WO_gf rfl rfl ?_
  refine WO_gf rfl rfl ?_
  refine WO_gf rfl rfl ?_
  refine WO_pick (v := .s (.bool _)) rfl rfl ?_
  refine WO_mv (v := .s (.bool _)) rfl ?_
  refine WO_gf rfl rfl ?_
  refine WO_gf rfl rfl ?_
  refine WO_gf rfl rfl ?_
  refine WO_gf rfl rfl ?_
  refine WO_gf rfl rfl ?_
  refine WO_gf rfl rfl ?_
  refine WO_gf rfl rfl ?_
  refine WO_gf rfl rfl ?_
  refine WO_gf rfl rfl ?_
  refine WO_pick (v := .s (.bool _)) rfl rfl ?_
  refine WO_mv (v := .s (.bool _)) rfl ?_
  refine WO_gf rfl rfl ?_
  refine WO_gf rfl rfl ?_
  refine WO_gf rfl rfl ?_
  refine WO_gf rfl rfl ?_
  refine WO_gf rfl rfl ?_
  refine WO_gf rfl rfl ?_
  refine WO_pick (v := .s (.bool _)) rfl rfl ?_
  refine WO_mv (v := .s (.bool _)) rfl ?_
  refine WO_nil ?_
  refine WP_ret ?_
  refine ⟨_, RS_tmp (v := .s (.bool _)) rfl (RS_nil), ?_⟩
  refine ⟨congrArg (fun b => V.s (S.bool b)) ?_, (.head _)⟩
  unfold longM
  rw [Bool.eq_iff_iff]
  simp only [beq_iff_eq, decide_eq_true_eq, Bool.false_eq_true, true_iff, false_iff, iff_true, iff_false]
  omega
def setM (H X K : Nat → Int) : Nat → Nat → Int
 | 0 => H
 | n + 1 => if isM (K (0 + (n : Int).toNat * 1)) = true then ovA (setM H X K n) (0 + (K (0 + (n : Int).toNat * 1)).toNat * 2) 2 X else setM H X K n
theorem setM_out {H X K : Nat → Int} : ∀ (n : Nat) (i : Nat), 128 ≤ i → setM H X K n i = H i
 | 0, _, _ => rfl
 | n + 1, i, hi => by
  have ih := setM_out (H := H) (X := X) (K := K) n i hi
  unfold setM
  split
  ·rename_i hs
   simp only [isM, decide_eq_true_eq] at hs
   rw [ovA_out (by omega)]
   exact ih
  ·exact ih
theorem setM_of {H X K : Nat → Int} {n : Nat} {s : Int} (hs : K (0 + (n : Int).toNat * 1) = s) (h : 0 ≤ s ∧ s < 64) : setM H X K (n + 1) = ovA (setM H X K n) (sqI s) 2 X := by
 rw [setM, hs, if_pos (show isM s = true from decide_eq_true h)]
theorem setM_no {H X K : Nat → Int} {n : Nat} {s : Int} (hs : K (0 + (n : Int).toNat * 1) = s) (h : ¬ (0 ≤ s ∧ s < 64)) : setM H X K (n + 1) = setM H X K n := by
 rw [setM, hs, if_neg (by rw [isM, decide_eq_false h]; decide)]
theorem set_run {md md2 : Md} (hmd : md.mut = true) {q : Nat} {c : Cp} (H X K : Nat → Int) (n : Nat) (hn : n ≤ 1000) : WR AM 37 [.ptr 0 0 138, .agg 2 (ia X), .sl 1 0 n 1 c] [.sc md 138 (ia H), .sc md2 q (ia K)] (fun v _ L => v = .tup [] ∧ (0, Blk.sc md 138 (ia (setM H X K n))) ∈ L ∧ (1, Blk.sc md2 q (ia K)) ∈ L) := by
 refine WR_fn (a := a37) rfl rfl (entryF _) (entry_E (Nat.le_of_ble_eq_true rfl)) (m := 2) rfl ?_
 refine WP_seq ?_
 refine WP_ops ?_
 refine WO_boxA rfl ?_
 refine WO_nil ?_
 refine WP_seq ?_
 refine WP_ops ?_
 refine WO_mv (v := .sl _ _ _ _ _) rfl ?_
 refine WO_len rfl ?_
 refine WO_mv rfl ?_
 refine WO_nil ?_
 refine WP_block ?_
 refine WP_sub (L' := [_, _, _]) (.cons_cons _ (.cons_cons _ (.cons_cons _ .slnil))) ?_
 refine WP_loop (fun m f _ L => ∃ (i : Nat), (i ≤ n) ∧ (m = n - i) ∧ (f 0 = .ptr 0 0 138) ∧ (f 4 = .ptr 2 0 2) ∧ (f 8 = .sl 1 0 n 1 c) ∧ (f 9 = .s (.int .i64 n)) ∧ (f 10 = .s (.int .i64 i)) ∧ (L = [(2, .sc .var 2 (ia X)), (0, .sc md 138 (ia (setM H X K i))), (1, .sc md2 q (ia K))])) (fun m f nb L hI => ?_) (n) ⟨0, by omega, rfl, rfl, rfl, rfl, rfl, rfl, rfl⟩
 obtain ⟨i, hi, hm, k0, k4, k8, k9, k10, rfl⟩ := hI
 refine WP_know (d := 0) (v := .ptr 0 0 138) k0 ?_
 refine WP_know (d := 4) (v := .ptr 2 0 2) k4 ?_
 refine WP_know (d := 8) (v := .sl 1 0 n 1 c) k8 ?_
 refine WP_know (d := 9) (v := .s (.int .i64 n)) k9 ?_
 refine WP_know (d := 10) (v := .s (.int .i64 i)) k10 ?_
 refine WP_seq ?_
 refine WP_ops ?_
 refine WO_bin (r := .bool _) rfl rfl rfl ?_
 refine WO_nil ?_
 refine WP_seq ?_
 refine WP_cond rfl (fun h13 => ?_) (fun h13 => ?_)
 ·try simp only [NM] at h13
  try simp only [isM, decide_eq_true_eq, decide_eq_false_iff_not] at h13
  refine WP_skip ?_
  refine WP_seq ?_
  refine WP_block ?_
  refine WP_seq ?_
  refine WP_ops ?_
  refine WO_ixs rfl rfl (by omega) ?_
  refine WO_ldI (x := K (0 + (i : Int).toNat * 1)) rfl rfl (.tail _ (.tail _ (.head _))) (rfl) ?_
  refine WO_mv (v := .s (.int _ _)) rfl ?_
  refine WO_nil ?_
  refine WP_seq ?_
  refine WP_ops ?_
  refine WO_mv (v := .s (.int _ _)) rfl ?_
  refine WO_call0 rfl (SqIs_run _) rfl rfl rfl ?_
  refine WO_nil ?_
  refine WP_cond rfl (fun h14 => ?_) (fun h14 => ?_)
  ·try simp only [NM] at h14
   try simp only [isM, decide_eq_true_eq, decide_eq_false_iff_not] at h14
   refine WP_par ?_
   refine WO_mv (v := .ptr _ _ _) rfl ?_
   refine WO_mv (v := .s (.int _ _)) rfl ?_
   first | refine WO_ldA0 rfl rfl (.head _) ?_ | refine WO_ldAI rfl rfl (.head _) ?_
   refine WO_nilckP rfl ?_
   refine WO_fa (o' := 0) rfl rfl rfl ?_
   refine WO_fa (o' := 0) rfl rfl rfl ?_
   refine WO_ixa rfl rfl rfl (by omega) ?_
   refine WO_stA rfl rfl rfl hmd (.there .here) ?_
   refine WO_nil ?_
   refine WP_ops ?_
   refine WO_add rfl rfl (by omega) ?_
   refine WO_mv (v := .s (.int _ _)) rfl ?_
   refine WO_nil ?_
   refine ⟨n - (i + 1), _, by omega, (.cons_cons _ (.cons_cons _ (.cons_cons _ .slnil))), i + 1, by omega, rfl, rfl, rfl, rfl, rfl, rfl, ?_⟩
   first | (rw [setM_of (n := i) (s := K (0 + (i : Int).toNat * 1)) rfl (by assumption)]; done) | (rw [setM_no (n := i) (s := K (0 + (i : Int).toNat * 1)) rfl (by assumption)]; done)
  ·try simp only [NM] at h14
   try simp only [isM, decide_eq_true_eq, decide_eq_false_iff_not] at h14
   refine WP_skip ?_
   refine WP_ops ?_
   refine WO_add rfl rfl (by omega) ?_
   refine WO_mv (v := .s (.int _ _)) rfl ?_
   refine WO_nil ?_
   refine ⟨n - (i + 1), _, by omega, (.cons_cons _ (.cons_cons _ (.cons_cons _ .slnil))), i + 1, by omega, rfl, rfl, rfl, rfl, rfl, rfl, ?_⟩
   first | (rw [setM_of (n := i) (s := K (0 + (i : Int).toNat * 1)) rfl (by assumption)]; done) | (rw [setM_no (n := i) (s := K (0 + (i : Int).toNat * 1)) rfl (by assumption)]; done)
 ·try simp only [NM] at h13
  try simp only [isM, decide_eq_true_eq, decide_eq_false_iff_not] at h13
  refine WP_exit ?_
  refine xhere ?_
  refine ⟨_, RS_nil, ?_⟩
  obtain rfl : i = n := by omega
  exact ⟨rfl, (.tail _ (.head _)), (.tail _ (.tail _ (.head _)))⟩
def lostL : List (S × V) := [(.int .i64 4, .s (.int .i64 3)), (.int .i64 7, .s (.int .i64 1)), (.int .i64 0, .s (.int .i64 2)), (.int .i64 60, .s (.int .i64 12)), (.int .i64 63, .s (.int .i64 4)), (.int .i64 56, .s (.int .i64 8))]
theorem find_lost (s : Int) : (mfind (.int .i64 s) lostL).getD (Z.v (.one (.s (.int .i64 0)))) = .s (.int .i64 (lostM s)) := by
 simp only [lostL, mfind, S.eqB, lostM]
 by_cases h4 : 4 = s
 ·simp [h4]
 by_cases h7 : 7 = s
 ·simp [h4, h7]
 by_cases h0 : 0 = s
 ·simp [h4, h7, h0]
 by_cases h60 : 60 = s
 ·simp [h4, h7, h0, h60]
 by_cases h63 : 63 = s
 ·simp [h4, h7, h0, h60, h63]
 by_cases h56 : 56 = s
 ·simp [h4, h7, h0, h60, h63, h56]
 simp [h4, h7, h0, h60, h63, h56, Z.v]
def lostsM (K : Nat → Int) : Nat → Int
 | 0 => 0
 | n + 1 => orM (lostsM K n) (lostM (K (0 + (n : Int).toNat * 1)))
theorem losts_run {md : Md} {q : Nat} {c : Cp} (K : Nat → Int) (n : Nat) (hn : n ≤ 1000) : WR AM 38 [.sl 0 0 n 1 c] [.sc md q (ia K)] (fun v _ L => v = .s (.int .i64 (lostsM K n)) ∧ (0, Blk.sc md q (ia K)) ∈ L) := by
 refine WR_fn (a := a38) rfl rfl (entryF _) (entry_E (Nat.le_of_ble_eq_true rfl)) (m := 1) rfl ?_
 refine WP_seq ?_
 refine WP_ops ?_
 refine WO_mv rfl ?_
 refine WO_nil ?_
 refine WP_seq ?_
 refine WP_ops ?_
 refine WO_mkmap ?_
 refine WO_mput rfl rfl rfl rfl rfl rfl .here ?_
 refine WO_mput rfl rfl rfl rfl rfl rfl .here ?_
 refine WO_mput rfl rfl rfl rfl rfl rfl .here ?_
 refine WO_mput rfl rfl rfl rfl rfl rfl .here ?_
 refine WO_mput rfl rfl rfl rfl rfl rfl .here ?_
 refine WO_mput rfl rfl rfl rfl rfl rfl .here ?_
 refine WO_mv (v := .map _) rfl ?_
 refine WO_mv (v := .map _) rfl ?_
 refine WO_nil ?_
 refine WP_seq ?_
 refine WP_seq ?_
 refine WP_ops ?_
 refine WO_mv (v := .sl _ _ _ _ _) rfl ?_
 refine WO_len rfl ?_
 refine WO_mv rfl ?_
 refine WO_nil ?_
 refine WP_block ?_
 refine WP_sub (L' := [_, _]) (.cons_cons _ (.cons_cons _ .slnil)) ?_
 refine WP_loop (fun m f _ L => ∃ (i : Nat), (i ≤ n) ∧ (m = n - i) ∧ (f 2 = .s (.int .i64 (lostsM K i))) ∧ (f 3 = .map 1) ∧ (f 8 = .sl 0 0 n 1 c) ∧ (f 9 = .s (.int .i64 n)) ∧ (f 10 = .s (.int .i64 i)) ∧ (L = [(1, .mp .var lostL), (0, .sc md q (ia K))])) (fun m f nb L hI => ?_) (n) ⟨0, by omega, rfl, rfl, rfl, rfl, rfl, rfl, rfl⟩
 obtain ⟨i, hi, hm, k2, k3, k8, k9, k10, rfl⟩ := hI
 refine WP_know (d := 2) (v := .s (.int .i64 (lostsM K i))) k2 ?_
 refine WP_know (d := 3) (v := .map 1) k3 ?_
 refine WP_know (d := 8) (v := .sl 0 0 n 1 c) k8 ?_
 refine WP_know (d := 9) (v := .s (.int .i64 n)) k9 ?_
 refine WP_know (d := 10) (v := .s (.int .i64 i)) k10 ?_
 refine WP_seq ?_
 refine WP_ops ?_
 refine WO_bin (r := .bool _) rfl rfl rfl ?_
 refine WO_nil ?_
 refine WP_seq ?_
 refine WP_cond rfl (fun h15 => ?_) (fun h15 => ?_)
 ·try simp only [NM] at h15
  try simp only [isM, decide_eq_true_eq, decide_eq_false_iff_not] at h15
  refine WP_skip ?_
  refine WP_seq ?_
  refine WP_block ?_
  refine WP_seq ?_
  refine WP_ops ?_
  refine WO_ixs rfl rfl (by omega) ?_
  refine WO_ldI (x := K (0 + (i : Int).toNat * 1)) rfl rfl (.tail _ (.head _)) (rfl) ?_
  refine WO_mv (v := .s (.int _ _)) rfl ?_
  refine WO_nil ?_
  refine WP_ops ?_
  refine WO_mv (v := .s (.int _ _)) rfl ?_
  refine WO_mv (v := .map _) rfl ?_
  refine WO_mv (v := .s (.int _ _)) rfl ?_
  refine WO_mget rfl rfl (.head _) rfl (find_lost _) ?_
  refine WO_bin (r := .int .i64 (orM _ _)) rfl rfl rfl ?_
  refine WO_mv (v := .s (.int _ _)) rfl ?_
  refine WO_nil ?_
  refine WP_ops ?_
  refine WO_add rfl rfl (by omega) ?_
  refine WO_mv (v := .s (.int _ _)) rfl ?_
  refine WO_nil ?_
  exact ⟨n - (i + 1), _, by omega, (.cons_cons _ (.cons_cons _ .slnil)), i + 1, by omega, rfl, rfl, rfl, rfl, rfl, rfl, rfl⟩
 ·try simp only [NM] at h15
  try simp only [isM, decide_eq_true_eq, decide_eq_false_iff_not] at h15
  refine WP_exit ?_
  refine xhere ?_
  refine WP_seq ?_
  refine WP_ops ?_
  refine WO_mv (v := .s (.int _ _)) rfl ?_
  refine WO_mv (v := .s (.int _ _)) rfl ?_
  refine WO_nil ?_
  refine WP_ret ?_
  refine ⟨_, RS_tmp (v := .s (.int _ _)) rfl (RS_nil), ?_⟩
  obtain rfl : i = n := by omega
  exact ⟨rfl, (.tail _ (.head _))⟩
end Go.Proofs.Ytlkighkfkdpncaa
namespace Go.Proofs.Ytlkighkfkdpncaa
open Go Go.Am
set_option linter.unusedSimpArgs false
set_option linter.unusedVariables false
theorem rook_ex {md : Md} (H : Nat → Int) (ha : 0 ≤ H 133 ∧ H 133 < 64) (ht : 0 ≤ H 134 ∧ H 134 < 64) (hc : H 137 = 0 ∨ H 137 = 1) (hC : 0 ≤ H 129 ∧ H 129 ≤ 15) :
  ∃ x y z, RookOf (H 136) (H 133) (H 134) (H 137) (H 129) x y z ∧ RB AM 35 [.ptr 0 0 138] [.sc md 138 (ia H)] (.tup [.s (.int .i64 x), .s (.int .i64 y), .s (.bool z)]) [.sc md 138 (ia H)] := by
 obtain ⟨v, σ', n', L', h1, h2, ⟨x, y, z, rfl, hr⟩, h3⟩ := rook_run (md := md) H ha ht hc hC
 exact ⟨x, y, z, hr, σ', h1, (h2.2.mem h3).2, ⟨_, _, _, rfl⟩, trivial⟩
structure Same (H J : Nat → Int) (B : Nat → Int) : Prop where
 lo : ∀ i, i < 128 → J i = B i
 hi : ∀ i, 128 ≤ i → J i = H i
theorem set_ex {md md2 : Md} (hmd : md.mut = true) {q : Nat} {c : Cp} (H X K : Nat → Int) (n : Nat) (hn : n ≤ 1000) : ∃ J, J = setM H X K n ∧ RB AM 37 [.ptr 0 0 138, .agg 2 (ia X), .sl 1 0 n 1 c] [.sc md 138 (ia H), .sc md2 q (ia K)] (.tup []) [.sc md 138 (ia J), .sc md2 q (ia K)] :=
 ⟨_, rfl, RB_of2 (set_run hmd H X K n hn)⟩
theorem set_two {H J : Nat → Int} {w a : Int} (e : J = setM H (fun _ => 0) (ov (ov (fun _ => 0) (0 * 1) w) (1 * 1) a) 2) (ha : 0 ≤ a ∧ a < 64) (hw : -1 ≤ w ∧ w < 64) : Same H J (brd2 H w a) := by
 have h2 := setM_of (H := H) (X := fun _ => 0) (K := ov (ov (fun _ => 0) (0 * 1) w) (1 * 1) a) (n := 1) (s := a) rfl ha
 refine ⟨fun i _ => ?_, fun i hi => by rw [e]; exact setM_out 2 i hi⟩
 rw [e, h2, brd2, brd1]
 by_cases h : 0 ≤ w
 ·rw [setM_of (H := H) (X := fun _ => 0) (K := ov (ov (fun _ => 0) (0 * 1) w) (1 * 1) a) (n := 0) (s := w) rfl (by omega), if_pos h]; rfl
 ·rw [setM_no (H := H) (X := fun _ => 0) (K := ov (ov (fun _ => 0) (0 * 1) w) (1 * 1) a) (n := 0) (s := w) rfl (by omega), if_neg h]; rfl
theorem set_next {H J J' B X Y : Nat → Int} {t : Int} (j : Same H J B) (e : J' = setM J X (ov (fun _ => 0) (0 * 1) t) 1) (ht : 0 ≤ t ∧ t < 64) (hx : ∀ i, i < 2 → X i = Y i) : Same H J' (ovA B (sqI t) 2 Y) := by
 have h1 := setM_of (H := J) (X := X) (K := ov (fun _ => 0) (0 * 1) t) (n := 0) (s := t) rfl ht
 refine ⟨fun i hi => ?_, fun i hi => by rw [e, setM_out 1 i hi]; exact j.hi i hi⟩
 rw [e, h1]
 exact ovA_same (n := 128) j.lo hx i hi
theorem two {X Y : Nat → Int} (h0 : X 0 = Y 0) (h1 : X 1 = Y 1) : ∀ i, i < 2 → X i = Y i
 | 0, _ => h0
 | 1, _ => h1
 | n + 2, h => by omega
theorem castling_a {k a t c C : Int} (h : castlingM k a t c C ≠ 0) : a = 56 * c + 4 := by
 unfold castlingM at h
 split at h
 ·omega
 ·split at h
  ·omega
  ·exact absurd rfl h
theorem set_rook {H J2 J3 J4 X : Nat → Int} {w k a t c b C x y : Int} {z : Bool} (j : Same H J2 (brd3 H w a t k c b)) (e3 : J3 = setM J2 (fun _ => 0) (ov (fun _ => 0) (0 * 1) x) 1) (e4 : J4 = setM J3 (ov (ov (fun _ => 0) 0 4) 1 (X 1)) (ov (fun _ => 0) (0 * 1) y) 1)
  (hr : RookOf k a t c C x y z) (hz : z = true) (hc : c = 0 ∨ c = 1) (hx1 : X 1 = c) : Same H J4 (brd4 H w a t k c b (castlingM k a t c C)) := by
 rcases hr with ⟨hg, _, rfl, rfl⟩ | ⟨hg, _, rfl, rfl⟩ | ⟨_, hf⟩
 ·have := castling_a (h := by rw [hg]; decide)
  rw [hg, brd4, if_pos rfl]
  exact set_next (set_next j e3 (by omega) (fun _ _ => rfl)) e4 (by omega) (two rfl hx1)
 ·have := castling_a (h := by rw [hg]; decide)
  rw [hg, brd4, if_neg (by decide), if_pos rfl]
  exact set_next (set_next j e3 (by omega) (fun _ _ => rfl)) e4 (by omega) (two rfl hx1)
 ·rw [hz] at hf; cases hf
theorem set_norook {H J2 : Nat → Int} {w k a t c b C x y : Int} {z : Bool} (j : Same H J2 (brd3 H w a t k c b)) (hr : RookOf k a t c C x y z) (hz : z = false) : Same H J2 (brd4 H w a t k c b (castlingM k a t c C)) := by
 rcases hr with ⟨_, h, _⟩ | ⟨_, h, _⟩ | ⟨hg, _⟩
 ·rw [hz] at h; cases h
 ·rw [hz] at h; cases h
 ·rw [hg, brd4, if_neg (by decide), if_neg (by decide)]; exact j
structure Done (H J B : Nat → Int) (cs ovr hf fl : Int) : Prop where
 lo : ∀ i, i < 128 → J i = B i
 s : J 128 = H 128
 c : J 129 = cs
 o : J 130 = ovr
 h : J 131 = hf
 f : J 132 = fl
theorem done_is {H J : Nat → Int} {k c a t b C : Int} (h : Done H J (brd4 H (takesM H k a t) a t k c b (castlingM k a t c C)) (andNotM C (orM (orM 0 (lostM a)) (lostM t))) (overM k a t c) (halfM H k (takesM H k a t)) (fullM H)) (i : Nat) : ovA (fun _ => 0) 0 133 (ov J 128 (otherM (H 128))) i = afterM H k c a t b C i := by
 unfold afterM
 by_cases hi : i < 133
 ·rw [ovA_at (by omega), Nat.sub_zero]
  by_cases h1 : i < 128
  ·rw [if_pos h1, ov_out (by omega)]; exact h.lo i h1
  ·rw [if_neg h1]
   have hc : i = 128 ∨ i = 129 ∨ i = 130 ∨ i = 131 ∨ i = 132 := by omega
   rcases hc with rfl | rfl | rfl | rfl | rfl
   ·rfl
   ·exact h.c
   ·exact h.o
   ·exact h.h
   ·exact h.f
 ·rw [ovA_out (by omega), if_neg (by omega), if_neg (by omega), if_neg (by omega), if_neg (by omega), if_neg (by omega), if_neg (by omega)]
theorem made_run (H : Nat → Int) (ha : 0 ≤ H 133 ∧ H 133 < 64) (ht : 0 ≤ H 134 ∧ H 134 < 64) (hc : H 137 = 0 ∨ H 137 = 1) (hC : 0 ≤ H 129 ∧ H 129 ≤ 15) : WR AM 18 [.ptr 0 0 138] [.sc .var 138 (ia H)] (fun v _ L => ∃ J, v = .agg 133 (ia (afterM H (H 136) (H 137) (H 133) (H 134) (H 135) (H 129))) ∧ (0, Blk.sc .var 138 (ia J)) ∈ L) := by
 refine WR_fn (a := a18) rfl rfl (entryF _) (entry_E (Nat.le_of_ble_eq_true rfl)) (m := 1) rfl ?_
 refine WP_seq ?_
 refine WP_ops ?_
 refine WO_allocI ?_
 refine WO_nil ?_
 refine WP_seq ?_
 refine WP_ops ?_
 refine WO_mv (v := .ptr _ _ _) rfl ?_
 refine WO_callP rfl (RB_of1 (takes_run H ha ht)) rfl rfl rfl (.there .here) ?_
 refine WO_mv (v := .s (.int _ _)) rfl ?_
 refine WO_nil ?_
 refine WP_seq ?_
 refine WP_ops ?_
 refine WO_mv (v := .ptr _ _ _) rfl ?_
 obtain ⟨x, y, z, hr, hR⟩ := rook_ex (md := .var) H ha ht hc hC
 refine WO_callP rfl (hR) rfl rfl rfl (.there .here) ?_
 refine WO_mv (v := .tup _) rfl ?_
 refine WO_ext (v := .s (.int _ _)) rfl rfl ?_
 refine WO_ext (v := .s (.int _ _)) rfl rfl ?_
 refine WO_ext (v := .s (.bool _)) rfl rfl ?_
 refine WO_mv (v := .s (.int _ _)) rfl ?_
 refine WO_mv (v := .s (.int _ _)) rfl ?_
 refine WO_mv (v := .s (.bool _)) rfl ?_
 refine WO_nil ?_
 refine WP_seq ?_
 refine WP_ops ?_
 refine WO_mv rfl ?_
 refine WO_nil ?_
 refine WP_cut (fun f n L => (f 0 = .ptr 0 0 138) ∧ (f 2 = .ptr 1 0 133) ∧ (f 3 = .s (.int .i64 (takesM H (H 136) (H 133) (H 134)))) ∧ (f 4 = .s (.int .i64 x)) ∧ (f 5 = .s (.int .i64 y)) ∧ (f 6 = .s (.bool z)) ∧ (f 7 = .s (.int .i64 (overM (H 136) (H 133) (H 134) (H 137)))) ∧ (L = [(1, .sc .var 133 (ia fun _ => 0)), (0, .sc .var 138 (ia H))]) ∧ (n = 2)) ?_ (fun f nb L hI => ?_)
 ·skip
  refine WP_seq ?_
  refine WP_ops ?_
  refine WO_mv (v := .ptr _ _ _) rfl ?_
  refine WO_callP rfl (RB_of1 (long_run H ha ht hc)) rfl rfl rfl (.there .here) ?_
  refine WO_nil ?_
  refine WP_cond rfl (fun h1 => ?_) (fun h1 => ?_)
  ·try simp only [NM] at h1
   try simp only [isM, decide_eq_true_eq, decide_eq_false_iff_not] at h1
   refine WP_par ?_
   refine WO_mv (v := .ptr _ _ _) rfl ?_
   refine WO_nilckP rfl ?_
   refine WO_fa (o' := 133) rfl rfl rfl ?_
   refine WO_fa (o' := 133) rfl rfl rfl ?_
   refine WO_ldI rfl rfl (.tail _ (.head _)) rfl ?_
   refine WO_mv (v := .ptr _ _ _) rfl ?_
   refine WO_nilckP rfl ?_
   refine WO_fa (o' := 133) rfl rfl rfl ?_
   refine WO_fa (o' := 134) rfl rfl rfl ?_
   refine WO_ldI rfl rfl (.tail _ (.head _)) rfl ?_
   refine WO_add rfl rfl (by omega) ?_
   refine WO_quo rfl rfl (by omega) ?_
   refine WO_mv (v := .s (.int _ _)) rfl ?_
   refine WO_nil ?_
   refine ⟨_, (.cons_cons _ (.cons_cons _ .slnil)), rfl, rfl, rfl, rfl, rfl, rfl, ?_, rfl, rfl⟩
   refine congrArg (fun b => V.s (S.int .i64 b)) ?_
   rw [overM]
   first | exact (if_pos (by assumption)).symm | exact (if_neg (Bool.eq_false_iff.1 (by assumption))).symm
  ·try simp only [NM] at h1
   try simp only [isM, decide_eq_true_eq, decide_eq_false_iff_not] at h1
   refine WP_skip ?_
   refine ⟨_, (.cons_cons _ (.cons_cons _ .slnil)), rfl, rfl, rfl, rfl, rfl, rfl, ?_, rfl, rfl⟩
   refine congrArg (fun b => V.s (S.int .i64 b)) ?_
   rw [overM]
   first | exact (if_pos (by assumption)).symm | exact (if_neg (Bool.eq_false_iff.1 (by assumption))).symm
 ·skip
  obtain ⟨k0, k2, k3, k4, k5, k6, k7, rfl, rfl⟩ := hI
  refine WP_know (d := 0) (v := .ptr 0 0 138) k0 ?_
  refine WP_know (d := 2) (v := .ptr 1 0 133) k2 ?_
  refine WP_know (d := 3) (v := .s (.int .i64 (takesM H (H 136) (H 133) (H 134)))) k3 ?_
  refine WP_know (d := 4) (v := .s (.int .i64 x)) k4 ?_
  refine WP_know (d := 5) (v := .s (.int .i64 y)) k5 ?_
  refine WP_know (d := 6) (v := .s (.bool z)) k6 ?_
  refine WP_know (d := 7) (v := .s (.int .i64 (overM (H 136) (H 133) (H 134) (H 137)))) k7 ?_
  refine WP_seq ?_
  refine WP_ops ?_
  refine WO_mv (v := .ptr _ _ _) rfl ?_
  refine WO_nilckP rfl ?_
  refine WO_fa (o' := 136) rfl rfl rfl ?_
  first | refine WO_ldA0 rfl rfl (.tail _ (.head _)) ?_ | refine WO_ldAI rfl rfl (.tail _ (.head _)) ?_
  refine WO_allocI ?_
  refine WO_stA rfl rfl rfl rfl .here ?_
  refine WO_nil ?_
  refine WP_cut (fun f n L => ∃ (X : Nat → Int), (X 0 = (if H 135 = 0 then H 136 else H 135)) ∧ (X 1 = H 137) ∧ (f 0 = .ptr 0 0 138) ∧ (f 2 = .ptr 1 0 133) ∧ (f 3 = .s (.int .i64 (takesM H (H 136) (H 133) (H 134)))) ∧ (f 4 = .s (.int .i64 x)) ∧ (f 5 = .s (.int .i64 y)) ∧ (f 6 = .s (.bool z)) ∧ (f 7 = .s (.int .i64 (overM (H 136) (H 133) (H 134) (H 137)))) ∧ (f 8 = .ptr 2 0 2) ∧ (L = [(2, .sc .var 2 (ia X)), (1, .sc .var 133 (ia fun _ => 0)), (0, .sc .var 138 (ia H))]) ∧ (n = 3)) ?_ (fun f nb L hI => ?_)
  ·skip
   refine WP_seq ?_
   refine WP_ops ?_
   refine WO_mv (v := .ptr _ _ _) rfl ?_
   refine WO_nilckP rfl ?_
   refine WO_fa (o' := 133) rfl rfl rfl ?_
   refine WO_fa (o' := 135) rfl rfl rfl ?_
   refine WO_ldI rfl rfl (.tail _ (.tail _ (.head _))) rfl ?_
   refine WO_bin (r := .bool _) rfl rfl rfl ?_
   refine WO_nil ?_
   refine WP_cond rfl (fun h2 => ?_) (fun h2 => ?_)
   ·try simp only [NM] at h2
    try simp only [isM, decide_eq_true_eq, decide_eq_false_iff_not] at h2
    refine WP_ops ?_
    refine WO_mv (v := .ptr _ _ _) rfl ?_
    refine WO_nilckP rfl ?_
    refine WO_fa (o' := 133) rfl rfl rfl ?_
    refine WO_fa (o' := 135) rfl rfl rfl ?_
    refine WO_ldI rfl rfl (.tail _ (.tail _ (.head _))) rfl ?_
    refine WO_fa (o' := 0) rfl rfl rfl ?_
    refine WO_stI rfl rfl rfl rfl .here ?_
    refine WO_nil ?_
    refine ⟨_, (.cons_cons _ (.cons_cons _ (.cons_cons _ .slnil))), _, ?_, ?_, rfl, rfl, rfl, rfl, rfl, rfl, rfl, rfl, rfl, rfl⟩
    · first | exact (if_pos (by assumption)).symm | exact (if_neg (by assumption)).symm
    · rfl
   ·try simp only [NM] at h2
    try simp only [isM, decide_eq_true_eq, decide_eq_false_iff_not] at h2
    refine WP_skip ?_
    refine ⟨_, (.cons_cons _ (.cons_cons _ (.cons_cons _ .slnil))), _, ?_, ?_, rfl, rfl, rfl, rfl, rfl, rfl, rfl, rfl, rfl, rfl⟩
    · first | exact (if_pos (by assumption)).symm | exact (if_neg (by assumption)).symm
    · rfl
  ·skip
   obtain ⟨X, hx0, hx1, k0, k2, k3, k4, k5, k6, k7, k8, rfl, rfl⟩ := hI
   refine WP_know (d := 0) (v := .ptr 0 0 138) k0 ?_
   refine WP_know (d := 2) (v := .ptr 1 0 133) k2 ?_
   refine WP_know (d := 3) (v := .s (.int .i64 (takesM H (H 136) (H 133) (H 134)))) k3 ?_
   refine WP_know (d := 4) (v := .s (.int .i64 x)) k4 ?_
   refine WP_know (d := 5) (v := .s (.int .i64 y)) k5 ?_
   refine WP_know (d := 6) (v := .s (.bool z)) k6 ?_
   refine WP_know (d := 7) (v := .s (.int .i64 (overM (H 136) (H 133) (H 134) (H 137)))) k7 ?_
   refine WP_know (d := 8) (v := .ptr 2 0 2) k8 ?_
   refine WP_seq ?_
   refine WP_ops ?_
   refine WO_mv (v := .ptr _ _ _) rfl ?_
   refine WO_buildI rfl .nil ?_
   refine WO_mv (v := .s (.int _ _)) rfl ?_
   refine WO_mv (v := .ptr _ _ _) rfl ?_
   refine WO_nilckP rfl ?_
   refine WO_fa (o' := 133) rfl rfl rfl ?_
   refine WO_fa (o' := 133) rfl rfl rfl ?_
   refine WO_ldI (x := H 133) rfl rfl (.tail _ (.tail _ (.head _))) (rfl) ?_
   refine WO_mkslS rfl (.one rfl (.one rfl .nil)) ?_
   obtain ⟨J1, eJ1, hSJ1⟩ := set_ex (md := .var) (md2 := .var) (q := 2) (c := .ex 2) rfl H (fun _ => 0) (ov (ov (fun _ => 0) (0 * 1) (takesM H (H 136) (H 133) (H 134))) (1 * 1) (H 133)) 2 (by omega)
   have j1 : Same H J1 (brd2 H (takesM H (H 136) (H 133) (H 134)) (H 133)) := set_two eJ1 ha (takesM_bd ha ht)
   refine WO_call (rs := [0, 3]) (Bs := [_, _]) rfl (hSJ1) rfl rfl (Nat.le_of_ble_eq_true rfl) (fun _ h => h) rfl ⟨(.tail _ (.tail _ (.tail _ (.head _)))), ⟨_, _, _, rfl⟩, ⟨(.head _), ⟨_, _, _, rfl⟩, trivial⟩⟩ rfl rfl rfl (.cons (.there (.there (.there .here))) (.cons .here .nil)) ?_
   refine WO_nil ?_
   refine WP_seq ?_
   refine WP_par ?_
   refine WO_mv (v := .ptr _ _ _) rfl ?_
   first | refine WO_ldA0 rfl rfl (.tail _ (.head _)) ?_ | refine WO_ldAI rfl rfl (.tail _ (.head _)) ?_
   refine WO_mv (v := .ptr _ _ _) rfl ?_
   refine WO_nilckP rfl ?_
   refine WO_fa (o' := 133) rfl rfl rfl ?_
   refine WO_fa (o' := 134) rfl rfl rfl ?_
   refine WO_ldI (x := H 134) rfl rfl (.tail _ (.tail _ (.tail _ (.head _)))) (j1.hi 134 (by omega)) ?_
   refine WO_mkslS rfl (.one rfl .nil) ?_
   obtain ⟨J2, eJ2, hSJ2⟩ := set_ex (md := .var) (md2 := .var) (q := 1) (c := .ex 1) rfl J1 X (ov (fun _ => 0) (0 * 1) (H 134)) 1 (by omega)
   have j2 : Same H J2 (brd3 H (takesM H (H 136) (H 133) (H 134)) (H 133) (H 134) (H 136) (H 137) (H 135)) := set_next j1 eJ2 ht (two hx0 hx1)
   refine WO_call (rs := [0, 4]) (Bs := [_, _]) rfl (hSJ2) rfl rfl (Nat.le_of_ble_eq_true rfl) (fun _ h => h) rfl ⟨(.tail _ (.tail _ (.tail _ (.tail _ (.head _))))), ⟨_, _, _, rfl⟩, ⟨(.head _), ⟨_, _, _, rfl⟩, trivial⟩⟩ rfl rfl rfl (.cons (.there (.there (.there (.there .here)))) (.cons .here .nil)) ?_
   refine WO_nil ?_
   refine WP_cut (fun f n L => ∃ (X J : Nat → Int), (3 ≤ n) ∧ (Same H J (brd4 H (takesM H (H 136) (H 133) (H 134)) (H 133) (H 134) (H 136) (H 137) (H 135) (castlingM (H 136) (H 133) (H 134) (H 137) (H 129)))) ∧ (f 0 = .ptr 0 0 138) ∧ (f 2 = .ptr 1 0 133) ∧ (f 3 = .s (.int .i64 (takesM H (H 136) (H 133) (H 134)))) ∧ (f 7 = .s (.int .i64 (overM (H 136) (H 133) (H 134) (H 137)))) ∧ (L = [(2, .sc .var 2 (ia X)), (1, .sc .var 133 (ia fun _ => 0)), (0, .sc .var 138 (ia J))])) ?_ (fun f nb L hI => ?_)
   ·skip
    refine WP_seq ?_
    refine WP_ops ?_
    refine WO_mv (v := .s (.bool _)) rfl ?_
    refine WO_nil ?_
    refine WP_cond rfl (fun h3 => ?_) (fun h3 => ?_)
    ·try simp only [NM] at h3
     try simp only [isM, decide_eq_true_eq, decide_eq_false_iff_not] at h3
     refine WP_seq ?_
     refine WP_ops ?_
     refine WO_mv (v := .ptr _ _ _) rfl ?_
     refine WO_buildI rfl .nil ?_
     refine WO_mv (v := .s (.int _ _)) rfl ?_
     refine WO_mkslS rfl (.one rfl .nil) ?_
     obtain ⟨J3, eJ3, hSJ3⟩ := set_ex (md := .var) (md2 := .var) (q := 1) (c := .ex 1) rfl J2 (fun _ => 0) (ov (fun _ => 0) (0 * 1) x) 1 (by omega)
     refine WO_call (rs := [0, 5]) (Bs := [_, _]) rfl (hSJ3) rfl rfl (Nat.le_of_ble_eq_true rfl) (fun _ h => h) rfl ⟨(.tail _ (.tail _ (.tail _ (.tail _ (.tail _ (.head _)))))), ⟨_, _, _, rfl⟩, ⟨(.head _), ⟨_, _, _, rfl⟩, trivial⟩⟩ rfl rfl rfl (.cons (.there (.there (.there (.there (.there .here))))) (.cons .here .nil)) ?_
     refine WO_nil ?_
     refine WP_ops ?_
     refine WO_mv (v := .ptr _ _ _) rfl ?_
     refine WO_fa (o' := 1) rfl rfl rfl ?_
     refine WO_ldI rfl rfl (.tail _ (.tail _ (.tail _ (.head _)))) rfl ?_
     refine WO_buildI rfl (.one rfl (.one rfl .nil)) ?_
     refine WO_mv (v := .s (.int _ _)) rfl ?_
     refine WO_mkslS rfl (.one rfl .nil) ?_
     obtain ⟨J4, eJ4, hSJ4⟩ := set_ex (md := .var) (md2 := .var) (q := 1) (c := .ex 1) rfl J3 (ov (ov (fun _ => 0) 0 4) 1 (X 1)) (ov (fun _ => 0) (0 * 1) y) 1 (by omega)
     have j4 : Same H J4 (brd4 H (takesM H (H 136) (H 133) (H 134)) (H 133) (H 134) (H 136) (H 137) (H 135) (castlingM (H 136) (H 133) (H 134) (H 137) (H 129))) := set_rook j2 eJ3 eJ4 hr (by assumption) hc hx1
     refine WO_call (rs := [0, 6]) (Bs := [_, _]) rfl (hSJ4) rfl rfl (Nat.le_of_ble_eq_true rfl) (fun _ h => h) rfl ⟨(.tail _ (.tail _ (.tail _ (.tail _ (.tail _ (.tail _ (.head _))))))), ⟨_, _, _, rfl⟩, ⟨(.head _), ⟨_, _, _, rfl⟩, trivial⟩⟩ rfl rfl rfl (.cons (.there (.there (.there (.there (.there (.there .here)))))) (.cons .here .nil)) ?_
     refine WO_nil ?_
     exact ⟨_, (.cons _ (.cons _ (.cons _ (.cons _ (.cons_cons _ (.cons_cons _ (.cons_cons _ .slnil))))))), X, J4, by omega, j4, rfl, rfl, rfl, rfl, rfl⟩
    ·try simp only [NM] at h3
     try simp only [isM, decide_eq_true_eq, decide_eq_false_iff_not] at h3
     refine WP_skip ?_
     exact ⟨_, (.cons _ (.cons _ (.cons_cons _ (.cons_cons _ (.cons_cons _ .slnil))))), X, J2, by omega, set_norook j2 hr (by assumption), rfl, rfl, rfl, rfl, rfl⟩
   ·skip
    obtain ⟨X, J, hn3, hJ, k0, k2, k3, k7, rfl⟩ := hI
    refine WP_know (d := 0) (v := .ptr 0 0 138) k0 ?_
    refine WP_know (d := 2) (v := .ptr 1 0 133) k2 ?_
    refine WP_know (d := 3) (v := .s (.int .i64 (takesM H (H 136) (H 133) (H 134)))) k3 ?_
    refine WP_know (d := 7) (v := .s (.int .i64 (overM (H 136) (H 133) (H 134) (H 137)))) k7 ?_
    refine WP_seq ?_
    refine WP_ops ?_
    refine WO_mv (v := .ptr _ _ _) rfl ?_
    refine WO_mv (v := .s (.int _ _)) rfl ?_
    refine WO_nilckP rfl ?_
    refine WO_fa (o' := 0) rfl rfl rfl ?_
    refine WO_fa (o' := 130) rfl rfl rfl ?_
    refine WO_stI rfl rfl rfl rfl (.there (.there .here)) ?_
    refine WO_nil ?_
    refine WP_seq ?_
    refine WP_par ?_
    refine WO_mv (v := .ptr _ _ _) rfl ?_
    refine WO_nilckP rfl ?_
    refine WO_fa (o' := 0) rfl rfl rfl ?_
    refine WO_fa (o' := 129) rfl rfl rfl ?_
    refine WO_ldI (x := H 129) rfl rfl (.tail _ (.tail _ (.head _))) (hJ.hi 129 (by omega)) ?_
    refine WO_mv (v := .ptr _ _ _) rfl ?_
    refine WO_nilckP rfl ?_
    refine WO_fa (o' := 133) rfl rfl rfl ?_
    refine WO_fa (o' := 133) rfl rfl rfl ?_
    refine WO_ldI (x := H 133) rfl rfl (.tail _ (.tail _ (.head _))) (hJ.hi 133 (by omega)) ?_
    refine WO_mv (v := .ptr _ _ _) rfl ?_
    refine WO_nilckP rfl ?_
    refine WO_fa (o' := 133) rfl rfl rfl ?_
    refine WO_fa (o' := 134) rfl rfl rfl ?_
    refine WO_ldI (x := H 134) rfl rfl (.tail _ (.tail _ (.head _))) (hJ.hi 134 (by omega)) ?_
    refine WO_mkslS rfl (.one rfl (.one rfl .nil)) ?_
    refine WO_callq (rs := [nb]) (Bs := [_]) (av := [.sl nb 0 2 1 (.ex 2)]) (v := .s (.int .i64 (lostsM (ov (ov (fun _ => 0) (0 * 1) (H 133)) (1 * 1) (H 134)) 2))) rfl (RB_of1 (losts_run (md := .ro) (q := 2) (c := .ex 2) (ov (ov (fun _ => 0) (0 * 1) (H 133)) (1 * 1) (H 134)) 2 (by omega))) rfl (by simp [V.refsL, V.refs, dedup]) (by simp [V.refsL, V.refs]) (by simp [V.refsL, V.refs]) (by simp [rnL, V.renL, V.ren, pos]) ⟨(.head _), ⟨_, _, _, rfl⟩, trivial⟩ rfl rfl rfl ?_
    refine WO_bin (r := .int .i64 (andNotM (H 129) _)) rfl rfl rfl ?_
    refine WO_nilckP rfl ?_
    refine WO_fa (o' := 0) rfl rfl rfl ?_
    refine WO_fa (o' := 129) rfl rfl rfl ?_
    refine WO_stI rfl rfl rfl rfl (.there (.there (.there .here))) ?_
    refine WO_nil ?_
    refine WP_seq ?_
    refine WP_ops ?_
    refine WO_mv (v := .ptr _ _ _) rfl ?_
    refine WO_mv (v := .ptr _ _ _) rfl ?_
    refine WO_nilckP rfl ?_
    refine WO_fa (o' := 0) rfl rfl rfl ?_
    refine WO_fa (o' := 131) rfl rfl rfl ?_
    refine WO_ldI (x := H 131) rfl rfl (.tail _ (.tail _ (.tail _ (.head _)))) (hJ.hi 131 (by omega)) ?_
    refine WO_mn2 rfl rfl ?_
    refine WO_bin rfl rfl rfl ?_
    refine WO_nilckP rfl ?_
    refine WO_fa (o' := 0) rfl rfl rfl ?_
    refine WO_fa (o' := 131) rfl rfl rfl ?_
    refine WO_stI rfl rfl rfl rfl (.there (.there (.there .here))) ?_
    refine WO_nil ?_
    refine WP_cut (fun f n L => ∃ (J : Nat → Int), (Done H J (brd4 H (takesM H (H 136) (H 133) (H 134)) (H 133) (H 134) (H 136) (H 137) (H 135) (castlingM (H 136) (H 133) (H 134) (H 137) (H 129))) (andNotM (H 129) (orM (orM 0 (lostM (H 133))) (lostM (H 134)))) (overM (H 136) (H 133) (H 134) (H 137)) (halfM H (H 136) (takesM H (H 136) (H 133) (H 134))) (H 132)) ∧ (f 0 = .ptr 0 0 138) ∧ (f 2 = .ptr 1 0 133) ∧ (L = [(1, .sc .var 133 (ia fun _ => 0)), (0, .sc .var 138 (ia J))])) ?_ (fun f nb L hI => ?_)
    ·skip
     refine WP_seq ?_
     refine WP_ops ?_
     refine WO_mv (v := .s (.int _ _)) rfl ?_
     refine WO_bin (r := .bool _) rfl rfl rfl ?_
     refine WO_mv (v := .s (.bool _)) rfl ?_
     refine WO_case (t := 118) rfl (fun h4 => ?_) (fun h4 => ?_)
     ·try simp only [NM] at h4
      try simp only [isM, decide_eq_true_eq, decide_eq_false_iff_not] at h4
      refine WO_gf rfl rfl ?_
      refine WO_gf rfl rfl ?_
      refine WO_gf rfl rfl ?_
      refine WO_gf rfl rfl ?_
      refine WO_gf rfl rfl ?_
      refine WO_gf rfl rfl ?_
      refine WO_pick (v := .s (.bool _)) rfl rfl ?_
      refine WO_nil ?_
      refine WP_cond rfl (fun _ => ?_) (fun h => nomatch h)
      refine WP_ops ?_
      refine WO_mv (v := .ptr _ _ _) rfl ?_
      refine WO_nilckP rfl ?_
      refine WO_fa (o' := 0) rfl rfl rfl ?_
      refine WO_fa (o' := 131) rfl rfl rfl ?_
      refine WO_stI rfl rfl rfl rfl (.there (.there (.there .here))) ?_
      refine WO_nil ?_
      refine ⟨_, (.cons _ (.cons _ (.cons_cons _ (.cons_cons _ .slnil)))), _, ?_, rfl, rfl, rfl⟩
      refine ⟨(by intro i hi; (repeat rw [ov_out (by omega)]); exact hJ.lo i hi), hJ.hi 128 (by omega), rfl, rfl, ?_, hJ.hi 132 (by omega)⟩
      have hb := takesM_bd (P := H) (k := H 136) ha ht
      rw [halfM]
      first | exact (if_pos (by omega)).symm | exact (if_neg (by omega)).symm
     ·try simp only [NM] at h4
      try simp only [isM, decide_eq_true_eq, decide_eq_false_iff_not] at h4
      refine WO_gt rfl ?_
      refine WO_mv (v := .ptr _ _ _) rfl ?_
      refine WO_gt rfl ?_
      refine WO_nilckP rfl ?_
      refine WO_gt rfl ?_
      refine WO_fa (o' := 136) rfl rfl rfl ?_
      refine WO_gt rfl ?_
      refine WO_fa (o' := 136) rfl rfl rfl ?_
      refine WO_gt rfl ?_
      refine WO_ldI (x := H 136) rfl rfl (.tail _ (.tail _ (.tail _ (.head _)))) (hJ.hi 136 (by omega)) ?_
      refine WO_gt rfl ?_
      refine WO_bin (r := .bool _) rfl rfl rfl ?_
      refine WO_pick (v := .s (.bool _)) rfl rfl ?_
      refine WO_nil ?_
      refine WP_cond rfl (fun h5 => ?_) (fun h5 => ?_)
      ·try simp only [NM] at h5
       try simp only [isM, decide_eq_true_eq, decide_eq_false_iff_not] at h5
       refine WP_ops ?_
       refine WO_mv (v := .ptr _ _ _) rfl ?_
       refine WO_nilckP rfl ?_
       refine WO_fa (o' := 0) rfl rfl rfl ?_
       refine WO_fa (o' := 131) rfl rfl rfl ?_
       refine WO_stI rfl rfl rfl rfl (.there (.there (.there .here))) ?_
       refine WO_nil ?_
       refine ⟨_, (.cons _ (.cons _ (.cons_cons _ (.cons_cons _ .slnil)))), _, ?_, rfl, rfl, rfl⟩
       refine ⟨(by intro i hi; (repeat rw [ov_out (by omega)]); exact hJ.lo i hi), hJ.hi 128 (by omega), rfl, rfl, ?_, hJ.hi 132 (by omega)⟩
       have hb := takesM_bd (P := H) (k := H 136) ha ht
       rw [halfM]
       first | exact (if_pos (by omega)).symm | exact (if_neg (by omega)).symm
      ·try simp only [NM] at h5
       try simp only [isM, decide_eq_true_eq, decide_eq_false_iff_not] at h5
       refine WP_skip ?_
       refine ⟨_, (.cons _ (.cons _ (.cons_cons _ (.cons_cons _ .slnil)))), _, ?_, rfl, rfl, rfl⟩
       refine ⟨(by intro i hi; (repeat rw [ov_out (by omega)]); exact hJ.lo i hi), hJ.hi 128 (by omega), rfl, rfl, ?_, hJ.hi 132 (by omega)⟩
       have hb := takesM_bd (P := H) (k := H 136) ha ht
       rw [halfM]
       first | exact (if_pos (by omega)).symm | exact (if_neg (by omega)).symm
    ·skip
     obtain ⟨J, hD, k0, k2, rfl⟩ := hI
     refine WP_know (d := 0) (v := .ptr 0 0 138) k0 ?_
     refine WP_know (d := 2) (v := .ptr 1 0 133) k2 ?_
     refine WP_cut (fun f n L => ∃ (J : Nat → Int), (Done H J (brd4 H (takesM H (H 136) (H 133) (H 134)) (H 133) (H 134) (H 136) (H 137) (H 135) (castlingM (H 136) (H 133) (H 134) (H 137) (H 129))) (andNotM (H 129) (orM (orM 0 (lostM (H 133))) (lostM (H 134)))) (overM (H 136) (H 133) (H 134) (H 137)) (halfM H (H 136) (takesM H (H 136) (H 133) (H 134))) (fullM H)) ∧ (f 0 = .ptr 0 0 138) ∧ (f 2 = .ptr 1 0 133) ∧ (L = [(1, .sc .var 133 (ia fun _ => 0)), (0, .sc .var 138 (ia J))])) ?_ (fun f nb L hI => ?_)
     ·skip
      refine WP_seq ?_
      refine WP_ops ?_
      refine WO_mv (v := .ptr _ _ _) rfl ?_
      refine WO_nilckP rfl ?_
      refine WO_fa (o' := 0) rfl rfl rfl ?_
      refine WO_fa (o' := 128) rfl rfl rfl ?_
      refine WO_ldI (x := H 128) rfl rfl (.tail _ (.head _)) (hD.s) ?_
      refine WO_bin (r := .bool _) rfl rfl rfl ?_
      refine WO_nil ?_
      refine WP_cond rfl (fun h6 => ?_) (fun h6 => ?_)
      ·try simp only [NM] at h6
       try simp only [isM, decide_eq_true_eq, decide_eq_false_iff_not] at h6
       refine WP_ops ?_
       refine WO_mv (v := .ptr _ _ _) rfl ?_
       refine WO_mv (v := .ptr _ _ _) rfl ?_
       refine WO_nilckP rfl ?_
       refine WO_fa (o' := 0) rfl rfl rfl ?_
       refine WO_fa (o' := 132) rfl rfl rfl ?_
       refine WO_ldI (x := H 132) rfl rfl (.tail _ (.head _)) (hD.f) ?_
       refine WO_mn2 rfl rfl ?_
       refine WO_bin rfl rfl rfl ?_
       refine WO_nilckP rfl ?_
       refine WO_fa (o' := 0) rfl rfl rfl ?_
       refine WO_fa (o' := 132) rfl rfl rfl ?_
       refine WO_stI rfl rfl rfl rfl (.there .here) ?_
       refine WO_nil ?_
       refine ⟨_, (.cons_cons _ (.cons_cons _ .slnil)), _, ?_, rfl, rfl, rfl⟩
       refine ⟨(by intro i hi; (repeat rw [ov_out (by omega)]); exact hD.lo i hi), hD.s, hD.c, hD.o, hD.h, ?_⟩
       rw [fullM]
       first | exact (if_pos (by assumption)).symm | exact hD.f.trans (if_neg (by assumption)).symm
      ·try simp only [NM] at h6
       try simp only [isM, decide_eq_true_eq, decide_eq_false_iff_not] at h6
       refine WP_skip ?_
       refine ⟨_, (.cons_cons _ (.cons_cons _ .slnil)), _, ?_, rfl, rfl, rfl⟩
       refine ⟨(by intro i hi; (repeat rw [ov_out (by omega)]); exact hD.lo i hi), hD.s, hD.c, hD.o, hD.h, ?_⟩
       rw [fullM]
       first | exact (if_pos (by assumption)).symm | exact hD.f.trans (if_neg (by assumption)).symm
     ·skip
      obtain ⟨J, hE, k0, k2, rfl⟩ := hI
      refine WP_know (d := 0) (v := .ptr 0 0 138) k0 ?_
      refine WP_know (d := 2) (v := .ptr 1 0 133) k2 ?_
      refine WP_seq ?_
      refine WP_ops ?_
      refine WO_mv (v := .ptr _ _ _) rfl ?_
      refine WO_mv (v := .ptr _ _ _) rfl ?_
      refine WO_nilckP rfl ?_
      refine WO_fa (o' := 0) rfl rfl rfl ?_
      refine WO_fa (o' := 128) rfl rfl rfl ?_
      refine WO_ldI (x := H 128) rfl rfl (.tail _ (.head _)) (hE.s) ?_
      refine WO_call0 rfl (RF_of (Other_run _)) rfl rfl rfl ?_
      refine WO_nilckP rfl ?_
      refine WO_fa (o' := 0) rfl rfl rfl ?_
      refine WO_fa (o' := 128) rfl rfl rfl ?_
      refine WO_stI rfl rfl rfl rfl (.there .here) ?_
      refine WO_nil ?_
      refine WP_seq ?_
      refine WP_ops ?_
      refine WO_mv (v := .ptr _ _ _) rfl ?_
      refine WO_nilckP rfl ?_
      refine WO_fa (o' := 0) rfl rfl rfl ?_
      first | refine WO_ldA0 rfl rfl (.tail _ (.head _)) ?_ | refine WO_ldAI rfl rfl (.tail _ (.head _)) ?_
      refine WO_stA rfl rfl rfl rfl .here ?_
      refine WO_nil ?_
      refine WP_ret ?_
      refine ⟨_, RS_cell rfl rfl (.head _) (RS_nil), ?_⟩
      refine ⟨_, congrArg (fun g => V.agg 133 (ia g)) (funext fun i => ?_), (.tail _ (.head _))⟩
      exact done_is hE i
structure HandOf (P m H : Nat → Int) : Prop where
 lo : ∀ i, i < 129 → H i = P i
 c : H 129 = castM P
 hi : ∀ i, 130 ≤ i → i < 133 → H i = P i
 a : H 133 = m 0
 t : H 134 = m 1
 b : H 135 = m 2
 k : H 136 = P (sqI (m 0))
 s : H 137 = P (sqI (m 0) + 1)
def hand0 (P m : Nat → Int) : Nat → Int := ovA (ovA (ovA (fun _ => 0) 0 133 P) 133 3 m) 136 2 (dp P (sqI (m 0)))
theorem hand0_lo {P m : Nat → Int} {i : Nat} (h : i < 133) : hand0 P m i = P i := by
 unfold hand0
 rw [ovA_out (by omega), ovA_out (by omega), ovA_at (by omega), Nat.sub_zero]
theorem hand_keep {P m : Nat → Int} (h : 0 ≤ P 129 ∧ P 129 ≤ 15) : HandOf P m (hand0 P m) :=
 ⟨fun i hi => hand0_lo (by omega), by rw [hand0_lo (by omega), castM, if_neg (by omega)], fun i _ hi => hand0_lo hi, rfl, rfl, rfl, rfl, rfl⟩
theorem hand_none {P m : Nat → Int} (h : P 129 < 0 ∨ 15 < P 129) : HandOf P m (ov (hand0 P m) 129 0) :=
 ⟨fun i hi => by rw [ov_out (by omega)]; exact hand0_lo (by omega), by rw [castM, if_pos h]; rfl, fun i h1 hi => by rw [ov_out (by omega)]; exact hand0_lo hi, rfl, rfl, rfl, rfl, rfl⟩
theorem can_no {P : Nat → Int} {a t b : Int} (h : ¬ (1 ≤ P (sqI a) ∧ P (sqI a) ≤ 6 ∧ P (sqI a + 1) = P 128 ∧ (P (sqI a + 1) = 0 ∨ P (sqI a + 1) = 1) ∧ (if P (sqI a) = 1 ∧ t / 8 = 7 * (1 - P (sqI a + 1)) then 2 ≤ b ∧ b ≤ 5 else b = 0))) : canM P a t b = false := decide_eq_false h
theorem can_yes {P : Nat → Int} {a t b : Int} (h : 1 ≤ P (sqI a) ∧ P (sqI a) ≤ 6 ∧ P (sqI a + 1) = P 128 ∧ (P (sqI a + 1) = 0 ∨ P (sqI a + 1) = 1) ∧ (if P (sqI a) = 1 ∧ t / 8 = 7 * (1 - P (sqI a + 1)) then 2 ≤ b ∧ b ≤ 5 else b = 0)) : canM P a t b = true := decide_eq_true h
theorem taken_run (P m : Nat → Int) : WR AM 17 [.agg 133 (ia P), .agg 3 (ia m)] [] (fun v _ L => (v = .tup [.pnil, .s (.int .i64 (errM P (m 0) (m 1) (m 2)))] ∧ errM P (m 0) (m 1) (m 2) ≠ 0) ∨ (errM P (m 0) (m 1) (m 2) = 0 ∧ ∃ b H, v = .tup [.ptr b 0 138, .s (.int .i64 (errM P (m 0) (m 1) (m 2)))] ∧ HandOf P m H ∧ (b, Blk.sc .var 138 (ia H)) ∈ L)) := by
 refine WR_fn (a := a17) rfl rfl (entryF _) (entry_E (Nat.le_of_ble_eq_true rfl)) (m := 0) rfl ?_
 refine WP_seq ?_
 refine WP_ops ?_
 refine WO_boxA rfl ?_
 refine WO_boxA rfl ?_
 refine WO_mv rfl ?_
 refine WO_mv rfl ?_
 refine WO_nil ?_
 refine WP_seq ?_
 refine WP_seq ?_
 refine WP_ops ?_
 refine WO_fa (o' := 0) rfl rfl rfl ?_
 refine WO_ldI rfl rfl (.head _) rfl ?_
 refine WO_call0 rfl (SqIs_run _) rfl rfl rfl ?_
 refine WO_un (r := .bool _) rfl rfl ?_
 refine WO_mv (v := .s (.bool _)) rfl ?_
 refine WO_case (t := 13) rfl (fun h7 => ?_) (fun h7 => ?_)
 ·try simp only [NM] at h7
  try simp only [isM, decide_eq_true_eq, decide_eq_false_iff_not] at h7
  refine WO_gf rfl rfl ?_
  refine WO_gf rfl rfl ?_
  refine WO_gf rfl rfl ?_
  refine WO_gf rfl rfl ?_
  refine WO_pick (v := .s (.bool _)) rfl rfl ?_
  refine WO_mv (v := .s (.bool _)) rfl ?_
  refine WO_gf rfl rfl ?_
  refine WO_gf rfl rfl ?_
  refine WO_gf rfl rfl ?_
  refine WO_gf rfl rfl ?_
  refine WO_gf rfl rfl ?_
  refine WO_pick (v := .s (.bool _)) rfl rfl ?_
  refine WO_nil ?_
  refine WP_cond rfl (fun _ => ?_) (fun h => nomatch h)
  refine WP_seq ?_
  refine WP_ops ?_
  refine WO_mv rfl ?_
  refine WO_mv rfl ?_
  refine WO_nil ?_
  refine WP_ret ?_
  refine ⟨_, RS_tmp (v := .pnil) rfl (RS_tmp (v := .s (.int _ _)) rfl (RS_nil)), ?_⟩
  have he := errM_out (P := P) (a := m 0) (t := m 1) (b := m 2) (by omega)
  rw [he]
  exact .inl ⟨rfl, by decide⟩
 ·try simp only [NM] at h7
  try simp only [isM, decide_eq_true_eq, decide_eq_false_iff_not] at h7
  refine WO_gt rfl ?_
  refine WO_fa (o' := 1) rfl rfl rfl ?_
  refine WO_gt rfl ?_
  refine WO_ldI rfl rfl (.head _) rfl ?_
  refine WO_gt rfl ?_
  refine WO_call0 rfl (SqIs_run _) rfl rfl rfl ?_
  refine WO_gt rfl ?_
  refine WO_un (r := .bool _) rfl rfl ?_
  refine WO_pick (v := .s (.bool _)) rfl rfl ?_
  refine WO_mv (v := .s (.bool _)) rfl ?_
  refine WO_case (t := 19) rfl (fun h8 => ?_) (fun h8 => ?_)
  ·try simp only [NM] at h8
   try simp only [isM, decide_eq_true_eq, decide_eq_false_iff_not] at h8
   refine WO_gf rfl rfl ?_
   refine WO_gf rfl rfl ?_
   refine WO_gf rfl rfl ?_
   refine WO_gf rfl rfl ?_
   refine WO_gf rfl rfl ?_
   refine WO_pick (v := .s (.bool _)) rfl rfl ?_
   refine WO_nil ?_
   refine WP_cond rfl (fun _ => ?_) (fun h => nomatch h)
   refine WP_seq ?_
   refine WP_ops ?_
   refine WO_mv rfl ?_
   refine WO_mv rfl ?_
   refine WO_nil ?_
   refine WP_ret ?_
   refine ⟨_, RS_tmp (v := .pnil) rfl (RS_tmp (v := .s (.int _ _)) rfl (RS_nil)), ?_⟩
   have he := errM_out (P := P) (a := m 0) (t := m 1) (b := m 2) (by omega)
   rw [he]
   exact .inl ⟨rfl, by decide⟩
  ·try simp only [NM] at h8
   try simp only [isM, decide_eq_true_eq, decide_eq_false_iff_not] at h8
   refine WO_gt rfl ?_
   refine WO_fa (o' := 0) rfl rfl rfl ?_
   refine WO_gt rfl ?_
   refine WO_ldI rfl rfl (.head _) rfl ?_
   refine WO_gt rfl ?_
   refine WO_fa (o' := 1) rfl rfl rfl ?_
   refine WO_gt rfl ?_
   refine WO_ldI rfl rfl (.head _) rfl ?_
   refine WO_gt rfl ?_
   refine WO_bin (r := .bool _) rfl rfl rfl ?_
   refine WO_pick (v := .s (.bool _)) rfl rfl ?_
   refine WO_nil ?_
   refine WP_cond rfl (fun h9 => ?_) (fun h9 => ?_)
   ·try simp only [NM] at h9
    try simp only [isM, decide_eq_true_eq, decide_eq_false_iff_not] at h9
    refine WP_seq ?_
    refine WP_ops ?_
    refine WO_mv rfl ?_
    refine WO_mv rfl ?_
    refine WO_nil ?_
    refine WP_ret ?_
    refine ⟨_, RS_tmp (v := .pnil) rfl (RS_tmp (v := .s (.int _ _)) rfl (RS_nil)), ?_⟩
    have he := errM_out (P := P) (a := m 0) (t := m 1) (b := m 2) (by omega)
    rw [he]
    exact .inl ⟨rfl, by decide⟩
   ·try simp only [NM] at h9
    try simp only [isM, decide_eq_true_eq, decide_eq_false_iff_not] at h9
    refine WP_skip ?_
    refine WP_seq ?_
    refine WP_par ?_
    first | refine WO_ldA0 rfl rfl (.tail _ (.head _)) ?_ | refine WO_ldAI rfl rfl (.tail _ (.head _)) ?_
    first | refine WO_ldA0 rfl rfl (.head _) ?_ | refine WO_ldAI rfl rfl (.head _) ?_
    refine WO_fa (o' := 0) rfl rfl rfl ?_
    refine WO_ldI rfl rfl (.head _) rfl ?_
    refine WO_fa (o' := 0) rfl rfl rfl ?_
    refine WO_ixa rfl rfl rfl (by omega) ?_
    first | refine WO_ldA0 rfl rfl (.tail _ (.head _)) ?_ | refine WO_ldAI rfl rfl (.tail _ (.head _)) ?_
    refine WO_buildI rfl (.agg rfl (.agg rfl (.agg rfl .nil))) ?_
    refine WO_boxA rfl ?_
    refine WO_mv (v := .ptr _ _ _) rfl ?_
    refine WO_nil ?_
    refine WP_cut (fun f n L => ∃ (H : Nat → Int), (HandOf P m H) ∧ (0 ≤ m 0 ∧ m 0 < 64) ∧ (0 ≤ m 1 ∧ m 1 < 64) ∧ (m 0 ≠ m 1) ∧ (f 2 = .ptr 0 0 133) ∧ (f 3 = .ptr 1 0 3) ∧ (f 6 = .ptr 2 0 138) ∧ (L = [(2, .sc .var 138 (ia H)), (1, .sc .var 3 (ia m)), (0, .sc .var 133 (ia P))]) ∧ (n = 3)) ?_ (fun f nb L hI => ?_)
    ·skip
     refine WP_seq ?_
     refine WP_ops ?_
     refine WO_mv (v := .ptr _ _ _) rfl ?_
     refine WO_nilckP rfl ?_
     refine WO_fa (o' := 0) rfl rfl rfl ?_
     refine WO_fa (o' := 129) rfl rfl rfl ?_
     refine WO_ldI (x := P 129) rfl rfl (.head _) (rfl) ?_
     refine WO_bin (r := .bool _) rfl rfl rfl ?_
     refine WO_mv (v := .s (.bool _)) rfl ?_
     refine WO_case (t := 41) rfl (fun h10 => ?_) (fun h10 => ?_)
     ·try simp only [NM] at h10
      try simp only [isM, decide_eq_true_eq, decide_eq_false_iff_not] at h10
      refine WO_gf rfl rfl ?_
      refine WO_gf rfl rfl ?_
      refine WO_gf rfl rfl ?_
      refine WO_gf rfl rfl ?_
      refine WO_gf rfl rfl ?_
      refine WO_gf rfl rfl ?_
      refine WO_pick (v := .s (.bool _)) rfl rfl ?_
      refine WO_nil ?_
      refine WP_cond rfl (fun _ => ?_) (fun h => nomatch h)
      refine WP_ops ?_
      refine WO_mv (v := .ptr _ _ _) rfl ?_
      refine WO_nilckP rfl ?_
      refine WO_fa (o' := 0) rfl rfl rfl ?_
      refine WO_fa (o' := 129) rfl rfl rfl ?_
      refine WO_stI rfl rfl rfl rfl .here ?_
      refine WO_nil ?_
      refine ⟨_, (.cons_cons _ (.cons_cons _ (.cons_cons _ .slnil))), _, ?_, by omega, by omega, by omega, rfl, rfl, rfl, rfl, rfl⟩
      first | exact hand_none (.inl (by assumption)) | exact hand_none (.inr (by assumption)) | exact hand_keep ⟨by omega, by omega⟩
     ·try simp only [NM] at h10
      try simp only [isM, decide_eq_true_eq, decide_eq_false_iff_not] at h10
      refine WO_gt rfl ?_
      refine WO_mv (v := .ptr _ _ _) rfl ?_
      refine WO_gt rfl ?_
      refine WO_nilckP rfl ?_
      refine WO_gt rfl ?_
      refine WO_fa (o' := 0) rfl rfl rfl ?_
      refine WO_gt rfl ?_
      refine WO_fa (o' := 129) rfl rfl rfl ?_
      refine WO_gt rfl ?_
      refine WO_ldI (x := P 129) rfl rfl (.head _) (rfl) ?_
      refine WO_gt rfl ?_
      refine WO_bin (r := .bool _) rfl rfl rfl ?_
      refine WO_pick (v := .s (.bool _)) rfl rfl ?_
      refine WO_nil ?_
      refine WP_cond rfl (fun h11 => ?_) (fun h11 => ?_)
      ·try simp only [NM] at h11
       try simp only [isM, decide_eq_true_eq, decide_eq_false_iff_not] at h11
       refine WP_ops ?_
       refine WO_mv (v := .ptr _ _ _) rfl ?_
       refine WO_nilckP rfl ?_
       refine WO_fa (o' := 0) rfl rfl rfl ?_
       refine WO_fa (o' := 129) rfl rfl rfl ?_
       refine WO_stI rfl rfl rfl rfl .here ?_
       refine WO_nil ?_
       refine ⟨_, (.cons_cons _ (.cons_cons _ (.cons_cons _ .slnil))), _, ?_, by omega, by omega, by omega, rfl, rfl, rfl, rfl, rfl⟩
       first | exact hand_none (.inl (by assumption)) | exact hand_none (.inr (by assumption)) | exact hand_keep ⟨by omega, by omega⟩
      ·try simp only [NM] at h11
       try simp only [isM, decide_eq_true_eq, decide_eq_false_iff_not] at h11
       refine WP_skip ?_
       refine ⟨_, (.cons_cons _ (.cons_cons _ (.cons_cons _ .slnil))), _, ?_, by omega, by omega, by omega, rfl, rfl, rfl, rfl, rfl⟩
       first | exact hand_none (.inl (by assumption)) | exact hand_none (.inr (by assumption)) | exact hand_keep ⟨by omega, by omega⟩
    ·skip
     obtain ⟨H, hH, ha, ht, hat, k2, k3, k6, rfl, rfl⟩ := hI
     refine WP_know (d := 2) (v := .ptr 0 0 133) k2 ?_
     refine WP_know (d := 3) (v := .ptr 1 0 3) k3 ?_
     refine WP_know (d := 6) (v := .ptr 2 0 138) k6 ?_
     refine WP_seq ?_
     refine WP_ops ?_
     refine WO_mv (v := .ptr _ _ _) rfl ?_
     refine WO_nilckP rfl ?_
     refine WO_fa (o' := 136) rfl rfl rfl ?_
     first | refine WO_ldA0 rfl rfl (.head _) ?_ | refine WO_ldAI rfl rfl (.head _) ?_
     refine WO_allocI ?_
     refine WO_stA rfl rfl rfl rfl .here ?_
     refine WO_nil ?_
     refine WP_seq ?_
     refine WP_seq ?_
     refine WP_ops ?_
     refine WO_fa (o' := 0) rfl rfl rfl ?_
     refine WO_ldI (x := P (sqI (m 0))) rfl rfl (.head _) (hH.k) ?_
     refine WO_bin (r := .bool _) rfl rfl rfl ?_
     refine WO_mv (v := .s (.bool _)) rfl ?_
     refine WO_case (t := 60) rfl (fun h12 => ?_) (fun h12 => ?_)
     ·try simp only [NM] at h12
      try simp only [isM, decide_eq_true_eq, decide_eq_false_iff_not] at h12
      refine WO_gf rfl rfl ?_
      refine WO_gf rfl rfl ?_
      refine WO_gf rfl rfl ?_
      refine WO_pick (v := .s (.bool _)) rfl rfl ?_
      refine WO_mv (v := .s (.bool _)) rfl ?_
      refine WO_gf rfl rfl ?_
      refine WO_gf rfl rfl ?_
      refine WO_gf rfl rfl ?_
      refine WO_gf rfl rfl ?_
      refine WO_gf rfl rfl ?_
      refine WO_pick (v := .s (.bool _)) rfl rfl ?_
      refine WO_mv (v := .s (.bool _)) rfl ?_
      refine WO_gf rfl rfl ?_
      refine WO_gf rfl rfl ?_
      refine WO_gf rfl rfl ?_
      refine WO_gf rfl rfl ?_
      refine WO_gu rfl ?_
      refine WO_gu rfl ?_
      refine WO_gu rfl ?_
      refine WO_gf rfl rfl ?_
      refine WO_pick (v := .s (.bool _)) rfl rfl ?_
      refine WO_nil ?_
      refine WP_cond rfl (fun _ => ?_) (fun h => nomatch h)
      refine WP_seq ?_
      refine WP_ops ?_
      refine WO_mv rfl ?_
      refine WO_mv rfl ?_
      refine WO_nil ?_
      refine WP_ret ?_
      refine ⟨_, RS_tmp (v := .pnil) rfl (RS_tmp (v := .s (.int _ _)) rfl (RS_nil)), ?_⟩
      have hh : canM P (m 0) (m 1) (m 2) = false := can_no (by first | omega | (split <;> omega))
      have he := errM_not (by omega) hh
      rw [he]
      exact .inl ⟨rfl, by decide⟩
     ·try simp only [NM] at h12
      try simp only [isM, decide_eq_true_eq, decide_eq_false_iff_not] at h12
      refine WO_gt rfl ?_
      refine WO_fa (o' := 0) rfl rfl rfl ?_
      refine WO_gt rfl ?_
      refine WO_ldI (x := P (sqI (m 0))) rfl rfl (.head _) (hH.k) ?_
      refine WO_gt rfl ?_
      refine WO_bin (r := .bool _) rfl rfl rfl ?_
      refine WO_pick (v := .s (.bool _)) rfl rfl ?_
      refine WO_mv (v := .s (.bool _)) rfl ?_
      refine WO_case (t := 65) rfl (fun h13 => ?_) (fun h13 => ?_)
      ·try simp only [NM] at h13
       try simp only [isM, decide_eq_true_eq, decide_eq_false_iff_not] at h13
       refine WO_gf rfl rfl ?_
       refine WO_gf rfl rfl ?_
       refine WO_gf rfl rfl ?_
       refine WO_gf rfl rfl ?_
       refine WO_gf rfl rfl ?_
       refine WO_pick (v := .s (.bool _)) rfl rfl ?_
       refine WO_mv (v := .s (.bool _)) rfl ?_
       refine WO_gf rfl rfl ?_
       refine WO_gf rfl rfl ?_
       refine WO_gf rfl rfl ?_
       refine WO_gf rfl rfl ?_
       refine WO_gu rfl ?_
       refine WO_gu rfl ?_
       refine WO_gu rfl ?_
       refine WO_gf rfl rfl ?_
       refine WO_pick (v := .s (.bool _)) rfl rfl ?_
       refine WO_nil ?_
       refine WP_cond rfl (fun _ => ?_) (fun h => nomatch h)
       refine WP_seq ?_
       refine WP_ops ?_
       refine WO_mv rfl ?_
       refine WO_mv rfl ?_
       refine WO_nil ?_
       refine WP_ret ?_
       refine ⟨_, RS_tmp (v := .pnil) rfl (RS_tmp (v := .s (.int _ _)) rfl (RS_nil)), ?_⟩
       have hh : canM P (m 0) (m 1) (m 2) = false := can_no (by first | omega | (split <;> omega))
       have he := errM_not (by omega) hh
       rw [he]
       exact .inl ⟨rfl, by decide⟩
      ·try simp only [NM] at h13
       try simp only [isM, decide_eq_true_eq, decide_eq_false_iff_not] at h13
       refine WO_gt rfl ?_
       refine WO_fa (o' := 1) rfl rfl rfl ?_
       refine WO_gt rfl ?_
       refine WO_ldI (x := P (sqI (m 0) + 1)) rfl rfl (.head _) (hH.s) ?_
       refine WO_gt rfl ?_
       refine WO_fa (o' := 128) rfl rfl rfl ?_
       refine WO_gt rfl ?_
       refine WO_ldI rfl rfl (.tail _ (.tail _ (.tail _ (.head _)))) rfl ?_
       refine WO_gt rfl ?_
       refine WO_bin (r := .bool _) rfl rfl rfl ?_
       refine WO_pick (v := .s (.bool _)) rfl rfl ?_
       refine WO_mv (v := .s (.bool _)) rfl ?_
       refine WO_case (t := 72) rfl (fun h14 => ?_) (fun h14 => ?_)
       ·try simp only [NM] at h14
        try simp only [isM, decide_eq_true_eq, decide_eq_false_iff_not] at h14
        refine WO_gf rfl rfl ?_
        refine WO_gf rfl rfl ?_
        refine WO_gf rfl rfl ?_
        refine WO_gf rfl rfl ?_
        refine WO_gu rfl ?_
        refine WO_gu rfl ?_
        refine WO_gu rfl ?_
        refine WO_gf rfl rfl ?_
        refine WO_pick (v := .s (.bool _)) rfl rfl ?_
        refine WO_nil ?_
        refine WP_cond rfl (fun _ => ?_) (fun h => nomatch h)
        refine WP_seq ?_
        refine WP_ops ?_
        refine WO_mv rfl ?_
        refine WO_mv rfl ?_
        refine WO_nil ?_
        refine WP_ret ?_
        refine ⟨_, RS_tmp (v := .pnil) rfl (RS_tmp (v := .s (.int _ _)) rfl (RS_nil)), ?_⟩
        have hh : canM P (m 0) (m 1) (m 2) = false := can_no (by first | omega | (split <;> omega))
        have he := errM_not (by omega) hh
        rw [he]
        exact .inl ⟨rfl, by decide⟩
       ·try simp only [NM] at h14
        try simp only [isM, decide_eq_true_eq, decide_eq_false_iff_not] at h14
        refine WO_gt rfl ?_
        refine WO_fa (o' := 1) rfl rfl rfl ?_
        refine WO_gt rfl ?_
        refine WO_ldI (x := P (sqI (m 0) + 1)) rfl rfl (.head _) (hH.s) ?_
        refine WO_gt rfl ?_
        refine WO_bin (r := .bool _) rfl rfl rfl ?_
        refine WO_gt rfl ?_
        refine WO_mv (v := .s (.bool _)) rfl ?_
        refine WO_case (t := 76) rfl (fun h15 => ?_) (fun h15 => ?_)
        ·try simp only [NM] at h15
         try simp only [isM, decide_eq_true_eq, decide_eq_false_iff_not] at h15
         refine WO_gt rfl ?_
         refine WO_fa (o' := 1) rfl rfl rfl ?_
         refine WO_gt rfl ?_
         refine WO_ldI (x := P (sqI (m 0) + 1)) rfl rfl (.head _) (hH.s) ?_
         refine WO_gt rfl ?_
         refine WO_bin (r := .bool _) rfl rfl rfl ?_
         refine WO_gt rfl ?_
         refine WO_pick (v := .s (.bool _)) rfl rfl ?_
         refine WO_pick (v := .s (.bool _)) rfl rfl ?_
         refine WO_nil ?_
         refine WP_cond rfl (fun h16 => ?_) (fun h16 => ?_)
         ·try simp only [NM] at h16
          try simp only [isM, decide_eq_true_eq, decide_eq_false_iff_not] at h16
          refine WP_seq ?_
          refine WP_ops ?_
          refine WO_mv rfl ?_
          refine WO_mv rfl ?_
          refine WO_nil ?_
          refine WP_ret ?_
          refine ⟨_, RS_tmp (v := .pnil) rfl (RS_tmp (v := .s (.int _ _)) rfl (RS_nil)), ?_⟩
          have hh : canM P (m 0) (m 1) (m 2) = false := can_no (by first | omega | (split <;> omega))
          have he := errM_not (by omega) hh
          rw [he]
          exact .inl ⟨rfl, by decide⟩
         ·try simp only [NM] at h16
          try simp only [isM, decide_eq_true_eq, decide_eq_false_iff_not] at h16
          refine WP_skip ?_
          refine WP_seq ?_
          refine WP_par ?_
          refine WO_fa (o' := 0) rfl rfl rfl ?_
          refine WO_ldI (x := P (sqI (m 0))) rfl rfl (.head _) (hH.k) ?_
          refine WO_bin (r := .bool _) rfl rfl rfl ?_
          refine WO_mv (v := .s (.bool _)) rfl ?_
          refine WO_case (t := 85) rfl (fun h17 => ?_) (fun h17 => ?_)
          ·try simp only [NM] at h17
           try simp only [isM, decide_eq_true_eq, decide_eq_false_iff_not] at h17
           refine WO_gt rfl ?_
           refine WO_fa (o' := 1) rfl rfl rfl ?_
           refine WO_gt rfl ?_
           refine WO_ldI rfl rfl (.tail _ (.tail _ (.head _))) rfl ?_
           refine WO_gt rfl ?_
           refine WO_callq0 rfl (Rank_sq (by omega)) rfl rfl rfl ?_
           refine WO_gt rfl ?_
           refine WO_fa (o' := 1) rfl rfl rfl ?_
           refine WO_gt rfl ?_
           refine WO_ldI (x := P (sqI (m 0) + 1)) rfl rfl (.head _) (hH.s) ?_
           refine WO_gt rfl ?_
           refine WO_sub rfl rfl (by omega) ?_
           refine WO_gt rfl ?_
           refine WO_mul rfl rfl (by omega) ?_
           refine WO_gt rfl ?_
           refine WO_bin (r := .bool _) rfl rfl rfl ?_
           refine WO_pick (v := .s (.bool _)) rfl rfl ?_
           refine WO_mv (v := .s (.bool _)) rfl ?_
           refine WO_nil ?_
           refine WP_seq ?_
           refine WP_seq ?_
           refine WP_ops ?_
           refine WO_mv (v := .s (.bool _)) rfl ?_
           refine WO_mv (v := .s (.bool _)) rfl ?_
           refine WO_case (t := 96) rfl (fun h18 => ?_) (fun h18 => ?_)
           ·try simp only [NM] at h18
            try simp only [isM, decide_eq_true_eq, decide_eq_false_iff_not] at h18
            refine WO_gt rfl ?_
            refine WO_fa (o' := 2) rfl rfl rfl ?_
            refine WO_gt rfl ?_
            refine WO_ldI rfl rfl (.tail _ (.tail _ (.head _))) rfl ?_
            refine WO_gt rfl ?_
            refine WO_bin (r := .bool _) rfl rfl rfl ?_
            refine WO_gt rfl ?_
            refine WO_mv (v := .s (.bool _)) rfl ?_
            refine WO_case (t := 100) rfl (fun h19 => ?_) (fun h19 => ?_)
            ·try simp only [NM] at h19
             try simp only [isM, decide_eq_true_eq, decide_eq_false_iff_not] at h19
             refine WO_gf rfl rfl ?_
             refine WO_gf rfl rfl ?_
             refine WO_gf rfl rfl ?_
             refine WO_gt rfl ?_
             refine WO_pick (v := .s (.bool _)) rfl rfl ?_
             refine WO_pick (v := .s (.bool _)) rfl rfl ?_
             refine WO_mv (v := .s (.bool _)) rfl ?_
             refine WO_gf rfl rfl ?_
             refine WO_gf rfl rfl ?_
             refine WO_gf rfl rfl ?_
             refine WO_gu rfl ?_
             refine WO_gu rfl ?_
             refine WO_gu rfl ?_
             refine WO_gf rfl rfl ?_
             refine WO_pick (v := .s (.bool _)) rfl rfl ?_
             refine WO_nil ?_
             refine WP_cond rfl (fun _ => ?_) (fun h => nomatch h)
             refine WP_seq ?_
             refine WP_ops ?_
             refine WO_mv rfl ?_
             refine WO_mv rfl ?_
             refine WO_nil ?_
             refine WP_ret ?_
             refine ⟨_, RS_tmp (v := .pnil) rfl (RS_tmp (v := .s (.int _ _)) rfl (RS_nil)), ?_⟩
             have hh : canM P (m 0) (m 1) (m 2) = false := can_no (by first | omega | (split <;> omega))
             have he := errM_not (by omega) hh
             rw [he]
             exact .inl ⟨rfl, by decide⟩
            ·try simp only [NM] at h19
             try simp only [isM, decide_eq_true_eq, decide_eq_false_iff_not] at h19
             refine WO_gt rfl ?_
             refine WO_fa (o' := 2) rfl rfl rfl ?_
             refine WO_gt rfl ?_
             refine WO_ldI rfl rfl (.tail _ (.tail _ (.head _))) rfl ?_
             refine WO_gt rfl ?_
             refine WO_bin (r := .bool _) rfl rfl rfl ?_
             refine WO_gt rfl ?_
             refine WO_pick (v := .s (.bool _)) rfl rfl ?_
             refine WO_pick (v := .s (.bool _)) rfl rfl ?_
             refine WO_mv (v := .s (.bool _)) rfl ?_
             refine WO_case (t := 106) rfl (fun h20 => ?_) (fun h20 => ?_)
             ·try simp only [NM] at h20
              try simp only [isM, decide_eq_true_eq, decide_eq_false_iff_not] at h20
              refine WO_gf rfl rfl ?_
              refine WO_gf rfl rfl ?_
              refine WO_gf rfl rfl ?_
              refine WO_gu rfl ?_
              refine WO_gu rfl ?_
              refine WO_gu rfl ?_
              refine WO_gf rfl rfl ?_
              refine WO_pick (v := .s (.bool _)) rfl rfl ?_
              refine WO_nil ?_
              refine WP_cond rfl (fun _ => ?_) (fun h => nomatch h)
              refine WP_seq ?_
              refine WP_ops ?_
              refine WO_mv rfl ?_
              refine WO_mv rfl ?_
              refine WO_nil ?_
              refine WP_ret ?_
              refine ⟨_, RS_tmp (v := .pnil) rfl (RS_tmp (v := .s (.int _ _)) rfl (RS_nil)), ?_⟩
              have hh : canM P (m 0) (m 1) (m 2) = false := can_no (by first | omega | (split <;> omega))
              have he := errM_not (by omega) hh
              rw [he]
              exact .inl ⟨rfl, by decide⟩
             ·try simp only [NM] at h20
              try simp only [isM, decide_eq_true_eq, decide_eq_false_iff_not] at h20
              refine WO_gt rfl ?_
              refine WO_mv (v := .s (.bool _)) rfl ?_
              refine WO_gt rfl ?_
              refine WO_un (r := .bool _) rfl rfl ?_
              refine WO_gt rfl ?_
              refine WO_mv (v := .s (.bool _)) rfl ?_
              refine WO_case (t := 109) rfl (fun h21 => ?_) (fun h21 => ?_)
              ·try simp only [NM] at h21
               try simp only [isM, decide_eq_true_eq, decide_eq_false_iff_not] at h21
               refine WO_gt rfl ?_
               refine WO_fa (o' := 2) rfl rfl rfl ?_
               refine WO_gt rfl ?_
               refine WO_ldI rfl rfl (.tail _ (.tail _ (.head _))) rfl ?_
               refine WO_gt rfl ?_
               refine WO_bin (r := .bool _) rfl rfl rfl ?_
               refine WO_gt rfl ?_
               refine WO_pick (v := .s (.bool _)) rfl rfl ?_
               refine WO_pick (v := .s (.bool _)) rfl rfl ?_
               refine WO_nil ?_
               refine WP_cond rfl (fun h22 => ?_) (fun h22 => ?_)
               ·try simp only [NM] at h22
                try simp only [isM, decide_eq_true_eq, decide_eq_false_iff_not] at h22
                refine WP_seq ?_
                refine WP_ops ?_
                refine WO_mv rfl ?_
                refine WO_mv rfl ?_
                refine WO_nil ?_
                refine WP_ret ?_
                refine ⟨_, RS_tmp (v := .pnil) rfl (RS_tmp (v := .s (.int _ _)) rfl (RS_nil)), ?_⟩
                have hh : canM P (m 0) (m 1) (m 2) = false := can_no (by first | omega | (split <;> omega))
                have he := errM_not (by omega) hh
                rw [he]
                exact .inl ⟨rfl, by decide⟩
               ·try simp only [NM] at h22
                try simp only [isM, decide_eq_true_eq, decide_eq_false_iff_not] at h22
                refine WP_skip ?_
                refine WP_seq ?_
                refine WP_ops ?_
                refine WO_mv (v := .ptr _ _ _) rfl ?_
                refine WO_mv (v := .ptr _ _ _) rfl ?_
                refine WO_mv rfl ?_
                refine WO_nil ?_
                refine WP_ret ?_
                refine ⟨_, RS_tmp (v := .ptr _ _ _) rfl (RS_tmp (v := .s (.int _ _)) rfl (RS_nil)), ?_⟩
                have hh : canM P (m 0) (m 1) (m 2) = true := can_yes (by refine ⟨by omega, by omega, by omega, by omega, ?_⟩; first | omega | (split <;> omega))
                have he := errM_ok (by omega) hh
                rw [he]
                exact .inr ⟨rfl, _, H, rfl, hH, (.tail _ (.head _))⟩
              ·try simp only [NM] at h21
               try simp only [isM, decide_eq_true_eq, decide_eq_false_iff_not] at h21
               refine WO_gf rfl rfl ?_
               refine WO_gf rfl rfl ?_
               refine WO_gf rfl rfl ?_
               refine WO_gt rfl ?_
               refine WO_pick (v := .s (.bool _)) rfl rfl ?_
               refine WO_pick (v := .s (.bool _)) rfl rfl ?_
               refine WO_nil ?_
               refine WP_cond rfl (fun h => nomatch h) (fun _ => ?_)
               refine WP_skip ?_
               refine WP_seq ?_
               refine WP_ops ?_
               refine WO_mv (v := .ptr _ _ _) rfl ?_
               refine WO_mv (v := .ptr _ _ _) rfl ?_
               refine WO_mv rfl ?_
               refine WO_nil ?_
               refine WP_ret ?_
               refine ⟨_, RS_tmp (v := .ptr _ _ _) rfl (RS_tmp (v := .s (.int _ _)) rfl (RS_nil)), ?_⟩
               have hh : canM P (m 0) (m 1) (m 2) = true := can_yes (by refine ⟨by omega, by omega, by omega, by omega, ?_⟩; first | omega | (split <;> omega))
               have he := errM_ok (by omega) hh
               rw [he]
               exact .inr ⟨rfl, _, H, rfl, hH, (.tail _ (.head _))⟩
           ·try simp only [NM] at h18
            try simp only [isM, decide_eq_true_eq, decide_eq_false_iff_not] at h18
            refine WO_gf rfl rfl ?_
            refine WO_gf rfl rfl ?_
            refine WO_gf rfl rfl ?_
            refine WO_gf rfl rfl ?_
            refine WO_gu rfl ?_
            refine WO_gu rfl ?_
            refine WO_gu rfl ?_
            refine WO_gf rfl rfl ?_
            refine WO_pick (v := .s (.bool _)) rfl rfl ?_
            refine WO_mv (v := .s (.bool _)) rfl ?_
            refine WO_gt rfl ?_
            refine WO_mv (v := .s (.bool _)) rfl ?_
            refine WO_gt rfl ?_
            refine WO_un (r := .bool _) rfl rfl ?_
            refine WO_gt rfl ?_
            refine WO_mv (v := .s (.bool _)) rfl ?_
            refine WO_case (t := 109) rfl (fun h23 => ?_) (fun h23 => ?_)
            ·try simp only [NM] at h23
             try simp only [isM, decide_eq_true_eq, decide_eq_false_iff_not] at h23
             refine WO_gt rfl ?_
             refine WO_fa (o' := 2) rfl rfl rfl ?_
             refine WO_gt rfl ?_
             refine WO_ldI rfl rfl (.tail _ (.tail _ (.head _))) rfl ?_
             refine WO_gt rfl ?_
             refine WO_bin (r := .bool _) rfl rfl rfl ?_
             refine WO_gt rfl ?_
             refine WO_pick (v := .s (.bool _)) rfl rfl ?_
             refine WO_pick (v := .s (.bool _)) rfl rfl ?_
             refine WO_nil ?_
             refine WP_cond rfl (fun h24 => ?_) (fun h24 => ?_)
             ·try simp only [NM] at h24
              try simp only [isM, decide_eq_true_eq, decide_eq_false_iff_not] at h24
              refine WP_seq ?_
              refine WP_ops ?_
              refine WO_mv rfl ?_
              refine WO_mv rfl ?_
              refine WO_nil ?_
              refine WP_ret ?_
              refine ⟨_, RS_tmp (v := .pnil) rfl (RS_tmp (v := .s (.int _ _)) rfl (RS_nil)), ?_⟩
              have hh : canM P (m 0) (m 1) (m 2) = false := can_no (by first | omega | (split <;> omega))
              have he := errM_not (by omega) hh
              rw [he]
              exact .inl ⟨rfl, by decide⟩
             ·try simp only [NM] at h24
              try simp only [isM, decide_eq_true_eq, decide_eq_false_iff_not] at h24
              refine WP_skip ?_
              refine WP_seq ?_
              refine WP_ops ?_
              refine WO_mv (v := .ptr _ _ _) rfl ?_
              refine WO_mv (v := .ptr _ _ _) rfl ?_
              refine WO_mv rfl ?_
              refine WO_nil ?_
              refine WP_ret ?_
              refine ⟨_, RS_tmp (v := .ptr _ _ _) rfl (RS_tmp (v := .s (.int _ _)) rfl (RS_nil)), ?_⟩
              have hh : canM P (m 0) (m 1) (m 2) = true := can_yes (by refine ⟨by omega, by omega, by omega, by omega, ?_⟩; first | omega | (split <;> omega))
              have he := errM_ok (by omega) hh
              rw [he]
              exact .inr ⟨rfl, _, H, rfl, hH, (.tail _ (.head _))⟩
            ·try simp only [NM] at h23
             try simp only [isM, decide_eq_true_eq, decide_eq_false_iff_not] at h23
             refine WO_gf rfl rfl ?_
             refine WO_gf rfl rfl ?_
             refine WO_gf rfl rfl ?_
             refine WO_gt rfl ?_
             refine WO_pick (v := .s (.bool _)) rfl rfl ?_
             refine WO_pick (v := .s (.bool _)) rfl rfl ?_
             refine WO_nil ?_
             refine WP_cond rfl (fun h => nomatch h) (fun _ => ?_)
             refine WP_skip ?_
             refine WP_seq ?_
             refine WP_ops ?_
             refine WO_mv (v := .ptr _ _ _) rfl ?_
             refine WO_mv (v := .ptr _ _ _) rfl ?_
             refine WO_mv rfl ?_
             refine WO_nil ?_
             refine WP_ret ?_
             refine ⟨_, RS_tmp (v := .ptr _ _ _) rfl (RS_tmp (v := .s (.int _ _)) rfl (RS_nil)), ?_⟩
             have hh : canM P (m 0) (m 1) (m 2) = true := can_yes (by refine ⟨by omega, by omega, by omega, by omega, ?_⟩; first | omega | (split <;> omega))
             have he := errM_ok (by omega) hh
             rw [he]
             exact .inr ⟨rfl, _, H, rfl, hH, (.tail _ (.head _))⟩
          ·try simp only [NM] at h17
           try simp only [isM, decide_eq_true_eq, decide_eq_false_iff_not] at h17
           refine WO_gf rfl rfl ?_
           refine WO_gf rfl rfl ?_
           refine WO_gf rfl rfl ?_
           refine WO_gf rfl rfl ?_
           refine WO_gf rfl rfl ?_
           refine WO_gf rfl rfl ?_
           refine WO_gf rfl rfl ?_
           refine WO_gf rfl rfl ?_
           refine WO_pick (v := .s (.bool _)) rfl rfl ?_
           refine WO_mv (v := .s (.bool _)) rfl ?_
           refine WO_nil ?_
           refine WP_seq ?_
           refine WP_seq ?_
           refine WP_ops ?_
           refine WO_mv (v := .s (.bool _)) rfl ?_
           refine WO_mv (v := .s (.bool _)) rfl ?_
           refine WO_gf rfl rfl ?_
           refine WO_gf rfl rfl ?_
           refine WO_gf rfl rfl ?_
           refine WO_gf rfl rfl ?_
           refine WO_gu rfl ?_
           refine WO_gu rfl ?_
           refine WO_gu rfl ?_
           refine WO_gf rfl rfl ?_
           refine WO_pick (v := .s (.bool _)) rfl rfl ?_
           refine WO_mv (v := .s (.bool _)) rfl ?_
           refine WO_gt rfl ?_
           refine WO_mv (v := .s (.bool _)) rfl ?_
           refine WO_gt rfl ?_
           refine WO_un (r := .bool _) rfl rfl ?_
           refine WO_gt rfl ?_
           refine WO_mv (v := .s (.bool _)) rfl ?_
           refine WO_gt rfl ?_
           refine WO_fa (o' := 2) rfl rfl rfl ?_
           refine WO_gt rfl ?_
           refine WO_ldI rfl rfl (.tail _ (.tail _ (.head _))) rfl ?_
           refine WO_gt rfl ?_
           refine WO_bin (r := .bool _) rfl rfl rfl ?_
           refine WO_gt rfl ?_
           refine WO_pick (v := .s (.bool _)) rfl rfl ?_
           refine WO_pick (v := .s (.bool _)) rfl rfl ?_
           refine WO_nil ?_
           refine WP_cond rfl (fun h25 => ?_) (fun h25 => ?_)
           ·try simp only [NM] at h25
            try simp only [isM, decide_eq_true_eq, decide_eq_false_iff_not] at h25
            refine WP_seq ?_
            refine WP_ops ?_
            refine WO_mv rfl ?_
            refine WO_mv rfl ?_
            refine WO_nil ?_
            refine WP_ret ?_
            refine ⟨_, RS_tmp (v := .pnil) rfl (RS_tmp (v := .s (.int _ _)) rfl (RS_nil)), ?_⟩
            have hh : canM P (m 0) (m 1) (m 2) = false := can_no (by first | omega | (split <;> omega))
            have he := errM_not (by omega) hh
            rw [he]
            exact .inl ⟨rfl, by decide⟩
           ·try simp only [NM] at h25
            try simp only [isM, decide_eq_true_eq, decide_eq_false_iff_not] at h25
            refine WP_skip ?_
            refine WP_seq ?_
            refine WP_ops ?_
            refine WO_mv (v := .ptr _ _ _) rfl ?_
            refine WO_mv (v := .ptr _ _ _) rfl ?_
            refine WO_mv rfl ?_
            refine WO_nil ?_
            refine WP_ret ?_
            refine ⟨_, RS_tmp (v := .ptr _ _ _) rfl (RS_tmp (v := .s (.int _ _)) rfl (RS_nil)), ?_⟩
            have hh : canM P (m 0) (m 1) (m 2) = true := can_yes (by refine ⟨by omega, by omega, by omega, by omega, ?_⟩; first | omega | (split <;> omega))
            have he := errM_ok (by omega) hh
            rw [he]
            exact .inr ⟨rfl, _, H, rfl, hH, (.tail _ (.head _))⟩
        ·try simp only [NM] at h15
         try simp only [isM, decide_eq_true_eq, decide_eq_false_iff_not] at h15
         refine WO_gf rfl rfl ?_
         refine WO_gf rfl rfl ?_
         refine WO_gf rfl rfl ?_
         refine WO_gt rfl ?_
         refine WO_pick (v := .s (.bool _)) rfl rfl ?_
         refine WO_pick (v := .s (.bool _)) rfl rfl ?_
         refine WO_nil ?_
         refine WP_cond rfl (fun h => nomatch h) (fun _ => ?_)
         refine WP_skip ?_
         refine WP_seq ?_
         refine WP_par ?_
         refine WO_fa (o' := 0) rfl rfl rfl ?_
         refine WO_ldI (x := P (sqI (m 0))) rfl rfl (.head _) (hH.k) ?_
         refine WO_bin (r := .bool _) rfl rfl rfl ?_
         refine WO_mv (v := .s (.bool _)) rfl ?_
         refine WO_case (t := 85) rfl (fun h26 => ?_) (fun h26 => ?_)
         ·try simp only [NM] at h26
          try simp only [isM, decide_eq_true_eq, decide_eq_false_iff_not] at h26
          refine WO_gt rfl ?_
          refine WO_fa (o' := 1) rfl rfl rfl ?_
          refine WO_gt rfl ?_
          refine WO_ldI rfl rfl (.tail _ (.tail _ (.head _))) rfl ?_
          refine WO_gt rfl ?_
          refine WO_callq0 rfl (Rank_sq (by omega)) rfl rfl rfl ?_
          refine WO_gt rfl ?_
          refine WO_fa (o' := 1) rfl rfl rfl ?_
          refine WO_gt rfl ?_
          refine WO_ldI (x := P (sqI (m 0) + 1)) rfl rfl (.head _) (hH.s) ?_
          refine WO_gt rfl ?_
          refine WO_sub rfl rfl (by omega) ?_
          refine WO_gt rfl ?_
          refine WO_mul rfl rfl (by omega) ?_
          refine WO_gt rfl ?_
          refine WO_bin (r := .bool _) rfl rfl rfl ?_
          refine WO_pick (v := .s (.bool _)) rfl rfl ?_
          refine WO_mv (v := .s (.bool _)) rfl ?_
          refine WO_nil ?_
          refine WP_seq ?_
          refine WP_seq ?_
          refine WP_ops ?_
          refine WO_mv (v := .s (.bool _)) rfl ?_
          refine WO_mv (v := .s (.bool _)) rfl ?_
          refine WO_case (t := 96) rfl (fun h27 => ?_) (fun h27 => ?_)
          ·try simp only [NM] at h27
           try simp only [isM, decide_eq_true_eq, decide_eq_false_iff_not] at h27
           refine WO_gt rfl ?_
           refine WO_fa (o' := 2) rfl rfl rfl ?_
           refine WO_gt rfl ?_
           refine WO_ldI rfl rfl (.tail _ (.tail _ (.head _))) rfl ?_
           refine WO_gt rfl ?_
           refine WO_bin (r := .bool _) rfl rfl rfl ?_
           refine WO_gt rfl ?_
           refine WO_mv (v := .s (.bool _)) rfl ?_
           refine WO_case (t := 100) rfl (fun h28 => ?_) (fun h28 => ?_)
           ·try simp only [NM] at h28
            try simp only [isM, decide_eq_true_eq, decide_eq_false_iff_not] at h28
            refine WO_gf rfl rfl ?_
            refine WO_gf rfl rfl ?_
            refine WO_gf rfl rfl ?_
            refine WO_gt rfl ?_
            refine WO_pick (v := .s (.bool _)) rfl rfl ?_
            refine WO_pick (v := .s (.bool _)) rfl rfl ?_
            refine WO_mv (v := .s (.bool _)) rfl ?_
            refine WO_gf rfl rfl ?_
            refine WO_gf rfl rfl ?_
            refine WO_gf rfl rfl ?_
            refine WO_gu rfl ?_
            refine WO_gu rfl ?_
            refine WO_gu rfl ?_
            refine WO_gf rfl rfl ?_
            refine WO_pick (v := .s (.bool _)) rfl rfl ?_
            refine WO_nil ?_
            refine WP_cond rfl (fun _ => ?_) (fun h => nomatch h)
            refine WP_seq ?_
            refine WP_ops ?_
            refine WO_mv rfl ?_
            refine WO_mv rfl ?_
            refine WO_nil ?_
            refine WP_ret ?_
            refine ⟨_, RS_tmp (v := .pnil) rfl (RS_tmp (v := .s (.int _ _)) rfl (RS_nil)), ?_⟩
            have hh : canM P (m 0) (m 1) (m 2) = false := can_no (by first | omega | (split <;> omega))
            have he := errM_not (by omega) hh
            rw [he]
            exact .inl ⟨rfl, by decide⟩
           ·try simp only [NM] at h28
            try simp only [isM, decide_eq_true_eq, decide_eq_false_iff_not] at h28
            refine WO_gt rfl ?_
            refine WO_fa (o' := 2) rfl rfl rfl ?_
            refine WO_gt rfl ?_
            refine WO_ldI rfl rfl (.tail _ (.tail _ (.head _))) rfl ?_
            refine WO_gt rfl ?_
            refine WO_bin (r := .bool _) rfl rfl rfl ?_
            refine WO_gt rfl ?_
            refine WO_pick (v := .s (.bool _)) rfl rfl ?_
            refine WO_pick (v := .s (.bool _)) rfl rfl ?_
            refine WO_mv (v := .s (.bool _)) rfl ?_
            refine WO_case (t := 106) rfl (fun h29 => ?_) (fun h29 => ?_)
            ·try simp only [NM] at h29
             try simp only [isM, decide_eq_true_eq, decide_eq_false_iff_not] at h29
             refine WO_gf rfl rfl ?_
             refine WO_gf rfl rfl ?_
             refine WO_gf rfl rfl ?_
             refine WO_gu rfl ?_
             refine WO_gu rfl ?_
             refine WO_gu rfl ?_
             refine WO_gf rfl rfl ?_
             refine WO_pick (v := .s (.bool _)) rfl rfl ?_
             refine WO_nil ?_
             refine WP_cond rfl (fun _ => ?_) (fun h => nomatch h)
             refine WP_seq ?_
             refine WP_ops ?_
             refine WO_mv rfl ?_
             refine WO_mv rfl ?_
             refine WO_nil ?_
             refine WP_ret ?_
             refine ⟨_, RS_tmp (v := .pnil) rfl (RS_tmp (v := .s (.int _ _)) rfl (RS_nil)), ?_⟩
             have hh : canM P (m 0) (m 1) (m 2) = false := can_no (by first | omega | (split <;> omega))
             have he := errM_not (by omega) hh
             rw [he]
             exact .inl ⟨rfl, by decide⟩
            ·try simp only [NM] at h29
             try simp only [isM, decide_eq_true_eq, decide_eq_false_iff_not] at h29
             refine WO_gt rfl ?_
             refine WO_mv (v := .s (.bool _)) rfl ?_
             refine WO_gt rfl ?_
             refine WO_un (r := .bool _) rfl rfl ?_
             refine WO_gt rfl ?_
             refine WO_mv (v := .s (.bool _)) rfl ?_
             refine WO_case (t := 109) rfl (fun h30 => ?_) (fun h30 => ?_)
             ·try simp only [NM] at h30
              try simp only [isM, decide_eq_true_eq, decide_eq_false_iff_not] at h30
              refine WO_gt rfl ?_
              refine WO_fa (o' := 2) rfl rfl rfl ?_
              refine WO_gt rfl ?_
              refine WO_ldI rfl rfl (.tail _ (.tail _ (.head _))) rfl ?_
              refine WO_gt rfl ?_
              refine WO_bin (r := .bool _) rfl rfl rfl ?_
              refine WO_gt rfl ?_
              refine WO_pick (v := .s (.bool _)) rfl rfl ?_
              refine WO_pick (v := .s (.bool _)) rfl rfl ?_
              refine WO_nil ?_
              refine WP_cond rfl (fun h31 => ?_) (fun h31 => ?_)
              ·try simp only [NM] at h31
               try simp only [isM, decide_eq_true_eq, decide_eq_false_iff_not] at h31
               refine WP_seq ?_
               refine WP_ops ?_
               refine WO_mv rfl ?_
               refine WO_mv rfl ?_
               refine WO_nil ?_
               refine WP_ret ?_
               refine ⟨_, RS_tmp (v := .pnil) rfl (RS_tmp (v := .s (.int _ _)) rfl (RS_nil)), ?_⟩
               have hh : canM P (m 0) (m 1) (m 2) = false := can_no (by first | omega | (split <;> omega))
               have he := errM_not (by omega) hh
               rw [he]
               exact .inl ⟨rfl, by decide⟩
              ·try simp only [NM] at h31
               try simp only [isM, decide_eq_true_eq, decide_eq_false_iff_not] at h31
               refine WP_skip ?_
               refine WP_seq ?_
               refine WP_ops ?_
               refine WO_mv (v := .ptr _ _ _) rfl ?_
               refine WO_mv (v := .ptr _ _ _) rfl ?_
               refine WO_mv rfl ?_
               refine WO_nil ?_
               refine WP_ret ?_
               refine ⟨_, RS_tmp (v := .ptr _ _ _) rfl (RS_tmp (v := .s (.int _ _)) rfl (RS_nil)), ?_⟩
               have hh : canM P (m 0) (m 1) (m 2) = true := can_yes (by refine ⟨by omega, by omega, by omega, by omega, ?_⟩; first | omega | (split <;> omega))
               have he := errM_ok (by omega) hh
               rw [he]
               exact .inr ⟨rfl, _, H, rfl, hH, (.tail _ (.head _))⟩
             ·try simp only [NM] at h30
              try simp only [isM, decide_eq_true_eq, decide_eq_false_iff_not] at h30
              refine WO_gf rfl rfl ?_
              refine WO_gf rfl rfl ?_
              refine WO_gf rfl rfl ?_
              refine WO_gt rfl ?_
              refine WO_pick (v := .s (.bool _)) rfl rfl ?_
              refine WO_pick (v := .s (.bool _)) rfl rfl ?_
              refine WO_nil ?_
              refine WP_cond rfl (fun h => nomatch h) (fun _ => ?_)
              refine WP_skip ?_
              refine WP_seq ?_
              refine WP_ops ?_
              refine WO_mv (v := .ptr _ _ _) rfl ?_
              refine WO_mv (v := .ptr _ _ _) rfl ?_
              refine WO_mv rfl ?_
              refine WO_nil ?_
              refine WP_ret ?_
              refine ⟨_, RS_tmp (v := .ptr _ _ _) rfl (RS_tmp (v := .s (.int _ _)) rfl (RS_nil)), ?_⟩
              have hh : canM P (m 0) (m 1) (m 2) = true := can_yes (by refine ⟨by omega, by omega, by omega, by omega, ?_⟩; first | omega | (split <;> omega))
              have he := errM_ok (by omega) hh
              rw [he]
              exact .inr ⟨rfl, _, H, rfl, hH, (.tail _ (.head _))⟩
          ·try simp only [NM] at h27
           try simp only [isM, decide_eq_true_eq, decide_eq_false_iff_not] at h27
           refine WO_gf rfl rfl ?_
           refine WO_gf rfl rfl ?_
           refine WO_gf rfl rfl ?_
           refine WO_gf rfl rfl ?_
           refine WO_gu rfl ?_
           refine WO_gu rfl ?_
           refine WO_gu rfl ?_
           refine WO_gf rfl rfl ?_
           refine WO_pick (v := .s (.bool _)) rfl rfl ?_
           refine WO_mv (v := .s (.bool _)) rfl ?_
           refine WO_gt rfl ?_
           refine WO_mv (v := .s (.bool _)) rfl ?_
           refine WO_gt rfl ?_
           refine WO_un (r := .bool _) rfl rfl ?_
           refine WO_gt rfl ?_
           refine WO_mv (v := .s (.bool _)) rfl ?_
           refine WO_case (t := 109) rfl (fun h32 => ?_) (fun h32 => ?_)
           ·try simp only [NM] at h32
            try simp only [isM, decide_eq_true_eq, decide_eq_false_iff_not] at h32
            refine WO_gt rfl ?_
            refine WO_fa (o' := 2) rfl rfl rfl ?_
            refine WO_gt rfl ?_
            refine WO_ldI rfl rfl (.tail _ (.tail _ (.head _))) rfl ?_
            refine WO_gt rfl ?_
            refine WO_bin (r := .bool _) rfl rfl rfl ?_
            refine WO_gt rfl ?_
            refine WO_pick (v := .s (.bool _)) rfl rfl ?_
            refine WO_pick (v := .s (.bool _)) rfl rfl ?_
            refine WO_nil ?_
            refine WP_cond rfl (fun h33 => ?_) (fun h33 => ?_)
            ·try simp only [NM] at h33
             try simp only [isM, decide_eq_true_eq, decide_eq_false_iff_not] at h33
             refine WP_seq ?_
             refine WP_ops ?_
             refine WO_mv rfl ?_
             refine WO_mv rfl ?_
             refine WO_nil ?_
             refine WP_ret ?_
             refine ⟨_, RS_tmp (v := .pnil) rfl (RS_tmp (v := .s (.int _ _)) rfl (RS_nil)), ?_⟩
             have hh : canM P (m 0) (m 1) (m 2) = false := can_no (by first | omega | (split <;> omega))
             have he := errM_not (by omega) hh
             rw [he]
             exact .inl ⟨rfl, by decide⟩
            ·try simp only [NM] at h33
             try simp only [isM, decide_eq_true_eq, decide_eq_false_iff_not] at h33
             refine WP_skip ?_
             refine WP_seq ?_
             refine WP_ops ?_
             refine WO_mv (v := .ptr _ _ _) rfl ?_
             refine WO_mv (v := .ptr _ _ _) rfl ?_
             refine WO_mv rfl ?_
             refine WO_nil ?_
             refine WP_ret ?_
             refine ⟨_, RS_tmp (v := .ptr _ _ _) rfl (RS_tmp (v := .s (.int _ _)) rfl (RS_nil)), ?_⟩
             have hh : canM P (m 0) (m 1) (m 2) = true := can_yes (by refine ⟨by omega, by omega, by omega, by omega, ?_⟩; first | omega | (split <;> omega))
             have he := errM_ok (by omega) hh
             rw [he]
             exact .inr ⟨rfl, _, H, rfl, hH, (.tail _ (.head _))⟩
           ·try simp only [NM] at h32
            try simp only [isM, decide_eq_true_eq, decide_eq_false_iff_not] at h32
            refine WO_gf rfl rfl ?_
            refine WO_gf rfl rfl ?_
            refine WO_gf rfl rfl ?_
            refine WO_gt rfl ?_
            refine WO_pick (v := .s (.bool _)) rfl rfl ?_
            refine WO_pick (v := .s (.bool _)) rfl rfl ?_
            refine WO_nil ?_
            refine WP_cond rfl (fun h => nomatch h) (fun _ => ?_)
            refine WP_skip ?_
            refine WP_seq ?_
            refine WP_ops ?_
            refine WO_mv (v := .ptr _ _ _) rfl ?_
            refine WO_mv (v := .ptr _ _ _) rfl ?_
            refine WO_mv rfl ?_
            refine WO_nil ?_
            refine WP_ret ?_
            refine ⟨_, RS_tmp (v := .ptr _ _ _) rfl (RS_tmp (v := .s (.int _ _)) rfl (RS_nil)), ?_⟩
            have hh : canM P (m 0) (m 1) (m 2) = true := can_yes (by refine ⟨by omega, by omega, by omega, by omega, ?_⟩; first | omega | (split <;> omega))
            have he := errM_ok (by omega) hh
            rw [he]
            exact .inr ⟨rfl, _, H, rfl, hH, (.tail _ (.head _))⟩
         ·try simp only [NM] at h26
          try simp only [isM, decide_eq_true_eq, decide_eq_false_iff_not] at h26
          refine WO_gf rfl rfl ?_
          refine WO_gf rfl rfl ?_
          refine WO_gf rfl rfl ?_
          refine WO_gf rfl rfl ?_
          refine WO_gf rfl rfl ?_
          refine WO_gf rfl rfl ?_
          refine WO_gf rfl rfl ?_
          refine WO_gf rfl rfl ?_
          refine WO_pick (v := .s (.bool _)) rfl rfl ?_
          refine WO_mv (v := .s (.bool _)) rfl ?_
          refine WO_nil ?_
          refine WP_seq ?_
          refine WP_seq ?_
          refine WP_ops ?_
          refine WO_mv (v := .s (.bool _)) rfl ?_
          refine WO_mv (v := .s (.bool _)) rfl ?_
          refine WO_gf rfl rfl ?_
          refine WO_gf rfl rfl ?_
          refine WO_gf rfl rfl ?_
          refine WO_gf rfl rfl ?_
          refine WO_gu rfl ?_
          refine WO_gu rfl ?_
          refine WO_gu rfl ?_
          refine WO_gf rfl rfl ?_
          refine WO_pick (v := .s (.bool _)) rfl rfl ?_
          refine WO_mv (v := .s (.bool _)) rfl ?_
          refine WO_gt rfl ?_
          refine WO_mv (v := .s (.bool _)) rfl ?_
          refine WO_gt rfl ?_
          refine WO_un (r := .bool _) rfl rfl ?_
          refine WO_gt rfl ?_
          refine WO_mv (v := .s (.bool _)) rfl ?_
          refine WO_gt rfl ?_
          refine WO_fa (o' := 2) rfl rfl rfl ?_
          refine WO_gt rfl ?_
          refine WO_ldI rfl rfl (.tail _ (.tail _ (.head _))) rfl ?_
          refine WO_gt rfl ?_
          refine WO_bin (r := .bool _) rfl rfl rfl ?_
          refine WO_gt rfl ?_
          refine WO_pick (v := .s (.bool _)) rfl rfl ?_
          refine WO_pick (v := .s (.bool _)) rfl rfl ?_
          refine WO_nil ?_
          refine WP_cond rfl (fun h34 => ?_) (fun h34 => ?_)
          ·try simp only [NM] at h34
           try simp only [isM, decide_eq_true_eq, decide_eq_false_iff_not] at h34
           refine WP_seq ?_
           refine WP_ops ?_
           refine WO_mv rfl ?_
           refine WO_mv rfl ?_
           refine WO_nil ?_
           refine WP_ret ?_
           refine ⟨_, RS_tmp (v := .pnil) rfl (RS_tmp (v := .s (.int _ _)) rfl (RS_nil)), ?_⟩
           have hh : canM P (m 0) (m 1) (m 2) = false := can_no (by first | omega | (split <;> omega))
           have he := errM_not (by omega) hh
           rw [he]
           exact .inl ⟨rfl, by decide⟩
          ·try simp only [NM] at h34
           try simp only [isM, decide_eq_true_eq, decide_eq_false_iff_not] at h34
           refine WP_skip ?_
           refine WP_seq ?_
           refine WP_ops ?_
           refine WO_mv (v := .ptr _ _ _) rfl ?_
           refine WO_mv (v := .ptr _ _ _) rfl ?_
           refine WO_mv rfl ?_
           refine WO_nil ?_
           refine WP_ret ?_
           refine ⟨_, RS_tmp (v := .ptr _ _ _) rfl (RS_tmp (v := .s (.int _ _)) rfl (RS_nil)), ?_⟩
           have hh : canM P (m 0) (m 1) (m 2) = true := can_yes (by refine ⟨by omega, by omega, by omega, by omega, ?_⟩; first | omega | (split <;> omega))
           have he := errM_ok (by omega) hh
           rw [he]
           exact .inr ⟨rfl, _, H, rfl, hH, (.tail _ (.head _))⟩
end Go.Proofs.Ytlkighkfkdpncaa
namespace Go.Proofs.Ytlkighkfkdpncaa
open Go Go.Am
set_option linter.unusedSimpArgs false
set_option linter.unusedVariables false
theorem errM_zero {P : Nat → Int} {a t b : Int} (h : errM P a t b = 0) : ((0 ≤ a ∧ a < 64) ∧ (0 ≤ t ∧ t < 64) ∧ a ≠ t) ∧ canM P a t b = true := by
 unfold errM at h
 split at h
 ·rename_i h1
  split at h
  ·rename_i h2; exact ⟨h1, h2⟩
  ·omega
 ·omega
theorem canM_side {P : Nat → Int} {a t b : Int} (h : canM P a t b = true) : P (sqI a + 1) = 0 ∨ P (sqI a + 1) = 1 := (of_decide_eq_true h).2.2.2.1
theorem ovA_zero : ovA (fun _ => 0) 0 133 (fun _ => 0) = (fun _ => 0 : Nat → Int) := by
 funext i
 by_cases h : i < 133
 ·rw [ovA_at (by omega)]
 ·rw [ovA_out (by omega)]
theorem ovA_id {Q : Nat → Int} (h : ∀ i, 133 ≤ i → Q i = 0) : ovA (fun _ => 0) 0 133 Q = Q := by
 funext i
 by_cases hi : i < 133
 ·rw [ovA_at (by omega), Nat.sub_zero]
 ·rw [ovA_out (by omega), h i (by omega)]
theorem afterM_out {P : Nat → Int} {k c a t b C : Int} {i : Nat} (hi : 133 ≤ i) : afterM P k c a t b C i = 0 := by
 unfold afterM
 rw [if_neg (by omega), if_neg (by omega), if_neg (by omega), if_neg (by omega), if_neg (by omega), if_neg (by omega)]
theorem brd_same {P Q : Nat → Int} {w a t k c b g : Int} (h : ∀ i, i < 128 → P i = Q i) : ∀ i, i < 128 → brd4 P w a t k c b g i = brd4 Q w a t k c b g i := by
 have h1 : ∀ i, i < 128 → brd1 P w i = brd1 Q w i := by
  unfold brd1
  split
  ·exact ovA_same h fun _ _ => rfl
  ·exact h
 have h3 : ∀ i, i < 128 → brd3 P w a t k c b i = brd3 Q w a t k c b i := ovA_same (ovA_same h1 fun _ _ => rfl) fun _ _ => rfl
 unfold brd4
 split
 ·exact ovA_same (ovA_same h3 fun _ _ => rfl) fun _ _ => rfl
 ·split
  ·exact ovA_same (ovA_same h3 fun _ _ => rfl) fun _ _ => rfl
  ·exact h3
theorem afterM_same {P Q : Nat → Int} {k c a t b C : Int} (ha : 0 ≤ a ∧ a < 64) (ht : 0 ≤ t ∧ t < 64) (h : ∀ i, i < 133 → i ≠ 129 → P i = Q i) : afterM P k c a t b C = afterM Q k c a t b C := by
 funext i
 have ht2 : takesM P k a t = takesM Q k a t := takesM_same ha ht (fun i hi => h i (by omega) (by omega)) (h 130 (by omega) (by omega))
 unfold afterM
 rw [ht2]
 by_cases h1 : i < 128
 ·rw [if_pos h1, if_pos h1]
  exact brd_same (fun i hi => h i (by omega) (by omega)) i h1
 ·rw [if_neg h1, if_neg h1, h 128 (by omega) (by omega)]
  have hh : halfM P k (takesM Q k a t) = halfM Q k (takesM Q k a t) := by unfold halfM; rw [h 131 (by omega) (by omega)]
  have hf : fullM P = fullM Q := by unfold fullM; rw [h 128 (by omega) (by omega), h 132 (by omega) (by omega)]
  rw [hh, hf]
theorem HandOf.all {P m H : Nat → Int} (h : HandOf P m H) : ∀ i, i < 133 → i ≠ 129 → H i = P i := fun i hi hn => by
 by_cases hl : i < 129
 ·exact h.lo i hl
 ·exact h.hi i (by omega) hi
theorem after_hand {P m H : Nat → Int} (h : HandOf P m H) (he : errM P (m 0) (m 1) (m 2) = 0) : ovA (fun _ => 0) 0 133 (afterM H (H 136) (H 137) (H 133) (H 134) (H 135) (H 129)) = moveM P (m 0) (m 1) (m 2) := by
 have ⟨hs, _⟩ := errM_zero he
 rw [ovA_id (fun i hi => afterM_out hi), h.a, h.t, h.b, h.k, h.s, h.c, moveM, if_pos he]
 exact afterM_same hs.1 hs.2.1 h.all
theorem taken_ex (P m : Nat → Int) : (errM P (m 0) (m 1) (m 2) ≠ 0 ∧ RF AM 17 [.agg 133 (ia P), .agg 3 (ia m)] (.tup [.pnil, .s (.int .i64 (errM P (m 0) (m 1) (m 2)))])) ∨
  (errM P (m 0) (m 1) (m 2) = 0 ∧ ∃ H, HandOf P m H ∧ RN AM 17 [.agg 133 (ia P), .agg 3 (ia m)] [] (fun b => .tup [.ptr b 0 138, .s (.int .i64 0)]) (.sc .var 138 (ia H)) []) := by
 obtain ⟨v, σ', n', L', h1, h2, h3⟩ := taken_run P m
 rcases h3 with ⟨rfl, he⟩ | ⟨he, b, H, rfl, hH, hm⟩
 ·exact .inl ⟨he, σ', h1⟩
 ·rw [he] at h1
  exact .inr ⟨he, H, hH, b, σ', h1, Nat.zero_le _, (h2.2.mem hm).2, trivial⟩
theorem made_ex {P m H : Nat → Int} (h : HandOf P m H) (he : errM P (m 0) (m 1) (m 2) = 0) : ∃ J, RB AM 18 [.ptr 0 0 138] [.sc .var 138 (ia H)] (.agg 133 (ia (afterM H (H 136) (H 137) (H 133) (H 134) (H 135) (H 129)))) [.sc .var 138 (ia J)] := by
 have ⟨hs, hc⟩ := errM_zero he
 obtain ⟨v, σ', n', L', h1, h2, J, rfl, hm⟩ := made_run H (by rw [h.a]; exact hs.1) (by rw [h.t]; exact hs.2.1) (by rw [h.s]; exact canM_side hc) (by rw [h.c]; exact castM_bd P)
 exact ⟨J, σ', h1, (h2.2.mem hm).2, ⟨_, _, _, rfl⟩, trivial⟩
theorem Move_walk (P m : Nat → Int) : WR AM 8 [.agg 133 (ia P), .agg 3 (ia m)] [] (fun v _ _ => v = .tup [.agg 133 (ia (moveM P (m 0) (m 1) (m 2))), .s (.int .i64 (errM P (m 0) (m 1) (m 2)))]) := by
 refine WR_fn (a := a8) rfl rfl (entryF _) (entry_E (Nat.le_of_ble_eq_true rfl)) (m := 0) rfl ?_
 refine WP_seq ?_
 refine WP_ops ?_
 refine WO_boxA rfl ?_
 refine WO_boxA rfl ?_
 refine WO_allocI ?_
 refine WO_mv rfl ?_
 refine WO_nil ?_
 refine WP_seq ?_
 refine WP_ops ?_
 first | refine WO_ldA0 rfl rfl (.tail _ (.tail _ (.head _))) ?_ | refine WO_ldAI rfl rfl (.tail _ (.tail _ (.head _))) ?_
 first | refine WO_ldA0 rfl rfl (.tail _ (.head _)) ?_ | refine WO_ldAI rfl rfl (.tail _ (.head _)) ?_
 rcases taken_ex P m with ⟨he, hT⟩ | ⟨he, H, hH, hT⟩
 ·skip
  refine WO_call0 rfl (hT) rfl rfl rfl ?_
  refine WO_mv (v := .tup _) rfl ?_
  refine WO_ext (v := .pnil) rfl rfl ?_
  refine WO_ext (v := .s (.int _ _)) rfl rfl ?_
  refine WO_mv (v := .pnil) rfl ?_
  refine WO_mv (v := .s (.int _ _)) rfl ?_
  refine WO_nil ?_
  refine WP_seq ?_
  refine WP_seq ?_
  refine WP_ops ?_
  refine WO_mv (v := .s (.int _ _)) rfl ?_
  refine WO_bin (r := .bool _) rfl rfl rfl ?_
  refine WO_nil ?_
  refine WP_cond rfl (fun h1 => ?_) (fun h1 => ?_)
  ·try simp only [NM] at h1
   try simp only [isM, decide_eq_true_eq, decide_eq_false_iff_not] at h1
   refine WP_seq ?_
   refine WP_ops ?_
   refine WO_buildI rfl .nil ?_
   refine WO_mv (v := .s (.int _ _)) rfl ?_
   refine WO_stA rfl rfl rfl rfl .here ?_
   refine WO_mv (v := .s (.int _ _)) rfl ?_
   refine WO_nil ?_
   refine WP_ret ?_
   refine ⟨_, RS_cell rfl rfl (.head _) (RS_tmp (v := .s (.int _ _)) rfl (RS_nil)), ?_⟩
   rw [moveM, if_neg he]
   exact congrArg (fun g => V.tup [V.agg 133 (ia g), V.s (.int .i64 (errM P (m 0) (m 1) (m 2)))]) ovA_zero
  ·try simp only [NM] at h1
   try simp only [isM, decide_eq_true_eq, decide_eq_false_iff_not] at h1
   exfalso; first | omega | (simp at h1)
 ·skip
  refine WO_callN (mk := fun b => .tup [.ptr b 0 138, .s (.int .i64 0)]) (rs := []) (Bs := []) One_ptrS rfl hT rfl rfl (Nat.le_of_ble_eq_true rfl) (fun _ h => h) rfl trivial rfl rfl .nil ?_
  refine WO_mv (v := .tup _) rfl ?_
  refine WO_ext (v := .ptr _ _ _) rfl rfl ?_
  refine WO_ext (v := .s (.int _ _)) rfl rfl ?_
  refine WO_mv (v := .ptr _ _ _) rfl ?_
  refine WO_mv (v := .s (.int _ _)) rfl ?_
  refine WO_nil ?_
  refine WP_seq ?_
  refine WP_seq ?_
  refine WP_ops ?_
  refine WO_mv (v := .s (.int _ _)) rfl ?_
  refine WO_bin (r := .bool _) rfl rfl rfl ?_
  refine WO_nil ?_
  refine WP_cond rfl (fun h2 => ?_) (fun h2 => ?_)
  ·try simp only [NM] at h2
   try simp only [isM, decide_eq_true_eq, decide_eq_false_iff_not] at h2
   exfalso; first | omega | (simp at h2)
  ·try simp only [NM] at h2
   try simp only [isM, decide_eq_true_eq, decide_eq_false_iff_not] at h2
   refine WP_skip ?_
   refine WP_seq ?_
   refine WP_ops ?_
   refine WO_mv (v := .ptr _ _ _) rfl ?_
   obtain ⟨J, hJ⟩ := made_ex hH he
   refine WO_callP rfl (hJ) rfl rfl rfl .here ?_
   refine WO_stA rfl rfl rfl rfl (.there .here) ?_
   refine WO_mv rfl ?_
   refine WO_nil ?_
   refine WP_ret ?_
   refine ⟨_, RS_cell rfl rfl (.tail _ (.head _)) (RS_tmp (v := .s (.int _ _)) rfl (RS_nil)), ?_⟩
   rw [he, ← after_hand hH he]
   rfl
end Go.Proofs.Ytlkighkfkdpncaa
set_option linter.unusedSimpArgs false
set_option linter.unusedVariables false
namespace Go.Proofs.Ytlkighkfkdpncaa
open Go Go.Am
def castlM (P : Nat → Int) (a t : Int) : Bool := decide (P (sqI a) = 6 ∧ (t - a = 2 ∨ t - a = -2))
def safeM (P : Nat → Int) (l : List Int) : Bool := !(l.any (isByM P (otherM (P 128))))
def posM (P : Nat → Int) : Bool := rightM P && !checkM P (otherM (P 128))
end Go.Proofs.Ytlkighkfkdpncaa
set_option linter.unusedSimpArgs false
set_option linter.unusedVariables false
namespace Go.Proofs.Ytlkighkfkdpncaa
open Go Go.Am
section
variable (g0 g4 g1 : Nat → S) (Q : Nat → Int)
end
end Go.Proofs.Ytlkighkfkdpncaa
set_option linter.unusedSimpArgs false
set_option linter.unusedVariables false
namespace Go.Proofs.Ytlkighkfkdpncaa
open Go Go.Am
def legalB (P : Nat → Int) (m : Mv) : Bool := !(castlM P m.1 m.2.1 && !safeM P [m.1, (m.1 + m.2.1) / 2]) && (decide (errM P m.1 m.2.1 m.2.2 = 0) && !checkM (moveM P m.1 m.2.1 m.2.2) (P 128))
def legalU (P : Nat → Int) : List Mv := (allS P).filter (legalB P)
def mvX (F : Nat → Int) (o : Nat) : Nat → Int := ovA (fun _ => 0) 0 3 (fun j => F (o + j))
theorem mvX_at {F : Nat → Int} {l : List Mv} {i : Nat} (hF : ∀ j, j < (flat3 l).length → F j = (flat3 l).getD j 0) (hi : i < l.length) : mvX F (0 + (i : Int).toNat * 3) 0 = (l.getD i (0, 0, 0)).1 ∧ mvX F (0 + (i : Int).toNat * 3) 1 = (l.getD i (0, 0, 0)).2.1 ∧ mvX F (0 + (i : Int).toNat * 3) 2 = (l.getD i (0, 0, 0)).2.2 := by
 obtain ⟨e1, e2, e3⟩ := flat3_at hi
 have hb : 3 * i + 2 < (flat3 l).length := by rw [flat3_len]; omega
 rw [← hF _ (by omega)] at e1 e2 e3
 refine ⟨?_, ?_, ?_⟩
 ·rw [← e1]; show F _ = F _; exact congrArg F (by omega)
 ·rw [← e2]; show F _ = F _; exact congrArg F (by omega)
 ·rw [← e3]; show F _ = F _; exact congrArg F (by omega)
theorem allS_len (P : Nat → Int) : (allS P).length ≤ 16896 := by
 have := allU_len P 64
 rw [show (allS P).length = _ from (srt3_perm _).length_eq]; omega
end Go.Proofs.Ytlkighkfkdpncaa
set_option linter.unusedVariables false
set_option linter.unusedSimpArgs false
namespace Go.Proofs.Ytlkighkfkdpncaa
open Go Go.Am
theorem fromR_mem {P : Nat → Int} {s : Int} {m : Mv} (h : m ∈ fromR P s 64) : (0 ≤ m.2.1 ∧ m.2.1 < 64) ∧ goesM P s m.2.1 = true ∧ m ∈ toM s (P (sqI s)) (P (sqI s + 1)) m.2.1 := by
 unfold fromR at h
 rw [List.mem_flatMap] at h
 obtain ⟨t, ht, h⟩ := h
 split at h
 ·rename_i hg
  have e := (toM_mem h).2
  rw [e]
  exact ⟨mem64.1 ht, hg, h⟩
 ·cases h
theorem allR_mem {P : Nat → Int} {m : Mv} (h : m ∈ allR P 64) : (0 ≤ m.1 ∧ m.1 < 64) ∧ (0 ≤ m.2.1 ∧ m.2.1 < 64) ∧ goesM P m.1 m.2.1 = true ∧ m ∈ toM m.1 (P (sqI m.1)) (P (sqI m.1 + 1)) m.2.1 := by
 unfold allR at h
 rw [List.mem_flatMap] at h
 obtain ⟨s, hs, h⟩ := h
 have e := fromR_fst h
 rw [e]
 exact ⟨mem64.1 hs, fromR_mem h⟩
theorem allR_next (P : Nat → Int) (n : Nat) : allR P (n + 1) = allR P n ++ fromR P n 64 := by
 unfold allR nums
 rw [List.range_succ, List.map_append, List.flatMap_append]
 simp
theorem allR_pre (P : Nat → Int) {n k : Nat} (h : n ≤ k) : allR P n <+: allR P k := by
 induction h with
 | refl => exact List.prefix_refl _
 | step _ ih => rw [allR_next]; exact ih.trans (List.prefix_append _ _)
def cntR (P : Nat → Int) (s : Nat) : Nat := (allR P s).length
theorem cntR_next (P : Nat → Int) (s : Nat) : cntR P (s + 1) = cntR P s + (fromR P s 64).length := by
 unfold cntR; rw [allR_next, List.length_append]
theorem cntR_le (P : Nat → Int) {s : Nat} (hs : s < 64) : cntR P s + (fromR P s 64).length ≤ (allR P 64).length := by
 rw [← cntR_next]; exact (allR_pre P (show s + 1 ≤ 64 by omega)).length_le
theorem allR_at (P : Nat → Int) {s i : Nat} (hs : s < 64) (hi : i < (fromR P s 64).length) : (allR P 64).getD (cntR P s + i) (0, 0, 0) = (fromR P s 64).getD i (0, 0, 0) := by
 obtain ⟨r, hr⟩ := allR_pre P (show s + 1 ≤ 64 by omega)
 rw [← hr, allR_next]
 unfold cntR
 rw [List.getD_eq_getElem?_getD, List.getD_eq_getElem?_getD, List.append_assoc, List.getElem?_append_right (by omega), show (allR P s).length + i - (allR P s).length = i by omega, List.getElem?_append_left hi]
theorem mv_in {l : List Mv} {i : Nat} (hi : i < l.length) : l.getD i (0, 0, 0) ∈ l := by
 rw [List.getD_eq_getElem?_getD, List.getElem?_eq_getElem hi]
 exact List.getElem_mem hi
theorem fromR_at {P : Nat → Int} {s i : Nat} (hi : i < (fromR P s 64).length) : ((fromR P s 64).getD i (0, 0, 0)).1 = s := fromR_fst (mv_in hi)
theorem lt3_at {l : List Mv} (h : l.Pairwise lt3) {i : Nat} (h0 : 0 < i) (hi : i < l.length) : lt3 (l.getD (i - 1) (0, 0, 0)) (l.getD i (0, 0, 0)) := by
 rw [List.getD_eq_getElem?_getD, List.getD_eq_getElem?_getD, List.getElem?_eq_getElem hi, List.getElem?_eq_getElem (show i - 1 < l.length by omega)]
 exact List.pairwise_iff_getElem.1 h _ _ _ hi (by omega)
theorem mover_of {P : Nat → Int} {s t : Int} (h : goesM P s t = true) : (1 ≤ P (sqI s) ∧ P (sqI s) ≤ 6) ∧ (P (sqI s + 1) = 0 ∨ P (sqI s + 1) = 1) ∧ P (sqI s + 1) = P 128 ∧ s ≠ t := by
 unfold goesM moverM mayM at h
 simp only [Bool.and_eq_true, decide_eq_true_eq] at h
 omega
theorem toM_can {P : Nat → Int} {m : Mv} (h : m ∈ toM m.1 (P (sqI m.1)) (P (sqI m.1 + 1)) m.2.1) : if P (sqI m.1) = 1 ∧ m.2.1 / 8 = 7 * (1 - P (sqI m.1 + 1)) then 2 ≤ m.2.2 ∧ m.2.2 ≤ 5 else m.2.2 = 0 := by
 unfold toM endM at h
 split at h
 ·rename_i e
  rw [decide_eq_true_eq] at e
  rw [if_pos e]
  simp only [List.mem_cons, List.not_mem_nil, or_false] at h
  rcases h with h | h | h | h <;> (have := congrArg (fun m : Mv => m.2.2) h; simp only at this; omega)
 ·rename_i e
  rw [decide_eq_true_eq] at e
  rw [if_neg e]
  have := congrArg (fun m : Mv => m.2.2) (List.mem_singleton.1 h)
  simpa using this
theorem mv_can {P : Nat → Int} {m : Mv} (h : m ∈ allR P 64) : errM P m.1 m.2.1 m.2.2 = 0 := by
 obtain ⟨ha, ht, hg, hm⟩ := allR_mem h
 obtain ⟨h1, h2, h3, h4⟩ := mover_of hg
 refine errM_ok ⟨ha, ht, h4⟩ ?_
 unfold canM
 exact decide_eq_true ⟨h1.1, h1.2, h3, h2, toM_can hm⟩
theorem mv_hit {P : Nat → Int} {m : Mv} (h : m ∈ allR P 64) (he : emptyM P m.2.1 = false) : P (sqI m.2.1 + 1) ≠ P 128 ∧ m.2.1 ∈ fromS P m.1 := by
 obtain ⟨ha, ht, hg, _⟩ := allR_mem h
 obtain ⟨h1, h2, h3, h4⟩ := mover_of hg
 have hf : freeM P m.2.1 = false := by unfold freeM; rw [he, Bool.and_false]
 unfold goesM at hg
 rw [Bool.and_eq_true] at hg
 have hg := hg.2
 unfold goK at hg
 split at hg
 ·unfold goP at hg
  split at hg
  ·rw [hf] at hg; cases hg
  ·split at hg
   ·rw [hf, Bool.and_false] at hg; cases hg
   ·rw [hf, he, Bool.false_and, Bool.or_false, Bool.not_false, Bool.true_and, Bool.and_eq_true, decide_eq_true_eq] at hg
    refine ⟨?_, (attL_mem ha).2 ⟨ht, hg.1⟩⟩
    have := hg.2
    unfold sideM at this
    rw [this, ← h3]
    unfold otherM
    split <;> omega
 ·rw [Bool.or_eq_true, Bool.and_eq_true, Bool.and_eq_true, decide_eq_true_eq] at hg
  rcases hg with ⟨hg, ho⟩ | ⟨_, hg⟩
  ·refine ⟨fun e => ?_, (attL_mem ha).2 ⟨ht, hg⟩⟩
   unfold ownM sideM at ho
   rw [he, e, h3, decide_eq_true rfl] at ho
   cases ho
  ·unfold goC at hg
   split at hg
   ·cases hg
   ·split at hg
    ·rename_i e
     rw [← e, hf, Bool.and_false] at hg; cases hg
    ·simp only [Bool.and_eq_true, decide_eq_true_eq] at hg
     obtain ⟨⟨⟨⟨⟨e, _⟩, _⟩, _⟩, hx⟩, _⟩ := hg
     rw [← e, hf] at hx; cases hx
end Go.Proofs.Ytlkighkfkdpncaa
