/- The walks of the chapter play: a move made. -/
import Derived.Test.YtjldefmcnppdoaaPlayB
namespace Go.Proofs.Ytjldefmcnppdoaa
open Go Go.Am
set_option linter.unusedSimpArgs false
set_option linter.unusedVariables false
theorem rook_ex {md : Md} (H : Nat → Int) (ha : 0 ≤ H 133 ∧ H 133 < 64) (ht : 0 ≤ H 134 ∧ H 134 < 64) (hc : H 137 = 0 ∨ H 137 = 1) (hC : 0 ≤ H 129 ∧ H 129 ≤ 15) :
    ∃ x y z, RookOf (H 136) (H 133) (H 134) (H 137) (H 129) x y z ∧ RB AM 115 [.ptr 0 0 138] [.sc md 138 (ia H)] (.tup [.s (.int .i64 x), .s (.int .i64 y), .s (.bool z)]) [.sc md 138 (ia H)] := by
  obtain ⟨v, σ', n', L', h1, h2, ⟨x, y, z, rfl, hr⟩, h3⟩ := rook_run (md := md) H ha ht hc hC
  exact ⟨x, y, z, hr, σ', h1, (h2.2.mem h3).2, ⟨_, _, _, rfl⟩, trivial⟩
/-- Squares as they are behind some of the sets. -/
structure Same (H J : Nat → Int) (B : Nat → Int) : Prop where
  lo : ∀ i, i < 128 → J i = B i
  hi : ∀ i, 128 ≤ i → J i = H i
theorem set_ex {md md2 : Md} (hmd : md.mut = true) {q : Nat} {c : Cp} (H X K : Nat → Int) (n : Nat) (hn : n ≤ 1000) : ∃ J, J = setM H X K n ∧ RB AM 117 [.ptr 0 0 138, .agg 2 (ia X), .sl 1 0 n 1 c] [.sc md 138 (ia H), .sc md2 q (ia K)] (.tup []) [.sc md 138 (ia J), .sc md2 q (ia K)] :=
  ⟨_, rfl, RB_of2 (set_run hmd H X K n hn)⟩

theorem set_two {H J : Nat → Int} {w a : Int} (e : J = setM H (fun _ => 0) (ov (ov (fun _ => 0) (0 * 1) w) (1 * 1) a) 2) (ha : 0 ≤ a ∧ a < 64) (hw : -1 ≤ w ∧ w < 64) : Same H J (brd2 H w a) := by
  have h2 := setM_of (H := H) (X := fun _ => 0) (K := ov (ov (fun _ => 0) (0 * 1) w) (1 * 1) a) (n := 1) (s := a) rfl ha
  refine ⟨fun i _ => ?_, fun i hi => by rw [e]; exact setM_out 2 i hi⟩
  rw [e, h2, brd2, brd1]
  by_cases h : 0 ≤ w
  · rw [setM_of (H := H) (X := fun _ => 0) (K := ov (ov (fun _ => 0) (0 * 1) w) (1 * 1) a) (n := 0) (s := w) rfl (by omega), if_pos h]; rfl
  · rw [setM_no (H := H) (X := fun _ => 0) (K := ov (ov (fun _ => 0) (0 * 1) w) (1 * 1) a) (n := 0) (s := w) rfl (by omega), if_neg h]; rfl

theorem set_next {H J J' B X Y : Nat → Int} {t : Int} (j : Same H J B) (e : J' = setM J X (ov (fun _ => 0) (0 * 1) t) 1) (ht : 0 ≤ t ∧ t < 64) (hx : ∀ i, i < 2 → X i = Y i) : Same H J' (ovA B (sqI t) 2 Y) := by
  have h1 := setM_of (H := J) (X := X) (K := ov (fun _ => 0) (0 * 1) t) (n := 0) (s := t) rfl ht
  refine ⟨fun i hi => ?_, fun i hi => by rw [e, setM_out 1 i hi]; exact j.hi i hi⟩
  rw [e, h1]
  exact ovA_same (n := 128) j.lo hx i hi

theorem two {X Y : Nat → Int} (h0 : X 0 = Y 0) (h1 : X 1 = Y 1) : ∀ i, i < 2 → X i = Y i
  | 0, _ => h0
  | 1, _ => h1
  | n + 2, h => by omega

theorem castling_a {k a t c C : Int} (h : castlingM k a t c C ≠ 0) : a = 56 * c + 4 := by
  unfold castlingM at h
  split at h
  · omega
  · split at h
    · omega
    · exact absurd rfl h

theorem set_rook {H J2 J3 J4 X : Nat → Int} {w k a t c b C x y : Int} {z : Bool} (j : Same H J2 (brd3 H w a t k c b)) (e3 : J3 = setM J2 (fun _ => 0) (ov (fun _ => 0) (0 * 1) x) 1) (e4 : J4 = setM J3 (ov (ov (fun _ => 0) 0 4) 1 (X 1)) (ov (fun _ => 0) (0 * 1) y) 1)
    (hr : RookOf k a t c C x y z) (hz : z = true) (hc : c = 0 ∨ c = 1) (hx1 : X 1 = c) : Same H J4 (brd4 H w a t k c b (castlingM k a t c C)) := by
  rcases hr with ⟨hg, _, rfl, rfl⟩ | ⟨hg, _, rfl, rfl⟩ | ⟨_, hf⟩
  · have := castling_a (h := by rw [hg]; decide)
    rw [hg, brd4, if_pos rfl]
    exact set_next (set_next j e3 (by omega) (fun _ _ => rfl)) e4 (by omega) (two rfl hx1)
  · have := castling_a (h := by rw [hg]; decide)
    rw [hg, brd4, if_neg (by decide), if_pos rfl]
    exact set_next (set_next j e3 (by omega) (fun _ _ => rfl)) e4 (by omega) (two rfl hx1)
  · rw [hz] at hf; cases hf

theorem set_norook {H J2 : Nat → Int} {w k a t c b C x y : Int} {z : Bool} (j : Same H J2 (brd3 H w a t k c b)) (hr : RookOf k a t c C x y z) (hz : z = false) : Same H J2 (brd4 H w a t k c b (castlingM k a t c C)) := by
  rcases hr with ⟨_, h, _⟩ | ⟨_, h, _⟩ | ⟨hg, _⟩
  · rw [hz] at h; cases h
  · rw [hz] at h; cases h
  · rw [hg, brd4, if_neg (by decide), if_neg (by decide)]; exact j

/-- The hand, done but for its side. -/
structure Done (H J B : Nat → Int) (cs ovr hf fl : Int) : Prop where
  lo : ∀ i, i < 128 → J i = B i
  s : J 128 = H 128
  c : J 129 = cs
  o : J 130 = ovr
  h : J 131 = hf
  f : J 132 = fl
theorem done_is {H J : Nat → Int} {k c a t b C : Int} (h : Done H J (brd4 H (takesM H k a t) a t k c b (castlingM k a t c C)) (andNotM C (orM (orM 0 (lostM a)) (lostM t))) (overM k a t c) (halfM H k (takesM H k a t)) (fullM H)) (i : Nat) : ovA (fun _ => 0) 0 133 (ov J 128 (otherM (H 128))) i = afterM H k c a t b C i := by
  unfold afterM
  by_cases hi : i < 133
  · rw [ovA_at (by omega), Nat.sub_zero]
    by_cases h1 : i < 128
    · rw [if_pos h1, ov_out (by omega)]; exact h.lo i h1
    · rw [if_neg h1]
      have hc : i = 128 ∨ i = 129 ∨ i = 130 ∨ i = 131 ∨ i = 132 := by omega
      rcases hc with rfl | rfl | rfl | rfl | rfl
      · rfl
      · exact h.c
      · exact h.o
      · exact h.h
      · exact h.f
  · rw [ovA_out (by omega), if_neg (by omega), if_neg (by omega), if_neg (by omega), if_neg (by omega), if_neg (by omega), if_neg (by omega)]

theorem made_run (H : Nat → Int) (ha : 0 ≤ H 133 ∧ H 133 < 64) (ht : 0 ≤ H 134 ∧ H 134 < 64) (hc : H 137 = 0 ∨ H 137 = 1) (hC : 0 ≤ H 129 ∧ H 129 ≤ 15) : WR AM 96 [.ptr 0 0 138] [.sc .var 138 (ia H)] (fun v _ L => ∃ J, v = .agg 133 (ia (afterM H (H 136) (H 137) (H 133) (H 134) (H 135) (H 129))) ∧ (0, Blk.sc .var 138 (ia J)) ∈ L) := by
 refine WR_fn (a := a96) rfl rfl (entryF _) (entry_E (Nat.le_of_ble_eq_true rfl)) (m := 1) rfl ?_
 refine WP_seq ?_
 refine WP_ops ?_
 refine WO_allocI ?_
 refine WO_nil ?_
 refine WP_seq ?_
 refine WP_ops ?_
 refine WO_mv (v := .ptr _ _ _) rfl ?_
 refine WO_callP rfl (RB_of1 (takes_run H ha ht)) rfl rfl rfl (.there .here) ?_
 refine WO_mv (v := .s (.int _ _)) rfl ?_
 refine WO_nil ?_
 refine WP_seq ?_
 refine WP_ops ?_
 refine WO_mv (v := .ptr _ _ _) rfl ?_
 obtain ⟨x, y, z, hr, hR⟩ := rook_ex (md := .var) H ha ht hc hC
 refine WO_callP rfl (hR) rfl rfl rfl (.there .here) ?_
 refine WO_mv (v := .tup _) rfl ?_
 refine WO_ext (v := .s (.int _ _)) rfl rfl ?_
 refine WO_ext (v := .s (.int _ _)) rfl rfl ?_
 refine WO_ext (v := .s (.bool _)) rfl rfl ?_
 refine WO_mv (v := .s (.int _ _)) rfl ?_
 refine WO_mv (v := .s (.int _ _)) rfl ?_
 refine WO_mv (v := .s (.bool _)) rfl ?_
 refine WO_nil ?_
 refine WP_seq ?_
 refine WP_ops ?_
 refine WO_mv rfl ?_
 refine WO_nil ?_
 refine WP_cut (fun f n L => (f 0 = .ptr 0 0 138) ∧ (f 2 = .ptr 1 0 133) ∧ (f 3 = .s (.int .i64 (takesM H (H 136) (H 133) (H 134)))) ∧ (f 4 = .s (.int .i64 x)) ∧ (f 5 = .s (.int .i64 y)) ∧ (f 6 = .s (.bool z)) ∧ (f 7 = .s (.int .i64 (overM (H 136) (H 133) (H 134) (H 137)))) ∧ (L = [(1, .sc .var 133 (ia fun _ => 0)), (0, .sc .var 138 (ia H))]) ∧ (n = 2)) ?_ (fun f nb L hI => ?_)
 ·skip
  refine WP_seq ?_
  refine WP_ops ?_
  refine WO_mv (v := .ptr _ _ _) rfl ?_
  refine WO_callP rfl (RB_of1 (long_run H ha ht hc)) rfl rfl rfl (.there .here) ?_
  refine WO_nil ?_
  refine WP_cond rfl (fun h1 => ?_) (fun h1 => ?_)
  ·try simp only [NM] at h1
   try simp only [isM, decide_eq_true_eq, decide_eq_false_iff_not] at h1
   refine WP_ops ?_
   refine WO_mv (v := .ptr _ _ _) rfl ?_
   refine WO_nilckP rfl ?_
   refine WO_fa (o' := 133) rfl rfl rfl ?_
   refine WO_fa (o' := 133) rfl rfl rfl ?_
   refine WO_ldI rfl rfl (.tail _ (.head _)) rfl ?_
   refine WO_mv (v := .ptr _ _ _) rfl ?_
   refine WO_nilckP rfl ?_
   refine WO_fa (o' := 133) rfl rfl rfl ?_
   refine WO_fa (o' := 134) rfl rfl rfl ?_
   refine WO_ldI rfl rfl (.tail _ (.head _)) rfl ?_
   refine WO_add rfl rfl (by omega) ?_
   refine WO_quo rfl rfl (by omega) ?_
   refine WO_mv (v := .s (.int _ _)) rfl ?_
   refine WO_nil ?_
   refine ⟨_, (.cons_cons _ (.cons_cons _ .slnil)), rfl, rfl, rfl, rfl, rfl, rfl, ?_, rfl, rfl⟩
   refine congrArg (fun b => V.s (S.int .i64 b)) ?_
   rw [overM]
   first | exact (if_pos (by assumption)).symm | exact (if_neg (Bool.eq_false_iff.1 (by assumption))).symm
  ·try simp only [NM] at h1
   try simp only [isM, decide_eq_true_eq, decide_eq_false_iff_not] at h1
   refine WP_skip ?_
   refine ⟨_, (.cons_cons _ (.cons_cons _ .slnil)), rfl, rfl, rfl, rfl, rfl, rfl, ?_, rfl, rfl⟩
   refine congrArg (fun b => V.s (S.int .i64 b)) ?_
   rw [overM]
   first | exact (if_pos (by assumption)).symm | exact (if_neg (Bool.eq_false_iff.1 (by assumption))).symm
 ·skip
  obtain ⟨k0, k2, k3, k4, k5, k6, k7, rfl, rfl⟩ := hI
  refine WP_know (d := 0) (v := .ptr 0 0 138) k0 ?_
  refine WP_know (d := 2) (v := .ptr 1 0 133) k2 ?_
  refine WP_know (d := 3) (v := .s (.int .i64 (takesM H (H 136) (H 133) (H 134)))) k3 ?_
  refine WP_know (d := 4) (v := .s (.int .i64 x)) k4 ?_
  refine WP_know (d := 5) (v := .s (.int .i64 y)) k5 ?_
  refine WP_know (d := 6) (v := .s (.bool z)) k6 ?_
  refine WP_know (d := 7) (v := .s (.int .i64 (overM (H 136) (H 133) (H 134) (H 137)))) k7 ?_
  refine WP_seq ?_
  refine WP_ops ?_
  refine WO_mv (v := .ptr _ _ _) rfl ?_
  refine WO_nilckP rfl ?_
  refine WO_fa (o' := 136) rfl rfl rfl ?_
  first | refine WO_ldA0 rfl rfl (.tail _ (.head _)) ?_ | refine WO_ldAI rfl rfl (.tail _ (.head _)) ?_
  refine WO_allocI ?_
  refine WO_stA rfl rfl rfl rfl .here ?_
  refine WO_nil ?_
  refine WP_cut (fun f n L => ∃ (X : Nat → Int), (X 0 = (if H 135 = 0 then H 136 else H 135)) ∧ (X 1 = H 137) ∧ (f 0 = .ptr 0 0 138) ∧ (f 2 = .ptr 1 0 133) ∧ (f 3 = .s (.int .i64 (takesM H (H 136) (H 133) (H 134)))) ∧ (f 4 = .s (.int .i64 x)) ∧ (f 5 = .s (.int .i64 y)) ∧ (f 6 = .s (.bool z)) ∧ (f 7 = .s (.int .i64 (overM (H 136) (H 133) (H 134) (H 137)))) ∧ (f 8 = .ptr 2 0 2) ∧ (L = [(2, .sc .var 2 (ia X)), (1, .sc .var 133 (ia fun _ => 0)), (0, .sc .var 138 (ia H))]) ∧ (n = 3)) ?_ (fun f nb L hI => ?_)
  ·skip
   refine WP_seq ?_
   refine WP_ops ?_
   refine WO_mv (v := .ptr _ _ _) rfl ?_
   refine WO_nilckP rfl ?_
   refine WO_fa (o' := 133) rfl rfl rfl ?_
   refine WO_fa (o' := 135) rfl rfl rfl ?_
   refine WO_ldI rfl rfl (.tail _ (.tail _ (.head _))) rfl ?_
   refine WO_bin (r := .bool _) rfl rfl rfl ?_
   refine WO_nil ?_
   refine WP_cond rfl (fun h2 => ?_) (fun h2 => ?_)
   ·try simp only [NM] at h2
    try simp only [isM, decide_eq_true_eq, decide_eq_false_iff_not] at h2
    refine WP_ops ?_
    refine WO_mv (v := .ptr _ _ _) rfl ?_
    refine WO_nilckP rfl ?_
    refine WO_fa (o' := 133) rfl rfl rfl ?_
    refine WO_fa (o' := 135) rfl rfl rfl ?_
    refine WO_ldI rfl rfl (.tail _ (.tail _ (.head _))) rfl ?_
    refine WO_fa (o' := 0) rfl rfl rfl ?_
    refine WO_stI rfl rfl rfl rfl .here ?_
    refine WO_nil ?_
    refine ⟨_, (.cons_cons _ (.cons_cons _ (.cons_cons _ .slnil))), _, ?_, ?_, rfl, rfl, rfl, rfl, rfl, rfl, rfl, rfl, rfl, rfl⟩
    · first | exact (if_pos (by assumption)).symm | exact (if_neg (by assumption)).symm
    · rfl
   ·try simp only [NM] at h2
    try simp only [isM, decide_eq_true_eq, decide_eq_false_iff_not] at h2
    refine WP_skip ?_
    refine ⟨_, (.cons_cons _ (.cons_cons _ (.cons_cons _ .slnil))), _, ?_, ?_, rfl, rfl, rfl, rfl, rfl, rfl, rfl, rfl, rfl, rfl⟩
    · first | exact (if_pos (by assumption)).symm | exact (if_neg (by assumption)).symm
    · rfl
  ·skip
   obtain ⟨X, hx0, hx1, k0, k2, k3, k4, k5, k6, k7, k8, rfl, rfl⟩ := hI
   refine WP_know (d := 0) (v := .ptr 0 0 138) k0 ?_
   refine WP_know (d := 2) (v := .ptr 1 0 133) k2 ?_
   refine WP_know (d := 3) (v := .s (.int .i64 (takesM H (H 136) (H 133) (H 134)))) k3 ?_
   refine WP_know (d := 4) (v := .s (.int .i64 x)) k4 ?_
   refine WP_know (d := 5) (v := .s (.int .i64 y)) k5 ?_
   refine WP_know (d := 6) (v := .s (.bool z)) k6 ?_
   refine WP_know (d := 7) (v := .s (.int .i64 (overM (H 136) (H 133) (H 134) (H 137)))) k7 ?_
   refine WP_know (d := 8) (v := .ptr 2 0 2) k8 ?_
   refine WP_seq ?_
   refine WP_ops ?_
   refine WO_mv (v := .ptr _ _ _) rfl ?_
   refine WO_buildI rfl .nil ?_
   refine WO_mv (v := .s (.int _ _)) rfl ?_
   refine WO_mv (v := .ptr _ _ _) rfl ?_
   refine WO_nilckP rfl ?_
   refine WO_fa (o' := 133) rfl rfl rfl ?_
   refine WO_fa (o' := 133) rfl rfl rfl ?_
   refine WO_ldI (x := H 133) rfl rfl (.tail _ (.tail _ (.head _))) (rfl) ?_
   refine WO_mkslS rfl (.one rfl (.one rfl .nil)) ?_
   obtain ⟨J1, eJ1, hSJ1⟩ := set_ex (md := .var) (md2 := .var) (q := 2) (c := .ex 2) rfl H (fun _ => 0) (ov (ov (fun _ => 0) (0 * 1) (takesM H (H 136) (H 133) (H 134))) (1 * 1) (H 133)) 2 (by omega)
   have j1 : Same H J1 (brd2 H (takesM H (H 136) (H 133) (H 134)) (H 133)) := set_two eJ1 ha (takesM_bd ha ht)
   refine WO_call (rs := [0, 3]) (Bs := [_, _]) rfl (hSJ1) rfl rfl (Nat.le_of_ble_eq_true rfl) (fun _ h => h) rfl ⟨(.tail _ (.tail _ (.tail _ (.head _)))), ⟨_, _, _, rfl⟩, ⟨(.head _), ⟨_, _, _, rfl⟩, trivial⟩⟩ rfl rfl rfl (.cons (.there (.there (.there .here))) (.cons .here .nil)) ?_
   refine WO_nil ?_
   refine WP_seq ?_
   refine WP_ops ?_
   refine WO_mv (v := .ptr _ _ _) rfl ?_
   first | refine WO_ldA0 rfl rfl (.tail _ (.head _)) ?_ | refine WO_ldAI rfl rfl (.tail _ (.head _)) ?_
   refine WO_mv (v := .ptr _ _ _) rfl ?_
   refine WO_nilckP rfl ?_
   refine WO_fa (o' := 133) rfl rfl rfl ?_
   refine WO_fa (o' := 134) rfl rfl rfl ?_
   refine WO_ldI (x := H 134) rfl rfl (.tail _ (.tail _ (.tail _ (.head _)))) (j1.hi 134 (by omega)) ?_
   refine WO_mkslS rfl (.one rfl .nil) ?_
   obtain ⟨J2, eJ2, hSJ2⟩ := set_ex (md := .var) (md2 := .var) (q := 1) (c := .ex 1) rfl J1 X (ov (fun _ => 0) (0 * 1) (H 134)) 1 (by omega)
   have j2 : Same H J2 (brd3 H (takesM H (H 136) (H 133) (H 134)) (H 133) (H 134) (H 136) (H 137) (H 135)) := set_next j1 eJ2 ht (two hx0 hx1)
   refine WO_call (rs := [0, 4]) (Bs := [_, _]) rfl (hSJ2) rfl rfl (Nat.le_of_ble_eq_true rfl) (fun _ h => h) rfl ⟨(.tail _ (.tail _ (.tail _ (.tail _ (.head _))))), ⟨_, _, _, rfl⟩, ⟨(.head _), ⟨_, _, _, rfl⟩, trivial⟩⟩ rfl rfl rfl (.cons (.there (.there (.there (.there .here)))) (.cons .here .nil)) ?_
   refine WO_nil ?_
   refine WP_cut (fun f n L => ∃ (X J : Nat → Int), (3 ≤ n) ∧ (Same H J (brd4 H (takesM H (H 136) (H 133) (H 134)) (H 133) (H 134) (H 136) (H 137) (H 135) (castlingM (H 136) (H 133) (H 134) (H 137) (H 129)))) ∧ (f 0 = .ptr 0 0 138) ∧ (f 2 = .ptr 1 0 133) ∧ (f 3 = .s (.int .i64 (takesM H (H 136) (H 133) (H 134)))) ∧ (f 7 = .s (.int .i64 (overM (H 136) (H 133) (H 134) (H 137)))) ∧ (L = [(2, .sc .var 2 (ia X)), (1, .sc .var 133 (ia fun _ => 0)), (0, .sc .var 138 (ia J))])) ?_ (fun f nb L hI => ?_)
   ·skip
    refine WP_seq ?_
    refine WP_ops ?_
    refine WO_mv (v := .s (.bool _)) rfl ?_
    refine WO_nil ?_
    refine WP_cond rfl (fun h3 => ?_) (fun h3 => ?_)
    ·try simp only [NM] at h3
     try simp only [isM, decide_eq_true_eq, decide_eq_false_iff_not] at h3
     refine WP_seq ?_
     refine WP_ops ?_
     refine WO_mv (v := .ptr _ _ _) rfl ?_
     refine WO_buildI rfl .nil ?_
     refine WO_mv (v := .s (.int _ _)) rfl ?_
     refine WO_mkslS rfl (.one rfl .nil) ?_
     obtain ⟨J3, eJ3, hSJ3⟩ := set_ex (md := .var) (md2 := .var) (q := 1) (c := .ex 1) rfl J2 (fun _ => 0) (ov (fun _ => 0) (0 * 1) x) 1 (by omega)
     refine WO_call (rs := [0, 5]) (Bs := [_, _]) rfl (hSJ3) rfl rfl (Nat.le_of_ble_eq_true rfl) (fun _ h => h) rfl ⟨(.tail _ (.tail _ (.tail _ (.tail _ (.tail _ (.head _)))))), ⟨_, _, _, rfl⟩, ⟨(.head _), ⟨_, _, _, rfl⟩, trivial⟩⟩ rfl rfl rfl (.cons (.there (.there (.there (.there (.there .here))))) (.cons .here .nil)) ?_
     refine WO_nil ?_
     refine WP_ops ?_
     refine WO_mv (v := .ptr _ _ _) rfl ?_
     refine WO_fa (o' := 1) rfl rfl rfl ?_
     refine WO_ldI rfl rfl (.tail _ (.tail _ (.tail _ (.head _)))) rfl ?_
     refine WO_buildI rfl (.one rfl (.one rfl .nil)) ?_
     refine WO_mv (v := .s (.int _ _)) rfl ?_
     refine WO_mkslS rfl (.one rfl .nil) ?_
     obtain ⟨J4, eJ4, hSJ4⟩ := set_ex (md := .var) (md2 := .var) (q := 1) (c := .ex 1) rfl J3 (ov (ov (fun _ => 0) 0 4) 1 (X 1)) (ov (fun _ => 0) (0 * 1) y) 1 (by omega)
     have j4 : Same H J4 (brd4 H (takesM H (H 136) (H 133) (H 134)) (H 133) (H 134) (H 136) (H 137) (H 135) (castlingM (H 136) (H 133) (H 134) (H 137) (H 129))) := set_rook j2 eJ3 eJ4 hr (by assumption) hc hx1
     refine WO_call (rs := [0, 6]) (Bs := [_, _]) rfl (hSJ4) rfl rfl (Nat.le_of_ble_eq_true rfl) (fun _ h => h) rfl ⟨(.tail _ (.tail _ (.tail _ (.tail _ (.tail _ (.tail _ (.head _))))))), ⟨_, _, _, rfl⟩, ⟨(.head _), ⟨_, _, _, rfl⟩, trivial⟩⟩ rfl rfl rfl (.cons (.there (.there (.there (.there (.there (.there .here)))))) (.cons .here .nil)) ?_
     refine WO_nil ?_
     exact ⟨_, (.cons _ (.cons _ (.cons _ (.cons _ (.cons_cons _ (.cons_cons _ (.cons_cons _ .slnil))))))), X, J4, by omega, j4, rfl, rfl, rfl, rfl, rfl⟩
    ·try simp only [NM] at h3
     try simp only [isM, decide_eq_true_eq, decide_eq_false_iff_not] at h3
     refine WP_skip ?_
     exact ⟨_, (.cons _ (.cons _ (.cons_cons _ (.cons_cons _ (.cons_cons _ .slnil))))), X, J2, by omega, set_norook j2 hr (by assumption), rfl, rfl, rfl, rfl, rfl⟩
   ·skip
    obtain ⟨X, J, hn3, hJ, k0, k2, k3, k7, rfl⟩ := hI
    refine WP_know (d := 0) (v := .ptr 0 0 138) k0 ?_
    refine WP_know (d := 2) (v := .ptr 1 0 133) k2 ?_
    refine WP_know (d := 3) (v := .s (.int .i64 (takesM H (H 136) (H 133) (H 134)))) k3 ?_
    refine WP_know (d := 7) (v := .s (.int .i64 (overM (H 136) (H 133) (H 134) (H 137)))) k7 ?_
    refine WP_seq ?_
    refine WP_ops ?_
    refine WO_mv (v := .ptr _ _ _) rfl ?_
    refine WO_mv (v := .s (.int _ _)) rfl ?_
    refine WO_nilckP rfl ?_
    refine WO_fa (o' := 0) rfl rfl rfl ?_
    refine WO_fa (o' := 130) rfl rfl rfl ?_
    refine WO_stI rfl rfl rfl rfl (.there (.there .here)) ?_
    refine WO_nil ?_
    refine WP_seq ?_
    refine WP_ops ?_
    refine WO_mv (v := .ptr _ _ _) rfl ?_
    refine WO_nilckP rfl ?_
    refine WO_fa (o' := 0) rfl rfl rfl ?_
    refine WO_fa (o' := 129) rfl rfl rfl ?_
    refine WO_ldI (x := H 129) rfl rfl (.tail _ (.tail _ (.head _))) (hJ.hi 129 (by omega)) ?_
    refine WO_mv (v := .ptr _ _ _) rfl ?_
    refine WO_nilckP rfl ?_
    refine WO_fa (o' := 133) rfl rfl rfl ?_
    refine WO_fa (o' := 133) rfl rfl rfl ?_
    refine WO_ldI (x := H 133) rfl rfl (.tail _ (.tail _ (.head _))) (hJ.hi 133 (by omega)) ?_
    refine WO_mv (v := .ptr _ _ _) rfl ?_
    refine WO_nilckP rfl ?_
    refine WO_fa (o' := 133) rfl rfl rfl ?_
    refine WO_fa (o' := 134) rfl rfl rfl ?_
    refine WO_ldI (x := H 134) rfl rfl (.tail _ (.tail _ (.head _))) (hJ.hi 134 (by omega)) ?_
    refine WO_mkslS rfl (.one rfl (.one rfl .nil)) ?_
    refine WO_callq (rs := [nb]) (Bs := [_]) (av := [.sl nb 0 2 1 (.ex 2)]) (v := .s (.int .i64 (lostsM (ov (ov (fun _ => 0) (0 * 1) (H 133)) (1 * 1) (H 134)) 2))) rfl (RB_of1 (losts_run (md := .ro) (q := 2) (c := .ex 2) (ov (ov (fun _ => 0) (0 * 1) (H 133)) (1 * 1) (H 134)) 2 (by omega))) rfl (by simp [V.refsL, V.refs, dedup]) (by simp [V.refsL, V.refs]) (by simp [V.refsL, V.refs]) (by simp [rnL, V.renL, V.ren, pos]) ⟨(.head _), ⟨_, _, _, rfl⟩, trivial⟩ rfl rfl rfl ?_
    refine WO_bin (r := .int .i64 (andNotM (H 129) _)) rfl rfl rfl ?_
    refine WO_nilckP rfl ?_
    refine WO_fa (o' := 0) rfl rfl rfl ?_
    refine WO_fa (o' := 129) rfl rfl rfl ?_
    refine WO_stI rfl rfl rfl rfl (.there (.there (.there .here))) ?_
    refine WO_nil ?_
    refine WP_seq ?_
    refine WP_ops ?_
    refine WO_mv (v := .ptr _ _ _) rfl ?_
    refine WO_mv (v := .ptr _ _ _) rfl ?_
    refine WO_nilckP rfl ?_
    refine WO_fa (o' := 0) rfl rfl rfl ?_
    refine WO_fa (o' := 131) rfl rfl rfl ?_
    refine WO_ldI (x := H 131) rfl rfl (.tail _ (.tail _ (.tail _ (.head _)))) (hJ.hi 131 (by omega)) ?_
    refine WO_mn2 rfl rfl ?_
    refine WO_bin rfl rfl rfl ?_
    refine WO_nilckP rfl ?_
    refine WO_fa (o' := 0) rfl rfl rfl ?_
    refine WO_fa (o' := 131) rfl rfl rfl ?_
    refine WO_stI rfl rfl rfl rfl (.there (.there (.there .here))) ?_
    refine WO_nil ?_
    refine WP_cut (fun f n L => ∃ (J : Nat → Int), (Done H J (brd4 H (takesM H (H 136) (H 133) (H 134)) (H 133) (H 134) (H 136) (H 137) (H 135) (castlingM (H 136) (H 133) (H 134) (H 137) (H 129))) (andNotM (H 129) (orM (orM 0 (lostM (H 133))) (lostM (H 134)))) (overM (H 136) (H 133) (H 134) (H 137)) (halfM H (H 136) (takesM H (H 136) (H 133) (H 134))) (H 132)) ∧ (f 0 = .ptr 0 0 138) ∧ (f 2 = .ptr 1 0 133) ∧ (L = [(1, .sc .var 133 (ia fun _ => 0)), (0, .sc .var 138 (ia J))])) ?_ (fun f nb L hI => ?_)
    ·skip
     refine WP_seq ?_
     refine WP_ops ?_
     refine WO_mv (v := .s (.int _ _)) rfl ?_
     refine WO_bin (r := .bool _) rfl rfl rfl ?_
     refine WO_mv (v := .s (.bool _)) rfl ?_
     refine WO_case (t := 118) rfl (fun h4 => ?_) (fun h4 => ?_)
     ·try simp only [NM] at h4
      try simp only [isM, decide_eq_true_eq, decide_eq_false_iff_not] at h4
      refine WO_gf rfl rfl ?_
      refine WO_gf rfl rfl ?_
      refine WO_gf rfl rfl ?_
      refine WO_gf rfl rfl ?_
      refine WO_gf rfl rfl ?_
      refine WO_gf rfl rfl ?_
      refine WO_pick (v := .s (.bool _)) rfl rfl ?_
      refine WO_nil ?_
      refine WP_cond rfl (fun _ => ?_) (fun h => nomatch h)
      refine WP_ops ?_
      refine WO_mv (v := .ptr _ _ _) rfl ?_
      refine WO_nilckP rfl ?_
      refine WO_fa (o' := 0) rfl rfl rfl ?_
      refine WO_fa (o' := 131) rfl rfl rfl ?_
      refine WO_stI rfl rfl rfl rfl (.there (.there (.there .here))) ?_
      refine WO_nil ?_
      refine ⟨_, (.cons _ (.cons _ (.cons_cons _ (.cons_cons _ .slnil)))), _, ?_, rfl, rfl, rfl⟩
      refine ⟨(by intro i hi; (repeat rw [ov_out (by omega)]); exact hJ.lo i hi), hJ.hi 128 (by omega), rfl, rfl, ?_, hJ.hi 132 (by omega)⟩
      have hb := takesM_bd (P := H) (k := H 136) ha ht
      rw [halfM]
      first | exact (if_pos (by omega)).symm | exact (if_neg (by omega)).symm
     ·try simp only [NM] at h4
      try simp only [isM, decide_eq_true_eq, decide_eq_false_iff_not] at h4
      refine WO_gt rfl ?_
      refine WO_mv (v := .ptr _ _ _) rfl ?_
      refine WO_gt rfl ?_
      refine WO_nilckP rfl ?_
      refine WO_gt rfl ?_
      refine WO_fa (o' := 136) rfl rfl rfl ?_
      refine WO_gt rfl ?_
      refine WO_fa (o' := 136) rfl rfl rfl ?_
      refine WO_gt rfl ?_
      refine WO_ldI (x := H 136) rfl rfl (.tail _ (.tail _ (.tail _ (.head _)))) (hJ.hi 136 (by omega)) ?_
      refine WO_gt rfl ?_
      refine WO_bin (r := .bool _) rfl rfl rfl ?_
      refine WO_pick (v := .s (.bool _)) rfl rfl ?_
      refine WO_nil ?_
      refine WP_cond rfl (fun h5 => ?_) (fun h5 => ?_)
      ·try simp only [NM] at h5
       try simp only [isM, decide_eq_true_eq, decide_eq_false_iff_not] at h5
       refine WP_ops ?_
       refine WO_mv (v := .ptr _ _ _) rfl ?_
       refine WO_nilckP rfl ?_
       refine WO_fa (o' := 0) rfl rfl rfl ?_
       refine WO_fa (o' := 131) rfl rfl rfl ?_
       refine WO_stI rfl rfl rfl rfl (.there (.there (.there .here))) ?_
       refine WO_nil ?_
       refine ⟨_, (.cons _ (.cons _ (.cons_cons _ (.cons_cons _ .slnil)))), _, ?_, rfl, rfl, rfl⟩
       refine ⟨(by intro i hi; (repeat rw [ov_out (by omega)]); exact hJ.lo i hi), hJ.hi 128 (by omega), rfl, rfl, ?_, hJ.hi 132 (by omega)⟩
       have hb := takesM_bd (P := H) (k := H 136) ha ht
       rw [halfM]
       first | exact (if_pos (by omega)).symm | exact (if_neg (by omega)).symm
      ·try simp only [NM] at h5
       try simp only [isM, decide_eq_true_eq, decide_eq_false_iff_not] at h5
       refine WP_skip ?_
       refine ⟨_, (.cons _ (.cons _ (.cons_cons _ (.cons_cons _ .slnil)))), _, ?_, rfl, rfl, rfl⟩
       refine ⟨(by intro i hi; (repeat rw [ov_out (by omega)]); exact hJ.lo i hi), hJ.hi 128 (by omega), rfl, rfl, ?_, hJ.hi 132 (by omega)⟩
       have hb := takesM_bd (P := H) (k := H 136) ha ht
       rw [halfM]
       first | exact (if_pos (by omega)).symm | exact (if_neg (by omega)).symm
    ·skip
     obtain ⟨J, hD, k0, k2, rfl⟩ := hI
     refine WP_know (d := 0) (v := .ptr 0 0 138) k0 ?_
     refine WP_know (d := 2) (v := .ptr 1 0 133) k2 ?_
     refine WP_cut (fun f n L => ∃ (J : Nat → Int), (Done H J (brd4 H (takesM H (H 136) (H 133) (H 134)) (H 133) (H 134) (H 136) (H 137) (H 135) (castlingM (H 136) (H 133) (H 134) (H 137) (H 129))) (andNotM (H 129) (orM (orM 0 (lostM (H 133))) (lostM (H 134)))) (overM (H 136) (H 133) (H 134) (H 137)) (halfM H (H 136) (takesM H (H 136) (H 133) (H 134))) (fullM H)) ∧ (f 0 = .ptr 0 0 138) ∧ (f 2 = .ptr 1 0 133) ∧ (L = [(1, .sc .var 133 (ia fun _ => 0)), (0, .sc .var 138 (ia J))])) ?_ (fun f nb L hI => ?_)
     ·skip
      refine WP_seq ?_
      refine WP_ops ?_
      refine WO_mv (v := .ptr _ _ _) rfl ?_
      refine WO_nilckP rfl ?_
      refine WO_fa (o' := 0) rfl rfl rfl ?_
      refine WO_fa (o' := 128) rfl rfl rfl ?_
      refine WO_ldI (x := H 128) rfl rfl (.tail _ (.head _)) (hD.s) ?_
      refine WO_bin (r := .bool _) rfl rfl rfl ?_
      refine WO_nil ?_
      refine WP_cond rfl (fun h6 => ?_) (fun h6 => ?_)
      ·try simp only [NM] at h6
       try simp only [isM, decide_eq_true_eq, decide_eq_false_iff_not] at h6
       refine WP_ops ?_
       refine WO_mv (v := .ptr _ _ _) rfl ?_
       refine WO_mv (v := .ptr _ _ _) rfl ?_
       refine WO_nilckP rfl ?_
       refine WO_fa (o' := 0) rfl rfl rfl ?_
       refine WO_fa (o' := 132) rfl rfl rfl ?_
       refine WO_ldI (x := H 132) rfl rfl (.tail _ (.head _)) (hD.f) ?_
       refine WO_mn2 rfl rfl ?_
       refine WO_bin rfl rfl rfl ?_
       refine WO_nilckP rfl ?_
       refine WO_fa (o' := 0) rfl rfl rfl ?_
       refine WO_fa (o' := 132) rfl rfl rfl ?_
       refine WO_stI rfl rfl rfl rfl (.there .here) ?_
       refine WO_nil ?_
       refine ⟨_, (.cons_cons _ (.cons_cons _ .slnil)), _, ?_, rfl, rfl, rfl⟩
       refine ⟨(by intro i hi; (repeat rw [ov_out (by omega)]); exact hD.lo i hi), hD.s, hD.c, hD.o, hD.h, ?_⟩
       rw [fullM]
       first | exact (if_pos (by assumption)).symm | exact hD.f.trans (if_neg (by assumption)).symm
      ·try simp only [NM] at h6
       try simp only [isM, decide_eq_true_eq, decide_eq_false_iff_not] at h6
       refine WP_skip ?_
       refine ⟨_, (.cons_cons _ (.cons_cons _ .slnil)), _, ?_, rfl, rfl, rfl⟩
       refine ⟨(by intro i hi; (repeat rw [ov_out (by omega)]); exact hD.lo i hi), hD.s, hD.c, hD.o, hD.h, ?_⟩
       rw [fullM]
       first | exact (if_pos (by assumption)).symm | exact hD.f.trans (if_neg (by assumption)).symm
     ·skip
      obtain ⟨J, hE, k0, k2, rfl⟩ := hI
      refine WP_know (d := 0) (v := .ptr 0 0 138) k0 ?_
      refine WP_know (d := 2) (v := .ptr 1 0 133) k2 ?_
      refine WP_seq ?_
      refine WP_ops ?_
      refine WO_mv (v := .ptr _ _ _) rfl ?_
      refine WO_mv (v := .ptr _ _ _) rfl ?_
      refine WO_nilckP rfl ?_
      refine WO_fa (o' := 0) rfl rfl rfl ?_
      refine WO_fa (o' := 128) rfl rfl rfl ?_
      refine WO_ldI (x := H 128) rfl rfl (.tail _ (.head _)) (hE.s) ?_
      refine WO_call0 rfl (RF_of (Other_run _)) rfl rfl rfl ?_
      refine WO_nilckP rfl ?_
      refine WO_fa (o' := 0) rfl rfl rfl ?_
      refine WO_fa (o' := 128) rfl rfl rfl ?_
      refine WO_stI rfl rfl rfl rfl (.there .here) ?_
      refine WO_nil ?_
      refine WP_seq ?_
      refine WP_ops ?_
      refine WO_mv (v := .ptr _ _ _) rfl ?_
      refine WO_nilckP rfl ?_
      refine WO_fa (o' := 0) rfl rfl rfl ?_
      first | refine WO_ldA0 rfl rfl (.tail _ (.head _)) ?_ | refine WO_ldAI rfl rfl (.tail _ (.head _)) ?_
      refine WO_stA rfl rfl rfl rfl .here ?_
      refine WO_nil ?_
      refine WP_ret ?_
      refine ⟨_, RS_cell rfl rfl (.head _) (RS_nil), ?_⟩
      refine ⟨_, congrArg (fun g => V.agg 133 (ia g)) (funext fun i => ?_), (.tail _ (.head _))⟩
      exact done_is hE i
/-- A hand of a position and a move. -/
structure HandOf (P m H : Nat → Int) : Prop where
  lo : ∀ i, i < 129 → H i = P i
  c : H 129 = castM P
  hi : ∀ i, 130 ≤ i → i < 133 → H i = P i
  a : H 133 = m 0
  t : H 134 = m 1
  b : H 135 = m 2
  k : H 136 = P (sqI (m 0))
  s : H 137 = P (sqI (m 0) + 1)

/-- What is first laid. -/
def hand0 (P m : Nat → Int) : Nat → Int := ovA (ovA (ovA (fun _ => 0) 0 133 P) 133 3 m) 136 2 (dp P (sqI (m 0)))

theorem hand0_lo {P m : Nat → Int} {i : Nat} (h : i < 133) : hand0 P m i = P i := by
  unfold hand0
  rw [ovA_out (by omega), ovA_out (by omega), ovA_at (by omega), Nat.sub_zero]

theorem hand_keep {P m : Nat → Int} (h : 0 ≤ P 129 ∧ P 129 ≤ 15) : HandOf P m (hand0 P m) :=
  ⟨fun i hi => hand0_lo (by omega), by rw [hand0_lo (by omega), castM, if_neg (by omega)], fun i _ hi => hand0_lo hi, rfl, rfl, rfl, rfl, rfl⟩

theorem hand_none {P m : Nat → Int} (h : P 129 < 0 ∨ 15 < P 129) : HandOf P m (ov (hand0 P m) 129 0) :=
  ⟨fun i hi => by rw [ov_out (by omega)]; exact hand0_lo (by omega), by rw [castM, if_pos h]; rfl, fun i h1 hi => by rw [ov_out (by omega)]; exact hand0_lo hi, rfl, rfl, rfl, rfl, rfl⟩

theorem can_no {P : Nat → Int} {a t b : Int} (h : ¬ (1 ≤ P (sqI a) ∧ P (sqI a) ≤ 6 ∧ P (sqI a + 1) = P 128 ∧ (P (sqI a + 1) = 0 ∨ P (sqI a + 1) = 1) ∧ (if P (sqI a) = 1 ∧ t / 8 = 7 * (1 - P (sqI a + 1)) then 2 ≤ b ∧ b ≤ 5 else b = 0))) : canM P a t b = false := decide_eq_false h
theorem can_yes {P : Nat → Int} {a t b : Int} (h : 1 ≤ P (sqI a) ∧ P (sqI a) ≤ 6 ∧ P (sqI a + 1) = P 128 ∧ (P (sqI a + 1) = 0 ∨ P (sqI a + 1) = 1) ∧ (if P (sqI a) = 1 ∧ t / 8 = 7 * (1 - P (sqI a + 1)) then 2 ≤ b ∧ b ≤ 5 else b = 0)) : canM P a t b = true := decide_eq_true h

theorem taken_run (P m : Nat → Int) : WR AM 95 [.agg 133 (ia P), .agg 3 (ia m)] [] (fun v _ L => (v = .tup [.pnil, .s (.int .i64 (errM P (m 0) (m 1) (m 2)))] ∧ errM P (m 0) (m 1) (m 2) ≠ 0) ∨ (errM P (m 0) (m 1) (m 2) = 0 ∧ ∃ b H, v = .tup [.ptr b 0 138, .s (.int .i64 (errM P (m 0) (m 1) (m 2)))] ∧ HandOf P m H ∧ (b, Blk.sc .var 138 (ia H)) ∈ L)) := by
 refine WR_fn (a := a95) rfl rfl (entryF _) (entry_E (Nat.le_of_ble_eq_true rfl)) (m := 0) rfl ?_
 refine WP_seq ?_
 refine WP_ops ?_
 refine WO_boxA rfl ?_
 refine WO_boxA rfl ?_
 refine WO_mv rfl ?_
 refine WO_mv rfl ?_
 refine WO_nil ?_
 refine WP_seq ?_
 refine WP_seq ?_
 refine WP_ops ?_
 refine WO_fa (o' := 0) rfl rfl rfl ?_
 refine WO_ldI rfl rfl (.head _) rfl ?_
 refine WO_call0 rfl (SqIs_run _) rfl rfl rfl ?_
 refine WO_un (r := .bool _) rfl rfl ?_
 refine WO_mv (v := .s (.bool _)) rfl ?_
 refine WO_case (t := 13) rfl (fun h7 => ?_) (fun h7 => ?_)
 ·try simp only [NM] at h7
  try simp only [isM, decide_eq_true_eq, decide_eq_false_iff_not] at h7
  refine WO_gf rfl rfl ?_
  refine WO_gf rfl rfl ?_
  refine WO_gf rfl rfl ?_
  refine WO_gf rfl rfl ?_
  refine WO_pick (v := .s (.bool _)) rfl rfl ?_
  refine WO_mv (v := .s (.bool _)) rfl ?_
  refine WO_gf rfl rfl ?_
  refine WO_gf rfl rfl ?_
  refine WO_gf rfl rfl ?_
  refine WO_gf rfl rfl ?_
  refine WO_gf rfl rfl ?_
  refine WO_pick (v := .s (.bool _)) rfl rfl ?_
  refine WO_nil ?_
  refine WP_cond rfl (fun _ => ?_) (fun h => nomatch h)
  refine WP_seq ?_
  refine WP_ops ?_
  refine WO_mv rfl ?_
  refine WO_mv rfl ?_
  refine WO_nil ?_
  refine WP_ret ?_
  refine ⟨_, RS_tmp (v := .pnil) rfl (RS_tmp (v := .s (.int _ _)) rfl (RS_nil)), ?_⟩
  have he := errM_out (P := P) (a := m 0) (t := m 1) (b := m 2) (by omega)
  rw [he]
  exact .inl ⟨rfl, by decide⟩
 ·try simp only [NM] at h7
  try simp only [isM, decide_eq_true_eq, decide_eq_false_iff_not] at h7
  refine WO_gt rfl ?_
  refine WO_fa (o' := 1) rfl rfl rfl ?_
  refine WO_gt rfl ?_
  refine WO_ldI rfl rfl (.head _) rfl ?_
  refine WO_gt rfl ?_
  refine WO_call0 rfl (SqIs_run _) rfl rfl rfl ?_
  refine WO_gt rfl ?_
  refine WO_un (r := .bool _) rfl rfl ?_
  refine WO_pick (v := .s (.bool _)) rfl rfl ?_
  refine WO_mv (v := .s (.bool _)) rfl ?_
  refine WO_case (t := 19) rfl (fun h8 => ?_) (fun h8 => ?_)
  ·try simp only [NM] at h8
   try simp only [isM, decide_eq_true_eq, decide_eq_false_iff_not] at h8
   refine WO_gf rfl rfl ?_
   refine WO_gf rfl rfl ?_
   refine WO_gf rfl rfl ?_
   refine WO_gf rfl rfl ?_
   refine WO_gf rfl rfl ?_
   refine WO_pick (v := .s (.bool _)) rfl rfl ?_
   refine WO_nil ?_
   refine WP_cond rfl (fun _ => ?_) (fun h => nomatch h)
   refine WP_seq ?_
   refine WP_ops ?_
   refine WO_mv rfl ?_
   refine WO_mv rfl ?_
   refine WO_nil ?_
   refine WP_ret ?_
   refine ⟨_, RS_tmp (v := .pnil) rfl (RS_tmp (v := .s (.int _ _)) rfl (RS_nil)), ?_⟩
   have he := errM_out (P := P) (a := m 0) (t := m 1) (b := m 2) (by omega)
   rw [he]
   exact .inl ⟨rfl, by decide⟩
  ·try simp only [NM] at h8
   try simp only [isM, decide_eq_true_eq, decide_eq_false_iff_not] at h8
   refine WO_gt rfl ?_
   refine WO_fa (o' := 0) rfl rfl rfl ?_
   refine WO_gt rfl ?_
   refine WO_ldI rfl rfl (.head _) rfl ?_
   refine WO_gt rfl ?_
   refine WO_fa (o' := 1) rfl rfl rfl ?_
   refine WO_gt rfl ?_
   refine WO_ldI rfl rfl (.head _) rfl ?_
   refine WO_gt rfl ?_
   refine WO_bin (r := .bool _) rfl rfl rfl ?_
   refine WO_pick (v := .s (.bool _)) rfl rfl ?_
   refine WO_nil ?_
   refine WP_cond rfl (fun h9 => ?_) (fun h9 => ?_)
   ·try simp only [NM] at h9
    try simp only [isM, decide_eq_true_eq, decide_eq_false_iff_not] at h9
    refine WP_seq ?_
    refine WP_ops ?_
    refine WO_mv rfl ?_
    refine WO_mv rfl ?_
    refine WO_nil ?_
    refine WP_ret ?_
    refine ⟨_, RS_tmp (v := .pnil) rfl (RS_tmp (v := .s (.int _ _)) rfl (RS_nil)), ?_⟩
    have he := errM_out (P := P) (a := m 0) (t := m 1) (b := m 2) (by omega)
    rw [he]
    exact .inl ⟨rfl, by decide⟩
   ·try simp only [NM] at h9
    try simp only [isM, decide_eq_true_eq, decide_eq_false_iff_not] at h9
    refine WP_skip ?_
    refine WP_seq ?_
    refine WP_ops ?_
    first | refine WO_ldA0 rfl rfl (.tail _ (.head _)) ?_ | refine WO_ldAI rfl rfl (.tail _ (.head _)) ?_
    first | refine WO_ldA0 rfl rfl (.head _) ?_ | refine WO_ldAI rfl rfl (.head _) ?_
    refine WO_fa (o' := 0) rfl rfl rfl ?_
    refine WO_ldI rfl rfl (.head _) rfl ?_
    refine WO_fa (o' := 0) rfl rfl rfl ?_
    refine WO_ixa rfl rfl rfl (by omega) ?_
    first | refine WO_ldA0 rfl rfl (.tail _ (.head _)) ?_ | refine WO_ldAI rfl rfl (.tail _ (.head _)) ?_
    refine WO_buildI rfl (.agg rfl (.agg rfl (.agg rfl .nil))) ?_
    refine WO_boxA rfl ?_
    refine WO_mv (v := .ptr _ _ _) rfl ?_
    refine WO_nil ?_
    refine WP_cut (fun f n L => ∃ (H : Nat → Int), (HandOf P m H) ∧ (0 ≤ m 0 ∧ m 0 < 64) ∧ (0 ≤ m 1 ∧ m 1 < 64) ∧ (m 0 ≠ m 1) ∧ (f 2 = .ptr 0 0 133) ∧ (f 3 = .ptr 1 0 3) ∧ (f 6 = .ptr 2 0 138) ∧ (L = [(2, .sc .var 138 (ia H)), (1, .sc .var 3 (ia m)), (0, .sc .var 133 (ia P))]) ∧ (n = 3)) ?_ (fun f nb L hI => ?_)
    ·skip
     refine WP_seq ?_
     refine WP_ops ?_
     refine WO_mv (v := .ptr _ _ _) rfl ?_
     refine WO_nilckP rfl ?_
     refine WO_fa (o' := 0) rfl rfl rfl ?_
     refine WO_fa (o' := 129) rfl rfl rfl ?_
     refine WO_ldI (x := P 129) rfl rfl (.head _) (rfl) ?_
     refine WO_bin (r := .bool _) rfl rfl rfl ?_
     refine WO_mv (v := .s (.bool _)) rfl ?_
     refine WO_case (t := 41) rfl (fun h10 => ?_) (fun h10 => ?_)
     ·try simp only [NM] at h10
      try simp only [isM, decide_eq_true_eq, decide_eq_false_iff_not] at h10
      refine WO_gf rfl rfl ?_
      refine WO_gf rfl rfl ?_
      refine WO_gf rfl rfl ?_
      refine WO_gf rfl rfl ?_
      refine WO_gf rfl rfl ?_
      refine WO_gf rfl rfl ?_
      refine WO_pick (v := .s (.bool _)) rfl rfl ?_
      refine WO_nil ?_
      refine WP_cond rfl (fun _ => ?_) (fun h => nomatch h)
      refine WP_ops ?_
      refine WO_mv (v := .ptr _ _ _) rfl ?_
      refine WO_nilckP rfl ?_
      refine WO_fa (o' := 0) rfl rfl rfl ?_
      refine WO_fa (o' := 129) rfl rfl rfl ?_
      refine WO_stI rfl rfl rfl rfl .here ?_
      refine WO_nil ?_
      refine ⟨_, (.cons_cons _ (.cons_cons _ (.cons_cons _ .slnil))), _, ?_, by omega, by omega, by omega, rfl, rfl, rfl, rfl, rfl⟩
      first | exact hand_none (.inl (by assumption)) | exact hand_none (.inr (by assumption)) | exact hand_keep ⟨by omega, by omega⟩
     ·try simp only [NM] at h10
      try simp only [isM, decide_eq_true_eq, decide_eq_false_iff_not] at h10
      refine WO_gt rfl ?_
      refine WO_mv (v := .ptr _ _ _) rfl ?_
      refine WO_gt rfl ?_
      refine WO_nilckP rfl ?_
      refine WO_gt rfl ?_
      refine WO_fa (o' := 0) rfl rfl rfl ?_
      refine WO_gt rfl ?_
      refine WO_fa (o' := 129) rfl rfl rfl ?_
      refine WO_gt rfl ?_
      refine WO_ldI (x := P 129) rfl rfl (.head _) (rfl) ?_
      refine WO_gt rfl ?_
      refine WO_bin (r := .bool _) rfl rfl rfl ?_
      refine WO_pick (v := .s (.bool _)) rfl rfl ?_
      refine WO_nil ?_
      refine WP_cond rfl (fun h11 => ?_) (fun h11 => ?_)
      ·try simp only [NM] at h11
       try simp only [isM, decide_eq_true_eq, decide_eq_false_iff_not] at h11
       refine WP_ops ?_
       refine WO_mv (v := .ptr _ _ _) rfl ?_
       refine WO_nilckP rfl ?_
       refine WO_fa (o' := 0) rfl rfl rfl ?_
       refine WO_fa (o' := 129) rfl rfl rfl ?_
       refine WO_stI rfl rfl rfl rfl .here ?_
       refine WO_nil ?_
       refine ⟨_, (.cons_cons _ (.cons_cons _ (.cons_cons _ .slnil))), _, ?_, by omega, by omega, by omega, rfl, rfl, rfl, rfl, rfl⟩
       first | exact hand_none (.inl (by assumption)) | exact hand_none (.inr (by assumption)) | exact hand_keep ⟨by omega, by omega⟩
      ·try simp only [NM] at h11
       try simp only [isM, decide_eq_true_eq, decide_eq_false_iff_not] at h11
       refine WP_skip ?_
       refine ⟨_, (.cons_cons _ (.cons_cons _ (.cons_cons _ .slnil))), _, ?_, by omega, by omega, by omega, rfl, rfl, rfl, rfl, rfl⟩
       first | exact hand_none (.inl (by assumption)) | exact hand_none (.inr (by assumption)) | exact hand_keep ⟨by omega, by omega⟩
    ·skip
     obtain ⟨H, hH, ha, ht, hat, k2, k3, k6, rfl, rfl⟩ := hI
     refine WP_know (d := 2) (v := .ptr 0 0 133) k2 ?_
     refine WP_know (d := 3) (v := .ptr 1 0 3) k3 ?_
     refine WP_know (d := 6) (v := .ptr 2 0 138) k6 ?_
     refine WP_seq ?_
     refine WP_ops ?_
     refine WO_mv (v := .ptr _ _ _) rfl ?_
     refine WO_nilckP rfl ?_
     refine WO_fa (o' := 136) rfl rfl rfl ?_
     first | refine WO_ldA0 rfl rfl (.head _) ?_ | refine WO_ldAI rfl rfl (.head _) ?_
     refine WO_allocI ?_
     refine WO_stA rfl rfl rfl rfl .here ?_
     refine WO_nil ?_
     refine WP_seq ?_
     refine WP_seq ?_
     refine WP_ops ?_
     refine WO_fa (o' := 0) rfl rfl rfl ?_
     refine WO_ldI (x := P (sqI (m 0))) rfl rfl (.head _) (hH.k) ?_
     refine WO_bin (r := .bool _) rfl rfl rfl ?_
     refine WO_mv (v := .s (.bool _)) rfl ?_
     refine WO_case (t := 60) rfl (fun h12 => ?_) (fun h12 => ?_)
     ·try simp only [NM] at h12
      try simp only [isM, decide_eq_true_eq, decide_eq_false_iff_not] at h12
      refine WO_gf rfl rfl ?_
      refine WO_gf rfl rfl ?_
      refine WO_gf rfl rfl ?_
      refine WO_pick (v := .s (.bool _)) rfl rfl ?_
      refine WO_mv (v := .s (.bool _)) rfl ?_
      refine WO_gf rfl rfl ?_
      refine WO_gf rfl rfl ?_
      refine WO_gf rfl rfl ?_
      refine WO_gf rfl rfl ?_
      refine WO_gf rfl rfl ?_
      refine WO_pick (v := .s (.bool _)) rfl rfl ?_
      refine WO_mv (v := .s (.bool _)) rfl ?_
      refine WO_gf rfl rfl ?_
      refine WO_gf rfl rfl ?_
      refine WO_gf rfl rfl ?_
      refine WO_gf rfl rfl ?_
      refine WO_gu rfl ?_
      refine WO_gu rfl ?_
      refine WO_gu rfl ?_
      refine WO_gf rfl rfl ?_
      refine WO_pick (v := .s (.bool _)) rfl rfl ?_
      refine WO_nil ?_
      refine WP_cond rfl (fun _ => ?_) (fun h => nomatch h)
      refine WP_seq ?_
      refine WP_ops ?_
      refine WO_mv rfl ?_
      refine WO_mv rfl ?_
      refine WO_nil ?_
      refine WP_ret ?_
      refine ⟨_, RS_tmp (v := .pnil) rfl (RS_tmp (v := .s (.int _ _)) rfl (RS_nil)), ?_⟩
      have hh : canM P (m 0) (m 1) (m 2) = false := can_no (by first | omega | (split <;> omega))
      have he := errM_not (by omega) hh
      rw [he]
      exact .inl ⟨rfl, by decide⟩
     ·try simp only [NM] at h12
      try simp only [isM, decide_eq_true_eq, decide_eq_false_iff_not] at h12
      refine WO_gt rfl ?_
      refine WO_fa (o' := 0) rfl rfl rfl ?_
      refine WO_gt rfl ?_
      refine WO_ldI (x := P (sqI (m 0))) rfl rfl (.head _) (hH.k) ?_
      refine WO_gt rfl ?_
      refine WO_bin (r := .bool _) rfl rfl rfl ?_
      refine WO_pick (v := .s (.bool _)) rfl rfl ?_
      refine WO_mv (v := .s (.bool _)) rfl ?_
      refine WO_case (t := 65) rfl (fun h13 => ?_) (fun h13 => ?_)
      ·try simp only [NM] at h13
       try simp only [isM, decide_eq_true_eq, decide_eq_false_iff_not] at h13
       refine WO_gf rfl rfl ?_
       refine WO_gf rfl rfl ?_
       refine WO_gf rfl rfl ?_
       refine WO_gf rfl rfl ?_
       refine WO_gf rfl rfl ?_
       refine WO_pick (v := .s (.bool _)) rfl rfl ?_
       refine WO_mv (v := .s (.bool _)) rfl ?_
       refine WO_gf rfl rfl ?_
       refine WO_gf rfl rfl ?_
       refine WO_gf rfl rfl ?_
       refine WO_gf rfl rfl ?_
       refine WO_gu rfl ?_
       refine WO_gu rfl ?_
       refine WO_gu rfl ?_
       refine WO_gf rfl rfl ?_
       refine WO_pick (v := .s (.bool _)) rfl rfl ?_
       refine WO_nil ?_
       refine WP_cond rfl (fun _ => ?_) (fun h => nomatch h)
       refine WP_seq ?_
       refine WP_ops ?_
       refine WO_mv rfl ?_
       refine WO_mv rfl ?_
       refine WO_nil ?_
       refine WP_ret ?_
       refine ⟨_, RS_tmp (v := .pnil) rfl (RS_tmp (v := .s (.int _ _)) rfl (RS_nil)), ?_⟩
       have hh : canM P (m 0) (m 1) (m 2) = false := can_no (by first | omega | (split <;> omega))
       have he := errM_not (by omega) hh
       rw [he]
       exact .inl ⟨rfl, by decide⟩
      ·try simp only [NM] at h13
       try simp only [isM, decide_eq_true_eq, decide_eq_false_iff_not] at h13
       refine WO_gt rfl ?_
       refine WO_fa (o' := 1) rfl rfl rfl ?_
       refine WO_gt rfl ?_
       refine WO_ldI (x := P (sqI (m 0) + 1)) rfl rfl (.head _) (hH.s) ?_
       refine WO_gt rfl ?_
       refine WO_fa (o' := 128) rfl rfl rfl ?_
       refine WO_gt rfl ?_
       refine WO_ldI rfl rfl (.tail _ (.tail _ (.tail _ (.head _)))) rfl ?_
       refine WO_gt rfl ?_
       refine WO_bin (r := .bool _) rfl rfl rfl ?_
       refine WO_pick (v := .s (.bool _)) rfl rfl ?_
       refine WO_mv (v := .s (.bool _)) rfl ?_
       refine WO_case (t := 72) rfl (fun h14 => ?_) (fun h14 => ?_)
       ·try simp only [NM] at h14
        try simp only [isM, decide_eq_true_eq, decide_eq_false_iff_not] at h14
        refine WO_gf rfl rfl ?_
        refine WO_gf rfl rfl ?_
        refine WO_gf rfl rfl ?_
        refine WO_gf rfl rfl ?_
        refine WO_gu rfl ?_
        refine WO_gu rfl ?_
        refine WO_gu rfl ?_
        refine WO_gf rfl rfl ?_
        refine WO_pick (v := .s (.bool _)) rfl rfl ?_
        refine WO_nil ?_
        refine WP_cond rfl (fun _ => ?_) (fun h => nomatch h)
        refine WP_seq ?_
        refine WP_ops ?_
        refine WO_mv rfl ?_
        refine WO_mv rfl ?_
        refine WO_nil ?_
        refine WP_ret ?_
        refine ⟨_, RS_tmp (v := .pnil) rfl (RS_tmp (v := .s (.int _ _)) rfl (RS_nil)), ?_⟩
        have hh : canM P (m 0) (m 1) (m 2) = false := can_no (by first | omega | (split <;> omega))
        have he := errM_not (by omega) hh
        rw [he]
        exact .inl ⟨rfl, by decide⟩
       ·try simp only [NM] at h14
        try simp only [isM, decide_eq_true_eq, decide_eq_false_iff_not] at h14
        refine WO_gt rfl ?_
        refine WO_fa (o' := 1) rfl rfl rfl ?_
        refine WO_gt rfl ?_
        refine WO_ldI (x := P (sqI (m 0) + 1)) rfl rfl (.head _) (hH.s) ?_
        refine WO_gt rfl ?_
        refine WO_bin (r := .bool _) rfl rfl rfl ?_
        refine WO_gt rfl ?_
        refine WO_mv (v := .s (.bool _)) rfl ?_
        refine WO_case (t := 76) rfl (fun h15 => ?_) (fun h15 => ?_)
        ·try simp only [NM] at h15
         try simp only [isM, decide_eq_true_eq, decide_eq_false_iff_not] at h15
         refine WO_gt rfl ?_
         refine WO_fa (o' := 1) rfl rfl rfl ?_
         refine WO_gt rfl ?_
         refine WO_ldI (x := P (sqI (m 0) + 1)) rfl rfl (.head _) (hH.s) ?_
         refine WO_gt rfl ?_
         refine WO_bin (r := .bool _) rfl rfl rfl ?_
         refine WO_gt rfl ?_
         refine WO_pick (v := .s (.bool _)) rfl rfl ?_
         refine WO_pick (v := .s (.bool _)) rfl rfl ?_
         refine WO_nil ?_
         refine WP_cond rfl (fun h16 => ?_) (fun h16 => ?_)
         ·try simp only [NM] at h16
          try simp only [isM, decide_eq_true_eq, decide_eq_false_iff_not] at h16
          refine WP_seq ?_
          refine WP_ops ?_
          refine WO_mv rfl ?_
          refine WO_mv rfl ?_
          refine WO_nil ?_
          refine WP_ret ?_
          refine ⟨_, RS_tmp (v := .pnil) rfl (RS_tmp (v := .s (.int _ _)) rfl (RS_nil)), ?_⟩
          have hh : canM P (m 0) (m 1) (m 2) = false := can_no (by first | omega | (split <;> omega))
          have he := errM_not (by omega) hh
          rw [he]
          exact .inl ⟨rfl, by decide⟩
         ·try simp only [NM] at h16
          try simp only [isM, decide_eq_true_eq, decide_eq_false_iff_not] at h16
          refine WP_skip ?_
          refine WP_seq ?_
          refine WP_ops ?_
          refine WO_fa (o' := 0) rfl rfl rfl ?_
          refine WO_ldI (x := P (sqI (m 0))) rfl rfl (.head _) (hH.k) ?_
          refine WO_bin (r := .bool _) rfl rfl rfl ?_
          refine WO_mv (v := .s (.bool _)) rfl ?_
          refine WO_case (t := 85) rfl (fun h17 => ?_) (fun h17 => ?_)
          ·try simp only [NM] at h17
           try simp only [isM, decide_eq_true_eq, decide_eq_false_iff_not] at h17
           refine WO_gt rfl ?_
           refine WO_fa (o' := 1) rfl rfl rfl ?_
           refine WO_gt rfl ?_
           refine WO_ldI rfl rfl (.tail _ (.tail _ (.head _))) rfl ?_
           refine WO_gt rfl ?_
           refine WO_callq0 rfl (Rank_sq (by omega)) rfl rfl rfl ?_
           refine WO_gt rfl ?_
           refine WO_fa (o' := 1) rfl rfl rfl ?_
           refine WO_gt rfl ?_
           refine WO_ldI (x := P (sqI (m 0) + 1)) rfl rfl (.head _) (hH.s) ?_
           refine WO_gt rfl ?_
           refine WO_sub rfl rfl (by omega) ?_
           refine WO_gt rfl ?_
           refine WO_mul rfl rfl (by omega) ?_
           refine WO_gt rfl ?_
           refine WO_bin (r := .bool _) rfl rfl rfl ?_
           refine WO_pick (v := .s (.bool _)) rfl rfl ?_
           refine WO_mv (v := .s (.bool _)) rfl ?_
           refine WO_nil ?_
           refine WP_seq ?_
           refine WP_seq ?_
           refine WP_ops ?_
           refine WO_mv (v := .s (.bool _)) rfl ?_
           refine WO_mv (v := .s (.bool _)) rfl ?_
           refine WO_case (t := 96) rfl (fun h18 => ?_) (fun h18 => ?_)
           ·try simp only [NM] at h18
            try simp only [isM, decide_eq_true_eq, decide_eq_false_iff_not] at h18
            refine WO_gt rfl ?_
            refine WO_fa (o' := 2) rfl rfl rfl ?_
            refine WO_gt rfl ?_
            refine WO_ldI rfl rfl (.tail _ (.tail _ (.head _))) rfl ?_
            refine WO_gt rfl ?_
            refine WO_bin (r := .bool _) rfl rfl rfl ?_
            refine WO_gt rfl ?_
            refine WO_mv (v := .s (.bool _)) rfl ?_
            refine WO_case (t := 100) rfl (fun h19 => ?_) (fun h19 => ?_)
            ·try simp only [NM] at h19
             try simp only [isM, decide_eq_true_eq, decide_eq_false_iff_not] at h19
             refine WO_gf rfl rfl ?_
             refine WO_gf rfl rfl ?_
             refine WO_gf rfl rfl ?_
             refine WO_gt rfl ?_
             refine WO_pick (v := .s (.bool _)) rfl rfl ?_
             refine WO_pick (v := .s (.bool _)) rfl rfl ?_
             refine WO_mv (v := .s (.bool _)) rfl ?_
             refine WO_gf rfl rfl ?_
             refine WO_gf rfl rfl ?_
             refine WO_gf rfl rfl ?_
             refine WO_gu rfl ?_
             refine WO_gu rfl ?_
             refine WO_gu rfl ?_
             refine WO_gf rfl rfl ?_
             refine WO_pick (v := .s (.bool _)) rfl rfl ?_
             refine WO_nil ?_
             refine WP_cond rfl (fun _ => ?_) (fun h => nomatch h)
             refine WP_seq ?_
             refine WP_ops ?_
             refine WO_mv rfl ?_
             refine WO_mv rfl ?_
             refine WO_nil ?_
             refine WP_ret ?_
             refine ⟨_, RS_tmp (v := .pnil) rfl (RS_tmp (v := .s (.int _ _)) rfl (RS_nil)), ?_⟩
             have hh : canM P (m 0) (m 1) (m 2) = false := can_no (by first | omega | (split <;> omega))
             have he := errM_not (by omega) hh
             rw [he]
             exact .inl ⟨rfl, by decide⟩
            ·try simp only [NM] at h19
             try simp only [isM, decide_eq_true_eq, decide_eq_false_iff_not] at h19
             refine WO_gt rfl ?_
             refine WO_fa (o' := 2) rfl rfl rfl ?_
             refine WO_gt rfl ?_
             refine WO_ldI rfl rfl (.tail _ (.tail _ (.head _))) rfl ?_
             refine WO_gt rfl ?_
             refine WO_bin (r := .bool _) rfl rfl rfl ?_
             refine WO_gt rfl ?_
             refine WO_pick (v := .s (.bool _)) rfl rfl ?_
             refine WO_pick (v := .s (.bool _)) rfl rfl ?_
             refine WO_mv (v := .s (.bool _)) rfl ?_
             refine WO_case (t := 106) rfl (fun h20 => ?_) (fun h20 => ?_)
             ·try simp only [NM] at h20
              try simp only [isM, decide_eq_true_eq, decide_eq_false_iff_not] at h20
              refine WO_gf rfl rfl ?_
              refine WO_gf rfl rfl ?_
              refine WO_gf rfl rfl ?_
              refine WO_gu rfl ?_
              refine WO_gu rfl ?_
              refine WO_gu rfl ?_
              refine WO_gf rfl rfl ?_
              refine WO_pick (v := .s (.bool _)) rfl rfl ?_
              refine WO_nil ?_
              refine WP_cond rfl (fun _ => ?_) (fun h => nomatch h)
              refine WP_seq ?_
              refine WP_ops ?_
              refine WO_mv rfl ?_
              refine WO_mv rfl ?_
              refine WO_nil ?_
              refine WP_ret ?_
              refine ⟨_, RS_tmp (v := .pnil) rfl (RS_tmp (v := .s (.int _ _)) rfl (RS_nil)), ?_⟩
              have hh : canM P (m 0) (m 1) (m 2) = false := can_no (by first | omega | (split <;> omega))
              have he := errM_not (by omega) hh
              rw [he]
              exact .inl ⟨rfl, by decide⟩
             ·try simp only [NM] at h20
              try simp only [isM, decide_eq_true_eq, decide_eq_false_iff_not] at h20
              refine WO_gt rfl ?_
              refine WO_mv (v := .s (.bool _)) rfl ?_
              refine WO_gt rfl ?_
              refine WO_un (r := .bool _) rfl rfl ?_
              refine WO_gt rfl ?_
              refine WO_mv (v := .s (.bool _)) rfl ?_
              refine WO_case (t := 109) rfl (fun h21 => ?_) (fun h21 => ?_)
              ·try simp only [NM] at h21
               try simp only [isM, decide_eq_true_eq, decide_eq_false_iff_not] at h21
               refine WO_gt rfl ?_
               refine WO_fa (o' := 2) rfl rfl rfl ?_
               refine WO_gt rfl ?_
               refine WO_ldI rfl rfl (.tail _ (.tail _ (.head _))) rfl ?_
               refine WO_gt rfl ?_
               refine WO_bin (r := .bool _) rfl rfl rfl ?_
               refine WO_gt rfl ?_
               refine WO_pick (v := .s (.bool _)) rfl rfl ?_
               refine WO_pick (v := .s (.bool _)) rfl rfl ?_
               refine WO_nil ?_
               refine WP_cond rfl (fun h22 => ?_) (fun h22 => ?_)
               ·try simp only [NM] at h22
                try simp only [isM, decide_eq_true_eq, decide_eq_false_iff_not] at h22
                refine WP_seq ?_
                refine WP_ops ?_
                refine WO_mv rfl ?_
                refine WO_mv rfl ?_
                refine WO_nil ?_
                refine WP_ret ?_
                refine ⟨_, RS_tmp (v := .pnil) rfl (RS_tmp (v := .s (.int _ _)) rfl (RS_nil)), ?_⟩
                have hh : canM P (m 0) (m 1) (m 2) = false := can_no (by first | omega | (split <;> omega))
                have he := errM_not (by omega) hh
                rw [he]
                exact .inl ⟨rfl, by decide⟩
               ·try simp only [NM] at h22
                try simp only [isM, decide_eq_true_eq, decide_eq_false_iff_not] at h22
                refine WP_skip ?_
                refine WP_seq ?_
                refine WP_ops ?_
                refine WO_mv (v := .ptr _ _ _) rfl ?_
                refine WO_mv (v := .ptr _ _ _) rfl ?_
                refine WO_mv rfl ?_
                refine WO_nil ?_
                refine WP_ret ?_
                refine ⟨_, RS_tmp (v := .ptr _ _ _) rfl (RS_tmp (v := .s (.int _ _)) rfl (RS_nil)), ?_⟩
                have hh : canM P (m 0) (m 1) (m 2) = true := can_yes (by refine ⟨by omega, by omega, by omega, by omega, ?_⟩; first | omega | (split <;> omega))
                have he := errM_ok (by omega) hh
                rw [he]
                exact .inr ⟨rfl, _, H, rfl, hH, (.tail _ (.head _))⟩
              ·try simp only [NM] at h21
               try simp only [isM, decide_eq_true_eq, decide_eq_false_iff_not] at h21
               refine WO_gf rfl rfl ?_
               refine WO_gf rfl rfl ?_
               refine WO_gf rfl rfl ?_
               refine WO_gt rfl ?_
               refine WO_pick (v := .s (.bool _)) rfl rfl ?_
               refine WO_pick (v := .s (.bool _)) rfl rfl ?_
               refine WO_nil ?_
               refine WP_cond rfl (fun h => nomatch h) (fun _ => ?_)
               refine WP_skip ?_
               refine WP_seq ?_
               refine WP_ops ?_
               refine WO_mv (v := .ptr _ _ _) rfl ?_
               refine WO_mv (v := .ptr _ _ _) rfl ?_
               refine WO_mv rfl ?_
               refine WO_nil ?_
               refine WP_ret ?_
               refine ⟨_, RS_tmp (v := .ptr _ _ _) rfl (RS_tmp (v := .s (.int _ _)) rfl (RS_nil)), ?_⟩
               have hh : canM P (m 0) (m 1) (m 2) = true := can_yes (by refine ⟨by omega, by omega, by omega, by omega, ?_⟩; first | omega | (split <;> omega))
               have he := errM_ok (by omega) hh
               rw [he]
               exact .inr ⟨rfl, _, H, rfl, hH, (.tail _ (.head _))⟩
           ·try simp only [NM] at h18
            try simp only [isM, decide_eq_true_eq, decide_eq_false_iff_not] at h18
            refine WO_gf rfl rfl ?_
            refine WO_gf rfl rfl ?_
            refine WO_gf rfl rfl ?_
            refine WO_gf rfl rfl ?_
            refine WO_gu rfl ?_
            refine WO_gu rfl ?_
            refine WO_gu rfl ?_
            refine WO_gf rfl rfl ?_
            refine WO_pick (v := .s (.bool _)) rfl rfl ?_
            refine WO_mv (v := .s (.bool _)) rfl ?_
            refine WO_gt rfl ?_
            refine WO_mv (v := .s (.bool _)) rfl ?_
            refine WO_gt rfl ?_
            refine WO_un (r := .bool _) rfl rfl ?_
            refine WO_gt rfl ?_
            refine WO_mv (v := .s (.bool _)) rfl ?_
            refine WO_case (t := 109) rfl (fun h23 => ?_) (fun h23 => ?_)
            ·try simp only [NM] at h23
             try simp only [isM, decide_eq_true_eq, decide_eq_false_iff_not] at h23
             refine WO_gt rfl ?_
             refine WO_fa (o' := 2) rfl rfl rfl ?_
             refine WO_gt rfl ?_
             refine WO_ldI rfl rfl (.tail _ (.tail _ (.head _))) rfl ?_
             refine WO_gt rfl ?_
             refine WO_bin (r := .bool _) rfl rfl rfl ?_
             refine WO_gt rfl ?_
             refine WO_pick (v := .s (.bool _)) rfl rfl ?_
             refine WO_pick (v := .s (.bool _)) rfl rfl ?_
             refine WO_nil ?_
             refine WP_cond rfl (fun h24 => ?_) (fun h24 => ?_)
             ·try simp only [NM] at h24
              try simp only [isM, decide_eq_true_eq, decide_eq_false_iff_not] at h24
              refine WP_seq ?_
              refine WP_ops ?_
              refine WO_mv rfl ?_
              refine WO_mv rfl ?_
              refine WO_nil ?_
              refine WP_ret ?_
              refine ⟨_, RS_tmp (v := .pnil) rfl (RS_tmp (v := .s (.int _ _)) rfl (RS_nil)), ?_⟩
              have hh : canM P (m 0) (m 1) (m 2) = false := can_no (by first | omega | (split <;> omega))
              have he := errM_not (by omega) hh
              rw [he]
              exact .inl ⟨rfl, by decide⟩
             ·try simp only [NM] at h24
              try simp only [isM, decide_eq_true_eq, decide_eq_false_iff_not] at h24
              refine WP_skip ?_
              refine WP_seq ?_
              refine WP_ops ?_
              refine WO_mv (v := .ptr _ _ _) rfl ?_
              refine WO_mv (v := .ptr _ _ _) rfl ?_
              refine WO_mv rfl ?_
              refine WO_nil ?_
              refine WP_ret ?_
              refine ⟨_, RS_tmp (v := .ptr _ _ _) rfl (RS_tmp (v := .s (.int _ _)) rfl (RS_nil)), ?_⟩
              have hh : canM P (m 0) (m 1) (m 2) = true := can_yes (by refine ⟨by omega, by omega, by omega, by omega, ?_⟩; first | omega | (split <;> omega))
              have he := errM_ok (by omega) hh
              rw [he]
              exact .inr ⟨rfl, _, H, rfl, hH, (.tail _ (.head _))⟩
            ·try simp only [NM] at h23
             try simp only [isM, decide_eq_true_eq, decide_eq_false_iff_not] at h23
             refine WO_gf rfl rfl ?_
             refine WO_gf rfl rfl ?_
             refine WO_gf rfl rfl ?_
             refine WO_gt rfl ?_
             refine WO_pick (v := .s (.bool _)) rfl rfl ?_
             refine WO_pick (v := .s (.bool _)) rfl rfl ?_
             refine WO_nil ?_
             refine WP_cond rfl (fun h => nomatch h) (fun _ => ?_)
             refine WP_skip ?_
             refine WP_seq ?_
             refine WP_ops ?_
             refine WO_mv (v := .ptr _ _ _) rfl ?_
             refine WO_mv (v := .ptr _ _ _) rfl ?_
             refine WO_mv rfl ?_
             refine WO_nil ?_
             refine WP_ret ?_
             refine ⟨_, RS_tmp (v := .ptr _ _ _) rfl (RS_tmp (v := .s (.int _ _)) rfl (RS_nil)), ?_⟩
             have hh : canM P (m 0) (m 1) (m 2) = true := can_yes (by refine ⟨by omega, by omega, by omega, by omega, ?_⟩; first | omega | (split <;> omega))
             have he := errM_ok (by omega) hh
             rw [he]
             exact .inr ⟨rfl, _, H, rfl, hH, (.tail _ (.head _))⟩
          ·try simp only [NM] at h17
           try simp only [isM, decide_eq_true_eq, decide_eq_false_iff_not] at h17
           refine WO_gf rfl rfl ?_
           refine WO_gf rfl rfl ?_
           refine WO_gf rfl rfl ?_
           refine WO_gf rfl rfl ?_
           refine WO_gf rfl rfl ?_
           refine WO_gf rfl rfl ?_
           refine WO_gf rfl rfl ?_
           refine WO_gf rfl rfl ?_
           refine WO_pick (v := .s (.bool _)) rfl rfl ?_
           refine WO_mv (v := .s (.bool _)) rfl ?_
           refine WO_nil ?_
           refine WP_seq ?_
           refine WP_seq ?_
           refine WP_ops ?_
           refine WO_mv (v := .s (.bool _)) rfl ?_
           refine WO_mv (v := .s (.bool _)) rfl ?_
           refine WO_gf rfl rfl ?_
           refine WO_gf rfl rfl ?_
           refine WO_gf rfl rfl ?_
           refine WO_gf rfl rfl ?_
           refine WO_gu rfl ?_
           refine WO_gu rfl ?_
           refine WO_gu rfl ?_
           refine WO_gf rfl rfl ?_
           refine WO_pick (v := .s (.bool _)) rfl rfl ?_
           refine WO_mv (v := .s (.bool _)) rfl ?_
           refine WO_gt rfl ?_
           refine WO_mv (v := .s (.bool _)) rfl ?_
           refine WO_gt rfl ?_
           refine WO_un (r := .bool _) rfl rfl ?_
           refine WO_gt rfl ?_
           refine WO_mv (v := .s (.bool _)) rfl ?_
           refine WO_gt rfl ?_
           refine WO_fa (o' := 2) rfl rfl rfl ?_
           refine WO_gt rfl ?_
           refine WO_ldI rfl rfl (.tail _ (.tail _ (.head _))) rfl ?_
           refine WO_gt rfl ?_
           refine WO_bin (r := .bool _) rfl rfl rfl ?_
           refine WO_gt rfl ?_
           refine WO_pick (v := .s (.bool _)) rfl rfl ?_
           refine WO_pick (v := .s (.bool _)) rfl rfl ?_
           refine WO_nil ?_
           refine WP_cond rfl (fun h25 => ?_) (fun h25 => ?_)
           ·try simp only [NM] at h25
            try simp only [isM, decide_eq_true_eq, decide_eq_false_iff_not] at h25
            refine WP_seq ?_
            refine WP_ops ?_
            refine WO_mv rfl ?_
            refine WO_mv rfl ?_
            refine WO_nil ?_
            refine WP_ret ?_
            refine ⟨_, RS_tmp (v := .pnil) rfl (RS_tmp (v := .s (.int _ _)) rfl (RS_nil)), ?_⟩
            have hh : canM P (m 0) (m 1) (m 2) = false := can_no (by first | omega | (split <;> omega))
            have he := errM_not (by omega) hh
            rw [he]
            exact .inl ⟨rfl, by decide⟩
           ·try simp only [NM] at h25
            try simp only [isM, decide_eq_true_eq, decide_eq_false_iff_not] at h25
            refine WP_skip ?_
            refine WP_seq ?_
            refine WP_ops ?_
            refine WO_mv (v := .ptr _ _ _) rfl ?_
            refine WO_mv (v := .ptr _ _ _) rfl ?_
            refine WO_mv rfl ?_
            refine WO_nil ?_
            refine WP_ret ?_
            refine ⟨_, RS_tmp (v := .ptr _ _ _) rfl (RS_tmp (v := .s (.int _ _)) rfl (RS_nil)), ?_⟩
            have hh : canM P (m 0) (m 1) (m 2) = true := can_yes (by refine ⟨by omega, by omega, by omega, by omega, ?_⟩; first | omega | (split <;> omega))
            have he := errM_ok (by omega) hh
            rw [he]
            exact .inr ⟨rfl, _, H, rfl, hH, (.tail _ (.head _))⟩
        ·try simp only [NM] at h15
         try simp only [isM, decide_eq_true_eq, decide_eq_false_iff_not] at h15
         refine WO_gf rfl rfl ?_
         refine WO_gf rfl rfl ?_
         refine WO_gf rfl rfl ?_
         refine WO_gt rfl ?_
         refine WO_pick (v := .s (.bool _)) rfl rfl ?_
         refine WO_pick (v := .s (.bool _)) rfl rfl ?_
         refine WO_nil ?_
         refine WP_cond rfl (fun h => nomatch h) (fun _ => ?_)
         refine WP_skip ?_
         refine WP_seq ?_
         refine WP_ops ?_
         refine WO_fa (o' := 0) rfl rfl rfl ?_
         refine WO_ldI (x := P (sqI (m 0))) rfl rfl (.head _) (hH.k) ?_
         refine WO_bin (r := .bool _) rfl rfl rfl ?_
         refine WO_mv (v := .s (.bool _)) rfl ?_
         refine WO_case (t := 85) rfl (fun h26 => ?_) (fun h26 => ?_)
         ·try simp only [NM] at h26
          try simp only [isM, decide_eq_true_eq, decide_eq_false_iff_not] at h26
          refine WO_gt rfl ?_
          refine WO_fa (o' := 1) rfl rfl rfl ?_
          refine WO_gt rfl ?_
          refine WO_ldI rfl rfl (.tail _ (.tail _ (.head _))) rfl ?_
          refine WO_gt rfl ?_
          refine WO_callq0 rfl (Rank_sq (by omega)) rfl rfl rfl ?_
          refine WO_gt rfl ?_
          refine WO_fa (o' := 1) rfl rfl rfl ?_
          refine WO_gt rfl ?_
          refine WO_ldI (x := P (sqI (m 0) + 1)) rfl rfl (.head _) (hH.s) ?_
          refine WO_gt rfl ?_
          refine WO_sub rfl rfl (by omega) ?_
          refine WO_gt rfl ?_
          refine WO_mul rfl rfl (by omega) ?_
          refine WO_gt rfl ?_
          refine WO_bin (r := .bool _) rfl rfl rfl ?_
          refine WO_pick (v := .s (.bool _)) rfl rfl ?_
          refine WO_mv (v := .s (.bool _)) rfl ?_
          refine WO_nil ?_
          refine WP_seq ?_
          refine WP_seq ?_
          refine WP_ops ?_
          refine WO_mv (v := .s (.bool _)) rfl ?_
          refine WO_mv (v := .s (.bool _)) rfl ?_
          refine WO_case (t := 96) rfl (fun h27 => ?_) (fun h27 => ?_)
          ·try simp only [NM] at h27
           try simp only [isM, decide_eq_true_eq, decide_eq_false_iff_not] at h27
           refine WO_gt rfl ?_
           refine WO_fa (o' := 2) rfl rfl rfl ?_
           refine WO_gt rfl ?_
           refine WO_ldI rfl rfl (.tail _ (.tail _ (.head _))) rfl ?_
           refine WO_gt rfl ?_
           refine WO_bin (r := .bool _) rfl rfl rfl ?_
           refine WO_gt rfl ?_
           refine WO_mv (v := .s (.bool _)) rfl ?_
           refine WO_case (t := 100) rfl (fun h28 => ?_) (fun h28 => ?_)
           ·try simp only [NM] at h28
            try simp only [isM, decide_eq_true_eq, decide_eq_false_iff_not] at h28
            refine WO_gf rfl rfl ?_
            refine WO_gf rfl rfl ?_
            refine WO_gf rfl rfl ?_
            refine WO_gt rfl ?_
            refine WO_pick (v := .s (.bool _)) rfl rfl ?_
            refine WO_pick (v := .s (.bool _)) rfl rfl ?_
            refine WO_mv (v := .s (.bool _)) rfl ?_
            refine WO_gf rfl rfl ?_
            refine WO_gf rfl rfl ?_
            refine WO_gf rfl rfl ?_
            refine WO_gu rfl ?_
            refine WO_gu rfl ?_
            refine WO_gu rfl ?_
            refine WO_gf rfl rfl ?_
            refine WO_pick (v := .s (.bool _)) rfl rfl ?_
            refine WO_nil ?_
            refine WP_cond rfl (fun _ => ?_) (fun h => nomatch h)
            refine WP_seq ?_
            refine WP_ops ?_
            refine WO_mv rfl ?_
            refine WO_mv rfl ?_
            refine WO_nil ?_
            refine WP_ret ?_
            refine ⟨_, RS_tmp (v := .pnil) rfl (RS_tmp (v := .s (.int _ _)) rfl (RS_nil)), ?_⟩
            have hh : canM P (m 0) (m 1) (m 2) = false := can_no (by first | omega | (split <;> omega))
            have he := errM_not (by omega) hh
            rw [he]
            exact .inl ⟨rfl, by decide⟩
           ·try simp only [NM] at h28
            try simp only [isM, decide_eq_true_eq, decide_eq_false_iff_not] at h28
            refine WO_gt rfl ?_
            refine WO_fa (o' := 2) rfl rfl rfl ?_
            refine WO_gt rfl ?_
            refine WO_ldI rfl rfl (.tail _ (.tail _ (.head _))) rfl ?_
            refine WO_gt rfl ?_
            refine WO_bin (r := .bool _) rfl rfl rfl ?_
            refine WO_gt rfl ?_
            refine WO_pick (v := .s (.bool _)) rfl rfl ?_
            refine WO_pick (v := .s (.bool _)) rfl rfl ?_
            refine WO_mv (v := .s (.bool _)) rfl ?_
            refine WO_case (t := 106) rfl (fun h29 => ?_) (fun h29 => ?_)
            ·try simp only [NM] at h29
             try simp only [isM, decide_eq_true_eq, decide_eq_false_iff_not] at h29
             refine WO_gf rfl rfl ?_
             refine WO_gf rfl rfl ?_
             refine WO_gf rfl rfl ?_
             refine WO_gu rfl ?_
             refine WO_gu rfl ?_
             refine WO_gu rfl ?_
             refine WO_gf rfl rfl ?_
             refine WO_pick (v := .s (.bool _)) rfl rfl ?_
             refine WO_nil ?_
             refine WP_cond rfl (fun _ => ?_) (fun h => nomatch h)
             refine WP_seq ?_
             refine WP_ops ?_
             refine WO_mv rfl ?_
             refine WO_mv rfl ?_
             refine WO_nil ?_
             refine WP_ret ?_
             refine ⟨_, RS_tmp (v := .pnil) rfl (RS_tmp (v := .s (.int _ _)) rfl (RS_nil)), ?_⟩
             have hh : canM P (m 0) (m 1) (m 2) = false := can_no (by first | omega | (split <;> omega))
             have he := errM_not (by omega) hh
             rw [he]
             exact .inl ⟨rfl, by decide⟩
            ·try simp only [NM] at h29
             try simp only [isM, decide_eq_true_eq, decide_eq_false_iff_not] at h29
             refine WO_gt rfl ?_
             refine WO_mv (v := .s (.bool _)) rfl ?_
             refine WO_gt rfl ?_
             refine WO_un (r := .bool _) rfl rfl ?_
             refine WO_gt rfl ?_
             refine WO_mv (v := .s (.bool _)) rfl ?_
             refine WO_case (t := 109) rfl (fun h30 => ?_) (fun h30 => ?_)
             ·try simp only [NM] at h30
              try simp only [isM, decide_eq_true_eq, decide_eq_false_iff_not] at h30
              refine WO_gt rfl ?_
              refine WO_fa (o' := 2) rfl rfl rfl ?_
              refine WO_gt rfl ?_
              refine WO_ldI rfl rfl (.tail _ (.tail _ (.head _))) rfl ?_
              refine WO_gt rfl ?_
              refine WO_bin (r := .bool _) rfl rfl rfl ?_
              refine WO_gt rfl ?_
              refine WO_pick (v := .s (.bool _)) rfl rfl ?_
              refine WO_pick (v := .s (.bool _)) rfl rfl ?_
              refine WO_nil ?_
              refine WP_cond rfl (fun h31 => ?_) (fun h31 => ?_)
              ·try simp only [NM] at h31
               try simp only [isM, decide_eq_true_eq, decide_eq_false_iff_not] at h31
               refine WP_seq ?_
               refine WP_ops ?_
               refine WO_mv rfl ?_
               refine WO_mv rfl ?_
               refine WO_nil ?_
               refine WP_ret ?_
               refine ⟨_, RS_tmp (v := .pnil) rfl (RS_tmp (v := .s (.int _ _)) rfl (RS_nil)), ?_⟩
               have hh : canM P (m 0) (m 1) (m 2) = false := can_no (by first | omega | (split <;> omega))
               have he := errM_not (by omega) hh
               rw [he]
               exact .inl ⟨rfl, by decide⟩
              ·try simp only [NM] at h31
               try simp only [isM, decide_eq_true_eq, decide_eq_false_iff_not] at h31
               refine WP_skip ?_
               refine WP_seq ?_
               refine WP_ops ?_
               refine WO_mv (v := .ptr _ _ _) rfl ?_
               refine WO_mv (v := .ptr _ _ _) rfl ?_
               refine WO_mv rfl ?_
               refine WO_nil ?_
               refine WP_ret ?_
               refine ⟨_, RS_tmp (v := .ptr _ _ _) rfl (RS_tmp (v := .s (.int _ _)) rfl (RS_nil)), ?_⟩
               have hh : canM P (m 0) (m 1) (m 2) = true := can_yes (by refine ⟨by omega, by omega, by omega, by omega, ?_⟩; first | omega | (split <;> omega))
               have he := errM_ok (by omega) hh
               rw [he]
               exact .inr ⟨rfl, _, H, rfl, hH, (.tail _ (.head _))⟩
             ·try simp only [NM] at h30
              try simp only [isM, decide_eq_true_eq, decide_eq_false_iff_not] at h30
              refine WO_gf rfl rfl ?_
              refine WO_gf rfl rfl ?_
              refine WO_gf rfl rfl ?_
              refine WO_gt rfl ?_
              refine WO_pick (v := .s (.bool _)) rfl rfl ?_
              refine WO_pick (v := .s (.bool _)) rfl rfl ?_
              refine WO_nil ?_
              refine WP_cond rfl (fun h => nomatch h) (fun _ => ?_)
              refine WP_skip ?_
              refine WP_seq ?_
              refine WP_ops ?_
              refine WO_mv (v := .ptr _ _ _) rfl ?_
              refine WO_mv (v := .ptr _ _ _) rfl ?_
              refine WO_mv rfl ?_
              refine WO_nil ?_
              refine WP_ret ?_
              refine ⟨_, RS_tmp (v := .ptr _ _ _) rfl (RS_tmp (v := .s (.int _ _)) rfl (RS_nil)), ?_⟩
              have hh : canM P (m 0) (m 1) (m 2) = true := can_yes (by refine ⟨by omega, by omega, by omega, by omega, ?_⟩; first | omega | (split <;> omega))
              have he := errM_ok (by omega) hh
              rw [he]
              exact .inr ⟨rfl, _, H, rfl, hH, (.tail _ (.head _))⟩
          ·try simp only [NM] at h27
           try simp only [isM, decide_eq_true_eq, decide_eq_false_iff_not] at h27
           refine WO_gf rfl rfl ?_
           refine WO_gf rfl rfl ?_
           refine WO_gf rfl rfl ?_
           refine WO_gf rfl rfl ?_
           refine WO_gu rfl ?_
           refine WO_gu rfl ?_
           refine WO_gu rfl ?_
           refine WO_gf rfl rfl ?_
           refine WO_pick (v := .s (.bool _)) rfl rfl ?_
           refine WO_mv (v := .s (.bool _)) rfl ?_
           refine WO_gt rfl ?_
           refine WO_mv (v := .s (.bool _)) rfl ?_
           refine WO_gt rfl ?_
           refine WO_un (r := .bool _) rfl rfl ?_
           refine WO_gt rfl ?_
           refine WO_mv (v := .s (.bool _)) rfl ?_
           refine WO_case (t := 109) rfl (fun h32 => ?_) (fun h32 => ?_)
           ·try simp only [NM] at h32
            try simp only [isM, decide_eq_true_eq, decide_eq_false_iff_not] at h32
            refine WO_gt rfl ?_
            refine WO_fa (o' := 2) rfl rfl rfl ?_
            refine WO_gt rfl ?_
            refine WO_ldI rfl rfl (.tail _ (.tail _ (.head _))) rfl ?_
            refine WO_gt rfl ?_
            refine WO_bin (r := .bool _) rfl rfl rfl ?_
            refine WO_gt rfl ?_
            refine WO_pick (v := .s (.bool _)) rfl rfl ?_
            refine WO_pick (v := .s (.bool _)) rfl rfl ?_
            refine WO_nil ?_
            refine WP_cond rfl (fun h33 => ?_) (fun h33 => ?_)
            ·try simp only [NM] at h33
             try simp only [isM, decide_eq_true_eq, decide_eq_false_iff_not] at h33
             refine WP_seq ?_
             refine WP_ops ?_
             refine WO_mv rfl ?_
             refine WO_mv rfl ?_
             refine WO_nil ?_
             refine WP_ret ?_
             refine ⟨_, RS_tmp (v := .pnil) rfl (RS_tmp (v := .s (.int _ _)) rfl (RS_nil)), ?_⟩
             have hh : canM P (m 0) (m 1) (m 2) = false := can_no (by first | omega | (split <;> omega))
             have he := errM_not (by omega) hh
             rw [he]
             exact .inl ⟨rfl, by decide⟩
            ·try simp only [NM] at h33
             try simp only [isM, decide_eq_true_eq, decide_eq_false_iff_not] at h33
             refine WP_skip ?_
             refine WP_seq ?_
             refine WP_ops ?_
             refine WO_mv (v := .ptr _ _ _) rfl ?_
             refine WO_mv (v := .ptr _ _ _) rfl ?_
             refine WO_mv rfl ?_
             refine WO_nil ?_
             refine WP_ret ?_
             refine ⟨_, RS_tmp (v := .ptr _ _ _) rfl (RS_tmp (v := .s (.int _ _)) rfl (RS_nil)), ?_⟩
             have hh : canM P (m 0) (m 1) (m 2) = true := can_yes (by refine ⟨by omega, by omega, by omega, by omega, ?_⟩; first | omega | (split <;> omega))
             have he := errM_ok (by omega) hh
             rw [he]
             exact .inr ⟨rfl, _, H, rfl, hH, (.tail _ (.head _))⟩
           ·try simp only [NM] at h32
            try simp only [isM, decide_eq_true_eq, decide_eq_false_iff_not] at h32
            refine WO_gf rfl rfl ?_
            refine WO_gf rfl rfl ?_
            refine WO_gf rfl rfl ?_
            refine WO_gt rfl ?_
            refine WO_pick (v := .s (.bool _)) rfl rfl ?_
            refine WO_pick (v := .s (.bool _)) rfl rfl ?_
            refine WO_nil ?_
            refine WP_cond rfl (fun h => nomatch h) (fun _ => ?_)
            refine WP_skip ?_
            refine WP_seq ?_
            refine WP_ops ?_
            refine WO_mv (v := .ptr _ _ _) rfl ?_
            refine WO_mv (v := .ptr _ _ _) rfl ?_
            refine WO_mv rfl ?_
            refine WO_nil ?_
            refine WP_ret ?_
            refine ⟨_, RS_tmp (v := .ptr _ _ _) rfl (RS_tmp (v := .s (.int _ _)) rfl (RS_nil)), ?_⟩
            have hh : canM P (m 0) (m 1) (m 2) = true := can_yes (by refine ⟨by omega, by omega, by omega, by omega, ?_⟩; first | omega | (split <;> omega))
            have he := errM_ok (by omega) hh
            rw [he]
            exact .inr ⟨rfl, _, H, rfl, hH, (.tail _ (.head _))⟩
         ·try simp only [NM] at h26
          try simp only [isM, decide_eq_true_eq, decide_eq_false_iff_not] at h26
          refine WO_gf rfl rfl ?_
          refine WO_gf rfl rfl ?_
          refine WO_gf rfl rfl ?_
          refine WO_gf rfl rfl ?_
          refine WO_gf rfl rfl ?_
          refine WO_gf rfl rfl ?_
          refine WO_gf rfl rfl ?_
          refine WO_gf rfl rfl ?_
          refine WO_pick (v := .s (.bool _)) rfl rfl ?_
          refine WO_mv (v := .s (.bool _)) rfl ?_
          refine WO_nil ?_
          refine WP_seq ?_
          refine WP_seq ?_
          refine WP_ops ?_
          refine WO_mv (v := .s (.bool _)) rfl ?_
          refine WO_mv (v := .s (.bool _)) rfl ?_
          refine WO_gf rfl rfl ?_
          refine WO_gf rfl rfl ?_
          refine WO_gf rfl rfl ?_
          refine WO_gf rfl rfl ?_
          refine WO_gu rfl ?_
          refine WO_gu rfl ?_
          refine WO_gu rfl ?_
          refine WO_gf rfl rfl ?_
          refine WO_pick (v := .s (.bool _)) rfl rfl ?_
          refine WO_mv (v := .s (.bool _)) rfl ?_
          refine WO_gt rfl ?_
          refine WO_mv (v := .s (.bool _)) rfl ?_
          refine WO_gt rfl ?_
          refine WO_un (r := .bool _) rfl rfl ?_
          refine WO_gt rfl ?_
          refine WO_mv (v := .s (.bool _)) rfl ?_
          refine WO_gt rfl ?_
          refine WO_fa (o' := 2) rfl rfl rfl ?_
          refine WO_gt rfl ?_
          refine WO_ldI rfl rfl (.tail _ (.tail _ (.head _))) rfl ?_
          refine WO_gt rfl ?_
          refine WO_bin (r := .bool _) rfl rfl rfl ?_
          refine WO_gt rfl ?_
          refine WO_pick (v := .s (.bool _)) rfl rfl ?_
          refine WO_pick (v := .s (.bool _)) rfl rfl ?_
          refine WO_nil ?_
          refine WP_cond rfl (fun h34 => ?_) (fun h34 => ?_)
          ·try simp only [NM] at h34
           try simp only [isM, decide_eq_true_eq, decide_eq_false_iff_not] at h34
           refine WP_seq ?_
           refine WP_ops ?_
           refine WO_mv rfl ?_
           refine WO_mv rfl ?_
           refine WO_nil ?_
           refine WP_ret ?_
           refine ⟨_, RS_tmp (v := .pnil) rfl (RS_tmp (v := .s (.int _ _)) rfl (RS_nil)), ?_⟩
           have hh : canM P (m 0) (m 1) (m 2) = false := can_no (by first | omega | (split <;> omega))
           have he := errM_not (by omega) hh
           rw [he]
           exact .inl ⟨rfl, by decide⟩
          ·try simp only [NM] at h34
           try simp only [isM, decide_eq_true_eq, decide_eq_false_iff_not] at h34
           refine WP_skip ?_
           refine WP_seq ?_
           refine WP_ops ?_
           refine WO_mv (v := .ptr _ _ _) rfl ?_
           refine WO_mv (v := .ptr _ _ _) rfl ?_
           refine WO_mv rfl ?_
           refine WO_nil ?_
           refine WP_ret ?_
           refine ⟨_, RS_tmp (v := .ptr _ _ _) rfl (RS_tmp (v := .s (.int _ _)) rfl (RS_nil)), ?_⟩
           have hh : canM P (m 0) (m 1) (m 2) = true := can_yes (by refine ⟨by omega, by omega, by omega, by omega, ?_⟩; first | omega | (split <;> omega))
           have he := errM_ok (by omega) hh
           rw [he]
           exact .inr ⟨rfl, _, H, rfl, hH, (.tail _ (.head _))⟩
end Go.Proofs.Ytjldefmcnppdoaa
