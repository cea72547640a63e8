/- The walk of PlayEnds. -/
import Derived.Test.YtjldefmcnppdoaaPlayE
namespace Go.Proofs.Ytjldefmcnppdoaa
open Go Go.Am
set_option linter.unusedSimpArgs false
set_option linter.unusedVariables false
theorem Empty_walk  : WR AM 68 [] [] (fun v _ _ => ∃ P, v = .agg 133 (ia P)) := by
 refine WR_fn (a := a68) rfl rfl (entryF _) (entry_E (Nat.le_of_ble_eq_true rfl)) (m := 0) rfl ?_
 refine WP_seq ?_
 refine WP_ops ?_
 refine WO_allocI ?_
 refine WO_nil ?_
 refine WP_seq ?_
 refine WP_ops ?_
 refine WO_buildI rfl (.one rfl (.one rfl .nil)) ?_
 refine WO_stA rfl rfl rfl rfl .here ?_
 refine WO_nil ?_
 refine WP_ret ?_
 refine ⟨_, RS_cell rfl rfl (.head _) (RS_nil), ?_⟩
 exact ⟨_, rfl⟩
theorem Empty_is : ∃ P, RF AM 68 [] (.agg 133 (ia P)) := by
  obtain ⟨v, σ, _, _, h, _, P, rfl⟩ := Empty_walk
  exact ⟨P, σ, h⟩
theorem row6 {i : Nat} (h : i < 6) : 0 ≤ (ov (ov (ov (ov (ov (ov (fun _ => 0) (0 * 1) 0) (1 * 1) 7) (2 * 1) 56) (3 * 1) 63) (4 * 1) 4) (5 * 1) 60) (0 + (i : Int).toNat * 1) ∧ (ov (ov (ov (ov (ov (ov (fun _ => 0) (0 * 1) 0) (1 * 1) 7) (2 * 1) 56) (3 * 1) 63) (4 * 1) 4) (5 * 1) 60) (0 + (i : Int).toNat * 1) < 64 := by
  have : i = 0 ∨ i = 1 ∨ i = 2 ∨ i = 3 ∨ i = 4 ∨ i = 5 := by omega
  rcases this with rfl | rfl | rfl | rfl | rfl | rfl <;> decide
theorem and3 : ∀ n : Fin 19, 0 ≤ andM ((n.val : Int) - 1) 3 ∧ andM ((n.val : Int) - 1) 3 ≤ 3 := by decide +kernel
theorem and3_bd {c : Int} (h : -1 ≤ c ∧ c ≤ 17) : 0 ≤ andM c 3 ∧ andM c 3 ≤ 3 := by
  have := and3 ⟨(c + 1).toNat, by omega⟩
  rw [show (((c + 1).toNat : Nat) : Int) - 1 = c by omega] at this
  exact this
theorem and1 : ∀ n : Fin 72, 0 ≤ andM ((n.val : Int) - 1) 1 ∧ andM ((n.val : Int) - 1) 1 ≤ 1 := by decide +kernel
theorem and1_bd {c : Int} (h : -1 ≤ c ∧ c ≤ 70) : 0 ≤ andM c 1 ∧ andM c 1 ≤ 1 := by
  have := and1 ⟨(c + 1).toNat, by omega⟩
  rw [show (((c + 1).toNat : Nat) : Int) - 1 = c by omega] at this
  exact this

theorem PlayEnds_run  : WR AM 14 [] [] (fun v _ _ => v = .s (.bool true)) := by
 refine WR_fn (a := a14) rfl rfl (entryF _) (entry_E (Nat.le_of_ble_eq_true rfl)) (m := 0) rfl ?_
 refine WP_seq ?_
 refine WP_ops ?_
 refine WO_mv rfl ?_
 refine WO_nil ?_
 refine WP_seq ?_
 refine WP_ops ?_
 obtain ⟨E0, hE0⟩ := Empty_is
 refine WO_call0 rfl (hE0) rfl rfl rfl ?_
 refine WO_allocI ?_
 refine WO_stA rfl rfl rfl rfl .here ?_
 refine WO_nil ?_
 refine WP_seq ?_
 refine WP_seq ?_
 refine WP_ops ?_
 refine WO_mv rfl ?_
 refine WO_nil ?_
 refine WP_block ?_
 refine WP_sub (L' := [_]) (.cons_cons _ .slnil) ?_
 refine WP_loop (fun m f _ L => ∃ (i : Nat) (P : Nat → Int), (i ≤ 6) ∧ (m = 6 - i) ∧ (f 1 = .ptr 0 0 133) ∧ (f 2 = .s (.int .i64 i)) ∧ (L = [(0, .sc .var 133 (ia P))])) (fun m f nb L hI => ?_) (_) ⟨0, _, by omega, rfl, rfl, rfl, rfl⟩
 obtain ⟨i, P, hi, hm, k1, k2, rfl⟩ := hI
 refine WP_know (d := 1) (v := .ptr 0 0 133) k1 ?_
 refine WP_know (d := 2) (v := .s (.int .i64 i)) k2 ?_
 refine WP_seq ?_
 refine WP_seq ?_
 refine WP_ops ?_
 refine WO_mv (v := .s (.int _ _)) rfl ?_
 refine WO_bin (r := .bool _) rfl rfl rfl ?_
 refine WO_nil ?_
 refine WP_cond rfl (fun h1 => ?_) (fun h1 => ?_)
 ·try simp only [NM] at h1
  refine WP_skip ?_
  refine WP_seq ?_
  refine WP_block ?_
  refine WP_ops ?_
  refine WO_mkslS rfl (.one rfl (.one rfl (.one rfl (.one rfl (.one rfl (.one rfl .nil)))))) ?_
  refine WO_mv (v := .s (.int _ _)) rfl ?_
  refine WO_ixs rfl rfl (by first | omega | exact row6 (by omega)) ?_
  refine WO_ldI (x := _) rfl rfl (.head _) (rfl) ?_
  refine WO_mkslS rfl (.one rfl (.one rfl .nil)) ?_
  refine WO_mv (v := .s (.int _ _)) rfl ?_
  refine WO_quo rfl rfl (by omega) ?_
  refine WO_ixs rfl rfl (by first | omega | exact row6 (by omega)) ?_
  refine WO_ldI (x := _) rfl rfl (.head _) (rfl) ?_
  refine WO_mkslS rfl (.one rfl (.one rfl (.one rfl (.one rfl (.one rfl (.one rfl .nil)))))) ?_
  refine WO_mv (v := .s (.int _ _)) rfl ?_
  refine WO_ixs rfl rfl (by first | omega | exact row6 (by omega)) ?_
  refine WO_ldI (x := _) rfl rfl (.head _) (rfl) ?_
  refine WO_buildI rfl (.one rfl (.one rfl .nil)) ?_
  refine WO_fa (o' := 0) rfl rfl rfl ?_
  refine WO_ixa rfl rfl rfl (by first | omega | exact row6 (by omega)) ?_
  refine WO_stA rfl rfl rfl rfl (.there (.there (.there .here))) ?_
  refine WO_nil ?_
  refine WP_ops ?_
  refine WO_mv (v := .s (.int _ _)) rfl ?_
  refine WO_add rfl rfl (by omega) ?_
  refine WO_mv (v := .s (.int _ _)) rfl ?_
  refine WO_nil ?_
  refine ⟨_, _, ?_, (.cons _ (.cons _ (.cons _ (.cons_cons _ .slnil)))), i + 1, _, by omega, rfl, rfl, rfl, rfl⟩
  omega
 ·try simp only [NM] at h1
  refine WP_exit ?_
  refine xhere ?_
  refine WP_seq ?_
  refine WP_ops ?_
  refine WO_buildI rfl (.one rfl .nil) ?_
  refine WO_fa (o' := 0) rfl rfl rfl ?_
  refine WO_ixa rfl rfl rfl (by first | omega | exact row6 (by omega)) ?_
  refine WO_stA rfl rfl rfl rfl .here ?_
  refine WO_nil ?_
  refine WP_seq ?_
  refine WP_ops ?_
  refine WO_buildI rfl (.one rfl (.one rfl .nil)) ?_
  refine WO_fa (o' := 0) rfl rfl rfl ?_
  refine WO_ixa rfl rfl rfl (by first | omega | exact row6 (by omega)) ?_
  refine WO_stA rfl rfl rfl rfl .here ?_
  refine WO_nil ?_
  refine WP_seq ?_
  refine WP_ops ?_
  refine WO_buildI rfl (.one rfl .nil) ?_
  refine WO_fa (o' := 0) rfl rfl rfl ?_
  refine WO_ixa rfl rfl rfl (by first | omega | exact row6 (by omega)) ?_
  refine WO_stA rfl rfl rfl rfl .here ?_
  refine WO_nil ?_
  refine WP_seq ?_
  refine WP_ops ?_
  refine WO_buildI rfl (.one rfl (.one rfl .nil)) ?_
  refine WO_fa (o' := 0) rfl rfl rfl ?_
  refine WO_ixa rfl rfl rfl (by first | omega | exact row6 (by omega)) ?_
  refine WO_stA rfl rfl rfl rfl .here ?_
  refine WO_nil ?_
  refine WP_seq ?_
  refine WP_ops ?_
  refine WO_buildI rfl (.one rfl .nil) ?_
  refine WO_fa (o' := 0) rfl rfl rfl ?_
  refine WO_ixa rfl rfl rfl (by first | omega | exact row6 (by omega)) ?_
  refine WO_stA rfl rfl rfl rfl .here ?_
  refine WO_nil ?_
  refine WP_seq ?_
  refine WP_ops ?_
  refine WO_buildI rfl (.one rfl (.one rfl .nil)) ?_
  refine WO_fa (o' := 0) rfl rfl rfl ?_
  refine WO_ixa rfl rfl rfl (by first | omega | exact row6 (by omega)) ?_
  refine WO_stA rfl rfl rfl rfl .here ?_
  refine WO_nil ?_
  refine WP_seq ?_
  refine WP_seq ?_
  refine WP_ops ?_
  refine WO_mv rfl ?_
  refine WO_nil ?_
  refine WP_block ?_
  refine WP_sub (L' := [_]) (.cons_cons _ .slnil) ?_
  refine WP_loop (fun m f _ L => ∃ (c : Int) (P2 : Nat → Int), (-1 ≤ c ∧ c ≤ 17) ∧ (m = (17 - c).toNat) ∧ (f 1 = .ptr 0 0 133) ∧ (f 3 = .s (.int .i64 c)) ∧ (L = [(0, .sc .var 133 (ia P2))])) (fun m f nb L hI => ?_) (_) ⟨-1, _, by omega, rfl, rfl, rfl, rfl⟩
  obtain ⟨c, P2, hc, hm, k1, k3, rfl⟩ := hI
  refine WP_know (d := 1) (v := .ptr 0 0 133) k1 ?_
  refine WP_know (d := 3) (v := .s (.int .i64 c)) k3 ?_
  refine WP_seq ?_
  refine WP_seq ?_
  refine WP_ops ?_
  refine WO_mv (v := .s (.int _ _)) rfl ?_
  refine WO_bin (r := .bool _) rfl rfl rfl ?_
  refine WO_nil ?_
  refine WP_cond rfl (fun h2 => ?_) (fun h2 => ?_)
  ·try simp only [NM] at h2
   refine WP_skip ?_
   refine WP_seq ?_
   refine WP_block ?_
   refine WP_seq ?_
   refine WP_ops ?_
   refine WO_mv rfl ?_
   refine WO_nil ?_
   refine WP_block ?_
   refine WP_sub (L' := [_]) (.cons_cons _ .slnil) ?_
   refine WP_loop (fun m f _ L => ∃ (s : Nat), (s ≤ 2) ∧ (m = 2 - s) ∧ (f 1 = .ptr 0 0 133) ∧ (f 3 = .s (.int .i64 c)) ∧ (f 4 = .s (.int .i64 s)) ∧ (L = [(0, .sc .var 133 (ia P2))])) (fun m f nb L hI => ?_) (_) ⟨0, by omega, rfl, rfl, rfl, rfl, rfl⟩
   obtain ⟨s, hs, hm, k1, k3, k4, rfl⟩ := hI
   refine WP_know (d := 1) (v := .ptr 0 0 133) k1 ?_
   refine WP_know (d := 3) (v := .s (.int .i64 c)) k3 ?_
   refine WP_know (d := 4) (v := .s (.int .i64 s)) k4 ?_
   refine WP_seq ?_
   refine WP_seq ?_
   refine WP_ops ?_
   refine WO_mv (v := .s (.int _ _)) rfl ?_
   refine WO_bin (r := .bool _) rfl rfl rfl ?_
   refine WO_nil ?_
   refine WP_cond rfl (fun h3 => ?_) (fun h3 => ?_)
   ·try simp only [NM] at h3
    refine WP_skip ?_
    refine WP_seq ?_
    refine WP_block ?_
    refine WP_seq ?_
    refine WP_ops ?_
    first | refine WO_ldA0 rfl rfl (.head _) ?_ | refine WO_ldAI rfl rfl (.head _) ?_
    refine WO_allocI ?_
    refine WO_stA rfl rfl rfl rfl .here ?_
    refine WO_nil ?_
    refine WP_seq ?_
    refine WP_ops ?_
    refine WO_mv (v := .s (.int _ _)) rfl ?_
    refine WO_fa (o' := 129) rfl rfl rfl ?_
    refine WO_stI rfl rfl rfl rfl .here ?_
    refine WO_nil ?_
    refine WP_seq ?_
    refine WP_ops ?_
    refine WO_mv (v := .s (.int _ _)) rfl ?_
    refine WO_fa (o' := 128) rfl rfl rfl ?_
    refine WO_stI rfl rfl rfl rfl .here ?_
    refine WO_nil ?_
    refine WP_seq ?_
    refine WP_ops ?_
    refine WO_mkslS rfl (.one rfl (.one rfl (.one rfl .nil))) ?_
    refine WO_mv (v := .s (.int _ _)) rfl ?_
    refine WO_add rfl rfl (by omega) ?_
    refine WO_rem rfl rfl (by omega) ?_
    refine WO_ixs rfl rfl (by first | omega | exact row6 (by omega)) ?_
    refine WO_ldI (x := _) rfl rfl (.head _) (rfl) ?_
    refine WO_fa (o' := 130) rfl rfl rfl ?_
    refine WO_stI rfl rfl rfl rfl (.there .here) ?_
    refine WO_nil ?_
    refine WP_seq ?_
    refine WP_ops ?_
    refine WO_mkslS rfl (.one rfl (.one rfl (.one rfl (.one rfl (.one rfl (.one rfl .nil)))))) ?_
    refine WO_mv (v := .s (.int _ _)) rfl ?_
    refine WO_add rfl rfl (by omega) ?_
    refine WO_rem rfl rfl (by omega) ?_
    refine WO_ixs rfl rfl (by first | omega | exact row6 (by omega)) ?_
    refine WO_ldI (x := _) rfl rfl (.head _) (rfl) ?_
    refine WO_fa (o' := 131) rfl rfl rfl ?_
    refine WO_stI rfl rfl rfl rfl (.there (.there .here)) ?_
    refine WO_nil ?_
    refine WP_seq ?_
    refine WP_ops ?_
    refine WO_mkslS rfl (.one rfl (.one rfl (.one rfl (.one rfl .nil)))) ?_
    refine WO_mv (v := .s (.int _ _)) rfl ?_
    refine WO_add rfl rfl (by omega) ?_
    refine WO_rem rfl rfl (by omega) ?_
    refine WO_ixs rfl rfl (by first | omega | exact row6 (by omega)) ?_
    refine WO_ldI (x := _) rfl rfl (.head _) (rfl) ?_
    refine WO_fa (o' := 132) rfl rfl rfl ?_
    refine WO_stI rfl rfl rfl rfl (.there (.there (.there .here))) ?_
    refine WO_nil ?_
    refine WP_seq ?_
    refine WP_seq ?_
    refine WP_ops ?_
    refine WO_mv rfl ?_
    refine WO_nil ?_
    refine WP_block ?_
    refine WP_sub (L' := [_, _]) (.cons _ (.cons _ (.cons _ (.cons_cons _ (.cons_cons _ .slnil))))) ?_
    refine WP_loop (fun m f _ L => ∃ (x : Nat) (b5 : Nat) (Q : Nat → Int), (x ≤ 64) ∧ (m = 64 - x) ∧ (f 1 = .ptr 0 0 133) ∧ (f 3 = .s (.int .i64 c)) ∧ (f 4 = .s (.int .i64 s)) ∧ (f 5 = .ptr b5 0 133) ∧ (f 6 = .s (.int .i64 x)) ∧ (L = [(b5, .sc .var 133 (ia Q)), (0, .sc .var 133 (ia P2))])) (fun m f nb L hI => ?_) (_) ⟨0, _, _, by omega, rfl, rfl, rfl, rfl, rfl, rfl, rfl⟩
    obtain ⟨x, b5, Q, hx, hm, k1, k3, k4, k5, k6, rfl⟩ := hI
    refine WP_know (d := 1) (v := .ptr 0 0 133) k1 ?_
    refine WP_know (d := 3) (v := .s (.int .i64 c)) k3 ?_
    refine WP_know (d := 4) (v := .s (.int .i64 s)) k4 ?_
    refine WP_know (d := 5) (v := .ptr b5 0 133) k5 ?_
    refine WP_know (d := 6) (v := .s (.int .i64 x)) k6 ?_
    refine WP_seq ?_
    refine WP_seq ?_
    refine WP_ops ?_
    refine WO_mv (v := .s (.int _ _)) rfl ?_
    refine WO_bin (r := .bool _) rfl rfl rfl ?_
    refine WO_nil ?_
    refine WP_cond rfl (fun h4 => ?_) (fun h4 => ?_)
    ·try simp only [NM] at h4
     refine WP_skip ?_
     refine WP_seq ?_
     refine WP_block ?_
     refine WP_seq ?_
     refine WP_ops ?_
     refine WO_mv (v := .s (.int _ _)) rfl ?_
     refine WO_rem rfl rfl (by omega) ?_
     refine WO_sub rfl rfl (by omega) ?_
     refine WO_mv (v := .s (.int _ _)) rfl ?_
     refine WO_nil ?_
     refine WP_block ?_
     refine WP_sub (L' := [_, _]) (.cons_cons _ (.cons_cons _ .slnil)) ?_
     refine WP_loop (fun m f _ L => ∃ (t : Int), (-1 ≤ t ∧ t ≤ 70) ∧ (m = (70 - t).toNat) ∧ (f 1 = .ptr 0 0 133) ∧ (f 3 = .s (.int .i64 c)) ∧ (f 4 = .s (.int .i64 s)) ∧ (f 5 = .ptr b5 0 133) ∧ (f 6 = .s (.int .i64 x)) ∧ (f 7 = .s (.int .i64 t)) ∧ (L = [(b5, .sc .var 133 (ia Q)), (0, .sc .var 133 (ia P2))])) (fun m f nb L hI => ?_) (_) ⟨(x : Int) % 5 - 1, by omega, rfl, rfl, rfl, rfl, rfl, rfl, rfl, rfl⟩
     obtain ⟨t, ht, hm, k1, k3, k4, k5, k6, k7, rfl⟩ := hI
     refine WP_know (d := 1) (v := .ptr 0 0 133) k1 ?_
     refine WP_know (d := 3) (v := .s (.int .i64 c)) k3 ?_
     refine WP_know (d := 4) (v := .s (.int .i64 s)) k4 ?_
     refine WP_know (d := 5) (v := .ptr b5 0 133) k5 ?_
     refine WP_know (d := 6) (v := .s (.int .i64 x)) k6 ?_
     refine WP_know (d := 7) (v := .s (.int .i64 t)) k7 ?_
     have h3 := and3_bd (c := c) (by omega)
     refine WP_seq ?_
     refine WP_seq ?_
     refine WP_ops ?_
     refine WO_mv (v := .s (.int _ _)) rfl ?_
     refine WO_bin (r := .bool _) rfl rfl rfl ?_
     refine WO_nil ?_
     refine WP_cond rfl (fun h5 => ?_) (fun h5 => ?_)
     ·try simp only [NM] at h5
      refine WP_skip ?_
      refine WP_seq ?_
      refine WP_block ?_
      refine WP_seq ?_
      refine WP_ops ?_
      refine WO_mv rfl ?_
      refine WO_nil ?_
      refine WP_block ?_
      refine WP_sub (L' := [_, _]) (.cons_cons _ (.cons_cons _ .slnil)) ?_
      refine WP_loop (fun m f _ L => ∃ (b : Int), (-1 ≤ b ∧ b ≤ 9) ∧ (m = (9 - b).toNat) ∧ (f 1 = .ptr 0 0 133) ∧ (f 3 = .s (.int .i64 c)) ∧ (f 4 = .s (.int .i64 s)) ∧ (f 5 = .ptr b5 0 133) ∧ (f 6 = .s (.int .i64 x)) ∧ (f 7 = .s (.int .i64 t)) ∧ (f 8 = .s (.int .i64 b)) ∧ (L = [(b5, .sc .var 133 (ia Q)), (0, .sc .var 133 (ia P2))])) (fun m f nb L hI => ?_) (_) ⟨-1, by omega, rfl, rfl, rfl, rfl, rfl, rfl, rfl, rfl, rfl⟩
      obtain ⟨b, hb, hm, k1, k3, k4, k5, k6, k7, k8, rfl⟩ := hI
      refine WP_know (d := 1) (v := .ptr 0 0 133) k1 ?_
      refine WP_know (d := 3) (v := .s (.int .i64 c)) k3 ?_
      refine WP_know (d := 4) (v := .s (.int .i64 s)) k4 ?_
      refine WP_know (d := 5) (v := .ptr b5 0 133) k5 ?_
      refine WP_know (d := 6) (v := .s (.int .i64 x)) k6 ?_
      refine WP_know (d := 7) (v := .s (.int .i64 t)) k7 ?_
      refine WP_know (d := 8) (v := .s (.int .i64 b)) k8 ?_
      have h1 := and1_bd (c := t) (by omega)
      refine WP_seq ?_
      refine WP_seq ?_
      refine WP_ops ?_
      refine WO_mv (v := .s (.int _ _)) rfl ?_
      refine WO_bin (r := .bool _) rfl rfl rfl ?_
      refine WO_nil ?_
      refine WP_cond rfl (fun h6 => ?_) (fun h6 => ?_)
      ·try simp only [NM] at h6
       refine WP_skip ?_
       refine WP_seq ?_
       refine WP_block ?_
       refine WP_seq ?_
       refine WP_ops ?_
       refine WO_mv (v := .s (.int _ _)) rfl ?_
       refine WO_mv (v := .s (.int _ _)) rfl ?_
       refine WO_mv (v := .s (.int _ _)) rfl ?_
       refine WO_buildI rfl (.one rfl (.one rfl (.one rfl .nil))) ?_
       refine WO_allocI ?_
       refine WO_stA rfl rfl rfl rfl .here ?_
       refine WO_nil ?_
       refine WP_seq ?_
       refine WP_ops ?_
       first | refine WO_ldA0 rfl rfl (.tail _ (.head _)) ?_ | refine WO_ldAI rfl rfl (.tail _ (.head _)) ?_
       first | refine WO_ldA0 rfl rfl (.head _) ?_ | refine WO_ldAI rfl rfl (.head _) ?_
       refine WO_call0 rfl (Move_is) rfl rfl rfl ?_
       refine WO_mv (v := .tup _) rfl ?_
       refine WO_ext (v := .agg _ _) rfl rfl ?_
       refine WO_ext (v := .s (.int _ _)) rfl rfl ?_
       refine WO_allocI ?_
       refine WO_stA rfl rfl rfl rfl .here ?_
       refine WO_mv (v := .s (.int _ _)) rfl ?_
       refine WO_nil ?_
       refine WP_seq ?_
       refine WP_ops ?_
       first | refine WO_ldA0 rfl rfl (.tail _ (.tail _ (.head _))) ?_ | refine WO_ldAI rfl rfl (.tail _ (.tail _ (.head _))) ?_
       first | refine WO_ldA0 rfl rfl (.tail _ (.head _)) ?_ | refine WO_ldAI rfl rfl (.tail _ (.head _)) ?_
       refine WO_call0 rfl (rMove_is) rfl rfl rfl ?_
       refine WO_mv (v := .tup _) rfl ?_
       refine WO_ext (v := .agg _ _) rfl rfl ?_
       refine WO_ext (v := .s (.int _ _)) rfl rfl ?_
       refine WO_allocI ?_
       refine WO_stA rfl rfl rfl rfl .here ?_
       refine WO_mv (v := .s (.int _ _)) rfl ?_
       refine WO_nil ?_
       refine WP_seq ?_
       refine WP_ops ?_
       first | refine WO_ldA0 rfl rfl (.tail _ (.head _)) ?_ | refine WO_ldAI rfl rfl (.tail _ (.head _)) ?_
       first | refine WO_ldA0 rfl rfl (.head _) ?_ | refine WO_ldAI rfl rfl (.head _) ?_
       refine WO_eqaC rfl rfl (eqI_f (fun _ _ => rfl)) ?_
       refine WO_mv (v := .s (.bool _)) rfl ?_
       refine WO_gt rfl ?_
       refine WO_mv (v := .s (.int _ _)) rfl ?_
       refine WO_gt rfl ?_
       refine WO_mv (v := .s (.int _ _)) rfl ?_
       refine WO_gt rfl ?_
       refine WO_bin rfl rfl (neq_self _) ?_
       refine WO_pick (v := .s (.bool _)) rfl rfl ?_
       refine WO_mv (v := .s (.bool _)) rfl ?_
       refine WO_gt rfl ?_
       first | refine WO_ldA0 rfl rfl (.tail _ (.tail _ (.tail _ (.head _)))) ?_ | refine WO_ldAI rfl rfl (.tail _ (.tail _ (.tail _ (.head _)))) ?_
       refine WO_gt rfl ?_
       first | refine WO_ldA0 rfl rfl (.tail _ (.tail _ (.head _))) ?_ | refine WO_ldAI rfl rfl (.tail _ (.tail _ (.head _))) ?_
       refine WO_gt rfl ?_
       refine WO_callq0 rfl (RF_of (Takes_walk _ _)) rfl rfl rfl ?_
       refine WO_gt rfl ?_
       first | refine WO_ldA0 rfl rfl (.tail _ (.tail _ (.tail _ (.head _)))) ?_ | refine WO_ldAI rfl rfl (.tail _ (.tail _ (.tail _ (.head _)))) ?_
       refine WO_gt rfl ?_
       first | refine WO_ldA0 rfl rfl (.tail _ (.tail _ (.head _))) ?_ | refine WO_ldAI rfl rfl (.tail _ (.tail _ (.head _))) ?_
       refine WO_gt rfl ?_
       refine WO_call0 rfl (RF_of (rTakes_run _ _)) rfl rfl rfl ?_
       refine WO_gt rfl ?_
       refine WO_bin rfl rfl (neq_self _) ?_
       refine WO_pick (v := .s (.bool _)) rfl rfl ?_
       refine WO_nil ?_
       refine WP_cond rfl (fun h => nomatch h) (fun _ => ?_)
       refine WP_skip ?_
       refine WP_ops ?_
       refine WO_mv (v := .s (.int _ _)) rfl ?_
       refine WO_add rfl rfl (by omega) ?_
       refine WO_mv (v := .s (.int _ _)) rfl ?_
       refine WO_bin (r := .int .i64 (andM t 1)) rfl rfl rfl ?_
       refine WO_add rfl rfl (by omega) ?_
       refine WO_mv (v := .s (.int _ _)) rfl ?_
       refine WO_nil ?_
       refine ⟨_, _, ?_, (.cons _ (.cons _ (.cons _ (.cons_cons _ (.cons_cons _ .slnil))))), b + 2 + andM t 1, by omega, rfl, rfl, rfl, rfl, rfl, rfl, rfl, rfl, rfl⟩
       omega
      ·try simp only [NM] at h6
       refine WP_exit ?_
       refine xhere ?_
       refine WP_ops ?_
       refine WO_mv (v := .s (.int _ _)) rfl ?_
       refine WO_add rfl rfl (by omega) ?_
       refine WO_mv (v := .s (.int _ _)) rfl ?_
       refine WO_bin (r := .int .i64 (andM c 3)) rfl rfl rfl ?_
       refine WO_add rfl rfl (by omega) ?_
       refine WO_mv (v := .s (.int _ _)) rfl ?_
       refine WO_nil ?_
       refine ⟨_, _, ?_, (.cons_cons _ (.cons_cons _ .slnil)), t + 1 + andM c 3, by omega, rfl, rfl, rfl, rfl, rfl, rfl, rfl, rfl⟩
       omega
     ·try simp only [NM] at h5
      refine WP_exit ?_
      refine xhere ?_
      refine WP_ops ?_
      refine WO_mv (v := .s (.int _ _)) rfl ?_
      refine WO_add rfl rfl (by omega) ?_
      refine WO_mv (v := .s (.int _ _)) rfl ?_
      refine WO_nil ?_
      refine ⟨_, _, ?_, (.cons_cons _ (.cons_cons _ .slnil)), x + 1, _, _, by omega, rfl, rfl, rfl, rfl, rfl, rfl, rfl⟩
      omega
    ·try simp only [NM] at h4
     refine WP_exit ?_
     refine xhere ?_
     refine WP_seq ?_
     refine WP_ops ?_
     first | refine WO_ldA0 rfl rfl (.head _) ?_ | refine WO_ldAI rfl rfl (.head _) ?_
     refine WO_buildI rfl (.one rfl (.one rfl .nil)) ?_
     refine WO_buildI rfl (.one rfl (.one rfl .nil)) ?_
     refine WO_buildI rfl (.one rfl (.one rfl .nil)) ?_
     refine WO_buildI rfl (.one rfl (.one rfl (.one rfl .nil))) ?_
     refine WO_buildI rfl (.one rfl (.one rfl .nil)) ?_
     refine WO_mkslI rfl (.agg rfl (.agg rfl (.agg rfl (.agg rfl (.agg rfl .nil))))) ?_
     refine WO_call (rs := [nb]) (Bs := [_]) (av := [.agg 133 (ia Q), .sl (nb) 0 5 3 (.ex 5)]) rfl (RB_of1 (PlayTells_run (md := .var) (q := 5 * 3) (c := .ex 5) Q _ 5 (by omega))) rfl (by simp [V.refsL, V.refs, dedup]) (by simp [V.refsL, V.refs]) (by simp [V.refsL, V.refs]) (by simp [rnL, V.renL, V.ren, pos]) ⟨(.head _), ⟨_, _, _, rfl⟩, trivial⟩ rfl rfl rfl (.cons .here .nil) ?_
     refine WO_un (r := .bool _) rfl rfl ?_
     refine WO_mv (v := .s (.bool _)) rfl ?_
     refine WO_gt rfl ?_
     first | refine WO_ldA0 rfl rfl (.tail _ (.head _)) ?_ | refine WO_ldAI rfl rfl (.tail _ (.head _)) ?_
     refine WO_gt rfl ?_
     refine WO_buildI rfl (.one rfl (.one rfl .nil)) ?_
     refine WO_gt rfl ?_
     refine WO_buildI rfl (.one rfl (.one rfl .nil)) ?_
     refine WO_gt rfl ?_
     refine WO_mkslI rfl (.agg rfl (.agg rfl .nil)) ?_
     refine WO_gt rfl ?_
     refine WO_call (rs := [nb + 1]) (Bs := [_]) (av := [.agg 133 (ia Q), .sl (nb + 1) 0 2 3 (.ex 2)]) rfl (RB_of1 (PlayTells_run (md := .var) (q := 2 * 3) (c := .ex 2) Q _ 2 (by omega))) rfl (by simp [V.refsL, V.refs, dedup]) (by simp [V.refsL, V.refs]) (by simp [V.refsL, V.refs]) (by simp [rnL, V.renL, V.ren, pos]) ⟨(.head _), ⟨_, _, _, rfl⟩, trivial⟩ rfl rfl rfl (.cons .here .nil) ?_
     refine WO_gt rfl ?_
     refine WO_un (r := .bool _) rfl rfl ?_
     refine WO_pick (v := .s (.bool _)) rfl rfl ?_
     refine WO_nil ?_
     refine WP_cond rfl (fun h => nomatch h) (fun _ => ?_)
     refine WP_skip ?_
     refine WP_ops ?_
     refine WO_mv (v := .s (.int _ _)) rfl ?_
     refine WO_add rfl rfl (by omega) ?_
     refine WO_mv (v := .s (.int _ _)) rfl ?_
     refine WO_nil ?_
     refine ⟨_, _, ?_, (.cons _ (.cons _ (.cons _ (.cons_cons _ .slnil)))), s + 1, by omega, rfl, rfl, rfl, rfl, rfl⟩
     omega
   ·try simp only [NM] at h3
    refine WP_exit ?_
    refine xhere ?_
    refine WP_ops ?_
    refine WO_mv (v := .s (.int _ _)) rfl ?_
    refine WO_add rfl rfl (by omega) ?_
    refine WO_mv (v := .s (.int _ _)) rfl ?_
    refine WO_nil ?_
    refine ⟨_, _, ?_, (.cons_cons _ .slnil), c + 1, _, by omega, rfl, rfl, rfl, rfl⟩
    omega
  ·try simp only [NM] at h2
   refine WP_exit ?_
   refine xhere ?_
   refine WP_seq ?_
   refine WP_ops ?_
   refine WO_mkslS rfl (.one rfl (.one rfl (.one rfl (.one rfl .nil)))) ?_
   refine WO_mv (v := .sl _ _ _ _ _) rfl ?_
   refine WO_nil ?_
   refine WP_seq ?_
   refine WP_seq ?_
   refine WP_ops ?_
   refine WO_mv rfl ?_
   refine WO_nil ?_
   refine WP_block ?_
   refine WP_sub (L' := [_, _]) (.cons_cons _ (.cons_cons _ .slnil)) ?_
   refine WP_loop (fun m f _ L => ∃ (i : Nat) (be : Nat) (E : Nat → Int), (i ≤ 4) ∧ (m = 4 - i) ∧ (f 1 = .ptr 0 0 133) ∧ (f 14 = .sl be 0 4 1 (.ex 4)) ∧ (f 15 = .s (.int .i64 i)) ∧ (L = [(be, .sc .var 4 (ia E)), (0, .sc .var 133 (ia P2))])) (fun m f nb L hI => ?_) (_) ⟨0, _, _, by omega, rfl, rfl, rfl, rfl, rfl⟩
   obtain ⟨i, be, E, hi, hm, k1, k14, k15, rfl⟩ := hI
   refine WP_know (d := 1) (v := .ptr 0 0 133) k1 ?_
   refine WP_know (d := 14) (v := .sl be 0 4 1 (.ex 4)) k14 ?_
   refine WP_know (d := 15) (v := .s (.int .i64 i)) k15 ?_
   refine WP_seq ?_
   refine WP_seq ?_
   refine WP_ops ?_
   refine WO_mv (v := .s (.int _ _)) rfl ?_
   refine WO_bin (r := .bool _) rfl rfl rfl ?_
   refine WO_nil ?_
   refine WP_cond rfl (fun h7 => ?_) (fun h7 => ?_)
   ·try simp only [NM] at h7
    refine WP_skip ?_
    refine WP_seq ?_
    refine WP_block ?_
    refine WP_seq ?_
    refine WP_ops ?_
    first | refine WO_ldA0 rfl rfl (.tail _ (.head _)) ?_ | refine WO_ldAI rfl rfl (.tail _ (.head _)) ?_
    refine WO_mv (v := .sl _ _ _ _ _) rfl ?_
    refine WO_mv (v := .s (.int _ _)) rfl ?_
    refine WO_ixs rfl rfl (by first | omega | exact row6 (by omega)) ?_
    refine WO_ldI (x := _) rfl rfl (.head _) (rfl) ?_
    refine WO_buildI rfl (.one rfl (.one rfl .nil)) ?_
    refine WO_mv (v := .sl _ _ _ _ _) rfl ?_
    refine WO_mv (v := .s (.int _ _)) rfl ?_
    refine WO_ixs rfl rfl (by first | omega | exact row6 (by omega)) ?_
    refine WO_ldI (x := _) rfl rfl (.head _) (rfl) ?_
    refine WO_buildI rfl (.one rfl (.one rfl .nil)) ?_
    refine WO_buildI rfl (.one rfl (.one rfl .nil)) ?_
    refine WO_mv (v := .sl _ _ _ _ _) rfl ?_
    refine WO_mv (v := .s (.int _ _)) rfl ?_
    refine WO_ixs rfl rfl (by first | omega | exact row6 (by omega)) ?_
    refine WO_ldI (x := _) rfl rfl (.head _) (rfl) ?_
    refine WO_buildI rfl (.one rfl (.one rfl (.one rfl .nil))) ?_
    refine WO_mkslI rfl (.agg rfl (.agg rfl (.agg rfl (.agg rfl .nil)))) ?_
    refine WO_call (rs := [nb]) (Bs := [_]) (av := [.agg 133 (ia P2), .sl (nb) 0 4 3 (.ex 4)]) rfl (RB_of1 (PlayTells_run (md := .var) (q := 4 * 3) (c := .ex 4) P2 _ 4 (by omega))) rfl (by simp [V.refsL, V.refs, dedup]) (by simp [V.refsL, V.refs]) (by simp [V.refsL, V.refs]) (by simp [rnL, V.renL, V.ren, pos]) ⟨(.head _), ⟨_, _, _, rfl⟩, trivial⟩ rfl rfl rfl (.cons .here .nil) ?_
    refine WO_un (r := .bool _) rfl rfl ?_
    refine WO_mv (v := .s (.bool _)) rfl ?_
    refine WO_gt rfl ?_
    first | refine WO_ldA0 rfl rfl (.tail _ (.tail _ (.head _))) ?_ | refine WO_ldAI rfl rfl (.tail _ (.tail _ (.head _))) ?_
    refine WO_gt rfl ?_
    refine WO_mv (v := .sl _ _ _ _ _) rfl ?_
    refine WO_gt rfl ?_
    refine WO_mv (v := .s (.int _ _)) rfl ?_
    refine WO_gt rfl ?_
    refine WO_ixs rfl rfl (by first | omega | exact row6 (by omega)) ?_
    refine WO_gt rfl ?_
    refine WO_ldI (x := _) rfl rfl (.tail _ (.head _)) (rfl) ?_
    refine WO_gt rfl ?_
    refine WO_buildI rfl (.one rfl (.one rfl .nil)) ?_
    refine WO_gt rfl ?_
    refine WO_mkslI rfl (.agg rfl .nil) ?_
    refine WO_gt rfl ?_
    refine WO_call (rs := [nb + 1]) (Bs := [_]) (av := [.agg 133 (ia P2), .sl (nb + 1) 0 1 3 (.ex 1)]) rfl (RB_of1 (PlayTells_run (md := .var) (q := 1 * 3) (c := .ex 1) P2 _ 1 (by omega))) rfl (by simp [V.refsL, V.refs, dedup]) (by simp [V.refsL, V.refs]) (by simp [V.refsL, V.refs]) (by simp [rnL, V.renL, V.ren, pos]) ⟨(.head _), ⟨_, _, _, rfl⟩, trivial⟩ rfl rfl rfl (.cons .here .nil) ?_
    refine WO_gt rfl ?_
    refine WO_un (r := .bool _) rfl rfl ?_
    refine WO_pick (v := .s (.bool _)) rfl rfl ?_
    refine WO_nil ?_
    refine WP_cond rfl (fun h => nomatch h) (fun _ => ?_)
    refine WP_skip ?_
    refine WP_ops ?_
    refine WO_mv (v := .s (.int _ _)) rfl ?_
    refine WO_add rfl rfl (by omega) ?_
    refine WO_mv (v := .s (.int _ _)) rfl ?_
    refine WO_nil ?_
    refine ⟨_, _, ?_, (.cons _ (.cons _ (.cons_cons _ (.cons_cons _ .slnil)))), i + 1, _, _, by omega, rfl, rfl, rfl, rfl, rfl⟩
    omega
   ·try simp only [NM] at h7
    refine WP_exit ?_
    refine xhere ?_
    refine WP_seq ?_
    refine WP_ops ?_
    refine WO_call0 rfl (playAwake_run) rfl rfl rfl ?_
    refine WO_mv (v := .s (.bool _)) rfl ?_
    refine WO_nil ?_
    refine WP_ret ?_
    refine ⟨_, RS_tmp (v := .s (.bool _)) rfl (RS_nil), ?_⟩
    rfl
end Go.Proofs.Ytjldefmcnppdoaa
