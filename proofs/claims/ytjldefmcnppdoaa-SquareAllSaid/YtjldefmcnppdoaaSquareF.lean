/- The walk of SquareTells. -/
import Derived.Test.YtjldefmcnppdoaaSquareE
namespace Go.Proofs.Ytjldefmcnppdoaa
open Go Go.Am
set_option linter.unusedSimpArgs false
set_option linter.unusedVariables false
theorem Ring_ex {md : Md} {q1 : Nat} {c : Cp} (s : Int) (K : Nat → Int) (n : Nat) (hn : n ≤ 1000000) : ((ringM s K n).1 = 0 ∧ RB AM 51 [.s (.int .i64 s), .sl 0 0 n 2 c] [.sc md q1 (ia K)] .snil [.sc md q1 (ia K)]) ∨ (0 < (ringM s K n).1 ∧ ∃ q F, (∀ j : Nat, j < (ringM s K n).1 → F j = (ringM s K n).2 j) ∧ RN AM 51 [.s (.int .i64 s), .sl 0 0 n 2 c] [.sc md q1 (ia K)] (fun b => .sl b 0 (ringM s K n).1 1 .whole) (.sc .grow q (ia F)) [.sc md q1 (ia K)]) := by
  obtain ⟨v, σ', n', L', h1, h2, h3⟩ := Ring_walk (md := md) (q1 := q1) (c := c) s K n hn
  rcases h3 with ⟨h0, rfl, hb⟩ | ⟨h0, b, q, F, rfl, hb1, hF, hm, hb⟩
  · exact .inl ⟨h0, σ', h1, (h2.2.mem hb).2, ⟨_, _, _, rfl⟩, trivial⟩
  · exact .inr ⟨h0, q, F, hF, b, σ', h1, hb1, (h2.2.mem hm).2, (h2.2.mem hb).2, ⟨_, _, _, rfl⟩, trivial⟩
theorem dRing_ex {md : Md} {q1 : Nat} {c : Cp} (s : Int) (K : Nat → Int) (n : Nat) (hn : n ≤ 1000000) : ((ringM s K n).1 = 0 ∧ RB AM 52 [.s (.int .i64 s), .sl 0 0 n 2 c] [.sc md q1 (ia K)] .snil [.sc md q1 (ia K)]) ∨ (0 < (ringM s K n).1 ∧ ∃ q F, (∀ j : Nat, j < (ringM s K n).1 → F j = (ringM s K n).2 j) ∧ RN AM 52 [.s (.int .i64 s), .sl 0 0 n 2 c] [.sc md q1 (ia K)] (fun b => .sl b 0 (ringM s K n).1 1 .whole) (.sc .grow q (ia F)) [.sc md q1 (ia K)]) := by
  obtain ⟨v, σ', n', L', h1, h2, h3⟩ := dRing_walk (md := md) (q1 := q1) (c := c) s K n hn
  rcases h3 with ⟨h0, rfl, hb⟩ | ⟨h0, b, q, F, rfl, hb1, hF, hm, hb⟩
  · exact .inl ⟨h0, σ', h1, (h2.2.mem hb).2, ⟨_, _, _, rfl⟩, trivial⟩
  · exact .inr ⟨h0, q, F, hF, b, σ', h1, hb1, (h2.2.mem hm).2, (h2.2.mem hb).2, ⟨_, _, _, rfl⟩, trivial⟩
theorem eqI_f2 {n : Nat} {P Q : Nat → Int} (h : ∀ i, i < n → P i = Q i) : (bif true then !(eqI n P Q) else eqI n P Q) = false := by
  rw [eqI_iff.2 h]; rfl

theorem SquareTells_run {md : Md} {q : Nat} {c : Cp} (s p r : Int) (hp : -9223372036854775808 ≤ p ∧ p ≤ 9223372036854775807) (hr : -9223372036854775808 ≤ r ∧ r ≤ 9223372036854775807) (tx : ByteArray) (K : Nat → Int) (nn : Nat) (h0 : 0 < nn) : WR AM 8 [.s (.int .i64 s), .s (.int .i64 p), .s (.int .i64 r), .s (.str tx), .sl 0 0 nn 2 c] [.sc md q (ia K)] (fun v _ L => v = .s (.bool true) ∧ (0, Blk.sc md q (ia K)) ∈ L) := by
 refine WR_fn (a := a8) rfl rfl (entryF _) (entry_E (Nat.le_of_ble_eq_true rfl)) (m := 1) rfl ?_
 refine WP_seq ?_
 refine WP_ops ?_
 refine WO_mv rfl ?_
 refine WO_nil ?_
 refine WP_seq ?_
 refine WP_seq ?_
 refine WP_ops ?_
 refine WO_mv (v := .sl _ _ _ _ _) rfl ?_
 refine WO_len rfl ?_
 refine WO_bin (r := .bool _) rfl rfl rfl ?_
 refine WO_mv (v := .s (.bool _)) rfl ?_
 refine WO_case (t := 21) rfl (fun h1 => ?_) (fun h1 => ?_)
 ·try simp only [NM] at h1
  refine WO_gf rfl rfl ?_
  refine WO_gf rfl rfl ?_
  refine WO_gf rfl rfl ?_
  refine WO_pick (v := .s (.bool _)) rfl rfl ?_
  refine WO_nil ?_
  refine WP_cond rfl (fun _ => ?_) (fun h => nomatch h)
  refine WP_seq ?_
  refine WP_ops ?_
  refine WO_call0 rfl (sqAwake_run) rfl rfl rfl ?_
  refine WO_mv (v := .s (.bool _)) rfl ?_
  refine WO_nil ?_
  refine WP_ret ?_
  refine ⟨_, RS_tmp (v := .s (.bool _)) rfl (RS_nil), ?_⟩
  exact ⟨rfl, (.head _)⟩
 ·try simp only [NM] at h1
  refine WO_gt rfl ?_
  refine WO_mv (v := .s _) rfl ?_
  refine WO_gt rfl ?_
  refine WO_lenS rfl ?_
  refine WO_gt rfl ?_
  refine WO_bin (r := .bool _) rfl rfl rfl ?_
  refine WO_pick (v := .s (.bool _)) rfl rfl ?_
  refine WO_nil ?_
  refine WP_cond rfl (fun h2 => ?_) (fun h2 => ?_)
  ·try simp only [NM] at h2
   refine WP_seq ?_
   refine WP_ops ?_
   refine WO_call0 rfl (sqAwake_run) rfl rfl rfl ?_
   refine WO_mv (v := .s (.bool _)) rfl ?_
   refine WO_nil ?_
   refine WP_ret ?_
   refine ⟨_, RS_tmp (v := .s (.bool _)) rfl (RS_nil), ?_⟩
   exact ⟨rfl, (.head _)⟩
  ·try simp only [NM] at h2
   refine WP_skip ?_
   refine WP_seq ?_
   refine WP_ops ?_
   refine WO_mv (v := .s _) rfl ?_
   refine WO_call0 rfl (Named_run tx) rfl rfl rfl ?_
   refine WO_mv (v := .tup _) rfl ?_
   refine WO_ext (v := .s (.int _ _)) rfl rfl ?_
   refine WO_ext (v := .s (.bool _)) rfl rfl ?_
   refine WO_mv (v := .s (.int _ _)) rfl ?_
   refine WO_mv (v := .s (.bool _)) rfl ?_
   refine WO_nil ?_
   refine WP_seq ?_
   refine WP_ops ?_
   refine WO_mv (v := .s _) rfl ?_
   refine WO_call0 rfl (dNamed_run tx) rfl rfl rfl ?_
   refine WO_mv (v := .tup _) rfl ?_
   refine WO_ext (v := .s (.int _ _)) rfl rfl ?_
   refine WO_ext (v := .s (.bool _)) rfl rfl ?_
   refine WO_mv (v := .s (.int _ _)) rfl ?_
   refine WO_mv (v := .s (.bool _)) rfl ?_
   refine WO_nil ?_
   refine WP_seq ?_
   refine WP_seq ?_
   refine WP_ops ?_
   refine WO_mv (v := .s (.int _ _)) rfl ?_
   refine WO_call0 rfl (SqIs_run _) rfl rfl rfl ?_
   refine WO_mv (v := .s (.int _ _)) rfl ?_
   refine WO_call0 rfl (RF_of (dIs_run _)) rfl rfl rfl ?_
   refine WO_eqbF rfl rfl (rfl) ?_
   refine WO_mv (v := .s (.bool _)) rfl ?_
   refine WO_gt rfl ?_
   refine WO_mv (v := .s (.int _ _)) rfl ?_
   refine WO_gt rfl ?_
   refine WO_mv (v := .s (.int _ _)) rfl ?_
   refine WO_gt rfl ?_
   refine WO_call0 rfl (RF_of (At_run _ _ hp hr)) rfl rfl rfl ?_
   refine WO_gt rfl ?_
   refine WO_mv (v := .s (.int _ _)) rfl ?_
   refine WO_gt rfl ?_
   refine WO_mv (v := .s (.int _ _)) rfl ?_
   refine WO_gt rfl ?_
   refine WO_call0 rfl (RF_of (dAt_run _ _)) rfl rfl rfl ?_
   refine WO_gt rfl ?_
   refine WO_bin rfl rfl (neq_same rfl) ?_
   refine WO_pick (v := .s (.bool _)) rfl rfl ?_
   refine WO_mv (v := .s (.bool _)) rfl ?_
   refine WO_gt rfl ?_
   refine WO_mv (v := .s (.int _ _)) rfl ?_
   refine WO_gt rfl ?_
   refine WO_call0 rfl (File_run _) rfl rfl rfl ?_
   refine WO_gt rfl ?_
   refine WO_mv (v := .s (.int _ _)) rfl ?_
   refine WO_gt rfl ?_
   refine WO_call0 rfl (RF_of (dFile_run _)) rfl rfl rfl ?_
   refine WO_gt rfl ?_
   refine WO_bin rfl rfl (neq_same rfl) ?_
   refine WO_pick (v := .s (.bool _)) rfl rfl ?_
   refine WO_mv (v := .s (.bool _)) rfl ?_
   refine WO_gt rfl ?_
   refine WO_mv (v := .s (.int _ _)) rfl ?_
   refine WO_gt rfl ?_
   refine WO_call0 rfl (Rank_run _) rfl rfl rfl ?_
   refine WO_gt rfl ?_
   refine WO_mv (v := .s (.int _ _)) rfl ?_
   refine WO_gt rfl ?_
   refine WO_call0 rfl (RF_of (dRank_run _)) rfl rfl rfl ?_
   refine WO_gt rfl ?_
   refine WO_bin rfl rfl (neq_same rfl) ?_
   refine WO_pick (v := .s (.bool _)) rfl rfl ?_
   refine WO_mv (v := .s (.bool _)) rfl ?_
   refine WO_gt rfl ?_
   refine WO_mv (v := .s (.int _ _)) rfl ?_
   refine WO_gt rfl ?_
   refine WO_call0 rfl (Dark_run _) rfl rfl rfl ?_
   refine WO_gt rfl ?_
   refine WO_mv (v := .s (.int _ _)) rfl ?_
   refine WO_gt rfl ?_
   refine WO_call0 rfl (RF_of (dDark_run _)) rfl rfl rfl ?_
   refine WO_gt rfl ?_
   refine WO_eqbF rfl rfl (rfl) ?_
   refine WO_pick (v := .s (.bool _)) rfl rfl ?_
   refine WO_mv (v := .s (.bool _)) rfl ?_
   refine WO_gt rfl ?_
   refine WO_mv (v := .s (.int _ _)) rfl ?_
   refine WO_gt rfl ?_
   refine WO_call0 rfl (Name_run _) rfl rfl rfl ?_
   refine WO_gt rfl ?_
   refine WO_mv (v := .s (.int _ _)) rfl ?_
   refine WO_gt rfl ?_
   refine WO_call0 rfl (RF_of (dName_run _)) rfl rfl rfl ?_
   refine WO_gt rfl ?_
   refine WO_bin rfl rfl (sneq_self _) ?_
   refine WO_pick (v := .s (.bool _)) rfl rfl ?_
   refine WO_mv (v := .s (.bool _)) rfl ?_
   refine WO_gt rfl ?_
   refine WO_mv (v := .s (.int _ _)) rfl ?_
   refine WO_gt rfl ?_
   refine WO_mv (v := .s (.int _ _)) rfl ?_
   refine WO_gt rfl ?_
   refine WO_bin rfl rfl (neq_same rfl) ?_
   refine WO_pick (v := .s (.bool _)) rfl rfl ?_
   refine WO_mv (v := .s (.bool _)) rfl ?_
   refine WO_gt rfl ?_
   refine WO_mv (v := .s (.bool _)) rfl ?_
   refine WO_gt rfl ?_
   refine WO_mv (v := .s (.bool _)) rfl ?_
   refine WO_gt rfl ?_
   refine WO_eqbF rfl rfl (rfl) ?_
   refine WO_pick (v := .s (.bool _)) rfl rfl ?_
   refine WO_nil ?_
   refine WP_cond rfl (fun h => nomatch h) (fun _ => ?_)
   refine WP_skip ?_
   refine WP_seq ?_
   refine WP_ops ?_
   refine WO_mkslI rfl .nil ?_
   refine WO_mv (v := .sl _ _ _ _ _) rfl ?_
   refine WO_appendN rfl rfl (.head _) (.tail _ (.head _)) h0 (by simp [roomy]; omega) ?_
   rw [show (fun i => K (0 + i)) = K from funext fun i => by rw [Nat.zero_add]]
   refine WO_mv (v := .sl _ _ _ _ _) rfl ?_
   refine WO_nil ?_
   refine WP_cut (fun f n L => (f 4 = .sl 0 0 nn 2 c) ∧ (f 15 = .sl 2 0 nn 2 .whole) ∧ (f 16 = .s (.bool true)) ∧ (L = [(2, .sc .grow (nn * 2) (ia K)), (0, .sc md q (ia K))])) ?_ (fun f nb L hI => ?_)
   ·skip
    refine WP_ops ?_
    refine WO_mv (v := .s (.int _ _)) rfl ?_
    refine WO_mv (v := .s (.int _ _)) rfl ?_
    refine WO_mv (v := .s (.int _ _)) rfl ?_
    refine WO_call0 rfl (Step_run _ _ _) rfl rfl rfl ?_
    refine WO_mv (v := .s (.int _ _)) rfl ?_
    refine WO_mv (v := .s (.int _ _)) rfl ?_
    refine WO_mv (v := .s (.int _ _)) rfl ?_
    refine WO_call0 rfl (dStep_run _ _ _) rfl rfl rfl ?_
    refine WO_bin rfl rfl (eql_same rfl) ?_
    refine WO_mv (v := .s (.bool _)) rfl ?_
    refine WO_gt rfl ?_
    refine WO_mv (v := .s (.int _ _)) rfl ?_
    refine WO_gt rfl ?_
    refine WO_mv (v := .s (.int _ _)) rfl ?_
    refine WO_gt rfl ?_
    refine WO_mv (v := .s (.int _ _)) rfl ?_
    refine WO_gt rfl ?_
    rcases Ray_ex s p r with ⟨hp0, hr0, hT⟩ | ⟨hz, n1, F1, hR1, hn1, hF1, hT | hT⟩
    ·skip
     refine WO_call0 rfl (hT) rfl rfl rfl ?_
     refine WO_gt rfl ?_
     refine WO_mv (v := .s (.int _ _)) rfl ?_
     refine WO_gt rfl ?_
     refine WO_mv (v := .s (.int _ _)) rfl ?_
     refine WO_gt rfl ?_
     refine WO_mv (v := .s (.int _ _)) rfl ?_
     refine WO_gt rfl ?_
     rcases dRay_ex s p r with ⟨hp0b, hr0b, hTb⟩ | ⟨hzb, n2, F2, hR2, hn2, hF2, hTb | hTb⟩
     ·skip
      refine WO_call0 rfl (hTb) rfl rfl rfl ?_
      refine WO_gt rfl ?_
      refine WO_call0 rfl (RF_of SameInts_nil) rfl rfl rfl ?_
      refine WO_pick (v := .s (.bool _)) rfl rfl ?_
      refine WO_mv (v := .s (.bool _)) rfl ?_
      refine WO_gt rfl ?_
      refine WO_mv (v := .s (.int _ _)) rfl ?_
      refine WO_gt rfl ?_
      refine WO_mv (v := .sl _ _ _ _ _) rfl ?_
      refine WO_gt rfl ?_
      rcases Ring_ex (md := .grow) (q1 := nn * 2) (c := .whole) s K nn (by omega) with ⟨hc0, hG⟩ | ⟨hc0, g1, G1, hG1, hG⟩
      ·skip
       refine WO_call (rs := [2]) (Bs := [_]) rfl (hG) rfl rfl (Nat.le_of_ble_eq_true rfl) (fun _ h => h) rfl ⟨(.head _), ⟨_, _, _, rfl⟩, trivial⟩ rfl rfl rfl (.cons .here .nil) ?_
       refine WO_gt rfl ?_
       refine WO_mv (v := .s (.int _ _)) rfl ?_
       refine WO_gt rfl ?_
       refine WO_mv (v := .sl _ _ _ _ _) rfl ?_
       refine WO_gt rfl ?_
       rcases dRing_ex (md := md) (q1 := q) (c := c) s K nn (by omega) with ⟨hd0, hH⟩ | ⟨hd0, g2, G2, hG2, hH⟩
       ·skip
        refine WO_call (rs := [0]) (Bs := [_]) rfl (hH) rfl rfl (Nat.le_of_ble_eq_true rfl) (fun _ h => h) rfl ⟨(.tail _ (.tail _ (.head _))), ⟨_, _, _, rfl⟩, trivial⟩ rfl rfl rfl (.cons (.there (.there .here)) .nil) ?_
        refine WO_gt rfl ?_
        refine WO_call0 rfl (RF_of SameInts_nil) rfl rfl rfl ?_
        refine WO_pick (v := .s (.bool _)) rfl rfl ?_
        refine WO_mv (v := .s (.bool _)) rfl ?_
        refine WO_nil ?_
        exact ⟨_, (.cons_cons _ (.cons _ (.cons_cons _ .slnil))), rfl, rfl, rfl, rfl⟩
       ·skip
        exfalso; omega
      ·skip
       refine WO_callN (mk := fun b => .sl b 0 (ringM s K nn).1 1 .whole) (rs := [2]) (Bs := [_]) One_sl rfl hG rfl rfl (Nat.le_of_ble_eq_true rfl) (fun _ h => h) rfl ⟨(.head _), ⟨_, _, _, rfl⟩, trivial⟩ rfl rfl (.cons (At_self (.head _)) .nil) ?_
       refine WO_gt rfl ?_
       refine WO_mv (v := .s (.int _ _)) rfl ?_
       refine WO_gt rfl ?_
       refine WO_mv (v := .sl _ _ _ _ _) rfl ?_
       refine WO_gt rfl ?_
       rcases dRing_ex (md := md) (q1 := q) (c := c) s K nn (by omega) with ⟨hd0, hH⟩ | ⟨hd0, g2, G2, hG2, hH⟩
       ·skip
        exfalso; omega
       ·skip
        refine WO_callN (mk := fun b => .sl b 0 (ringM s K nn).1 1 .whole) (rs := [0]) (Bs := [_]) One_sl rfl hH rfl rfl (Nat.le_of_ble_eq_true rfl) (fun _ h => h) rfl ⟨(.tail _ (.tail _ (.tail _ (.head _)))), ⟨_, _, _, rfl⟩, trivial⟩ rfl rfl (.cons (At_self (.tail _ (.tail _ (.tail _ (.head _))))) .nil) ?_
        refine WO_gt rfl ?_
        refine WO_call (rs := [3, 4]) (Bs := [_, _]) rfl (RB_of2 (SameInts_run (md := .grow) (md2 := .grow) (c := .whole) (c2 := .whole) G1 G2 (ringM s K nn).1 (by have := ringM_le s K nn; omega) (fun j hj => (hG1 j hj).trans (hG2 j hj).symm))) rfl rfl (Nat.le_of_ble_eq_true rfl) (fun _ h => h) rfl ⟨(.tail _ (.head _)), ⟨_, _, _, rfl⟩, ⟨(.head _), ⟨_, _, _, rfl⟩, trivial⟩⟩ rfl rfl rfl (.cons (.there .here) (.cons .here .nil)) ?_
        refine WO_pick (v := .s (.bool _)) rfl rfl ?_
        refine WO_mv (v := .s (.bool _)) rfl ?_
        refine WO_nil ?_
        exact ⟨_, (.cons _ (.cons _ (.cons_cons _ (.cons _ (.cons_cons _ .slnil))))), rfl, rfl, rfl, rfl⟩
     ·skip
      exfalso; omega
     ·skip
      exfalso; omega
    ·skip
     refine WO_call0 rfl (hT.2) rfl rfl rfl ?_
     refine WO_gt rfl ?_
     refine WO_mv (v := .s (.int _ _)) rfl ?_
     refine WO_gt rfl ?_
     refine WO_mv (v := .s (.int _ _)) rfl ?_
     refine WO_gt rfl ?_
     refine WO_mv (v := .s (.int _ _)) rfl ?_
     refine WO_gt rfl ?_
     rcases dRay_ex s p r with ⟨hp0b, hr0b, hTb⟩ | ⟨hzb, n2, F2, hR2, hn2, hF2, hTb | hTb⟩
     ·skip
      exfalso; omega
     ·skip
      refine WO_call0 rfl (hTb.2) rfl rfl rfl ?_
      refine WO_gt rfl ?_
      refine WO_call0 rfl (RF_of SameInts_nil) rfl rfl rfl ?_
      refine WO_pick (v := .s (.bool _)) rfl rfl ?_
      refine WO_mv (v := .s (.bool _)) rfl ?_
      refine WO_gt rfl ?_
      refine WO_mv (v := .s (.int _ _)) rfl ?_
      refine WO_gt rfl ?_
      refine WO_mv (v := .sl _ _ _ _ _) rfl ?_
      refine WO_gt rfl ?_
      rcases Ring_ex (md := .grow) (q1 := nn * 2) (c := .whole) s K nn (by omega) with ⟨hc0, hG⟩ | ⟨hc0, g1, G1, hG1, hG⟩
      ·skip
       refine WO_call (rs := [2]) (Bs := [_]) rfl (hG) rfl rfl (Nat.le_of_ble_eq_true rfl) (fun _ h => h) rfl ⟨(.head _), ⟨_, _, _, rfl⟩, trivial⟩ rfl rfl rfl (.cons .here .nil) ?_
       refine WO_gt rfl ?_
       refine WO_mv (v := .s (.int _ _)) rfl ?_
       refine WO_gt rfl ?_
       refine WO_mv (v := .sl _ _ _ _ _) rfl ?_
       refine WO_gt rfl ?_
       rcases dRing_ex (md := md) (q1 := q) (c := c) s K nn (by omega) with ⟨hd0, hH⟩ | ⟨hd0, g2, G2, hG2, hH⟩
       ·skip
        refine WO_call (rs := [0]) (Bs := [_]) rfl (hH) rfl rfl (Nat.le_of_ble_eq_true rfl) (fun _ h => h) rfl ⟨(.tail _ (.tail _ (.head _))), ⟨_, _, _, rfl⟩, trivial⟩ rfl rfl rfl (.cons (.there (.there .here)) .nil) ?_
        refine WO_gt rfl ?_
        refine WO_call0 rfl (RF_of SameInts_nil) rfl rfl rfl ?_
        refine WO_pick (v := .s (.bool _)) rfl rfl ?_
        refine WO_mv (v := .s (.bool _)) rfl ?_
        refine WO_nil ?_
        exact ⟨_, (.cons_cons _ (.cons _ (.cons_cons _ .slnil))), rfl, rfl, rfl, rfl⟩
       ·skip
        exfalso; omega
      ·skip
       refine WO_callN (mk := fun b => .sl b 0 (ringM s K nn).1 1 .whole) (rs := [2]) (Bs := [_]) One_sl rfl hG rfl rfl (Nat.le_of_ble_eq_true rfl) (fun _ h => h) rfl ⟨(.head _), ⟨_, _, _, rfl⟩, trivial⟩ rfl rfl (.cons (At_self (.head _)) .nil) ?_
       refine WO_gt rfl ?_
       refine WO_mv (v := .s (.int _ _)) rfl ?_
       refine WO_gt rfl ?_
       refine WO_mv (v := .sl _ _ _ _ _) rfl ?_
       refine WO_gt rfl ?_
       rcases dRing_ex (md := md) (q1 := q) (c := c) s K nn (by omega) with ⟨hd0, hH⟩ | ⟨hd0, g2, G2, hG2, hH⟩
       ·skip
        exfalso; omega
       ·skip
        refine WO_callN (mk := fun b => .sl b 0 (ringM s K nn).1 1 .whole) (rs := [0]) (Bs := [_]) One_sl rfl hH rfl rfl (Nat.le_of_ble_eq_true rfl) (fun _ h => h) rfl ⟨(.tail _ (.tail _ (.tail _ (.head _)))), ⟨_, _, _, rfl⟩, trivial⟩ rfl rfl (.cons (At_self (.tail _ (.tail _ (.tail _ (.head _))))) .nil) ?_
        refine WO_gt rfl ?_
        refine WO_call (rs := [3, 4]) (Bs := [_, _]) rfl (RB_of2 (SameInts_run (md := .grow) (md2 := .grow) (c := .whole) (c2 := .whole) G1 G2 (ringM s K nn).1 (by have := ringM_le s K nn; omega) (fun j hj => (hG1 j hj).trans (hG2 j hj).symm))) rfl rfl (Nat.le_of_ble_eq_true rfl) (fun _ h => h) rfl ⟨(.tail _ (.head _)), ⟨_, _, _, rfl⟩, ⟨(.head _), ⟨_, _, _, rfl⟩, trivial⟩⟩ rfl rfl rfl (.cons (.there .here) (.cons .here .nil)) ?_
        refine WO_pick (v := .s (.bool _)) rfl rfl ?_
        refine WO_mv (v := .s (.bool _)) rfl ?_
        refine WO_nil ?_
        exact ⟨_, (.cons _ (.cons _ (.cons_cons _ (.cons _ (.cons_cons _ .slnil))))), rfl, rfl, rfl, rfl⟩
     ·skip
      exfalso; have hu := hR1.uniq hR2; have := hT; have := hTb; omega
    ·skip
     obtain ⟨h10, q1, hT⟩ := hT
     refine WO_callN (mk := fun b => .sl b 0 n1 1 .whole) (rs := []) (Bs := []) One_sl rfl hT rfl rfl (Nat.le_of_ble_eq_true rfl) (fun _ h => h) rfl trivial rfl rfl .nil ?_
     refine WO_gt rfl ?_
     refine WO_mv (v := .s (.int _ _)) rfl ?_
     refine WO_gt rfl ?_
     refine WO_mv (v := .s (.int _ _)) rfl ?_
     refine WO_gt rfl ?_
     refine WO_mv (v := .s (.int _ _)) rfl ?_
     refine WO_gt rfl ?_
     rcases dRay_ex s p r with ⟨hp0b, hr0b, hTb⟩ | ⟨hzb, n2, F2, hR2, hn2, hF2, hTb | hTb⟩
     ·skip
      exfalso; omega
     ·skip
      exfalso; have hu := hR1.uniq hR2; have := hTb.1; omega
     ·skip
      have hu := hR1.uniq hR2
      subst hu
      obtain ⟨h20, q2, hTb⟩ := hTb
      refine WO_callN (mk := fun b => .sl b 0 n1 1 .whole) (rs := []) (Bs := []) One_sl rfl hTb rfl rfl (Nat.le_of_ble_eq_true rfl) (fun _ h => h) rfl trivial rfl rfl .nil ?_
      refine WO_gt rfl ?_
      refine WO_call (rs := [3, 4]) (Bs := [_, _]) rfl (RB_of2 (SameInts_run (md := .grow) (md2 := .grow) (c := .whole) (c2 := .whole) F1 F2 n1 (by omega) (fun j hj => (hF1 j hj).trans (hF2 j hj).symm))) rfl rfl (Nat.le_of_ble_eq_true rfl) (fun _ h => h) rfl ⟨(.tail _ (.head _)), ⟨_, _, _, rfl⟩, ⟨(.head _), ⟨_, _, _, rfl⟩, trivial⟩⟩ rfl rfl rfl (.cons (.there .here) (.cons .here .nil)) ?_
      refine WO_pick (v := .s (.bool _)) rfl rfl ?_
      refine WO_mv (v := .s (.bool _)) rfl ?_
      refine WO_gt rfl ?_
      refine WO_mv (v := .s (.int _ _)) rfl ?_
      refine WO_gt rfl ?_
      refine WO_mv (v := .sl _ _ _ _ _) rfl ?_
      refine WO_gt rfl ?_
      rcases Ring_ex (md := .grow) (q1 := nn * 2) (c := .whole) s K nn (by omega) with ⟨hc0, hG⟩ | ⟨hc0, g1, G1, hG1, hG⟩
      ·skip
       refine WO_call (rs := [2]) (Bs := [_]) rfl (hG) rfl rfl (Nat.le_of_ble_eq_true rfl) (fun _ h => h) rfl ⟨(.tail _ (.tail _ (.head _))), ⟨_, _, _, rfl⟩, trivial⟩ rfl rfl rfl (.cons (.there (.there .here)) .nil) ?_
       refine WO_gt rfl ?_
       refine WO_mv (v := .s (.int _ _)) rfl ?_
       refine WO_gt rfl ?_
       refine WO_mv (v := .sl _ _ _ _ _) rfl ?_
       refine WO_gt rfl ?_
       rcases dRing_ex (md := md) (q1 := q) (c := c) s K nn (by omega) with ⟨hd0, hH⟩ | ⟨hd0, g2, G2, hG2, hH⟩
       ·skip
        refine WO_call (rs := [0]) (Bs := [_]) rfl (hH) rfl rfl (Nat.le_of_ble_eq_true rfl) (fun _ h => h) rfl ⟨(.tail _ (.tail _ (.tail _ (.tail _ (.head _))))), ⟨_, _, _, rfl⟩, trivial⟩ rfl rfl rfl (.cons (.there (.there (.there (.there .here)))) .nil) ?_
        refine WO_gt rfl ?_
        refine WO_call0 rfl (RF_of SameInts_nil) rfl rfl rfl ?_
        refine WO_pick (v := .s (.bool _)) rfl rfl ?_
        refine WO_mv (v := .s (.bool _)) rfl ?_
        refine WO_nil ?_
        exact ⟨_, (.cons _ (.cons _ (.cons_cons _ (.cons _ (.cons_cons _ .slnil))))), rfl, rfl, rfl, rfl⟩
       ·skip
        exfalso; omega
      ·skip
       refine WO_callN (mk := fun b => .sl b 0 (ringM s K nn).1 1 .whole) (rs := [2]) (Bs := [_]) One_sl rfl hG rfl rfl (Nat.le_of_ble_eq_true rfl) (fun _ h => h) rfl ⟨(.tail _ (.tail _ (.head _))), ⟨_, _, _, rfl⟩, trivial⟩ rfl rfl (.cons (At_self (.tail _ (.tail _ (.head _)))) .nil) ?_
       refine WO_gt rfl ?_
       refine WO_mv (v := .s (.int _ _)) rfl ?_
       refine WO_gt rfl ?_
       refine WO_mv (v := .sl _ _ _ _ _) rfl ?_
       refine WO_gt rfl ?_
       rcases dRing_ex (md := md) (q1 := q) (c := c) s K nn (by omega) with ⟨hd0, hH⟩ | ⟨hd0, g2, G2, hG2, hH⟩
       ·skip
        exfalso; omega
       ·skip
        refine WO_callN (mk := fun b => .sl b 0 (ringM s K nn).1 1 .whole) (rs := [0]) (Bs := [_]) One_sl rfl hH rfl rfl (Nat.le_of_ble_eq_true rfl) (fun _ h => h) rfl ⟨(.tail _ (.tail _ (.tail _ (.tail _ (.tail _ (.head _)))))), ⟨_, _, _, rfl⟩, trivial⟩ rfl rfl (.cons (At_self (.tail _ (.tail _ (.tail _ (.tail _ (.tail _ (.head _))))))) .nil) ?_
        refine WO_gt rfl ?_
        refine WO_call (rs := [5, 6]) (Bs := [_, _]) rfl (RB_of2 (SameInts_run (md := .grow) (md2 := .grow) (c := .whole) (c2 := .whole) G1 G2 (ringM s K nn).1 (by have := ringM_le s K nn; omega) (fun j hj => (hG1 j hj).trans (hG2 j hj).symm))) rfl rfl (Nat.le_of_ble_eq_true rfl) (fun _ h => h) rfl ⟨(.tail _ (.head _)), ⟨_, _, _, rfl⟩, ⟨(.head _), ⟨_, _, _, rfl⟩, trivial⟩⟩ rfl rfl rfl (.cons (.there .here) (.cons .here .nil)) ?_
        refine WO_pick (v := .s (.bool _)) rfl rfl ?_
        refine WO_mv (v := .s (.bool _)) rfl ?_
        refine WO_nil ?_
        exact ⟨_, (.cons _ (.cons _ (.cons _ (.cons _ (.cons_cons _ (.cons _ (.cons_cons _ .slnil))))))), rfl, rfl, rfl, rfl⟩
   ·skip
    obtain ⟨k4, k15, k16, rfl⟩ := hI
    refine WP_know (d := 4) (v := .sl 0 0 nn 2 c) k4 ?_
    refine WP_know (d := 15) (v := .sl 2 0 nn 2 .whole) k15 ?_
    refine WP_know (d := 16) (v := .s (.bool true)) k16 ?_
    refine WP_seq ?_
    refine WP_seq ?_
    refine WP_ops ?_
    refine WO_mv rfl ?_
    refine WO_nil ?_
    refine WP_block ?_
    refine WP_sub (L' := [_, _]) (.cons_cons _ (.cons_cons _ .slnil)) ?_
    refine WP_loop (fun m f _ L => ∃ (i : Nat), (i ≤ nn) ∧ (m = nn - i) ∧ (f 4 = .sl 0 0 nn 2 c) ∧ (f 15 = .sl 2 0 nn 2 .whole) ∧ (f 16 = .s (.bool true)) ∧ (f 17 = .s (.int .i64 i)) ∧ (L = [(2, .sc .grow (nn * 2) (ia K)), (0, .sc md q (ia K))])) (fun m f nb L hI => ?_) (nn) ⟨0, by omega, rfl, rfl, rfl, rfl, rfl, rfl⟩
    obtain ⟨i, hi, hm, k4, k15, k16, k17, rfl⟩ := hI
    refine WP_know (d := 4) (v := .sl 0 0 nn 2 c) k4 ?_
    refine WP_know (d := 15) (v := .sl 2 0 nn 2 .whole) k15 ?_
    refine WP_know (d := 16) (v := .s (.bool true)) k16 ?_
    refine WP_know (d := 17) (v := .s (.int .i64 i)) k17 ?_
    refine WP_seq ?_
    refine WP_seq ?_
    refine WP_ops ?_
    refine WO_mv (v := .s (.int _ _)) rfl ?_
    refine WO_mv (v := .sl _ _ _ _ _) rfl ?_
    refine WO_len rfl ?_
    refine WO_bin (r := .bool _) rfl rfl rfl ?_
    refine WO_nil ?_
    refine WP_cond rfl (fun h3 => ?_) (fun h3 => ?_)
    ·try simp only [NM] at h3
     refine WP_skip ?_
     refine WP_seq ?_
     refine WP_block ?_
     refine WP_seq ?_
     refine WP_ops ?_
     refine WO_mv (v := .sl _ _ _ _ _) rfl ?_
     refine WO_mv (v := .s (.int _ _)) rfl ?_
     refine WO_ixs rfl rfl (by omega) ?_
     first | refine WO_ldA0 rfl rfl (.head _) ?_ | refine WO_ldAI rfl rfl (.head _) ?_
     refine WO_mv (v := .sl _ _ _ _ _) rfl ?_
     refine WO_mv (v := .s (.int _ _)) rfl ?_
     refine WO_ixs rfl rfl (by omega) ?_
     first | refine WO_ldA0 rfl rfl (.tail _ (.head _)) ?_ | refine WO_ldAI rfl rfl (.tail _ (.head _)) ?_
     refine WO_eqaC rfl rfl (eqI_f2 (fun _ _ => rfl)) ?_
     refine WO_nil ?_
     refine WP_cond rfl (fun h => nomatch h) (fun _ => ?_)
     refine WP_skip ?_
     refine WP_ops ?_
     refine WO_mv (v := .s (.int _ _)) rfl ?_
     refine WO_add rfl rfl (by omega) ?_
     refine WO_mv (v := .s (.int _ _)) rfl ?_
     refine WO_nil ?_
     exact ⟨nn - (i + 1), _, by omega, (.cons_cons _ (.cons_cons _ .slnil)), i + 1, by omega, rfl, rfl, rfl, rfl, rfl, rfl⟩
    ·try simp only [NM] at h3
     refine WP_exit ?_
     refine xhere ?_
     refine WP_seq ?_
     refine WP_ops ?_
     refine WO_mv (v := .s (.bool _)) rfl ?_
     refine WO_mv (v := .s (.bool _)) rfl ?_
     refine WO_gt rfl ?_
     refine WO_call0 rfl (sqAwake_run) rfl rfl rfl ?_
     refine WO_pick (v := .s (.bool _)) rfl rfl ?_
     refine WO_mv (v := .s (.bool _)) rfl ?_
     refine WO_nil ?_
     refine WP_ret ?_
     refine ⟨_, RS_tmp (v := .s (.bool _)) rfl (RS_nil), ?_⟩
     exact ⟨rfl, (.tail _ (.head _))⟩
theorem SquareTells_runN (s p r : Int) (hp : -9223372036854775808 ≤ p ∧ p ≤ 9223372036854775807) (hr : -9223372036854775808 ≤ r ∧ r ≤ 9223372036854775807) (tx : ByteArray) : WR AM 8 [.s (.int .i64 s), .s (.int .i64 p), .s (.int .i64 r), .s (.str tx), .snil] [] (fun v _ L => v = .s (.bool true)) := by
 refine WR_fn (a := a8) rfl rfl (entryF _) (entry_E (Nat.le_of_ble_eq_true rfl)) (m := 0) rfl ?_
 refine WP_seq ?_
 refine WP_ops ?_
 refine WO_mv rfl ?_
 refine WO_nil ?_
 refine WP_seq ?_
 refine WP_seq ?_
 refine WP_ops ?_
 refine WO_mv (v := .snil) rfl ?_
 refine WO_lenN rfl ?_
 refine WO_bin (r := .bool _) rfl rfl rfl ?_
 refine WO_mv (v := .s (.bool _)) rfl ?_
 refine WO_case (t := 21) rfl (fun h4 => ?_) (fun h4 => ?_)
 ·try simp only [NM] at h4
  exfalso; first | omega | (simp at h4)
 ·try simp only [NM] at h4
  refine WO_gt rfl ?_
  refine WO_mv (v := .s _) rfl ?_
  refine WO_gt rfl ?_
  refine WO_lenS rfl ?_
  refine WO_gt rfl ?_
  refine WO_bin (r := .bool _) rfl rfl rfl ?_
  refine WO_pick (v := .s (.bool _)) rfl rfl ?_
  refine WO_nil ?_
  refine WP_cond rfl (fun h5 => ?_) (fun h5 => ?_)
  ·try simp only [NM] at h5
   refine WP_seq ?_
   refine WP_ops ?_
   refine WO_call0 rfl (sqAwake_run) rfl rfl rfl ?_
   refine WO_mv (v := .s (.bool _)) rfl ?_
   refine WO_nil ?_
   refine WP_ret ?_
   refine ⟨_, RS_tmp (v := .s (.bool _)) rfl (RS_nil), ?_⟩
   rfl
  ·try simp only [NM] at h5
   refine WP_skip ?_
   refine WP_seq ?_
   refine WP_ops ?_
   refine WO_mv (v := .s _) rfl ?_
   refine WO_call0 rfl (Named_run tx) rfl rfl rfl ?_
   refine WO_mv (v := .tup _) rfl ?_
   refine WO_ext (v := .s (.int _ _)) rfl rfl ?_
   refine WO_ext (v := .s (.bool _)) rfl rfl ?_
   refine WO_mv (v := .s (.int _ _)) rfl ?_
   refine WO_mv (v := .s (.bool _)) rfl ?_
   refine WO_nil ?_
   refine WP_seq ?_
   refine WP_ops ?_
   refine WO_mv (v := .s _) rfl ?_
   refine WO_call0 rfl (dNamed_run tx) rfl rfl rfl ?_
   refine WO_mv (v := .tup _) rfl ?_
   refine WO_ext (v := .s (.int _ _)) rfl rfl ?_
   refine WO_ext (v := .s (.bool _)) rfl rfl ?_
   refine WO_mv (v := .s (.int _ _)) rfl ?_
   refine WO_mv (v := .s (.bool _)) rfl ?_
   refine WO_nil ?_
   refine WP_seq ?_
   refine WP_seq ?_
   refine WP_ops ?_
   refine WO_mv (v := .s (.int _ _)) rfl ?_
   refine WO_call0 rfl (SqIs_run _) rfl rfl rfl ?_
   refine WO_mv (v := .s (.int _ _)) rfl ?_
   refine WO_call0 rfl (RF_of (dIs_run _)) rfl rfl rfl ?_
   refine WO_eqbF rfl rfl (rfl) ?_
   refine WO_mv (v := .s (.bool _)) rfl ?_
   refine WO_gt rfl ?_
   refine WO_mv (v := .s (.int _ _)) rfl ?_
   refine WO_gt rfl ?_
   refine WO_mv (v := .s (.int _ _)) rfl ?_
   refine WO_gt rfl ?_
   refine WO_call0 rfl (RF_of (At_run _ _ hp hr)) rfl rfl rfl ?_
   refine WO_gt rfl ?_
   refine WO_mv (v := .s (.int _ _)) rfl ?_
   refine WO_gt rfl ?_
   refine WO_mv (v := .s (.int _ _)) rfl ?_
   refine WO_gt rfl ?_
   refine WO_call0 rfl (RF_of (dAt_run _ _)) rfl rfl rfl ?_
   refine WO_gt rfl ?_
   refine WO_bin rfl rfl (neq_same rfl) ?_
   refine WO_pick (v := .s (.bool _)) rfl rfl ?_
   refine WO_mv (v := .s (.bool _)) rfl ?_
   refine WO_gt rfl ?_
   refine WO_mv (v := .s (.int _ _)) rfl ?_
   refine WO_gt rfl ?_
   refine WO_call0 rfl (File_run _) rfl rfl rfl ?_
   refine WO_gt rfl ?_
   refine WO_mv (v := .s (.int _ _)) rfl ?_
   refine WO_gt rfl ?_
   refine WO_call0 rfl (RF_of (dFile_run _)) rfl rfl rfl ?_
   refine WO_gt rfl ?_
   refine WO_bin rfl rfl (neq_same rfl) ?_
   refine WO_pick (v := .s (.bool _)) rfl rfl ?_
   refine WO_mv (v := .s (.bool _)) rfl ?_
   refine WO_gt rfl ?_
   refine WO_mv (v := .s (.int _ _)) rfl ?_
   refine WO_gt rfl ?_
   refine WO_call0 rfl (Rank_run _) rfl rfl rfl ?_
   refine WO_gt rfl ?_
   refine WO_mv (v := .s (.int _ _)) rfl ?_
   refine WO_gt rfl ?_
   refine WO_call0 rfl (RF_of (dRank_run _)) rfl rfl rfl ?_
   refine WO_gt rfl ?_
   refine WO_bin rfl rfl (neq_same rfl) ?_
   refine WO_pick (v := .s (.bool _)) rfl rfl ?_
   refine WO_mv (v := .s (.bool _)) rfl ?_
   refine WO_gt rfl ?_
   refine WO_mv (v := .s (.int _ _)) rfl ?_
   refine WO_gt rfl ?_
   refine WO_call0 rfl (Dark_run _) rfl rfl rfl ?_
   refine WO_gt rfl ?_
   refine WO_mv (v := .s (.int _ _)) rfl ?_
   refine WO_gt rfl ?_
   refine WO_call0 rfl (RF_of (dDark_run _)) rfl rfl rfl ?_
   refine WO_gt rfl ?_
   refine WO_eqbF rfl rfl (rfl) ?_
   refine WO_pick (v := .s (.bool _)) rfl rfl ?_
   refine WO_mv (v := .s (.bool _)) rfl ?_
   refine WO_gt rfl ?_
   refine WO_mv (v := .s (.int _ _)) rfl ?_
   refine WO_gt rfl ?_
   refine WO_call0 rfl (Name_run _) rfl rfl rfl ?_
   refine WO_gt rfl ?_
   refine WO_mv (v := .s (.int _ _)) rfl ?_
   refine WO_gt rfl ?_
   refine WO_call0 rfl (RF_of (dName_run _)) rfl rfl rfl ?_
   refine WO_gt rfl ?_
   refine WO_bin rfl rfl (sneq_self _) ?_
   refine WO_pick (v := .s (.bool _)) rfl rfl ?_
   refine WO_mv (v := .s (.bool _)) rfl ?_
   refine WO_gt rfl ?_
   refine WO_mv (v := .s (.int _ _)) rfl ?_
   refine WO_gt rfl ?_
   refine WO_mv (v := .s (.int _ _)) rfl ?_
   refine WO_gt rfl ?_
   refine WO_bin rfl rfl (neq_same rfl) ?_
   refine WO_pick (v := .s (.bool _)) rfl rfl ?_
   refine WO_mv (v := .s (.bool _)) rfl ?_
   refine WO_gt rfl ?_
   refine WO_mv (v := .s (.bool _)) rfl ?_
   refine WO_gt rfl ?_
   refine WO_mv (v := .s (.bool _)) rfl ?_
   refine WO_gt rfl ?_
   refine WO_eqbF rfl rfl (rfl) ?_
   refine WO_pick (v := .s (.bool _)) rfl rfl ?_
   refine WO_nil ?_
   refine WP_cond rfl (fun h => nomatch h) (fun _ => ?_)
   refine WP_skip ?_
   refine WP_seq ?_
   refine WP_ops ?_
   refine WO_mkslI rfl .nil ?_
   refine WO_mv (v := .snil) rfl ?_
   refine WO_append0 rfl rfl rfl .here ?_
   refine WO_mv (v := .sl _ _ _ _ _) rfl ?_
   refine WO_nil ?_
   refine WP_cut (fun f n L => (f 4 = .snil) ∧ (f 16 = .s (.bool true)) ∧ (L = [])) ?_ (fun f nb L hI => ?_)
   ·skip
    refine WP_ops ?_
    refine WO_mv (v := .s (.int _ _)) rfl ?_
    refine WO_mv (v := .s (.int _ _)) rfl ?_
    refine WO_mv (v := .s (.int _ _)) rfl ?_
    refine WO_call0 rfl (Step_run _ _ _) rfl rfl rfl ?_
    refine WO_mv (v := .s (.int _ _)) rfl ?_
    refine WO_mv (v := .s (.int _ _)) rfl ?_
    refine WO_mv (v := .s (.int _ _)) rfl ?_
    refine WO_call0 rfl (dStep_run _ _ _) rfl rfl rfl ?_
    refine WO_bin rfl rfl (eql_same rfl) ?_
    refine WO_mv (v := .s (.bool _)) rfl ?_
    refine WO_gt rfl ?_
    refine WO_mv (v := .s (.int _ _)) rfl ?_
    refine WO_gt rfl ?_
    refine WO_mv (v := .s (.int _ _)) rfl ?_
    refine WO_gt rfl ?_
    refine WO_mv (v := .s (.int _ _)) rfl ?_
    refine WO_gt rfl ?_
    rcases Ray_ex s p r with ⟨hp0, hr0, hT⟩ | ⟨hz, n1, F1, hR1, hn1, hF1, hT | hT⟩
    ·skip
     refine WO_call0 rfl (hT) rfl rfl rfl ?_
     refine WO_gt rfl ?_
     refine WO_mv (v := .s (.int _ _)) rfl ?_
     refine WO_gt rfl ?_
     refine WO_mv (v := .s (.int _ _)) rfl ?_
     refine WO_gt rfl ?_
     refine WO_mv (v := .s (.int _ _)) rfl ?_
     refine WO_gt rfl ?_
     rcases dRay_ex s p r with ⟨hp0b, hr0b, hTb⟩ | ⟨hzb, n2, F2, hR2, hn2, hF2, hTb | hTb⟩
     ·skip
      refine WO_call0 rfl (hTb) rfl rfl rfl ?_
      refine WO_gt rfl ?_
      refine WO_call0 rfl (RF_of SameInts_nil) rfl rfl rfl ?_
      refine WO_pick (v := .s (.bool _)) rfl rfl ?_
      refine WO_mv (v := .s (.bool _)) rfl ?_
      refine WO_gt rfl ?_
      refine WO_mv (v := .s (.int _ _)) rfl ?_
      refine WO_gt rfl ?_
      refine WO_mv (v := .sl _ _ _ _ _) rfl ?_
      refine WO_gt rfl ?_
      rcases Ring_ex (md := .var) (q1 := 0 * 2) (c := .ex 0) s _ 0 (by omega) with ⟨hc0, hG⟩ | ⟨hc0, _⟩
      ·skip
       refine WO_call (rs := [0]) (Bs := [_]) rfl (hG) rfl rfl (Nat.le_of_ble_eq_true rfl) (fun _ h => h) rfl ⟨(.head _), ⟨_, _, _, rfl⟩, trivial⟩ rfl rfl rfl (.cons .here .nil) ?_
       refine WO_gt rfl ?_
       refine WO_mv (v := .s (.int _ _)) rfl ?_
       refine WO_gt rfl ?_
       refine WO_mv (v := .snil) rfl ?_
       refine WO_gt rfl ?_
       refine WO_call0 rfl (RF_of (dRing_walkN s)) rfl rfl rfl ?_
       refine WO_gt rfl ?_
       refine WO_call0 rfl (RF_of SameInts_nil) rfl rfl rfl ?_
       refine WO_pick (v := .s (.bool _)) rfl rfl ?_
       refine WO_mv (v := .s (.bool _)) rfl ?_
       refine WO_nil ?_
       exact ⟨_, (.cons _ .slnil), rfl, rfl, rfl⟩
      ·exact absurd hc0 (by show ¬ 0 < 0; omega)
     ·skip
      exfalso; omega
     ·skip
      exfalso; omega
    ·skip
     refine WO_call0 rfl (hT.2) rfl rfl rfl ?_
     refine WO_gt rfl ?_
     refine WO_mv (v := .s (.int _ _)) rfl ?_
     refine WO_gt rfl ?_
     refine WO_mv (v := .s (.int _ _)) rfl ?_
     refine WO_gt rfl ?_
     refine WO_mv (v := .s (.int _ _)) rfl ?_
     refine WO_gt rfl ?_
     rcases dRay_ex s p r with ⟨hp0b, hr0b, hTb⟩ | ⟨hzb, n2, F2, hR2, hn2, hF2, hTb | hTb⟩
     ·skip
      exfalso; omega
     ·skip
      refine WO_call0 rfl (hTb.2) rfl rfl rfl ?_
      refine WO_gt rfl ?_
      refine WO_call0 rfl (RF_of SameInts_nil) rfl rfl rfl ?_
      refine WO_pick (v := .s (.bool _)) rfl rfl ?_
      refine WO_mv (v := .s (.bool _)) rfl ?_
      refine WO_gt rfl ?_
      refine WO_mv (v := .s (.int _ _)) rfl ?_
      refine WO_gt rfl ?_
      refine WO_mv (v := .sl _ _ _ _ _) rfl ?_
      refine WO_gt rfl ?_
      rcases Ring_ex (md := .var) (q1 := 0 * 2) (c := .ex 0) s _ 0 (by omega) with ⟨hc0, hG⟩ | ⟨hc0, _⟩
      ·skip
       refine WO_call (rs := [0]) (Bs := [_]) rfl (hG) rfl rfl (Nat.le_of_ble_eq_true rfl) (fun _ h => h) rfl ⟨(.head _), ⟨_, _, _, rfl⟩, trivial⟩ rfl rfl rfl (.cons .here .nil) ?_
       refine WO_gt rfl ?_
       refine WO_mv (v := .s (.int _ _)) rfl ?_
       refine WO_gt rfl ?_
       refine WO_mv (v := .snil) rfl ?_
       refine WO_gt rfl ?_
       refine WO_call0 rfl (RF_of (dRing_walkN s)) rfl rfl rfl ?_
       refine WO_gt rfl ?_
       refine WO_call0 rfl (RF_of SameInts_nil) rfl rfl rfl ?_
       refine WO_pick (v := .s (.bool _)) rfl rfl ?_
       refine WO_mv (v := .s (.bool _)) rfl ?_
       refine WO_nil ?_
       exact ⟨_, (.cons _ .slnil), rfl, rfl, rfl⟩
      ·exact absurd hc0 (by show ¬ 0 < 0; omega)
     ·skip
      exfalso; have hu := hR1.uniq hR2; have := hT; have := hTb; omega
    ·skip
     obtain ⟨h10, q1, hT⟩ := hT
     refine WO_callN (mk := fun b => .sl b 0 n1 1 .whole) (rs := []) (Bs := []) One_sl rfl hT rfl rfl (Nat.le_of_ble_eq_true rfl) (fun _ h => h) rfl trivial rfl rfl .nil ?_
     refine WO_gt rfl ?_
     refine WO_mv (v := .s (.int _ _)) rfl ?_
     refine WO_gt rfl ?_
     refine WO_mv (v := .s (.int _ _)) rfl ?_
     refine WO_gt rfl ?_
     refine WO_mv (v := .s (.int _ _)) rfl ?_
     refine WO_gt rfl ?_
     rcases dRay_ex s p r with ⟨hp0b, hr0b, hTb⟩ | ⟨hzb, n2, F2, hR2, hn2, hF2, hTb | hTb⟩
     ·skip
      exfalso; omega
     ·skip
      exfalso; have hu := hR1.uniq hR2; have := hTb.1; omega
     ·skip
      have hu := hR1.uniq hR2
      subst hu
      obtain ⟨h20, q2, hTb⟩ := hTb
      refine WO_callN (mk := fun b => .sl b 0 n1 1 .whole) (rs := []) (Bs := []) One_sl rfl hTb rfl rfl (Nat.le_of_ble_eq_true rfl) (fun _ h => h) rfl trivial rfl rfl .nil ?_
      refine WO_gt rfl ?_
      refine WO_call (rs := [1, 2]) (Bs := [_, _]) rfl (RB_of2 (SameInts_run (md := .grow) (md2 := .grow) (c := .whole) (c2 := .whole) F1 F2 n1 (by omega) (fun j hj => (hF1 j hj).trans (hF2 j hj).symm))) rfl rfl (Nat.le_of_ble_eq_true rfl) (fun _ h => h) rfl ⟨(.tail _ (.head _)), ⟨_, _, _, rfl⟩, ⟨(.head _), ⟨_, _, _, rfl⟩, trivial⟩⟩ rfl rfl rfl (.cons (.there .here) (.cons .here .nil)) ?_
      refine WO_pick (v := .s (.bool _)) rfl rfl ?_
      refine WO_mv (v := .s (.bool _)) rfl ?_
      refine WO_gt rfl ?_
      refine WO_mv (v := .s (.int _ _)) rfl ?_
      refine WO_gt rfl ?_
      refine WO_mv (v := .sl _ _ _ _ _) rfl ?_
      refine WO_gt rfl ?_
      rcases Ring_ex (md := .var) (q1 := 0 * 2) (c := .ex 0) s _ 0 (by omega) with ⟨hc0, hG⟩ | ⟨hc0, _⟩
      ·skip
       refine WO_call (rs := [0]) (Bs := [_]) rfl (hG) rfl rfl (Nat.le_of_ble_eq_true rfl) (fun _ h => h) rfl ⟨(.tail _ (.tail _ (.head _))), ⟨_, _, _, rfl⟩, trivial⟩ rfl rfl rfl (.cons (.there (.there .here)) .nil) ?_
       refine WO_gt rfl ?_
       refine WO_mv (v := .s (.int _ _)) rfl ?_
       refine WO_gt rfl ?_
       refine WO_mv (v := .snil) rfl ?_
       refine WO_gt rfl ?_
       refine WO_call0 rfl (RF_of (dRing_walkN s)) rfl rfl rfl ?_
       refine WO_gt rfl ?_
       refine WO_call0 rfl (RF_of SameInts_nil) rfl rfl rfl ?_
       refine WO_pick (v := .s (.bool _)) rfl rfl ?_
       refine WO_mv (v := .s (.bool _)) rfl ?_
       refine WO_nil ?_
       exact ⟨_, (.cons _ (.cons _ (.cons _ .slnil))), rfl, rfl, rfl⟩
      ·exact absurd hc0 (by show ¬ 0 < 0; omega)
   ·skip
    obtain ⟨k4, k16, rfl⟩ := hI
    refine WP_know (d := 4) (v := .snil) k4 ?_
    refine WP_know (d := 16) (v := .s (.bool true)) k16 ?_
    refine WP_seq ?_
    refine WP_seq ?_
    refine WP_ops ?_
    refine WO_mv rfl ?_
    refine WO_nil ?_
    refine WP_block ?_
    refine WP_loop (fun m f _ L => f 4 = .snil ∧ f 16 = .s (.bool true) ∧ f 17 = .s (.int .i64 0) ∧ L = []) (fun m f nb L hI => ?_) 0 ⟨rfl, rfl, rfl, rfl⟩
    obtain ⟨k4, k16, k17, rfl⟩ := hI
    refine WP_know (d := 4) (v := .snil) k4 ?_
    refine WP_know (d := 16) (v := .s (.bool true)) k16 ?_
    refine WP_know (d := 17) (v := .s (.int .i64 0)) k17 ?_
    refine WP_seq ?_
    refine WP_seq ?_
    refine WP_ops ?_
    refine WO_mv (v := .s (.int _ _)) rfl ?_
    refine WO_mv (v := .snil) rfl ?_
    refine WO_lenN rfl ?_
    refine WO_bin (r := .bool _) rfl rfl rfl ?_
    refine WO_nil ?_
    refine WP_cond rfl (fun h6 => ?_) (fun h6 => ?_)
    ·try simp only [NM] at h6
     exfalso; first | omega | (simp at h6)
    ·try simp only [NM] at h6
     refine WP_exit ?_
     refine xhere ?_
     refine WP_seq ?_
     refine WP_ops ?_
     refine WO_mv (v := .s (.bool _)) rfl ?_
     refine WO_mv (v := .s (.bool _)) rfl ?_
     refine WO_gt rfl ?_
     refine WO_call0 rfl (sqAwake_run) rfl rfl rfl ?_
     refine WO_pick (v := .s (.bool _)) rfl rfl ?_
     refine WO_mv (v := .s (.bool _)) rfl ?_
     refine WO_nil ?_
     refine WP_ret ?_
     refine ⟨_, RS_tmp (v := .s (.bool _)) rfl (RS_nil), ?_⟩
     rfl
theorem SquareTells_runZ (s p r : Int) (hp : -9223372036854775808 ≤ p ∧ p ≤ 9223372036854775807) (hr : -9223372036854775808 ≤ r ∧ r ≤ 9223372036854775807) (tx : ByteArray) : WR AM 8 [.s (.int .i64 s), .s (.int .i64 p), .s (.int .i64 r), .s (.str tx), .slz] [] (fun v _ L => v = .s (.bool true)) := by
 refine WR_fn (a := a8) rfl rfl (entryF _) (entry_E (Nat.le_of_ble_eq_true rfl)) (m := 0) rfl ?_
 refine WP_seq ?_
 refine WP_ops ?_
 refine WO_mv rfl ?_
 refine WO_nil ?_
 refine WP_seq ?_
 refine WP_seq ?_
 refine WP_ops ?_
 refine WO_mv (v := .slz) rfl ?_
 refine WO_lenZ rfl ?_
 refine WO_bin (r := .bool _) rfl rfl rfl ?_
 refine WO_mv (v := .s (.bool _)) rfl ?_
 refine WO_case (t := 21) rfl (fun h7 => ?_) (fun h7 => ?_)
 ·try simp only [NM] at h7
  exfalso; first | omega | (simp at h7)
 ·try simp only [NM] at h7
  refine WO_gt rfl ?_
  refine WO_mv (v := .s _) rfl ?_
  refine WO_gt rfl ?_
  refine WO_lenS rfl ?_
  refine WO_gt rfl ?_
  refine WO_bin (r := .bool _) rfl rfl rfl ?_
  refine WO_pick (v := .s (.bool _)) rfl rfl ?_
  refine WO_nil ?_
  refine WP_cond rfl (fun h8 => ?_) (fun h8 => ?_)
  ·try simp only [NM] at h8
   refine WP_seq ?_
   refine WP_ops ?_
   refine WO_call0 rfl (sqAwake_run) rfl rfl rfl ?_
   refine WO_mv (v := .s (.bool _)) rfl ?_
   refine WO_nil ?_
   refine WP_ret ?_
   refine ⟨_, RS_tmp (v := .s (.bool _)) rfl (RS_nil), ?_⟩
   rfl
  ·try simp only [NM] at h8
   refine WP_skip ?_
   refine WP_seq ?_
   refine WP_ops ?_
   refine WO_mv (v := .s _) rfl ?_
   refine WO_call0 rfl (Named_run tx) rfl rfl rfl ?_
   refine WO_mv (v := .tup _) rfl ?_
   refine WO_ext (v := .s (.int _ _)) rfl rfl ?_
   refine WO_ext (v := .s (.bool _)) rfl rfl ?_
   refine WO_mv (v := .s (.int _ _)) rfl ?_
   refine WO_mv (v := .s (.bool _)) rfl ?_
   refine WO_nil ?_
   refine WP_seq ?_
   refine WP_ops ?_
   refine WO_mv (v := .s _) rfl ?_
   refine WO_call0 rfl (dNamed_run tx) rfl rfl rfl ?_
   refine WO_mv (v := .tup _) rfl ?_
   refine WO_ext (v := .s (.int _ _)) rfl rfl ?_
   refine WO_ext (v := .s (.bool _)) rfl rfl ?_
   refine WO_mv (v := .s (.int _ _)) rfl ?_
   refine WO_mv (v := .s (.bool _)) rfl ?_
   refine WO_nil ?_
   refine WP_seq ?_
   refine WP_seq ?_
   refine WP_ops ?_
   refine WO_mv (v := .s (.int _ _)) rfl ?_
   refine WO_call0 rfl (SqIs_run _) rfl rfl rfl ?_
   refine WO_mv (v := .s (.int _ _)) rfl ?_
   refine WO_call0 rfl (RF_of (dIs_run _)) rfl rfl rfl ?_
   refine WO_eqbF rfl rfl (rfl) ?_
   refine WO_mv (v := .s (.bool _)) rfl ?_
   refine WO_gt rfl ?_
   refine WO_mv (v := .s (.int _ _)) rfl ?_
   refine WO_gt rfl ?_
   refine WO_mv (v := .s (.int _ _)) rfl ?_
   refine WO_gt rfl ?_
   refine WO_call0 rfl (RF_of (At_run _ _ hp hr)) rfl rfl rfl ?_
   refine WO_gt rfl ?_
   refine WO_mv (v := .s (.int _ _)) rfl ?_
   refine WO_gt rfl ?_
   refine WO_mv (v := .s (.int _ _)) rfl ?_
   refine WO_gt rfl ?_
   refine WO_call0 rfl (RF_of (dAt_run _ _)) rfl rfl rfl ?_
   refine WO_gt rfl ?_
   refine WO_bin rfl rfl (neq_same rfl) ?_
   refine WO_pick (v := .s (.bool _)) rfl rfl ?_
   refine WO_mv (v := .s (.bool _)) rfl ?_
   refine WO_gt rfl ?_
   refine WO_mv (v := .s (.int _ _)) rfl ?_
   refine WO_gt rfl ?_
   refine WO_call0 rfl (File_run _) rfl rfl rfl ?_
   refine WO_gt rfl ?_
   refine WO_mv (v := .s (.int _ _)) rfl ?_
   refine WO_gt rfl ?_
   refine WO_call0 rfl (RF_of (dFile_run _)) rfl rfl rfl ?_
   refine WO_gt rfl ?_
   refine WO_bin rfl rfl (neq_same rfl) ?_
   refine WO_pick (v := .s (.bool _)) rfl rfl ?_
   refine WO_mv (v := .s (.bool _)) rfl ?_
   refine WO_gt rfl ?_
   refine WO_mv (v := .s (.int _ _)) rfl ?_
   refine WO_gt rfl ?_
   refine WO_call0 rfl (Rank_run _) rfl rfl rfl ?_
   refine WO_gt rfl ?_
   refine WO_mv (v := .s (.int _ _)) rfl ?_
   refine WO_gt rfl ?_
   refine WO_call0 rfl (RF_of (dRank_run _)) rfl rfl rfl ?_
   refine WO_gt rfl ?_
   refine WO_bin rfl rfl (neq_same rfl) ?_
   refine WO_pick (v := .s (.bool _)) rfl rfl ?_
   refine WO_mv (v := .s (.bool _)) rfl ?_
   refine WO_gt rfl ?_
   refine WO_mv (v := .s (.int _ _)) rfl ?_
   refine WO_gt rfl ?_
   refine WO_call0 rfl (Dark_run _) rfl rfl rfl ?_
   refine WO_gt rfl ?_
   refine WO_mv (v := .s (.int _ _)) rfl ?_
   refine WO_gt rfl ?_
   refine WO_call0 rfl (RF_of (dDark_run _)) rfl rfl rfl ?_
   refine WO_gt rfl ?_
   refine WO_eqbF rfl rfl (rfl) ?_
   refine WO_pick (v := .s (.bool _)) rfl rfl ?_
   refine WO_mv (v := .s (.bool _)) rfl ?_
   refine WO_gt rfl ?_
   refine WO_mv (v := .s (.int _ _)) rfl ?_
   refine WO_gt rfl ?_
   refine WO_call0 rfl (Name_run _) rfl rfl rfl ?_
   refine WO_gt rfl ?_
   refine WO_mv (v := .s (.int _ _)) rfl ?_
   refine WO_gt rfl ?_
   refine WO_call0 rfl (RF_of (dName_run _)) rfl rfl rfl ?_
   refine WO_gt rfl ?_
   refine WO_bin rfl rfl (sneq_self _) ?_
   refine WO_pick (v := .s (.bool _)) rfl rfl ?_
   refine WO_mv (v := .s (.bool _)) rfl ?_
   refine WO_gt rfl ?_
   refine WO_mv (v := .s (.int _ _)) rfl ?_
   refine WO_gt rfl ?_
   refine WO_mv (v := .s (.int _ _)) rfl ?_
   refine WO_gt rfl ?_
   refine WO_bin rfl rfl (neq_same rfl) ?_
   refine WO_pick (v := .s (.bool _)) rfl rfl ?_
   refine WO_mv (v := .s (.bool _)) rfl ?_
   refine WO_gt rfl ?_
   refine WO_mv (v := .s (.bool _)) rfl ?_
   refine WO_gt rfl ?_
   refine WO_mv (v := .s (.bool _)) rfl ?_
   refine WO_gt rfl ?_
   refine WO_eqbF rfl rfl (rfl) ?_
   refine WO_pick (v := .s (.bool _)) rfl rfl ?_
   refine WO_nil ?_
   refine WP_cond rfl (fun h => nomatch h) (fun _ => ?_)
   refine WP_skip ?_
   refine WP_seq ?_
   refine WP_ops ?_
   refine WO_mkslI rfl .nil ?_
   refine WO_mv (v := .slz) rfl ?_
   refine WO_append0Z rfl rfl rfl .here ?_
   refine WO_mv (v := .sl _ _ _ _ _) rfl ?_
   refine WO_nil ?_
   refine WP_cut (fun f n L => (f 4 = .slz) ∧ (f 16 = .s (.bool true)) ∧ (L = [])) ?_ (fun f nb L hI => ?_)
   ·skip
    refine WP_ops ?_
    refine WO_mv (v := .s (.int _ _)) rfl ?_
    refine WO_mv (v := .s (.int _ _)) rfl ?_
    refine WO_mv (v := .s (.int _ _)) rfl ?_
    refine WO_call0 rfl (Step_run _ _ _) rfl rfl rfl ?_
    refine WO_mv (v := .s (.int _ _)) rfl ?_
    refine WO_mv (v := .s (.int _ _)) rfl ?_
    refine WO_mv (v := .s (.int _ _)) rfl ?_
    refine WO_call0 rfl (dStep_run _ _ _) rfl rfl rfl ?_
    refine WO_bin rfl rfl (eql_same rfl) ?_
    refine WO_mv (v := .s (.bool _)) rfl ?_
    refine WO_gt rfl ?_
    refine WO_mv (v := .s (.int _ _)) rfl ?_
    refine WO_gt rfl ?_
    refine WO_mv (v := .s (.int _ _)) rfl ?_
    refine WO_gt rfl ?_
    refine WO_mv (v := .s (.int _ _)) rfl ?_
    refine WO_gt rfl ?_
    rcases Ray_ex s p r with ⟨hp0, hr0, hT⟩ | ⟨hz, n1, F1, hR1, hn1, hF1, hT | hT⟩
    ·skip
     refine WO_call0 rfl (hT) rfl rfl rfl ?_
     refine WO_gt rfl ?_
     refine WO_mv (v := .s (.int _ _)) rfl ?_
     refine WO_gt rfl ?_
     refine WO_mv (v := .s (.int _ _)) rfl ?_
     refine WO_gt rfl ?_
     refine WO_mv (v := .s (.int _ _)) rfl ?_
     refine WO_gt rfl ?_
     rcases dRay_ex s p r with ⟨hp0b, hr0b, hTb⟩ | ⟨hzb, n2, F2, hR2, hn2, hF2, hTb | hTb⟩
     ·skip
      refine WO_call0 rfl (hTb) rfl rfl rfl ?_
      refine WO_gt rfl ?_
      refine WO_call0 rfl (RF_of SameInts_nil) rfl rfl rfl ?_
      refine WO_pick (v := .s (.bool _)) rfl rfl ?_
      refine WO_mv (v := .s (.bool _)) rfl ?_
      refine WO_gt rfl ?_
      refine WO_mv (v := .s (.int _ _)) rfl ?_
      refine WO_gt rfl ?_
      refine WO_mv (v := .sl _ _ _ _ _) rfl ?_
      refine WO_gt rfl ?_
      rcases Ring_ex (md := .var) (q1 := 0 * 2) (c := .ex 0) s _ 0 (by omega) with ⟨hc0, hG⟩ | ⟨hc0, _⟩
      ·skip
       refine WO_call (rs := [0]) (Bs := [_]) rfl (hG) rfl rfl (Nat.le_of_ble_eq_true rfl) (fun _ h => h) rfl ⟨(.head _), ⟨_, _, _, rfl⟩, trivial⟩ rfl rfl rfl (.cons .here .nil) ?_
       refine WO_gt rfl ?_
       refine WO_mv (v := .s (.int _ _)) rfl ?_
       refine WO_gt rfl ?_
       refine WO_mv (v := .slz) rfl ?_
       refine WO_gt rfl ?_
       refine WO_call0 rfl (RF_of (dRing_walkZ s)) rfl rfl rfl ?_
       refine WO_gt rfl ?_
       refine WO_call0 rfl (RF_of SameInts_nil) rfl rfl rfl ?_
       refine WO_pick (v := .s (.bool _)) rfl rfl ?_
       refine WO_mv (v := .s (.bool _)) rfl ?_
       refine WO_nil ?_
       exact ⟨_, (.cons _ .slnil), rfl, rfl, rfl⟩
      ·exact absurd hc0 (by show ¬ 0 < 0; omega)
     ·skip
      exfalso; omega
     ·skip
      exfalso; omega
    ·skip
     refine WO_call0 rfl (hT.2) rfl rfl rfl ?_
     refine WO_gt rfl ?_
     refine WO_mv (v := .s (.int _ _)) rfl ?_
     refine WO_gt rfl ?_
     refine WO_mv (v := .s (.int _ _)) rfl ?_
     refine WO_gt rfl ?_
     refine WO_mv (v := .s (.int _ _)) rfl ?_
     refine WO_gt rfl ?_
     rcases dRay_ex s p r with ⟨hp0b, hr0b, hTb⟩ | ⟨hzb, n2, F2, hR2, hn2, hF2, hTb | hTb⟩
     ·skip
      exfalso; omega
     ·skip
      refine WO_call0 rfl (hTb.2) rfl rfl rfl ?_
      refine WO_gt rfl ?_
      refine WO_call0 rfl (RF_of SameInts_nil) rfl rfl rfl ?_
      refine WO_pick (v := .s (.bool _)) rfl rfl ?_
      refine WO_mv (v := .s (.bool _)) rfl ?_
      refine WO_gt rfl ?_
      refine WO_mv (v := .s (.int _ _)) rfl ?_
      refine WO_gt rfl ?_
      refine WO_mv (v := .sl _ _ _ _ _) rfl ?_
      refine WO_gt rfl ?_
      rcases Ring_ex (md := .var) (q1 := 0 * 2) (c := .ex 0) s _ 0 (by omega) with ⟨hc0, hG⟩ | ⟨hc0, _⟩
      ·skip
       refine WO_call (rs := [0]) (Bs := [_]) rfl (hG) rfl rfl (Nat.le_of_ble_eq_true rfl) (fun _ h => h) rfl ⟨(.head _), ⟨_, _, _, rfl⟩, trivial⟩ rfl rfl rfl (.cons .here .nil) ?_
       refine WO_gt rfl ?_
       refine WO_mv (v := .s (.int _ _)) rfl ?_
       refine WO_gt rfl ?_
       refine WO_mv (v := .slz) rfl ?_
       refine WO_gt rfl ?_
       refine WO_call0 rfl (RF_of (dRing_walkZ s)) rfl rfl rfl ?_
       refine WO_gt rfl ?_
       refine WO_call0 rfl (RF_of SameInts_nil) rfl rfl rfl ?_
       refine WO_pick (v := .s (.bool _)) rfl rfl ?_
       refine WO_mv (v := .s (.bool _)) rfl ?_
       refine WO_nil ?_
       exact ⟨_, (.cons _ .slnil), rfl, rfl, rfl⟩
      ·exact absurd hc0 (by show ¬ 0 < 0; omega)
     ·skip
      exfalso; have hu := hR1.uniq hR2; have := hT; have := hTb; omega
    ·skip
     obtain ⟨h10, q1, hT⟩ := hT
     refine WO_callN (mk := fun b => .sl b 0 n1 1 .whole) (rs := []) (Bs := []) One_sl rfl hT rfl rfl (Nat.le_of_ble_eq_true rfl) (fun _ h => h) rfl trivial rfl rfl .nil ?_
     refine WO_gt rfl ?_
     refine WO_mv (v := .s (.int _ _)) rfl ?_
     refine WO_gt rfl ?_
     refine WO_mv (v := .s (.int _ _)) rfl ?_
     refine WO_gt rfl ?_
     refine WO_mv (v := .s (.int _ _)) rfl ?_
     refine WO_gt rfl ?_
     rcases dRay_ex s p r with ⟨hp0b, hr0b, hTb⟩ | ⟨hzb, n2, F2, hR2, hn2, hF2, hTb | hTb⟩
     ·skip
      exfalso; omega
     ·skip
      exfalso; have hu := hR1.uniq hR2; have := hTb.1; omega
     ·skip
      have hu := hR1.uniq hR2
      subst hu
      obtain ⟨h20, q2, hTb⟩ := hTb
      refine WO_callN (mk := fun b => .sl b 0 n1 1 .whole) (rs := []) (Bs := []) One_sl rfl hTb rfl rfl (Nat.le_of_ble_eq_true rfl) (fun _ h => h) rfl trivial rfl rfl .nil ?_
      refine WO_gt rfl ?_
      refine WO_call (rs := [1, 2]) (Bs := [_, _]) rfl (RB_of2 (SameInts_run (md := .grow) (md2 := .grow) (c := .whole) (c2 := .whole) F1 F2 n1 (by omega) (fun j hj => (hF1 j hj).trans (hF2 j hj).symm))) rfl rfl (Nat.le_of_ble_eq_true rfl) (fun _ h => h) rfl ⟨(.tail _ (.head _)), ⟨_, _, _, rfl⟩, ⟨(.head _), ⟨_, _, _, rfl⟩, trivial⟩⟩ rfl rfl rfl (.cons (.there .here) (.cons .here .nil)) ?_
      refine WO_pick (v := .s (.bool _)) rfl rfl ?_
      refine WO_mv (v := .s (.bool _)) rfl ?_
      refine WO_gt rfl ?_
      refine WO_mv (v := .s (.int _ _)) rfl ?_
      refine WO_gt rfl ?_
      refine WO_mv (v := .sl _ _ _ _ _) rfl ?_
      refine WO_gt rfl ?_
      rcases Ring_ex (md := .var) (q1 := 0 * 2) (c := .ex 0) s _ 0 (by omega) with ⟨hc0, hG⟩ | ⟨hc0, _⟩
      ·skip
       refine WO_call (rs := [0]) (Bs := [_]) rfl (hG) rfl rfl (Nat.le_of_ble_eq_true rfl) (fun _ h => h) rfl ⟨(.tail _ (.tail _ (.head _))), ⟨_, _, _, rfl⟩, trivial⟩ rfl rfl rfl (.cons (.there (.there .here)) .nil) ?_
       refine WO_gt rfl ?_
       refine WO_mv (v := .s (.int _ _)) rfl ?_
       refine WO_gt rfl ?_
       refine WO_mv (v := .slz) rfl ?_
       refine WO_gt rfl ?_
       refine WO_call0 rfl (RF_of (dRing_walkZ s)) rfl rfl rfl ?_
       refine WO_gt rfl ?_
       refine WO_call0 rfl (RF_of SameInts_nil) rfl rfl rfl ?_
       refine WO_pick (v := .s (.bool _)) rfl rfl ?_
       refine WO_mv (v := .s (.bool _)) rfl ?_
       refine WO_nil ?_
       exact ⟨_, (.cons _ (.cons _ (.cons _ .slnil))), rfl, rfl, rfl⟩
      ·exact absurd hc0 (by show ¬ 0 < 0; omega)
   ·skip
    obtain ⟨k4, k16, rfl⟩ := hI
    refine WP_know (d := 4) (v := .slz) k4 ?_
    refine WP_know (d := 16) (v := .s (.bool true)) k16 ?_
    refine WP_seq ?_
    refine WP_seq ?_
    refine WP_ops ?_
    refine WO_mv rfl ?_
    refine WO_nil ?_
    refine WP_block ?_
    refine WP_loop (fun m f _ L => f 4 = .slz ∧ f 16 = .s (.bool true) ∧ f 17 = .s (.int .i64 0) ∧ L = []) (fun m f nb L hI => ?_) 0 ⟨rfl, rfl, rfl, rfl⟩
    obtain ⟨k4, k16, k17, rfl⟩ := hI
    refine WP_know (d := 4) (v := .slz) k4 ?_
    refine WP_know (d := 16) (v := .s (.bool true)) k16 ?_
    refine WP_know (d := 17) (v := .s (.int .i64 0)) k17 ?_
    refine WP_seq ?_
    refine WP_seq ?_
    refine WP_ops ?_
    refine WO_mv (v := .s (.int _ _)) rfl ?_
    refine WO_mv (v := .slz) rfl ?_
    refine WO_lenZ rfl ?_
    refine WO_bin (r := .bool _) rfl rfl rfl ?_
    refine WO_nil ?_
    refine WP_cond rfl (fun h9 => ?_) (fun h9 => ?_)
    ·try simp only [NM] at h9
     exfalso; first | omega | (simp at h9)
    ·try simp only [NM] at h9
     refine WP_exit ?_
     refine xhere ?_
     refine WP_seq ?_
     refine WP_ops ?_
     refine WO_mv (v := .s (.bool _)) rfl ?_
     refine WO_mv (v := .s (.bool _)) rfl ?_
     refine WO_gt rfl ?_
     refine WO_call0 rfl (sqAwake_run) rfl rfl rfl ?_
     refine WO_pick (v := .s (.bool _)) rfl rfl ?_
     refine WO_mv (v := .s (.bool _)) rfl ?_
     refine WO_nil ?_
     refine WP_ret ?_
     refine ⟨_, RS_tmp (v := .s (.bool _)) rfl (RS_nil), ?_⟩
     rfl
end Go.Proofs.Ytjldefmcnppdoaa
