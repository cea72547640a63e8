/- The walk of SquareAll. -/
import Derived.Test.YtjldefmcnppdoaaSquareF
namespace Go.Proofs.Ytjldefmcnppdoaa
open Go Go.Am
set_option linter.unusedSimpArgs false
set_option linter.unusedVariables false
def endsE : Nat → Int := (ov (ov (ov (ov (ov (ov (ov (ov (ov (ov (fun _ => 0) (0 * 1) (-9223372036854775808)) (1 * 1) (-64)) (2 * 1) (-8)) (3 * 1) (-1)) (4 * 1) 0) (5 * 1) 7) (6 * 1) 8) (7 * 1) 63) (8 * 1) 64) (9 * 1) 9223372036854775807)
theorem ends_bd {i : Int} (h : 0 ≤ i ∧ i < 10) : -9223372036854775808 ≤ endsE (0 + i.toNat * 1) ∧ endsE (0 + i.toNat * 1) ≤ 9223372036854775807 := by
  have : i = 0 ∨ i = 1 ∨ i = 2 ∨ i = 3 ∨ i = 4 ∨ i = 5 ∨ i = 6 ∨ i = 7 ∨ i = 8 ∨ i = 9 := by omega
  rcases this with rfl | rfl | rfl | rfl | rfl | rfl | rfl | rfl | rfl | rfl <;> decide
theorem rn_two {x y n n' z z' : Nat} {c c' : Cp} (h : x ≠ y) : rnL [x, y] [.sl x 0 n z c, .sl y 0 n' z' c'] = some [.sl 0 0 n z c, .sl 1 0 n' z' c'] := by
  have e : (x == y) = false := beq_eq_false_iff_ne.2 h
  simp [rnL, V.renL, V.ren, pos, e]
theorem name_a (x : Int) : binS .add (.str (nameS x)) (.str ⟨#[97]⟩) = some (.str (nameS x ++ ⟨#[97]⟩)) := by
  unfold nameS
  split <;> rfl
theorem cast_shr8 {x : Int} (h : 0 ≤ x) : binS .shr (.int .i64 x) (.int .u64 8) = some (.int .i64 (x / 256)) := by
  show some (S.int .i64 (x.fdiv (2 ^ (min (8 : Int).toNat 64)))) = _
  rw [Int.fdiv_eq_ediv_of_nonneg _ (by decide)]
  rfl
theorem wrap8 {x : Int} : IntKind.u8.wrap x = x % 256 := IntKind.wrap_u8 x
theorem tx_bytes {x : Int} (h : 0 ≤ x ∧ x < 65536) : byteN ⟨#[UInt8.ofNat (x / 256).toNat, UInt8.ofNat (x % 256).toNat]⟩ 0 = x / 256 ∧ byteN ⟨#[UInt8.ofNat (x / 256).toNat, UInt8.ofNat (x % 256).toNat]⟩ 1 = x % 256 := by
  constructor
  · show ((UInt8.ofNat (x / 256).toNat).toNat : Int) = _
    rw [UInt8.toNat_ofNat']
    omega
  · show ((UInt8.ofNat (x % 256).toNat).toNat : Int) = _
    rw [UInt8.toNat_ofNat']
    omega
theorem tx_named {x : Int} (h : 0 ≤ x ∧ x < 65536) : ((97 ≤ x / 256 ∧ x / 256 ≤ 104 ∧ 49 ≤ x % 256 ∧ x % 256 ≤ 56) ∧ RF AM 34 [.s (.str ⟨#[UInt8.ofNat (x / 256).toNat, UInt8.ofNat (x % 256).toNat]⟩)] (.tup [.s (.int .i64 ((x % 256 - 49) * 8 + (x / 256 - 97))), .s (.bool true)])) ∨
    (¬ (97 ≤ x / 256 ∧ x / 256 ≤ 104 ∧ 49 ≤ x % 256 ∧ x % 256 ≤ 56) ∧ RF AM 34 [.s (.str ⟨#[UInt8.ofNat (x / 256).toNat, UInt8.ofNat (x % 256).toNat]⟩)] (.tup [.s (.int .i64 0), .s (.bool false)])) := by
  have ⟨b0, b1⟩ := tx_bytes h
  have hr := Named_run ⟨#[UInt8.ofNat (x / 256).toNat, UInt8.ofNat (x % 256).toNat]⟩
  by_cases c : 97 ≤ x / 256 ∧ x / 256 ≤ 104 ∧ 49 ≤ x % 256 ∧ x % 256 ≤ 56
  · have hn : isName ⟨#[UInt8.ofNat (x / 256).toNat, UInt8.ofNat (x % 256).toNat]⟩ := ⟨rfl, by rw [b0]; omega, by rw [b1]; omega⟩
    rw [decide_eq_true hn, namedM, if_pos hn, b0, b1] at hr
    exact .inl ⟨c, hr⟩
  · have hn : ¬ isName ⟨#[UInt8.ofNat (x / 256).toNat, UInt8.ofNat (x % 256).toNat]⟩ := fun q => by
      obtain ⟨_, q1, q2⟩ := q
      rw [b0] at q1; rw [b1] at q2
      omega
    rw [decide_eq_false hn, namedM, if_neg hn] at hr
    exact .inr ⟨c, hr⟩

theorem SquareAll_run  : WR AM 9 [] [] (fun v _ _ => v = .s (.bool true)) := by
 refine WR_fn (a := a9) rfl rfl (entryF _) (entry_E (Nat.le_of_ble_eq_true rfl)) (m := 0) rfl ?_
 refine WP_seq ?_
 refine WP_ops ?_
 refine WO_mv rfl ?_
 refine WO_nil ?_
 refine WP_seq ?_
 refine WP_seq ?_
 refine WP_ops ?_
 refine WO_mv rfl ?_
 refine WO_nil ?_
 refine WP_block ?_
 refine WP_sub (L' := []) .slnil ?_
 refine WP_loop (fun m f _ L => ∃ (s : Int), (-2 ≤ s ∧ s ≤ 67) ∧ (m = (67 - s).toNat) ∧ (f 1 = .s (.int .i64 s)) ∧ (L = [])) (fun m f nb L hI => ?_) (_) ⟨-2, by omega, rfl, rfl, rfl⟩
 obtain ⟨s, hs, hm, k1, rfl⟩ := hI
 refine WP_know (d := 1) (v := .s (.int .i64 s)) k1 ?_
 refine WP_seq ?_
 refine WP_seq ?_
 refine WP_ops ?_
 refine WO_mv (v := .s (.int _ _)) rfl ?_
 refine WO_bin (r := .bool _) rfl rfl rfl ?_
 refine WO_nil ?_
 refine WP_cond rfl (fun h1 => ?_) (fun h1 => ?_)
 ·try simp only [NM] at h1
  refine WP_skip ?_
  refine WP_seq ?_
  refine WP_block ?_
  refine WP_seq ?_
  refine WP_ops ?_
  refine WO_mv rfl ?_
  refine WO_nil ?_
  refine WP_seq ?_
  refine WP_seq ?_
  refine WP_ops ?_
  refine WO_mv rfl ?_
  refine WO_nil ?_
  refine WP_block ?_
  refine WP_sub (L' := []) .slnil ?_
  refine WP_loop (fun m f nn L => ∃ (p : Int), (-8 ≤ p ∧ p ≤ 9) ∧ (m = (9 - p).toNat) ∧ (f 1 = .s (.int .i64 s)) ∧ (f 3 = .s (.int .i64 p)) ∧ (((p = -8) ∧ (f 2 = .snil) ∧ (L = [])) ∨ (∃ (b cnt q : Nat) (F : Nat → Int), ((cnt : Int) = 17 * (p + 8)) ∧ (0 < cnt) ∧ (f 2 = .sl b 0 cnt 2 .whole) ∧ (L = (b, Blk.sc .grow q (ia F)) :: [])))) (fun m f nb L hI => ?_) (_) ⟨-8, by omega, rfl, rfl, rfl, .inl ⟨rfl, rfl, rfl⟩⟩
  obtain ⟨p, hp, hm, k1, k3, hI2⟩ := hI
  rcases hI2 with ⟨hn0, kS, rfl⟩ | ⟨b, cnt, q, F, hcnt, hc0, kS, rfl⟩
  ·skip
   refine WP_know (d := 1) (v := .s (.int .i64 s)) k1 ?_
   refine WP_know (d := 3) (v := .s (.int .i64 p)) k3 ?_
   refine WP_know (d := 2) (v := .snil) kS ?_
   refine WP_seq ?_
   refine WP_seq ?_
   refine WP_ops ?_
   refine WO_mv (v := .s (.int _ _)) rfl ?_
   refine WO_bin (r := .bool _) rfl rfl rfl ?_
   refine WO_nil ?_
   refine WP_cond rfl (fun h2 => ?_) (fun h2 => ?_)
   ·try simp only [NM] at h2
    refine WP_skip ?_
    refine WP_seq ?_
    refine WP_block ?_
    refine WP_seq ?_
    refine WP_ops ?_
    refine WO_mv rfl ?_
    refine WO_nil ?_
    refine WP_block ?_
    refine WP_sub (L' := []) .slnil ?_
    refine WP_loop (fun m f nn L => ∃ (r : Int), (-8 ≤ r ∧ r ≤ 9) ∧ (m = (9 - r).toNat) ∧ (f 1 = .s (.int .i64 s)) ∧ (f 3 = .s (.int .i64 p)) ∧ (f 4 = .s (.int .i64 r)) ∧ (((p = -8 ∧ r = -8) ∧ (f 2 = .snil) ∧ (L = [])) ∨ (∃ (b cnt q : Nat) (F : Nat → Int), ((cnt : Int) = 17 * (p + 8) + (r + 8)) ∧ (0 < cnt) ∧ (f 2 = .sl b 0 cnt 2 .whole) ∧ (L = (b, Blk.sc .grow q (ia F)) :: [])))) (fun m f nb L hI => ?_) (_) ⟨-8, by omega, rfl, rfl, rfl, rfl, .inl ⟨⟨by omega, rfl⟩, rfl, rfl⟩⟩
    obtain ⟨r, hr, hm2, k1, k3, k4, hI2⟩ := hI
    rcases hI2 with ⟨hn0, kS, rfl⟩ | ⟨b, cnt, q, F, hcnt, hc0, kS, rfl⟩
    ·skip
     refine WP_know (d := 1) (v := .s (.int .i64 s)) k1 ?_
     refine WP_know (d := 3) (v := .s (.int .i64 p)) k3 ?_
     refine WP_know (d := 4) (v := .s (.int .i64 r)) k4 ?_
     refine WP_know (d := 2) (v := .snil) kS ?_
     refine WP_seq ?_
     refine WP_seq ?_
     refine WP_ops ?_
     refine WO_mv (v := .s (.int _ _)) rfl ?_
     refine WO_bin (r := .bool _) rfl rfl rfl ?_
     refine WO_nil ?_
     refine WP_cond rfl (fun h3 => ?_) (fun h3 => ?_)
     ·try simp only [NM] at h3
      refine WP_skip ?_
      refine WP_seq ?_
      refine WP_block ?_
      refine WP_seq ?_
      refine WP_ops ?_
      refine WO_mv (v := .snil) rfl ?_
      refine WO_mv (v := .s (.int _ _)) rfl ?_
      refine WO_mv (v := .s (.int _ _)) rfl ?_
      refine WO_buildI rfl (.one rfl (.one rfl .nil)) ?_
      refine WO_mkslI rfl (.agg rfl .nil) ?_
      refine WO_appendNil rfl rfl (.head _) (by decide) rfl ?_
      refine WO_mv (v := .sl _ _ _ _ _) rfl ?_
      refine WO_nil ?_
      refine WP_seq ?_
      refine WP_ops ?_
      refine WO_mv (v := .s (.int _ _)) rfl ?_
      refine WO_mv (v := .s (.int _ _)) rfl ?_
      refine WO_mv (v := .s (.int _ _)) rfl ?_
      refine WO_call0 rfl (Step_run _ _ _) rfl rfl rfl ?_
      refine WO_mv (v := .s (.int _ _)) rfl ?_
      refine WO_mv (v := .s (.int _ _)) rfl ?_
      refine WO_mv (v := .s (.int _ _)) rfl ?_
      refine WO_call0 rfl (dStep_run _ _ _) rfl rfl rfl ?_
      refine WO_bin rfl rfl (neq_same rfl) ?_
      refine WO_mv (v := .s (.bool _)) rfl ?_
      refine WO_gt rfl ?_
      refine WO_mv (v := .s (.int _ _)) rfl ?_
      refine WO_gt rfl ?_
      refine WO_mv (v := .s (.int _ _)) rfl ?_
      refine WO_gt rfl ?_
      refine WO_call0 rfl (RF_of (At_run _ _ (by omega) (by omega))) rfl rfl rfl ?_
      refine WO_gt rfl ?_
      refine WO_mv (v := .s (.int _ _)) rfl ?_
      refine WO_gt rfl ?_
      refine WO_mv (v := .s (.int _ _)) rfl ?_
      refine WO_gt rfl ?_
      refine WO_call0 rfl (RF_of (dAt_run _ _)) rfl rfl rfl ?_
      refine WO_gt rfl ?_
      refine WO_bin rfl rfl (neq_same rfl) ?_
      refine WO_pick (v := .s (.bool _)) rfl rfl ?_
      refine WO_mv (v := .s (.bool _)) rfl ?_
      refine WO_gt rfl ?_
      refine WO_mv (v := .s (.int _ _)) rfl ?_
      refine WO_gt rfl ?_
      refine WO_remT rfl rfl (by decide) ?_
      refine WO_gt rfl ?_
      refine WO_bin (r := .bool _) rfl rfl rfl ?_
      refine WO_gt rfl ?_
      refine WO_mv (v := .s (.bool _)) rfl ?_
      refine WO_case (t := 53) rfl (fun h4 => ?_) (fun h4 => ?_)
      ·try simp only [NM] at h4
       refine WO_gt rfl ?_
       refine WO_mv (v := .s (.int _ _)) rfl ?_
       refine WO_gt rfl ?_
       refine WO_mv (v := .s (.int _ _)) rfl ?_
       refine WO_gt rfl ?_
       refine WO_mv (v := .s (.int _ _)) rfl ?_
       refine WO_gt rfl ?_
       rcases Ray_ex s p r with ⟨hp0, hr0, hT⟩ | ⟨hz, n1, F1, hR1, hn1, hF1, hT | hT⟩
       ·skip
        refine WO_call0 rfl (hT) rfl rfl rfl ?_
        refine WO_gt rfl ?_
        refine WO_mv (v := .s (.int _ _)) rfl ?_
        refine WO_gt rfl ?_
        refine WO_mv (v := .s (.int _ _)) rfl ?_
        refine WO_gt rfl ?_
        refine WO_mv (v := .s (.int _ _)) rfl ?_
        refine WO_gt rfl ?_
        rcases dRay_ex s p r with ⟨hp0b, hr0b, hTb⟩ | ⟨hzb, n2, F2, hR2, hn2, hF2, hTb | hTb⟩
        ·skip
         refine WO_call0 rfl (hTb) rfl rfl rfl ?_
         refine WO_gt rfl ?_
         refine WO_call0 rfl (RF_of SameInts_nil) rfl rfl rfl ?_
         refine WO_gt rfl ?_
         refine WO_un (r := .bool _) rfl rfl ?_
         refine WO_gt rfl ?_
         refine WO_pick (v := .s (.bool _)) rfl rfl ?_
         refine WO_pick (v := .s (.bool _)) rfl rfl ?_
         refine WO_nil ?_
         refine WP_cond rfl (fun h => nomatch h) (fun _ => ?_)
         refine WP_skip ?_
         refine WP_ops ?_
         refine WO_mv (v := .s (.int _ _)) rfl ?_
         refine WO_add rfl rfl (by omega) ?_
         refine WO_mv (v := .s (.int _ _)) rfl ?_
         refine WO_nil ?_
         refine ⟨(9 - (r + 1)).toNat, _, by omega, (.cons_cons _ (.cons _ .slnil)), r + 1, by omega, rfl, rfl, rfl, rfl, .inr ⟨_, 1, _, _, by omega, by omega, rfl, rfl⟩⟩
        ·skip
         exfalso; omega
        ·skip
         exfalso; omega
       ·skip
        refine WO_call0 rfl (hT.2) rfl rfl rfl ?_
        refine WO_gt rfl ?_
        refine WO_mv (v := .s (.int _ _)) rfl ?_
        refine WO_gt rfl ?_
        refine WO_mv (v := .s (.int _ _)) rfl ?_
        refine WO_gt rfl ?_
        refine WO_mv (v := .s (.int _ _)) rfl ?_
        refine WO_gt rfl ?_
        rcases dRay_ex s p r with ⟨hp0b, hr0b, hTb⟩ | ⟨hzb, n2, F2, hR2, hn2, hF2, hTb | hTb⟩
        ·skip
         exfalso; omega
        ·skip
         refine WO_call0 rfl (hTb.2) rfl rfl rfl ?_
         refine WO_gt rfl ?_
         refine WO_call0 rfl (RF_of SameInts_nil) rfl rfl rfl ?_
         refine WO_gt rfl ?_
         refine WO_un (r := .bool _) rfl rfl ?_
         refine WO_gt rfl ?_
         refine WO_pick (v := .s (.bool _)) rfl rfl ?_
         refine WO_pick (v := .s (.bool _)) rfl rfl ?_
         refine WO_nil ?_
         refine WP_cond rfl (fun h => nomatch h) (fun _ => ?_)
         refine WP_skip ?_
         refine WP_ops ?_
         refine WO_mv (v := .s (.int _ _)) rfl ?_
         refine WO_add rfl rfl (by omega) ?_
         refine WO_mv (v := .s (.int _ _)) rfl ?_
         refine WO_nil ?_
         refine ⟨(9 - (r + 1)).toNat, _, by omega, (.cons_cons _ (.cons _ .slnil)), r + 1, by omega, rfl, rfl, rfl, rfl, .inr ⟨_, 1, _, _, by omega, by omega, rfl, rfl⟩⟩
        ·skip
         exfalso; have hu := hR1.uniq hR2; have := hT; have := hTb; omega
       ·skip
        obtain ⟨h10, q1, hT⟩ := hT
        refine WO_callN (mk := fun b => .sl b 0 n1 1 .whole) (rs := []) (Bs := []) One_sl rfl hT rfl rfl (Nat.le_of_ble_eq_true rfl) (fun _ h => h) rfl trivial rfl rfl .nil ?_
        refine WO_gt rfl ?_
        refine WO_mv (v := .s (.int _ _)) rfl ?_
        refine WO_gt rfl ?_
        refine WO_mv (v := .s (.int _ _)) rfl ?_
        refine WO_gt rfl ?_
        refine WO_mv (v := .s (.int _ _)) rfl ?_
        refine WO_gt rfl ?_
        rcases dRay_ex s p r with ⟨hp0b, hr0b, hTb⟩ | ⟨hzb, n2, F2, hR2, hn2, hF2, hTb | hTb⟩
        ·skip
         exfalso; omega
        ·skip
         exfalso; have hu := hR1.uniq hR2; have := hTb.1; omega
        ·skip
         have hu := hR1.uniq hR2
         subst hu
         obtain ⟨h20, q2, hTb⟩ := hTb
         refine WO_callN (mk := fun b => .sl b 0 n1 1 .whole) (rs := []) (Bs := []) One_sl rfl hTb rfl rfl (Nat.le_of_ble_eq_true rfl) (fun _ h => h) rfl trivial rfl rfl .nil ?_
         refine WO_gt rfl ?_
         refine WO_call (rs := [nb + 1 + 1, nb + 1 + 1 + 1]) (Bs := [_, _]) (av := [.sl (nb + 1 + 1) 0 n1 1 .whole, .sl (nb + 1 + 1 + 1) 0 n1 1 .whole]) rfl (RB_of2 (SameInts_run (md := .grow) (md2 := .grow) (c := .whole) (c2 := .whole) F1 F2 n1 (by omega) (fun j hj => (hF1 j hj).trans (hF2 j hj).symm))) rfl (by simp [V.refsL, V.refs, dedup] <;> omega) (by simp [V.refsL, V.refs]) (by simp [V.refsL, V.refs]) (rn_two (by omega)) ⟨(.tail _ (.head _)), ⟨_, _, _, rfl⟩, (.head _), ⟨_, _, _, rfl⟩, trivial⟩ rfl rfl rfl (.cons (At_self (.tail _ (.head _))) (.cons (At_self (.head _)) .nil)) ?_
         refine WO_gt rfl ?_
         refine WO_un (r := .bool _) rfl rfl ?_
         refine WO_gt rfl ?_
         refine WO_pick (v := .s (.bool _)) rfl rfl ?_
         refine WO_pick (v := .s (.bool _)) rfl rfl ?_
         refine WO_nil ?_
         refine WP_cond rfl (fun h => nomatch h) (fun _ => ?_)
         refine WP_skip ?_
         refine WP_ops ?_
         refine WO_mv (v := .s (.int _ _)) rfl ?_
         refine WO_add rfl rfl (by omega) ?_
         refine WO_mv (v := .s (.int _ _)) rfl ?_
         refine WO_nil ?_
         refine ⟨(9 - (r + 1)).toNat, _, by omega, (.cons _ (.cons _ (.cons_cons _ (.cons _ .slnil)))), r + 1, by omega, rfl, rfl, rfl, rfl, .inr ⟨_, 1, _, _, by omega, by omega, rfl, rfl⟩⟩
      ·try simp only [NM] at h4
       refine WO_gf rfl rfl ?_
       refine WO_gf rfl rfl ?_
       refine WO_gf rfl rfl ?_
       refine WO_gf rfl rfl ?_
       refine WO_gf rfl rfl ?_
       refine WO_gf rfl rfl ?_
       refine WO_gf rfl rfl ?_
       refine WO_gf rfl rfl ?_
       refine WO_gf rfl rfl ?_
       refine WO_gf rfl rfl ?_
       refine WO_gt rfl ?_
       refine WO_pick (v := .s (.bool _)) rfl rfl ?_
       refine WO_pick (v := .s (.bool _)) rfl rfl ?_
       refine WO_nil ?_
       refine WP_cond rfl (fun h => nomatch h) (fun _ => ?_)
       refine WP_skip ?_
       refine WP_ops ?_
       refine WO_mv (v := .s (.int _ _)) rfl ?_
       refine WO_add rfl rfl (by omega) ?_
       refine WO_mv (v := .s (.int _ _)) rfl ?_
       refine WO_nil ?_
       refine ⟨(9 - (r + 1)).toNat, _, by omega, (.cons_cons _ (.cons _ .slnil)), r + 1, by omega, rfl, rfl, rfl, rfl, .inr ⟨_, 1, _, _, by omega, by omega, rfl, rfl⟩⟩
     ·try simp only [NM] at h3
      exfalso; first | omega | (simp at h3)
    ·skip
     refine WP_know (d := 1) (v := .s (.int .i64 s)) k1 ?_
     refine WP_know (d := 3) (v := .s (.int .i64 p)) k3 ?_
     refine WP_know (d := 4) (v := .s (.int .i64 r)) k4 ?_
     refine WP_know (d := 2) (v := .sl b 0 cnt 2 .whole) kS ?_
     refine WP_seq ?_
     refine WP_seq ?_
     refine WP_ops ?_
     refine WO_mv (v := .s (.int _ _)) rfl ?_
     refine WO_bin (r := .bool _) rfl rfl rfl ?_
     refine WO_nil ?_
     refine WP_cond rfl (fun h5 => ?_) (fun h5 => ?_)
     ·try simp only [NM] at h5
      refine WP_skip ?_
      refine WP_seq ?_
      refine WP_block ?_
      refine WP_seq ?_
      refine WP_ops ?_
      refine WO_mv (v := .sl _ _ _ _ _) rfl ?_
      refine WO_mv (v := .s (.int _ _)) rfl ?_
      refine WO_mv (v := .s (.int _ _)) rfl ?_
      refine WO_buildI rfl (.one rfl (.one rfl .nil)) ?_
      refine WO_mkslI rfl (.agg rfl .nil) ?_
      refine WO_appendW rfl rfl (.head _) (.there .here) (by simp [roomy]; omega) ?_
      refine WO_mv (v := .sl _ _ _ _ _) rfl ?_
      refine WO_nil ?_
      refine WP_seq ?_
      refine WP_ops ?_
      refine WO_mv (v := .s (.int _ _)) rfl ?_
      refine WO_mv (v := .s (.int _ _)) rfl ?_
      refine WO_mv (v := .s (.int _ _)) rfl ?_
      refine WO_call0 rfl (Step_run _ _ _) rfl rfl rfl ?_
      refine WO_mv (v := .s (.int _ _)) rfl ?_
      refine WO_mv (v := .s (.int _ _)) rfl ?_
      refine WO_mv (v := .s (.int _ _)) rfl ?_
      refine WO_call0 rfl (dStep_run _ _ _) rfl rfl rfl ?_
      refine WO_bin rfl rfl (neq_same rfl) ?_
      refine WO_mv (v := .s (.bool _)) rfl ?_
      refine WO_gt rfl ?_
      refine WO_mv (v := .s (.int _ _)) rfl ?_
      refine WO_gt rfl ?_
      refine WO_mv (v := .s (.int _ _)) rfl ?_
      refine WO_gt rfl ?_
      refine WO_call0 rfl (RF_of (At_run _ _ (by omega) (by omega))) rfl rfl rfl ?_
      refine WO_gt rfl ?_
      refine WO_mv (v := .s (.int _ _)) rfl ?_
      refine WO_gt rfl ?_
      refine WO_mv (v := .s (.int _ _)) rfl ?_
      refine WO_gt rfl ?_
      refine WO_call0 rfl (RF_of (dAt_run _ _)) rfl rfl rfl ?_
      refine WO_gt rfl ?_
      refine WO_bin rfl rfl (neq_same rfl) ?_
      refine WO_pick (v := .s (.bool _)) rfl rfl ?_
      refine WO_mv (v := .s (.bool _)) rfl ?_
      refine WO_gt rfl ?_
      refine WO_mv (v := .s (.int _ _)) rfl ?_
      refine WO_gt rfl ?_
      refine WO_remT rfl rfl (by decide) ?_
      refine WO_gt rfl ?_
      refine WO_bin (r := .bool _) rfl rfl rfl ?_
      refine WO_gt rfl ?_
      refine WO_mv (v := .s (.bool _)) rfl ?_
      refine WO_case (t := 53) rfl (fun h6 => ?_) (fun h6 => ?_)
      ·try simp only [NM] at h6
       refine WO_gt rfl ?_
       refine WO_mv (v := .s (.int _ _)) rfl ?_
       refine WO_gt rfl ?_
       refine WO_mv (v := .s (.int _ _)) rfl ?_
       refine WO_gt rfl ?_
       refine WO_mv (v := .s (.int _ _)) rfl ?_
       refine WO_gt rfl ?_
       rcases Ray_ex s p r with ⟨hp0, hr0, hT⟩ | ⟨hz, n1, F1, hR1, hn1, hF1, hT | hT⟩
       ·skip
        refine WO_call0 rfl (hT) rfl rfl rfl ?_
        refine WO_gt rfl ?_
        refine WO_mv (v := .s (.int _ _)) rfl ?_
        refine WO_gt rfl ?_
        refine WO_mv (v := .s (.int _ _)) rfl ?_
        refine WO_gt rfl ?_
        refine WO_mv (v := .s (.int _ _)) rfl ?_
        refine WO_gt rfl ?_
        rcases dRay_ex s p r with ⟨hp0b, hr0b, hTb⟩ | ⟨hzb, n2, F2, hR2, hn2, hF2, hTb | hTb⟩
        ·skip
         refine WO_call0 rfl (hTb) rfl rfl rfl ?_
         refine WO_gt rfl ?_
         refine WO_call0 rfl (RF_of SameInts_nil) rfl rfl rfl ?_
         refine WO_gt rfl ?_
         refine WO_un (r := .bool _) rfl rfl ?_
         refine WO_gt rfl ?_
         refine WO_pick (v := .s (.bool _)) rfl rfl ?_
         refine WO_pick (v := .s (.bool _)) rfl rfl ?_
         refine WO_nil ?_
         refine WP_cond rfl (fun h => nomatch h) (fun _ => ?_)
         refine WP_skip ?_
         refine WP_ops ?_
         refine WO_mv (v := .s (.int _ _)) rfl ?_
         refine WO_add rfl rfl (by omega) ?_
         refine WO_mv (v := .s (.int _ _)) rfl ?_
         refine WO_nil ?_
         refine ⟨(9 - (r + 1)).toNat, _, by omega, (.cons_cons _ (.cons _ (.cons _ .slnil))), r + 1, by omega, rfl, rfl, rfl, rfl, .inr ⟨_, cnt + 1, _, _, by omega, by omega, rfl, rfl⟩⟩
        ·skip
         exfalso; omega
        ·skip
         exfalso; omega
       ·skip
        refine WO_call0 rfl (hT.2) rfl rfl rfl ?_
        refine WO_gt rfl ?_
        refine WO_mv (v := .s (.int _ _)) rfl ?_
        refine WO_gt rfl ?_
        refine WO_mv (v := .s (.int _ _)) rfl ?_
        refine WO_gt rfl ?_
        refine WO_mv (v := .s (.int _ _)) rfl ?_
        refine WO_gt rfl ?_
        rcases dRay_ex s p r with ⟨hp0b, hr0b, hTb⟩ | ⟨hzb, n2, F2, hR2, hn2, hF2, hTb | hTb⟩
        ·skip
         exfalso; omega
        ·skip
         refine WO_call0 rfl (hTb.2) rfl rfl rfl ?_
         refine WO_gt rfl ?_
         refine WO_call0 rfl (RF_of SameInts_nil) rfl rfl rfl ?_
         refine WO_gt rfl ?_
         refine WO_un (r := .bool _) rfl rfl ?_
         refine WO_gt rfl ?_
         refine WO_pick (v := .s (.bool _)) rfl rfl ?_
         refine WO_pick (v := .s (.bool _)) rfl rfl ?_
         refine WO_nil ?_
         refine WP_cond rfl (fun h => nomatch h) (fun _ => ?_)
         refine WP_skip ?_
         refine WP_ops ?_
         refine WO_mv (v := .s (.int _ _)) rfl ?_
         refine WO_add rfl rfl (by omega) ?_
         refine WO_mv (v := .s (.int _ _)) rfl ?_
         refine WO_nil ?_
         refine ⟨(9 - (r + 1)).toNat, _, by omega, (.cons_cons _ (.cons _ (.cons _ .slnil))), r + 1, by omega, rfl, rfl, rfl, rfl, .inr ⟨_, cnt + 1, _, _, by omega, by omega, rfl, rfl⟩⟩
        ·skip
         exfalso; have hu := hR1.uniq hR2; have := hT; have := hTb; omega
       ·skip
        obtain ⟨h10, q1, hT⟩ := hT
        refine WO_callN (mk := fun b => .sl b 0 n1 1 .whole) (rs := []) (Bs := []) One_sl rfl hT rfl rfl (Nat.le_of_ble_eq_true rfl) (fun _ h => h) rfl trivial rfl rfl .nil ?_
        refine WO_gt rfl ?_
        refine WO_mv (v := .s (.int _ _)) rfl ?_
        refine WO_gt rfl ?_
        refine WO_mv (v := .s (.int _ _)) rfl ?_
        refine WO_gt rfl ?_
        refine WO_mv (v := .s (.int _ _)) rfl ?_
        refine WO_gt rfl ?_
        rcases dRay_ex s p r with ⟨hp0b, hr0b, hTb⟩ | ⟨hzb, n2, F2, hR2, hn2, hF2, hTb | hTb⟩
        ·skip
         exfalso; omega
        ·skip
         exfalso; have hu := hR1.uniq hR2; have := hTb.1; omega
        ·skip
         have hu := hR1.uniq hR2
         subst hu
         obtain ⟨h20, q2, hTb⟩ := hTb
         refine WO_callN (mk := fun b => .sl b 0 n1 1 .whole) (rs := []) (Bs := []) One_sl rfl hTb rfl rfl (Nat.le_of_ble_eq_true rfl) (fun _ h => h) rfl trivial rfl rfl .nil ?_
         refine WO_gt rfl ?_
         refine WO_call (rs := [nb + 1 + 1, nb + 1 + 1 + 1]) (Bs := [_, _]) (av := [.sl (nb + 1 + 1) 0 n1 1 .whole, .sl (nb + 1 + 1 + 1) 0 n1 1 .whole]) rfl (RB_of2 (SameInts_run (md := .grow) (md2 := .grow) (c := .whole) (c2 := .whole) F1 F2 n1 (by omega) (fun j hj => (hF1 j hj).trans (hF2 j hj).symm))) rfl (by simp [V.refsL, V.refs, dedup] <;> omega) (by simp [V.refsL, V.refs]) (by simp [V.refsL, V.refs]) (rn_two (by omega)) ⟨(.tail _ (.head _)), ⟨_, _, _, rfl⟩, (.head _), ⟨_, _, _, rfl⟩, trivial⟩ rfl rfl rfl (.cons (At_self (.tail _ (.head _))) (.cons (At_self (.head _)) .nil)) ?_
         refine WO_gt rfl ?_
         refine WO_un (r := .bool _) rfl rfl ?_
         refine WO_gt rfl ?_
         refine WO_pick (v := .s (.bool _)) rfl rfl ?_
         refine WO_pick (v := .s (.bool _)) rfl rfl ?_
         refine WO_nil ?_
         refine WP_cond rfl (fun h => nomatch h) (fun _ => ?_)
         refine WP_skip ?_
         refine WP_ops ?_
         refine WO_mv (v := .s (.int _ _)) rfl ?_
         refine WO_add rfl rfl (by omega) ?_
         refine WO_mv (v := .s (.int _ _)) rfl ?_
         refine WO_nil ?_
         refine ⟨(9 - (r + 1)).toNat, _, by omega, (.cons _ (.cons _ (.cons_cons _ (.cons _ (.cons _ .slnil))))), r + 1, by omega, rfl, rfl, rfl, rfl, .inr ⟨_, cnt + 1, _, _, by omega, by omega, rfl, rfl⟩⟩
      ·try simp only [NM] at h6
       refine WO_gf rfl rfl ?_
       refine WO_gf rfl rfl ?_
       refine WO_gf rfl rfl ?_
       refine WO_gf rfl rfl ?_
       refine WO_gf rfl rfl ?_
       refine WO_gf rfl rfl ?_
       refine WO_gf rfl rfl ?_
       refine WO_gf rfl rfl ?_
       refine WO_gf rfl rfl ?_
       refine WO_gf rfl rfl ?_
       refine WO_gt rfl ?_
       refine WO_pick (v := .s (.bool _)) rfl rfl ?_
       refine WO_pick (v := .s (.bool _)) rfl rfl ?_
       refine WO_nil ?_
       refine WP_cond rfl (fun h => nomatch h) (fun _ => ?_)
       refine WP_skip ?_
       refine WP_ops ?_
       refine WO_mv (v := .s (.int _ _)) rfl ?_
       refine WO_add rfl rfl (by omega) ?_
       refine WO_mv (v := .s (.int _ _)) rfl ?_
       refine WO_nil ?_
       refine ⟨(9 - (r + 1)).toNat, _, by omega, (.cons_cons _ (.cons _ (.cons _ .slnil))), r + 1, by omega, rfl, rfl, rfl, rfl, .inr ⟨_, cnt + 1, _, _, by omega, by omega, rfl, rfl⟩⟩
     ·try simp only [NM] at h5
      refine WP_exit ?_
      refine xhere ?_
      refine WP_ops ?_
      refine WO_mv (v := .s (.int _ _)) rfl ?_
      refine WO_add rfl rfl (by omega) ?_
      refine WO_mv (v := .s (.int _ _)) rfl ?_
      refine WO_nil ?_
      refine ⟨(9 - (p + 1)).toNat, _, by omega, (.cons_cons _ .slnil), p + 1, by omega, rfl, rfl, rfl, .inr ⟨_, cnt, _, _, by omega, by omega, rfl, rfl⟩⟩
   ·try simp only [NM] at h2
    exfalso; first | omega | (simp at h2)
  ·skip
   refine WP_know (d := 1) (v := .s (.int .i64 s)) k1 ?_
   refine WP_know (d := 3) (v := .s (.int .i64 p)) k3 ?_
   refine WP_know (d := 2) (v := .sl b 0 cnt 2 .whole) kS ?_
   refine WP_seq ?_
   refine WP_seq ?_
   refine WP_ops ?_
   refine WO_mv (v := .s (.int _ _)) rfl ?_
   refine WO_bin (r := .bool _) rfl rfl rfl ?_
   refine WO_nil ?_
   refine WP_cond rfl (fun h7 => ?_) (fun h7 => ?_)
   ·try simp only [NM] at h7
    refine WP_skip ?_
    refine WP_seq ?_
    refine WP_block ?_
    refine WP_seq ?_
    refine WP_ops ?_
    refine WO_mv rfl ?_
    refine WO_nil ?_
    refine WP_block ?_
    refine WP_sub (L' := [_]) (.cons_cons _ .slnil) ?_
    refine WP_loop (fun m f nn L => ∃ (r : Int), (-8 ≤ r ∧ r ≤ 9) ∧ (m = (9 - r).toNat) ∧ (f 1 = .s (.int .i64 s)) ∧ (f 3 = .s (.int .i64 p)) ∧ (f 4 = .s (.int .i64 r)) ∧ (((p = -8 ∧ r = -8) ∧ (f 2 = .snil) ∧ (L = [])) ∨ (∃ (b cnt q : Nat) (F : Nat → Int), ((cnt : Int) = 17 * (p + 8) + (r + 8)) ∧ (0 < cnt) ∧ (f 2 = .sl b 0 cnt 2 .whole) ∧ (L = (b, Blk.sc .grow q (ia F)) :: [])))) (fun m f nb L hI => ?_) (_) ⟨-8, by omega, rfl, rfl, rfl, rfl, .inr ⟨_, cnt, _, _, by omega, by omega, rfl, rfl⟩⟩
    obtain ⟨r, hr, hm2, k1, k3, k4, hI2⟩ := hI
    rcases hI2 with ⟨hn0, kS, rfl⟩ | ⟨b, cnt, q, F, hcnt, hc0, kS, rfl⟩
    ·skip
     refine WP_know (d := 1) (v := .s (.int .i64 s)) k1 ?_
     refine WP_know (d := 3) (v := .s (.int .i64 p)) k3 ?_
     refine WP_know (d := 4) (v := .s (.int .i64 r)) k4 ?_
     refine WP_know (d := 2) (v := .snil) kS ?_
     refine WP_seq ?_
     refine WP_seq ?_
     refine WP_ops ?_
     refine WO_mv (v := .s (.int _ _)) rfl ?_
     refine WO_bin (r := .bool _) rfl rfl rfl ?_
     refine WO_nil ?_
     refine WP_cond rfl (fun h8 => ?_) (fun h8 => ?_)
     ·try simp only [NM] at h8
      refine WP_skip ?_
      refine WP_seq ?_
      refine WP_block ?_
      refine WP_seq ?_
      refine WP_ops ?_
      refine WO_mv (v := .snil) rfl ?_
      refine WO_mv (v := .s (.int _ _)) rfl ?_
      refine WO_mv (v := .s (.int _ _)) rfl ?_
      refine WO_buildI rfl (.one rfl (.one rfl .nil)) ?_
      refine WO_mkslI rfl (.agg rfl .nil) ?_
      refine WO_appendNil rfl rfl (.head _) (by decide) rfl ?_
      refine WO_mv (v := .sl _ _ _ _ _) rfl ?_
      refine WO_nil ?_
      refine WP_seq ?_
      refine WP_ops ?_
      refine WO_mv (v := .s (.int _ _)) rfl ?_
      refine WO_mv (v := .s (.int _ _)) rfl ?_
      refine WO_mv (v := .s (.int _ _)) rfl ?_
      refine WO_call0 rfl (Step_run _ _ _) rfl rfl rfl ?_
      refine WO_mv (v := .s (.int _ _)) rfl ?_
      refine WO_mv (v := .s (.int _ _)) rfl ?_
      refine WO_mv (v := .s (.int _ _)) rfl ?_
      refine WO_call0 rfl (dStep_run _ _ _) rfl rfl rfl ?_
      refine WO_bin rfl rfl (neq_same rfl) ?_
      refine WO_mv (v := .s (.bool _)) rfl ?_
      refine WO_gt rfl ?_
      refine WO_mv (v := .s (.int _ _)) rfl ?_
      refine WO_gt rfl ?_
      refine WO_mv (v := .s (.int _ _)) rfl ?_
      refine WO_gt rfl ?_
      refine WO_call0 rfl (RF_of (At_run _ _ (by omega) (by omega))) rfl rfl rfl ?_
      refine WO_gt rfl ?_
      refine WO_mv (v := .s (.int _ _)) rfl ?_
      refine WO_gt rfl ?_
      refine WO_mv (v := .s (.int _ _)) rfl ?_
      refine WO_gt rfl ?_
      refine WO_call0 rfl (RF_of (dAt_run _ _)) rfl rfl rfl ?_
      refine WO_gt rfl ?_
      refine WO_bin rfl rfl (neq_same rfl) ?_
      refine WO_pick (v := .s (.bool _)) rfl rfl ?_
      refine WO_mv (v := .s (.bool _)) rfl ?_
      refine WO_gt rfl ?_
      refine WO_mv (v := .s (.int _ _)) rfl ?_
      refine WO_gt rfl ?_
      refine WO_remT rfl rfl (by decide) ?_
      refine WO_gt rfl ?_
      refine WO_bin (r := .bool _) rfl rfl rfl ?_
      refine WO_gt rfl ?_
      refine WO_mv (v := .s (.bool _)) rfl ?_
      refine WO_case (t := 53) rfl (fun h9 => ?_) (fun h9 => ?_)
      ·try simp only [NM] at h9
       refine WO_gt rfl ?_
       refine WO_mv (v := .s (.int _ _)) rfl ?_
       refine WO_gt rfl ?_
       refine WO_mv (v := .s (.int _ _)) rfl ?_
       refine WO_gt rfl ?_
       refine WO_mv (v := .s (.int _ _)) rfl ?_
       refine WO_gt rfl ?_
       rcases Ray_ex s p r with ⟨hp0, hr0, hT⟩ | ⟨hz, n1, F1, hR1, hn1, hF1, hT | hT⟩
       ·skip
        refine WO_call0 rfl (hT) rfl rfl rfl ?_
        refine WO_gt rfl ?_
        refine WO_mv (v := .s (.int _ _)) rfl ?_
        refine WO_gt rfl ?_
        refine WO_mv (v := .s (.int _ _)) rfl ?_
        refine WO_gt rfl ?_
        refine WO_mv (v := .s (.int _ _)) rfl ?_
        refine WO_gt rfl ?_
        rcases dRay_ex s p r with ⟨hp0b, hr0b, hTb⟩ | ⟨hzb, n2, F2, hR2, hn2, hF2, hTb | hTb⟩
        ·skip
         refine WO_call0 rfl (hTb) rfl rfl rfl ?_
         refine WO_gt rfl ?_
         refine WO_call0 rfl (RF_of SameInts_nil) rfl rfl rfl ?_
         refine WO_gt rfl ?_
         refine WO_un (r := .bool _) rfl rfl ?_
         refine WO_gt rfl ?_
         refine WO_pick (v := .s (.bool _)) rfl rfl ?_
         refine WO_pick (v := .s (.bool _)) rfl rfl ?_
         refine WO_nil ?_
         refine WP_cond rfl (fun h => nomatch h) (fun _ => ?_)
         refine WP_skip ?_
         refine WP_ops ?_
         refine WO_mv (v := .s (.int _ _)) rfl ?_
         refine WO_add rfl rfl (by omega) ?_
         refine WO_mv (v := .s (.int _ _)) rfl ?_
         refine WO_nil ?_
         refine ⟨(9 - (r + 1)).toNat, _, by omega, (.cons_cons _ (.cons _ .slnil)), r + 1, by omega, rfl, rfl, rfl, rfl, .inr ⟨_, 1, _, _, by omega, by omega, rfl, rfl⟩⟩
        ·skip
         exfalso; omega
        ·skip
         exfalso; omega
       ·skip
        refine WO_call0 rfl (hT.2) rfl rfl rfl ?_
        refine WO_gt rfl ?_
        refine WO_mv (v := .s (.int _ _)) rfl ?_
        refine WO_gt rfl ?_
        refine WO_mv (v := .s (.int _ _)) rfl ?_
        refine WO_gt rfl ?_
        refine WO_mv (v := .s (.int _ _)) rfl ?_
        refine WO_gt rfl ?_
        rcases dRay_ex s p r with ⟨hp0b, hr0b, hTb⟩ | ⟨hzb, n2, F2, hR2, hn2, hF2, hTb | hTb⟩
        ·skip
         exfalso; omega
        ·skip
         refine WO_call0 rfl (hTb.2) rfl rfl rfl ?_
         refine WO_gt rfl ?_
         refine WO_call0 rfl (RF_of SameInts_nil) rfl rfl rfl ?_
         refine WO_gt rfl ?_
         refine WO_un (r := .bool _) rfl rfl ?_
         refine WO_gt rfl ?_
         refine WO_pick (v := .s (.bool _)) rfl rfl ?_
         refine WO_pick (v := .s (.bool _)) rfl rfl ?_
         refine WO_nil ?_
         refine WP_cond rfl (fun h => nomatch h) (fun _ => ?_)
         refine WP_skip ?_
         refine WP_ops ?_
         refine WO_mv (v := .s (.int _ _)) rfl ?_
         refine WO_add rfl rfl (by omega) ?_
         refine WO_mv (v := .s (.int _ _)) rfl ?_
         refine WO_nil ?_
         refine ⟨(9 - (r + 1)).toNat, _, by omega, (.cons_cons _ (.cons _ .slnil)), r + 1, by omega, rfl, rfl, rfl, rfl, .inr ⟨_, 1, _, _, by omega, by omega, rfl, rfl⟩⟩
        ·skip
         exfalso; have hu := hR1.uniq hR2; have := hT; have := hTb; omega
       ·skip
        obtain ⟨h10, q1, hT⟩ := hT
        refine WO_callN (mk := fun b => .sl b 0 n1 1 .whole) (rs := []) (Bs := []) One_sl rfl hT rfl rfl (Nat.le_of_ble_eq_true rfl) (fun _ h => h) rfl trivial rfl rfl .nil ?_
        refine WO_gt rfl ?_
        refine WO_mv (v := .s (.int _ _)) rfl ?_
        refine WO_gt rfl ?_
        refine WO_mv (v := .s (.int _ _)) rfl ?_
        refine WO_gt rfl ?_
        refine WO_mv (v := .s (.int _ _)) rfl ?_
        refine WO_gt rfl ?_
        rcases dRay_ex s p r with ⟨hp0b, hr0b, hTb⟩ | ⟨hzb, n2, F2, hR2, hn2, hF2, hTb | hTb⟩
        ·skip
         exfalso; omega
        ·skip
         exfalso; have hu := hR1.uniq hR2; have := hTb.1; omega
        ·skip
         have hu := hR1.uniq hR2
         subst hu
         obtain ⟨h20, q2, hTb⟩ := hTb
         refine WO_callN (mk := fun b => .sl b 0 n1 1 .whole) (rs := []) (Bs := []) One_sl rfl hTb rfl rfl (Nat.le_of_ble_eq_true rfl) (fun _ h => h) rfl trivial rfl rfl .nil ?_
         refine WO_gt rfl ?_
         refine WO_call (rs := [nb + 1 + 1, nb + 1 + 1 + 1]) (Bs := [_, _]) (av := [.sl (nb + 1 + 1) 0 n1 1 .whole, .sl (nb + 1 + 1 + 1) 0 n1 1 .whole]) rfl (RB_of2 (SameInts_run (md := .grow) (md2 := .grow) (c := .whole) (c2 := .whole) F1 F2 n1 (by omega) (fun j hj => (hF1 j hj).trans (hF2 j hj).symm))) rfl (by simp [V.refsL, V.refs, dedup] <;> omega) (by simp [V.refsL, V.refs]) (by simp [V.refsL, V.refs]) (rn_two (by omega)) ⟨(.tail _ (.head _)), ⟨_, _, _, rfl⟩, (.head _), ⟨_, _, _, rfl⟩, trivial⟩ rfl rfl rfl (.cons (At_self (.tail _ (.head _))) (.cons (At_self (.head _)) .nil)) ?_
         refine WO_gt rfl ?_
         refine WO_un (r := .bool _) rfl rfl ?_
         refine WO_gt rfl ?_
         refine WO_pick (v := .s (.bool _)) rfl rfl ?_
         refine WO_pick (v := .s (.bool _)) rfl rfl ?_
         refine WO_nil ?_
         refine WP_cond rfl (fun h => nomatch h) (fun _ => ?_)
         refine WP_skip ?_
         refine WP_ops ?_
         refine WO_mv (v := .s (.int _ _)) rfl ?_
         refine WO_add rfl rfl (by omega) ?_
         refine WO_mv (v := .s (.int _ _)) rfl ?_
         refine WO_nil ?_
         refine ⟨(9 - (r + 1)).toNat, _, by omega, (.cons _ (.cons _ (.cons_cons _ (.cons _ .slnil)))), r + 1, by omega, rfl, rfl, rfl, rfl, .inr ⟨_, 1, _, _, by omega, by omega, rfl, rfl⟩⟩
      ·try simp only [NM] at h9
       refine WO_gf rfl rfl ?_
       refine WO_gf rfl rfl ?_
       refine WO_gf rfl rfl ?_
       refine WO_gf rfl rfl ?_
       refine WO_gf rfl rfl ?_
       refine WO_gf rfl rfl ?_
       refine WO_gf rfl rfl ?_
       refine WO_gf rfl rfl ?_
       refine WO_gf rfl rfl ?_
       refine WO_gf rfl rfl ?_
       refine WO_gt rfl ?_
       refine WO_pick (v := .s (.bool _)) rfl rfl ?_
       refine WO_pick (v := .s (.bool _)) rfl rfl ?_
       refine WO_nil ?_
       refine WP_cond rfl (fun h => nomatch h) (fun _ => ?_)
       refine WP_skip ?_
       refine WP_ops ?_
       refine WO_mv (v := .s (.int _ _)) rfl ?_
       refine WO_add rfl rfl (by omega) ?_
       refine WO_mv (v := .s (.int _ _)) rfl ?_
       refine WO_nil ?_
       refine ⟨(9 - (r + 1)).toNat, _, by omega, (.cons_cons _ (.cons _ .slnil)), r + 1, by omega, rfl, rfl, rfl, rfl, .inr ⟨_, 1, _, _, by omega, by omega, rfl, rfl⟩⟩
     ·try simp only [NM] at h8
      exfalso; first | omega | (simp at h8)
    ·skip
     refine WP_know (d := 1) (v := .s (.int .i64 s)) k1 ?_
     refine WP_know (d := 3) (v := .s (.int .i64 p)) k3 ?_
     refine WP_know (d := 4) (v := .s (.int .i64 r)) k4 ?_
     refine WP_know (d := 2) (v := .sl b 0 cnt 2 .whole) kS ?_
     refine WP_seq ?_
     refine WP_seq ?_
     refine WP_ops ?_
     refine WO_mv (v := .s (.int _ _)) rfl ?_
     refine WO_bin (r := .bool _) rfl rfl rfl ?_
     refine WO_nil ?_
     refine WP_cond rfl (fun h10 => ?_) (fun h10 => ?_)
     ·try simp only [NM] at h10
      refine WP_skip ?_
      refine WP_seq ?_
      refine WP_block ?_
      refine WP_seq ?_
      refine WP_ops ?_
      refine WO_mv (v := .sl _ _ _ _ _) rfl ?_
      refine WO_mv (v := .s (.int _ _)) rfl ?_
      refine WO_mv (v := .s (.int _ _)) rfl ?_
      refine WO_buildI rfl (.one rfl (.one rfl .nil)) ?_
      refine WO_mkslI rfl (.agg rfl .nil) ?_
      refine WO_appendW rfl rfl (.head _) (.there .here) (by simp [roomy]; omega) ?_
      refine WO_mv (v := .sl _ _ _ _ _) rfl ?_
      refine WO_nil ?_
      refine WP_seq ?_
      refine WP_ops ?_
      refine WO_mv (v := .s (.int _ _)) rfl ?_
      refine WO_mv (v := .s (.int _ _)) rfl ?_
      refine WO_mv (v := .s (.int _ _)) rfl ?_
      refine WO_call0 rfl (Step_run _ _ _) rfl rfl rfl ?_
      refine WO_mv (v := .s (.int _ _)) rfl ?_
      refine WO_mv (v := .s (.int _ _)) rfl ?_
      refine WO_mv (v := .s (.int _ _)) rfl ?_
      refine WO_call0 rfl (dStep_run _ _ _) rfl rfl rfl ?_
      refine WO_bin rfl rfl (neq_same rfl) ?_
      refine WO_mv (v := .s (.bool _)) rfl ?_
      refine WO_gt rfl ?_
      refine WO_mv (v := .s (.int _ _)) rfl ?_
      refine WO_gt rfl ?_
      refine WO_mv (v := .s (.int _ _)) rfl ?_
      refine WO_gt rfl ?_
      refine WO_call0 rfl (RF_of (At_run _ _ (by omega) (by omega))) rfl rfl rfl ?_
      refine WO_gt rfl ?_
      refine WO_mv (v := .s (.int _ _)) rfl ?_
      refine WO_gt rfl ?_
      refine WO_mv (v := .s (.int _ _)) rfl ?_
      refine WO_gt rfl ?_
      refine WO_call0 rfl (RF_of (dAt_run _ _)) rfl rfl rfl ?_
      refine WO_gt rfl ?_
      refine WO_bin rfl rfl (neq_same rfl) ?_
      refine WO_pick (v := .s (.bool _)) rfl rfl ?_
      refine WO_mv (v := .s (.bool _)) rfl ?_
      refine WO_gt rfl ?_
      refine WO_mv (v := .s (.int _ _)) rfl ?_
      refine WO_gt rfl ?_
      refine WO_remT rfl rfl (by decide) ?_
      refine WO_gt rfl ?_
      refine WO_bin (r := .bool _) rfl rfl rfl ?_
      refine WO_gt rfl ?_
      refine WO_mv (v := .s (.bool _)) rfl ?_
      refine WO_case (t := 53) rfl (fun h11 => ?_) (fun h11 => ?_)
      ·try simp only [NM] at h11
       refine WO_gt rfl ?_
       refine WO_mv (v := .s (.int _ _)) rfl ?_
       refine WO_gt rfl ?_
       refine WO_mv (v := .s (.int _ _)) rfl ?_
       refine WO_gt rfl ?_
       refine WO_mv (v := .s (.int _ _)) rfl ?_
       refine WO_gt rfl ?_
       rcases Ray_ex s p r with ⟨hp0, hr0, hT⟩ | ⟨hz, n1, F1, hR1, hn1, hF1, hT | hT⟩
       ·skip
        refine WO_call0 rfl (hT) rfl rfl rfl ?_
        refine WO_gt rfl ?_
        refine WO_mv (v := .s (.int _ _)) rfl ?_
        refine WO_gt rfl ?_
        refine WO_mv (v := .s (.int _ _)) rfl ?_
        refine WO_gt rfl ?_
        refine WO_mv (v := .s (.int _ _)) rfl ?_
        refine WO_gt rfl ?_
        rcases dRay_ex s p r with ⟨hp0b, hr0b, hTb⟩ | ⟨hzb, n2, F2, hR2, hn2, hF2, hTb | hTb⟩
        ·skip
         refine WO_call0 rfl (hTb) rfl rfl rfl ?_
         refine WO_gt rfl ?_
         refine WO_call0 rfl (RF_of SameInts_nil) rfl rfl rfl ?_
         refine WO_gt rfl ?_
         refine WO_un (r := .bool _) rfl rfl ?_
         refine WO_gt rfl ?_
         refine WO_pick (v := .s (.bool _)) rfl rfl ?_
         refine WO_pick (v := .s (.bool _)) rfl rfl ?_
         refine WO_nil ?_
         refine WP_cond rfl (fun h => nomatch h) (fun _ => ?_)
         refine WP_skip ?_
         refine WP_ops ?_
         refine WO_mv (v := .s (.int _ _)) rfl ?_
         refine WO_add rfl rfl (by omega) ?_
         refine WO_mv (v := .s (.int _ _)) rfl ?_
         refine WO_nil ?_
         refine ⟨(9 - (r + 1)).toNat, _, by omega, (.cons_cons _ (.cons _ (.cons _ .slnil))), r + 1, by omega, rfl, rfl, rfl, rfl, .inr ⟨_, cnt + 1, _, _, by omega, by omega, rfl, rfl⟩⟩
        ·skip
         exfalso; omega
        ·skip
         exfalso; omega
       ·skip
        refine WO_call0 rfl (hT.2) rfl rfl rfl ?_
        refine WO_gt rfl ?_
        refine WO_mv (v := .s (.int _ _)) rfl ?_
        refine WO_gt rfl ?_
        refine WO_mv (v := .s (.int _ _)) rfl ?_
        refine WO_gt rfl ?_
        refine WO_mv (v := .s (.int _ _)) rfl ?_
        refine WO_gt rfl ?_
        rcases dRay_ex s p r with ⟨hp0b, hr0b, hTb⟩ | ⟨hzb, n2, F2, hR2, hn2, hF2, hTb | hTb⟩
        ·skip
         exfalso; omega
        ·skip
         refine WO_call0 rfl (hTb.2) rfl rfl rfl ?_
         refine WO_gt rfl ?_
         refine WO_call0 rfl (RF_of SameInts_nil) rfl rfl rfl ?_
         refine WO_gt rfl ?_
         refine WO_un (r := .bool _) rfl rfl ?_
         refine WO_gt rfl ?_
         refine WO_pick (v := .s (.bool _)) rfl rfl ?_
         refine WO_pick (v := .s (.bool _)) rfl rfl ?_
         refine WO_nil ?_
         refine WP_cond rfl (fun h => nomatch h) (fun _ => ?_)
         refine WP_skip ?_
         refine WP_ops ?_
         refine WO_mv (v := .s (.int _ _)) rfl ?_
         refine WO_add rfl rfl (by omega) ?_
         refine WO_mv (v := .s (.int _ _)) rfl ?_
         refine WO_nil ?_
         refine ⟨(9 - (r + 1)).toNat, _, by omega, (.cons_cons _ (.cons _ (.cons _ .slnil))), r + 1, by omega, rfl, rfl, rfl, rfl, .inr ⟨_, cnt + 1, _, _, by omega, by omega, rfl, rfl⟩⟩
        ·skip
         exfalso; have hu := hR1.uniq hR2; have := hT; have := hTb; omega
       ·skip
        obtain ⟨h10, q1, hT⟩ := hT
        refine WO_callN (mk := fun b => .sl b 0 n1 1 .whole) (rs := []) (Bs := []) One_sl rfl hT rfl rfl (Nat.le_of_ble_eq_true rfl) (fun _ h => h) rfl trivial rfl rfl .nil ?_
        refine WO_gt rfl ?_
        refine WO_mv (v := .s (.int _ _)) rfl ?_
        refine WO_gt rfl ?_
        refine WO_mv (v := .s (.int _ _)) rfl ?_
        refine WO_gt rfl ?_
        refine WO_mv (v := .s (.int _ _)) rfl ?_
        refine WO_gt rfl ?_
        rcases dRay_ex s p r with ⟨hp0b, hr0b, hTb⟩ | ⟨hzb, n2, F2, hR2, hn2, hF2, hTb | hTb⟩
        ·skip
         exfalso; omega
        ·skip
         exfalso; have hu := hR1.uniq hR2; have := hTb.1; omega
        ·skip
         have hu := hR1.uniq hR2
         subst hu
         obtain ⟨h20, q2, hTb⟩ := hTb
         refine WO_callN (mk := fun b => .sl b 0 n1 1 .whole) (rs := []) (Bs := []) One_sl rfl hTb rfl rfl (Nat.le_of_ble_eq_true rfl) (fun _ h => h) rfl trivial rfl rfl .nil ?_
         refine WO_gt rfl ?_
         refine WO_call (rs := [nb + 1 + 1, nb + 1 + 1 + 1]) (Bs := [_, _]) (av := [.sl (nb + 1 + 1) 0 n1 1 .whole, .sl (nb + 1 + 1 + 1) 0 n1 1 .whole]) rfl (RB_of2 (SameInts_run (md := .grow) (md2 := .grow) (c := .whole) (c2 := .whole) F1 F2 n1 (by omega) (fun j hj => (hF1 j hj).trans (hF2 j hj).symm))) rfl (by simp [V.refsL, V.refs, dedup] <;> omega) (by simp [V.refsL, V.refs]) (by simp [V.refsL, V.refs]) (rn_two (by omega)) ⟨(.tail _ (.head _)), ⟨_, _, _, rfl⟩, (.head _), ⟨_, _, _, rfl⟩, trivial⟩ rfl rfl rfl (.cons (At_self (.tail _ (.head _))) (.cons (At_self (.head _)) .nil)) ?_
         refine WO_gt rfl ?_
         refine WO_un (r := .bool _) rfl rfl ?_
         refine WO_gt rfl ?_
         refine WO_pick (v := .s (.bool _)) rfl rfl ?_
         refine WO_pick (v := .s (.bool _)) rfl rfl ?_
         refine WO_nil ?_
         refine WP_cond rfl (fun h => nomatch h) (fun _ => ?_)
         refine WP_skip ?_
         refine WP_ops ?_
         refine WO_mv (v := .s (.int _ _)) rfl ?_
         refine WO_add rfl rfl (by omega) ?_
         refine WO_mv (v := .s (.int _ _)) rfl ?_
         refine WO_nil ?_
         refine ⟨(9 - (r + 1)).toNat, _, by omega, (.cons _ (.cons _ (.cons_cons _ (.cons _ (.cons _ .slnil))))), r + 1, by omega, rfl, rfl, rfl, rfl, .inr ⟨_, cnt + 1, _, _, by omega, by omega, rfl, rfl⟩⟩
      ·try simp only [NM] at h11
       refine WO_gf rfl rfl ?_
       refine WO_gf rfl rfl ?_
       refine WO_gf rfl rfl ?_
       refine WO_gf rfl rfl ?_
       refine WO_gf rfl rfl ?_
       refine WO_gf rfl rfl ?_
       refine WO_gf rfl rfl ?_
       refine WO_gf rfl rfl ?_
       refine WO_gf rfl rfl ?_
       refine WO_gf rfl rfl ?_
       refine WO_gt rfl ?_
       refine WO_pick (v := .s (.bool _)) rfl rfl ?_
       refine WO_pick (v := .s (.bool _)) rfl rfl ?_
       refine WO_nil ?_
       refine WP_cond rfl (fun h => nomatch h) (fun _ => ?_)
       refine WP_skip ?_
       refine WP_ops ?_
       refine WO_mv (v := .s (.int _ _)) rfl ?_
       refine WO_add rfl rfl (by omega) ?_
       refine WO_mv (v := .s (.int _ _)) rfl ?_
       refine WO_nil ?_
       refine ⟨(9 - (r + 1)).toNat, _, by omega, (.cons_cons _ (.cons _ (.cons _ .slnil))), r + 1, by omega, rfl, rfl, rfl, rfl, .inr ⟨_, cnt + 1, _, _, by omega, by omega, rfl, rfl⟩⟩
     ·try simp only [NM] at h10
      refine WP_exit ?_
      refine xhere ?_
      refine WP_ops ?_
      refine WO_mv (v := .s (.int _ _)) rfl ?_
      refine WO_add rfl rfl (by omega) ?_
      refine WO_mv (v := .s (.int _ _)) rfl ?_
      refine WO_nil ?_
      refine ⟨(9 - (p + 1)).toNat, _, by omega, (.cons_cons _ .slnil), p + 1, by omega, rfl, rfl, rfl, .inr ⟨_, cnt, _, _, by omega, by omega, rfl, rfl⟩⟩
   ·try simp only [NM] at h7
    refine WP_exit ?_
    refine xhere ?_
    refine WP_seq ?_
    refine WP_ops ?_
    refine WO_mv (v := .s (.int _ _)) rfl ?_
    refine WO_mv (v := .s (.int _ _)) rfl ?_
    refine WO_call0 rfl (RF_of (dName_run _)) rfl rfl rfl ?_
    refine WO_bin rfl rfl (name_a _) ?_
    refine WO_mv (v := .sl _ _ _ _ _) rfl ?_
    refine WO_call (rs := [b]) (Bs := [_]) (av := [.s (.int .i64 s), .s (.int .i64 1), .s (.int .i64 (-1)), .s (.str (nameS s ++ ⟨#[97]⟩)), .sl (b) 0 cnt 2 .whole]) rfl (RB_of1 (SquareTells_run (md := .grow) (q := q) (c := .whole) s 1 (-1) (by omega) (by omega) (nameS s ++ ⟨#[97]⟩) _ cnt (by omega))) rfl (by simp [V.refsL, V.refs, dedup]) (by simp [V.refsL, V.refs]) (by simp [V.refsL, V.refs]) (by simp [rnL, V.renL, V.ren, pos]) ⟨(.head _), ⟨_, _, _, rfl⟩, trivial⟩ rfl rfl rfl (.cons (At_self (.head _)) .nil) ?_
    refine WO_un (r := .bool _) rfl rfl ?_
    refine WO_mv (v := .s (.bool _)) rfl ?_
    refine WO_gt rfl ?_
    refine WO_mv (v := .s (.int _ _)) rfl ?_
    refine WO_gt rfl ?_
    refine WO_mv (v := .s (.int _ _)) rfl ?_
    refine WO_gt rfl ?_
    refine WO_call0 rfl (RF_of (dName_run _)) rfl rfl rfl ?_
    refine WO_gt rfl ?_
    refine WO_mv (v := .sl _ _ _ _ _) rfl ?_
    refine WO_gt rfl ?_
    refine WO_slVhi rfl rfl rfl (by omega) ?_
    refine WO_gt rfl ?_
    refine WO_call (rs := [b]) (Bs := [_]) (av := [.s (.int .i64 s), .s (.int .i64 0), .s (.int .i64 0), .s (.str (nameS s)), .sl (b) 0 9 2 .unk]) rfl (RB_of1 (SquareTells_run (md := .grow) (q := q) (c := .unk) s 0 0 (by omega) (by omega) (nameS s) _ 9 (by omega))) rfl (by simp [V.refsL, V.refs, dedup]) (by simp [V.refsL, V.refs]) (by simp [V.refsL, V.refs]) (by simp [rnL, V.renL, V.ren, pos]) ⟨(.head _), ⟨_, _, _, rfl⟩, trivial⟩ rfl rfl rfl (.cons (At_self (.head _)) .nil) ?_
    refine WO_gt rfl ?_
    refine WO_un (r := .bool _) rfl rfl ?_
    refine WO_pick (v := .s (.bool _)) rfl rfl ?_
    refine WO_nil ?_
    refine WP_cond rfl (fun h => nomatch h) (fun _ => ?_)
    refine WP_skip ?_
    refine WP_ops ?_
    refine WO_mv (v := .s (.int _ _)) rfl ?_
    refine WO_add rfl rfl (by omega) ?_
    refine WO_mv (v := .s (.int _ _)) rfl ?_
    refine WO_nil ?_
    refine ⟨_, _, ?_, (.cons _ .slnil), s + 1, by omega, rfl, rfl, rfl⟩
    omega
 ·try simp only [NM] at h1
  refine WP_exit ?_
  refine xhere ?_
  refine WP_seq ?_
  refine WP_seq ?_
  refine WP_ops ?_
  refine WO_mv rfl ?_
  refine WO_nil ?_
  refine WP_block ?_
  refine WP_sub (L' := []) .slnil ?_
  refine WP_loop (fun m f _ L => ∃ (x : Nat), (x ≤ 65536) ∧ (m = 65536 - x) ∧ (f 5 = .s (.int .i64 x)) ∧ (L = [])) (fun m f nb L hI => ?_) (_) ⟨0, by omega, rfl, rfl, rfl⟩
  obtain ⟨x, hx, hm, k5, rfl⟩ := hI
  refine WP_know (d := 5) (v := .s (.int .i64 x)) k5 ?_
  refine WP_seq ?_
  refine WP_seq ?_
  refine WP_ops ?_
  refine WO_mv (v := .s (.int _ _)) rfl ?_
  refine WO_bin (r := .bool _) rfl rfl rfl ?_
  refine WO_nil ?_
  refine WP_cond rfl (fun h12 => ?_) (fun h12 => ?_)
  ·try simp only [NM] at h12
   refine WP_skip ?_
   refine WP_seq ?_
   refine WP_block ?_
   refine WP_seq ?_
   refine WP_ops ?_
   refine WO_mv (v := .s (.int _ _)) rfl ?_
   refine WO_bin rfl rfl (cast_shr8 (by omega)) ?_
   refine WO_conv rfl (IntWalk.u8_in _ (by omega)) ?_
   refine WO_mv (v := .s (.int _ _)) rfl ?_
   refine WO_convW rfl ?_
   rw [wrap8]
   refine WO_mksl2B rfl rfl ?_
   refine WO_b2s2 rfl (.head _) rfl rfl ?_
   refine WO_mv (v := .s _) rfl ?_
   refine WO_nil ?_
   refine WP_seq ?_
   refine WP_ops ?_
   refine WO_mv (v := .s _) rfl ?_
   rcases tx_named (x := (x : Int)) (by omega) with ⟨hN, hT⟩ | ⟨hN, hT⟩
   ·skip
    refine WO_call0 rfl (hT) rfl rfl rfl ?_
    refine WO_mv (v := .tup _) rfl ?_
    refine WO_ext (v := .s (.int _ _)) rfl rfl ?_
    refine WO_ext (v := .s (.bool _)) rfl rfl ?_
    refine WO_mv (v := .s (.int _ _)) rfl ?_
    refine WO_mv (v := .s (.bool _)) rfl ?_
    refine WO_nil ?_
    refine WP_seq ?_
    refine WP_ops ?_
    refine WO_mv (v := .s (.int _ _)) rfl ?_
    refine WO_bin rfl rfl (cast_shr8 (by omega)) ?_
    refine WO_bin (r := .bool _) rfl rfl rfl ?_
    refine WO_mv (v := .s (.bool _)) rfl ?_
    refine WO_case (t := 101) rfl (fun h13 => ?_) (fun h13 => ?_)
    ·try simp only [NM] at h13
     refine WO_gt rfl ?_
     refine WO_mv (v := .s (.int _ _)) rfl ?_
     refine WO_gt rfl ?_
     refine WO_bin rfl rfl (cast_shr8 (by omega)) ?_
     refine WO_gt rfl ?_
     refine WO_bin (r := .bool _) rfl rfl rfl ?_
     refine WO_pick (v := .s (.bool _)) rfl rfl ?_
     refine WO_mv (v := .s (.bool _)) rfl ?_
     refine WO_case (t := 106) rfl (fun h14 => ?_) (fun h14 => ?_)
     ·try simp only [NM] at h14
      refine WO_gt rfl ?_
      refine WO_mv (v := .s (.int _ _)) rfl ?_
      refine WO_gt rfl ?_
      refine WO_rem rfl rfl (by omega) ?_
      refine WO_gt rfl ?_
      refine WO_bin (r := .bool _) rfl rfl rfl ?_
      refine WO_pick (v := .s (.bool _)) rfl rfl ?_
      refine WO_mv (v := .s (.bool _)) rfl ?_
      refine WO_case (t := 111) rfl (fun h15 => ?_) (fun h15 => ?_)
      ·try simp only [NM] at h15
       refine WO_gt rfl ?_
       refine WO_mv (v := .s (.int _ _)) rfl ?_
       refine WO_gt rfl ?_
       refine WO_rem rfl rfl (by omega) ?_
       refine WO_gt rfl ?_
       refine WO_bin (r := .bool _) rfl rfl rfl ?_
       refine WO_pick (v := .s (.bool _)) rfl rfl ?_
       refine WO_mv (v := .s (.bool _)) rfl ?_
       refine WO_nil ?_
       refine WP_seq ?_
       refine WP_ops ?_
       refine WO_mv (v := .s (.bool _)) rfl ?_
       refine WO_mv (v := .s (.bool _)) rfl ?_
       refine WO_eqbF rfl rfl (by first | rfl | exact (decide_eq_false (by omega)).symm | exact (decide_eq_true (by omega)).symm) ?_
       refine WO_mv (v := .s (.bool _)) rfl ?_
       refine WO_gt rfl ?_
       refine WO_mv (v := .s (.bool _)) rfl ?_
       refine WO_gt rfl ?_
       refine WO_mv (v := .s (.bool _)) rfl ?_
       refine WO_gt rfl ?_
       refine WO_mv (v := .s (.int _ _)) rfl ?_
       refine WO_gt rfl ?_
       refine WO_mv (v := .s (.int _ _)) rfl ?_
       refine WO_gt rfl ?_
       refine WO_rem rfl rfl (by omega) ?_
       refine WO_gt rfl ?_
       refine WO_sub rfl rfl (by omega) ?_
       refine WO_gt rfl ?_
       refine WO_mul rfl rfl (by omega) ?_
       refine WO_gt rfl ?_
       refine WO_mv (v := .s (.int _ _)) rfl ?_
       refine WO_gt rfl ?_
       refine WO_bin rfl rfl (cast_shr8 (by omega)) ?_
       refine WO_gt rfl ?_
       refine WO_sub rfl rfl (by omega) ?_
       refine WO_gt rfl ?_
       refine WO_add rfl rfl (by omega) ?_
       refine WO_gt rfl ?_
       refine WO_bin rfl rfl (neq_same (by omega)) ?_
       refine WO_gt rfl ?_
       refine WO_pick (v := .s (.bool _)) rfl rfl ?_
       refine WO_pick (v := .s (.bool _)) rfl rfl ?_
       refine WO_mv (v := .s (.bool _)) rfl ?_
       refine WO_gt rfl ?_
       refine WO_mv (v := .s (.bool _)) rfl ?_
       refine WO_gt rfl ?_
       refine WO_un (r := .bool _) rfl rfl ?_
       refine WO_gt rfl ?_
       refine WO_mv (v := .s (.bool _)) rfl ?_
       refine WO_gf rfl rfl ?_
       refine WO_gf rfl rfl ?_
       refine WO_gt rfl ?_
       refine WO_pick (v := .s (.bool _)) rfl rfl ?_
       refine WO_pick (v := .s (.bool _)) rfl rfl ?_
       refine WO_nil ?_
       refine WP_cond rfl (fun h => nomatch h) (fun _ => ?_)
       refine WP_skip ?_
       refine WP_ops ?_
       refine WO_mv (v := .s (.int _ _)) rfl ?_
       refine WO_add rfl rfl (by omega) ?_
       refine WO_mv (v := .s (.int _ _)) rfl ?_
       refine WO_nil ?_
       refine ⟨_, _, ?_, (.cons _ .slnil), x + 1, by omega, rfl, rfl, rfl⟩
       omega
      ·try simp only [NM] at h15
       exfalso; first | omega | (simp at h15)
     ·try simp only [NM] at h14
      exfalso; first | omega | (simp at h14)
    ·try simp only [NM] at h13
     exfalso; first | omega | (simp at h13)
   ·skip
    refine WO_call0 rfl (hT) rfl rfl rfl ?_
    refine WO_mv (v := .tup _) rfl ?_
    refine WO_ext (v := .s (.int _ _)) rfl rfl ?_
    refine WO_ext (v := .s (.bool _)) rfl rfl ?_
    refine WO_mv (v := .s (.int _ _)) rfl ?_
    refine WO_mv (v := .s (.bool _)) rfl ?_
    refine WO_nil ?_
    refine WP_seq ?_
    refine WP_ops ?_
    refine WO_mv (v := .s (.int _ _)) rfl ?_
    refine WO_bin rfl rfl (cast_shr8 (by omega)) ?_
    refine WO_bin (r := .bool _) rfl rfl rfl ?_
    refine WO_mv (v := .s (.bool _)) rfl ?_
    refine WO_case (t := 101) rfl (fun h16 => ?_) (fun h16 => ?_)
    ·try simp only [NM] at h16
     refine WO_gt rfl ?_
     refine WO_mv (v := .s (.int _ _)) rfl ?_
     refine WO_gt rfl ?_
     refine WO_bin rfl rfl (cast_shr8 (by omega)) ?_
     refine WO_gt rfl ?_
     refine WO_bin (r := .bool _) rfl rfl rfl ?_
     refine WO_pick (v := .s (.bool _)) rfl rfl ?_
     refine WO_mv (v := .s (.bool _)) rfl ?_
     refine WO_case (t := 106) rfl (fun h17 => ?_) (fun h17 => ?_)
     ·try simp only [NM] at h17
      refine WO_gt rfl ?_
      refine WO_mv (v := .s (.int _ _)) rfl ?_
      refine WO_gt rfl ?_
      refine WO_rem rfl rfl (by omega) ?_
      refine WO_gt rfl ?_
      refine WO_bin (r := .bool _) rfl rfl rfl ?_
      refine WO_pick (v := .s (.bool _)) rfl rfl ?_
      refine WO_mv (v := .s (.bool _)) rfl ?_
      refine WO_case (t := 111) rfl (fun h18 => ?_) (fun h18 => ?_)
      ·try simp only [NM] at h18
       refine WO_gt rfl ?_
       refine WO_mv (v := .s (.int _ _)) rfl ?_
       refine WO_gt rfl ?_
       refine WO_rem rfl rfl (by omega) ?_
       refine WO_gt rfl ?_
       refine WO_bin (r := .bool _) rfl rfl rfl ?_
       refine WO_pick (v := .s (.bool _)) rfl rfl ?_
       refine WO_mv (v := .s (.bool _)) rfl ?_
       refine WO_nil ?_
       refine WP_seq ?_
       refine WP_ops ?_
       refine WO_mv (v := .s (.bool _)) rfl ?_
       refine WO_mv (v := .s (.bool _)) rfl ?_
       refine WO_eqbF rfl rfl (by first | rfl | exact (decide_eq_false (by omega)).symm | exact (decide_eq_true (by omega)).symm) ?_
       refine WO_mv (v := .s (.bool _)) rfl ?_
       refine WO_gt rfl ?_
       refine WO_mv (v := .s (.bool _)) rfl ?_
       refine WO_gt rfl ?_
       refine WO_mv (v := .s (.bool _)) rfl ?_
       refine WO_gf rfl rfl ?_
       refine WO_gf rfl rfl ?_
       refine WO_gf rfl rfl ?_
       refine WO_gf rfl rfl ?_
       refine WO_gf rfl rfl ?_
       refine WO_gf rfl rfl ?_
       refine WO_gf rfl rfl ?_
       refine WO_gf rfl rfl ?_
       refine WO_gf rfl rfl ?_
       refine WO_gf rfl rfl ?_
       refine WO_gt rfl ?_
       refine WO_pick (v := .s (.bool _)) rfl rfl ?_
       refine WO_pick (v := .s (.bool _)) rfl rfl ?_
       refine WO_mv (v := .s (.bool _)) rfl ?_
       refine WO_gt rfl ?_
       refine WO_mv (v := .s (.bool _)) rfl ?_
       refine WO_gt rfl ?_
       refine WO_un (r := .bool _) rfl rfl ?_
       refine WO_gt rfl ?_
       refine WO_mv (v := .s (.bool _)) rfl ?_
       refine WO_gt rfl ?_
       refine WO_mv (v := .s (.int _ _)) rfl ?_
       refine WO_gt rfl ?_
       refine WO_bin rfl rfl (neq_same rfl) ?_
       refine WO_gt rfl ?_
       refine WO_pick (v := .s (.bool _)) rfl rfl ?_
       refine WO_pick (v := .s (.bool _)) rfl rfl ?_
       refine WO_nil ?_
       refine WP_cond rfl (fun h => nomatch h) (fun _ => ?_)
       refine WP_skip ?_
       refine WP_ops ?_
       refine WO_mv (v := .s (.int _ _)) rfl ?_
       refine WO_add rfl rfl (by omega) ?_
       refine WO_mv (v := .s (.int _ _)) rfl ?_
       refine WO_nil ?_
       refine ⟨_, _, ?_, (.cons _ .slnil), x + 1, by omega, rfl, rfl, rfl⟩
       omega
      ·try simp only [NM] at h18
       refine WO_gf rfl rfl ?_
       refine WO_gf rfl rfl ?_
       refine WO_gf rfl rfl ?_
       refine WO_pick (v := .s (.bool _)) rfl rfl ?_
       refine WO_mv (v := .s (.bool _)) rfl ?_
       refine WO_nil ?_
       refine WP_seq ?_
       refine WP_ops ?_
       refine WO_mv (v := .s (.bool _)) rfl ?_
       refine WO_mv (v := .s (.bool _)) rfl ?_
       refine WO_eqbF rfl rfl (by first | rfl | exact (decide_eq_false (by omega)).symm | exact (decide_eq_true (by omega)).symm) ?_
       refine WO_mv (v := .s (.bool _)) rfl ?_
       refine WO_gt rfl ?_
       refine WO_mv (v := .s (.bool _)) rfl ?_
       refine WO_gt rfl ?_
       refine WO_mv (v := .s (.bool _)) rfl ?_
       refine WO_gf rfl rfl ?_
       refine WO_gf rfl rfl ?_
       refine WO_gf rfl rfl ?_
       refine WO_gf rfl rfl ?_
       refine WO_gf rfl rfl ?_
       refine WO_gf rfl rfl ?_
       refine WO_gf rfl rfl ?_
       refine WO_gf rfl rfl ?_
       refine WO_gf rfl rfl ?_
       refine WO_gf rfl rfl ?_
       refine WO_gt rfl ?_
       refine WO_pick (v := .s (.bool _)) rfl rfl ?_
       refine WO_pick (v := .s (.bool _)) rfl rfl ?_
       refine WO_mv (v := .s (.bool _)) rfl ?_
       refine WO_gt rfl ?_
       refine WO_mv (v := .s (.bool _)) rfl ?_
       refine WO_gt rfl ?_
       refine WO_un (r := .bool _) rfl rfl ?_
       refine WO_gt rfl ?_
       refine WO_mv (v := .s (.bool _)) rfl ?_
       refine WO_gt rfl ?_
       refine WO_mv (v := .s (.int _ _)) rfl ?_
       refine WO_gt rfl ?_
       refine WO_bin rfl rfl (neq_same rfl) ?_
       refine WO_gt rfl ?_
       refine WO_pick (v := .s (.bool _)) rfl rfl ?_
       refine WO_pick (v := .s (.bool _)) rfl rfl ?_
       refine WO_nil ?_
       refine WP_cond rfl (fun h => nomatch h) (fun _ => ?_)
       refine WP_skip ?_
       refine WP_ops ?_
       refine WO_mv (v := .s (.int _ _)) rfl ?_
       refine WO_add rfl rfl (by omega) ?_
       refine WO_mv (v := .s (.int _ _)) rfl ?_
       refine WO_nil ?_
       refine ⟨_, _, ?_, (.cons _ .slnil), x + 1, by omega, rfl, rfl, rfl⟩
       omega
     ·try simp only [NM] at h17
      refine WO_gf rfl rfl ?_
      refine WO_gf rfl rfl ?_
      refine WO_gf rfl rfl ?_
      refine WO_pick (v := .s (.bool _)) rfl rfl ?_
      refine WO_mv (v := .s (.bool _)) rfl ?_
      refine WO_gf rfl rfl ?_
      refine WO_gf rfl rfl ?_
      refine WO_gf rfl rfl ?_
      refine WO_pick (v := .s (.bool _)) rfl rfl ?_
      refine WO_mv (v := .s (.bool _)) rfl ?_
      refine WO_nil ?_
      refine WP_seq ?_
      refine WP_ops ?_
      refine WO_mv (v := .s (.bool _)) rfl ?_
      refine WO_mv (v := .s (.bool _)) rfl ?_
      refine WO_eqbF rfl rfl (by first | rfl | exact (decide_eq_false (by omega)).symm | exact (decide_eq_true (by omega)).symm) ?_
      refine WO_mv (v := .s (.bool _)) rfl ?_
      refine WO_gt rfl ?_
      refine WO_mv (v := .s (.bool _)) rfl ?_
      refine WO_gt rfl ?_
      refine WO_mv (v := .s (.bool _)) rfl ?_
      refine WO_gf rfl rfl ?_
      refine WO_gf rfl rfl ?_
      refine WO_gf rfl rfl ?_
      refine WO_gf rfl rfl ?_
      refine WO_gf rfl rfl ?_
      refine WO_gf rfl rfl ?_
      refine WO_gf rfl rfl ?_
      refine WO_gf rfl rfl ?_
      refine WO_gf rfl rfl ?_
      refine WO_gf rfl rfl ?_
      refine WO_gt rfl ?_
      refine WO_pick (v := .s (.bool _)) rfl rfl ?_
      refine WO_pick (v := .s (.bool _)) rfl rfl ?_
      refine WO_mv (v := .s (.bool _)) rfl ?_
      refine WO_gt rfl ?_
      refine WO_mv (v := .s (.bool _)) rfl ?_
      refine WO_gt rfl ?_
      refine WO_un (r := .bool _) rfl rfl ?_
      refine WO_gt rfl ?_
      refine WO_mv (v := .s (.bool _)) rfl ?_
      refine WO_gt rfl ?_
      refine WO_mv (v := .s (.int _ _)) rfl ?_
      refine WO_gt rfl ?_
      refine WO_bin rfl rfl (neq_same rfl) ?_
      refine WO_gt rfl ?_
      refine WO_pick (v := .s (.bool _)) rfl rfl ?_
      refine WO_pick (v := .s (.bool _)) rfl rfl ?_
      refine WO_nil ?_
      refine WP_cond rfl (fun h => nomatch h) (fun _ => ?_)
      refine WP_skip ?_
      refine WP_ops ?_
      refine WO_mv (v := .s (.int _ _)) rfl ?_
      refine WO_add rfl rfl (by omega) ?_
      refine WO_mv (v := .s (.int _ _)) rfl ?_
      refine WO_nil ?_
      refine ⟨_, _, ?_, (.cons _ .slnil), x + 1, by omega, rfl, rfl, rfl⟩
      omega
    ·try simp only [NM] at h16
     refine WO_gf rfl rfl ?_
     refine WO_gf rfl rfl ?_
     refine WO_gf rfl rfl ?_
     refine WO_pick (v := .s (.bool _)) rfl rfl ?_
     refine WO_mv (v := .s (.bool _)) rfl ?_
     refine WO_gf rfl rfl ?_
     refine WO_gf rfl rfl ?_
     refine WO_gf rfl rfl ?_
     refine WO_pick (v := .s (.bool _)) rfl rfl ?_
     refine WO_mv (v := .s (.bool _)) rfl ?_
     refine WO_gf rfl rfl ?_
     refine WO_gf rfl rfl ?_
     refine WO_gf rfl rfl ?_
     refine WO_pick (v := .s (.bool _)) rfl rfl ?_
     refine WO_mv (v := .s (.bool _)) rfl ?_
     refine WO_nil ?_
     refine WP_seq ?_
     refine WP_ops ?_
     refine WO_mv (v := .s (.bool _)) rfl ?_
     refine WO_mv (v := .s (.bool _)) rfl ?_
     refine WO_eqbF rfl rfl (by first | rfl | exact (decide_eq_false (by omega)).symm | exact (decide_eq_true (by omega)).symm) ?_
     refine WO_mv (v := .s (.bool _)) rfl ?_
     refine WO_gt rfl ?_
     refine WO_mv (v := .s (.bool _)) rfl ?_
     refine WO_gt rfl ?_
     refine WO_mv (v := .s (.bool _)) rfl ?_
     refine WO_gf rfl rfl ?_
     refine WO_gf rfl rfl ?_
     refine WO_gf rfl rfl ?_
     refine WO_gf rfl rfl ?_
     refine WO_gf rfl rfl ?_
     refine WO_gf rfl rfl ?_
     refine WO_gf rfl rfl ?_
     refine WO_gf rfl rfl ?_
     refine WO_gf rfl rfl ?_
     refine WO_gf rfl rfl ?_
     refine WO_gt rfl ?_
     refine WO_pick (v := .s (.bool _)) rfl rfl ?_
     refine WO_pick (v := .s (.bool _)) rfl rfl ?_
     refine WO_mv (v := .s (.bool _)) rfl ?_
     refine WO_gt rfl ?_
     refine WO_mv (v := .s (.bool _)) rfl ?_
     refine WO_gt rfl ?_
     refine WO_un (r := .bool _) rfl rfl ?_
     refine WO_gt rfl ?_
     refine WO_mv (v := .s (.bool _)) rfl ?_
     refine WO_gt rfl ?_
     refine WO_mv (v := .s (.int _ _)) rfl ?_
     refine WO_gt rfl ?_
     refine WO_bin rfl rfl (neq_same rfl) ?_
     refine WO_gt rfl ?_
     refine WO_pick (v := .s (.bool _)) rfl rfl ?_
     refine WO_pick (v := .s (.bool _)) rfl rfl ?_
     refine WO_nil ?_
     refine WP_cond rfl (fun h => nomatch h) (fun _ => ?_)
     refine WP_skip ?_
     refine WP_ops ?_
     refine WO_mv (v := .s (.int _ _)) rfl ?_
     refine WO_add rfl rfl (by omega) ?_
     refine WO_mv (v := .s (.int _ _)) rfl ?_
     refine WO_nil ?_
     refine ⟨_, _, ?_, (.cons _ .slnil), x + 1, by omega, rfl, rfl, rfl⟩
     omega
  ·try simp only [NM] at h12
   refine WP_exit ?_
   refine xhere ?_
   refine WP_seq ?_
   refine WP_ops ?_
   refine WO_mkslS rfl (.one rfl (.one rfl (.one rfl (.one rfl (.one rfl (.one rfl (.one rfl (.one rfl (.one rfl (.one rfl .nil)))))))))) ?_
   refine WO_mv (v := .sl _ _ _ _ _) rfl ?_
   refine WO_nil ?_
   refine WP_seq ?_
   refine WP_seq ?_
   refine WP_ops ?_
   refine WO_mv rfl ?_
   refine WO_nil ?_
   refine WP_block ?_
   refine WP_sub (L' := [_]) (.cons_cons _ .slnil) ?_
   refine WP_loop (fun m f _ L => ∃ (i : Nat) (be : Nat), (i ≤ 10) ∧ (m = 10 - i) ∧ (f 10 = .sl be 0 10 1 (.ex 10)) ∧ (f 11 = .s (.int .i64 i)) ∧ (L = [(be, .sc .var 10 (ia endsE))])) (fun m f nb L hI => ?_) (_) ⟨0, _, by omega, rfl, rfl, rfl, rfl⟩
   obtain ⟨i, be, hi, hm, k10, k11, rfl⟩ := hI
   refine WP_know (d := 10) (v := .sl be 0 10 1 (.ex 10)) k10 ?_
   refine WP_know (d := 11) (v := .s (.int .i64 i)) k11 ?_
   refine WP_seq ?_
   refine WP_seq ?_
   refine WP_ops ?_
   refine WO_mv (v := .s (.int _ _)) rfl ?_
   refine WO_mv (v := .sl _ _ _ _ _) rfl ?_
   refine WO_len rfl ?_
   refine WO_bin (r := .bool _) rfl rfl rfl ?_
   refine WO_nil ?_
   refine WP_cond rfl (fun h19 => ?_) (fun h19 => ?_)
   ·try simp only [NM] at h19
    refine WP_skip ?_
    refine WP_seq ?_
    refine WP_block ?_
    refine WP_seq ?_
    refine WP_ops ?_
    refine WO_mv rfl ?_
    refine WO_nil ?_
    refine WP_block ?_
    refine WP_sub (L' := [_]) (.cons_cons _ .slnil) ?_
    refine WP_loop (fun m f _ L => ∃ (k : Nat), (k ≤ 10) ∧ (m = 10 - k) ∧ (f 10 = .sl be 0 10 1 (.ex 10)) ∧ (f 11 = .s (.int .i64 i)) ∧ (f 12 = .s (.int .i64 k)) ∧ (L = [(be, .sc .var 10 (ia endsE))])) (fun m f nb L hI => ?_) (_) ⟨0, by omega, rfl, rfl, rfl, rfl, rfl⟩
    obtain ⟨k, hk, hm, k10, k11, k12, rfl⟩ := hI
    refine WP_know (d := 10) (v := .sl be 0 10 1 (.ex 10)) k10 ?_
    refine WP_know (d := 11) (v := .s (.int .i64 i)) k11 ?_
    refine WP_know (d := 12) (v := .s (.int .i64 k)) k12 ?_
    refine WP_seq ?_
    refine WP_seq ?_
    refine WP_ops ?_
    refine WO_mv (v := .s (.int _ _)) rfl ?_
    refine WO_mv (v := .sl _ _ _ _ _) rfl ?_
    refine WO_len rfl ?_
    refine WO_bin (r := .bool _) rfl rfl rfl ?_
    refine WO_nil ?_
    refine WP_cond rfl (fun h20 => ?_) (fun h20 => ?_)
    ·try simp only [NM] at h20
     refine WP_skip ?_
     refine WP_seq ?_
     refine WP_block ?_
     refine WP_seq ?_
     refine WP_ops ?_
     refine WO_mv (v := .sl _ _ _ _ _) rfl ?_
     refine WO_mv (v := .s (.int _ _)) rfl ?_
     refine WO_ixs rfl rfl (by omega) ?_
     refine WO_ldI (x := _) rfl rfl (.head _) (rfl) ?_
     refine WO_mv (v := .sl _ _ _ _ _) rfl ?_
     refine WO_mv (v := .s (.int _ _)) rfl ?_
     refine WO_ixs rfl rfl (by omega) ?_
     refine WO_ldI (x := _) rfl rfl (.head _) (rfl) ?_
     refine WO_mv (v := .sl _ _ _ _ _) rfl ?_
     refine WO_mv (v := .s (.int _ _)) rfl ?_
     refine WO_mv (v := .s (.int _ _)) rfl ?_
     refine WO_add rfl rfl (by omega) ?_
     refine WO_rem rfl rfl (by omega) ?_
     refine WO_ixs rfl rfl (by omega) ?_
     refine WO_ldI (x := _) rfl rfl (.head _) (rfl) ?_
     refine WO_mv (v := .sl _ _ _ _ _) rfl ?_
     refine WO_mv (v := .s (.int _ _)) rfl ?_
     refine WO_ixs rfl rfl (by omega) ?_
     refine WO_ldI (x := _) rfl rfl (.head _) (rfl) ?_
     refine WO_mv (v := .sl _ _ _ _ _) rfl ?_
     refine WO_mv (v := .s (.int _ _)) rfl ?_
     refine WO_ixs rfl rfl (by omega) ?_
     refine WO_ldI (x := _) rfl rfl (.head _) (rfl) ?_
     refine WO_buildI rfl (.one rfl (.one rfl .nil)) ?_
     refine WO_mkslI rfl (.agg rfl .nil) ?_
     refine WO_call (rs := [nb]) (Bs := [_]) (av := [.s (.int .i64 (endsE (0 + ((i : Nat) : Int).toNat * 1))), .s (.int .i64 (endsE (0 + ((k : Nat) : Int).toNat * 1))), .s (.int .i64 (endsE (0 + (((i : Int) + (k : Int)) % 10).toNat * 1))), .s (.str ⟨#[97]⟩), .sl (nb) 0 1 2 (.ex 1)]) rfl (RB_of1 (SquareTells_run (md := .var) (q := 1 * 2) (c := (.ex 1)) (endsE (0 + ((i : Nat) : Int).toNat * 1)) (endsE (0 + ((k : Nat) : Int).toNat * 1)) (endsE (0 + (((i : Int) + (k : Int)) % 10).toNat * 1)) (ends_bd (by omega)) (ends_bd (by omega)) ⟨#[97]⟩ _ 1 (by omega))) rfl (by simp [V.refsL, V.refs, dedup]) (by simp [V.refsL, V.refs]) (by simp [V.refsL, V.refs]) (by simp [rnL, V.renL, V.ren, pos]) ⟨(.head _), ⟨_, _, _, rfl⟩, trivial⟩ rfl rfl rfl (.cons (At_self (.head _)) .nil) ?_
     refine WO_un (r := .bool _) rfl rfl ?_
     refine WO_mv (v := .s (.bool _)) rfl ?_
     refine WO_gt rfl ?_
     refine WO_mv (v := .sl _ _ _ _ _) rfl ?_
     refine WO_gt rfl ?_
     refine WO_mv (v := .s (.int _ _)) rfl ?_
     refine WO_gt rfl ?_
     refine WO_ixs rfl rfl (by omega) ?_
     refine WO_gt rfl ?_
     refine WO_ldI (x := _) rfl rfl (.tail _ (.head _)) (rfl) ?_
     refine WO_gt rfl ?_
     refine WO_mv (v := .sl _ _ _ _ _) rfl ?_
     refine WO_gt rfl ?_
     refine WO_mv (v := .s (.int _ _)) rfl ?_
     refine WO_gt rfl ?_
     refine WO_ixs rfl rfl (by omega) ?_
     refine WO_gt rfl ?_
     refine WO_ldI (x := _) rfl rfl (.tail _ (.head _)) (rfl) ?_
     refine WO_gt rfl ?_
     refine WO_mv (v := .sl _ _ _ _ _) rfl ?_
     refine WO_gt rfl ?_
     refine WO_mv (v := .s (.int _ _)) rfl ?_
     refine WO_gt rfl ?_
     refine WO_ixs rfl rfl (by omega) ?_
     refine WO_gt rfl ?_
     refine WO_ldI (x := _) rfl rfl (.tail _ (.head _)) (rfl) ?_
     refine WO_gt rfl ?_
     refine WO_buildI rfl (.one rfl (.one rfl .nil)) ?_
     refine WO_gt rfl ?_
     refine WO_mv (v := .sl _ _ _ _ _) rfl ?_
     refine WO_gt rfl ?_
     refine WO_mv (v := .s (.int _ _)) rfl ?_
     refine WO_gt rfl ?_
     refine WO_ixs rfl rfl (by omega) ?_
     refine WO_gt rfl ?_
     refine WO_ldI (x := _) rfl rfl (.tail _ (.head _)) (rfl) ?_
     refine WO_gt rfl ?_
     refine WO_buildI rfl (.one rfl (.one rfl .nil)) ?_
     refine WO_gt rfl ?_
     refine WO_mkslI rfl (.agg rfl (.agg rfl .nil)) ?_
     refine WO_gt rfl ?_
     refine WO_call (rs := [nb + 1]) (Bs := [_]) (av := [.s (.int .i64 27), .s (.int .i64 (endsE (0 + ((i : Nat) : Int).toNat * 1))), .s (.int .i64 (endsE (0 + ((k : Nat) : Int).toNat * 1))), .s (.str ⟨#[]⟩), .sl (nb + 1) 0 2 2 (.ex 2)]) rfl (RB_of1 (SquareTells_run (md := .var) (q := 2 * 2) (c := (.ex 2)) 27 (endsE (0 + ((i : Nat) : Int).toNat * 1)) (endsE (0 + ((k : Nat) : Int).toNat * 1)) (ends_bd (by omega)) (ends_bd (by omega)) ⟨#[]⟩ _ 2 (by omega))) rfl (by simp [V.refsL, V.refs, dedup]) (by simp [V.refsL, V.refs]) (by simp [V.refsL, V.refs]) (by simp [rnL, V.renL, V.ren, pos]) ⟨(.head _), ⟨_, _, _, rfl⟩, trivial⟩ rfl rfl rfl (.cons (At_self (.head _)) .nil) ?_
     refine WO_gt rfl ?_
     refine WO_un (r := .bool _) rfl rfl ?_
     refine WO_pick (v := .s (.bool _)) rfl rfl ?_
     refine WO_nil ?_
     refine WP_cond rfl (fun h => nomatch h) (fun _ => ?_)
     refine WP_skip ?_
     refine WP_ops ?_
     refine WO_mv (v := .s (.int _ _)) rfl ?_
     refine WO_add rfl rfl (by omega) ?_
     refine WO_mv (v := .s (.int _ _)) rfl ?_
     refine WO_nil ?_
     refine ⟨_, _, ?_, (.cons _ (.cons _ (.cons_cons _ .slnil))), k + 1, by omega, rfl, rfl, rfl, rfl, rfl⟩
     omega
    ·try simp only [NM] at h20
     refine WP_exit ?_
     refine xhere ?_
     refine WP_ops ?_
     refine WO_mv (v := .s (.int _ _)) rfl ?_
     refine WO_add rfl rfl (by omega) ?_
     refine WO_mv (v := .s (.int _ _)) rfl ?_
     refine WO_nil ?_
     refine ⟨_, _, ?_, (.cons_cons _ .slnil), i + 1, _, by omega, rfl, rfl, rfl, rfl⟩
     omega
   ·try simp only [NM] at h19
    refine WP_exit ?_
    refine xhere ?_
    refine WP_seq ?_
    refine WP_ops ?_
    refine WO_call0 rfl (sqAwake_run) rfl rfl rfl ?_
    refine WO_mv (v := .s (.bool _)) rfl ?_
    refine WO_nil ?_
    refine WP_ret ?_
    refine ⟨_, RS_tmp (v := .s (.bool _)) rfl (RS_nil), ?_⟩
    rfl
end Go.Proofs.Ytjldefmcnppdoaa
