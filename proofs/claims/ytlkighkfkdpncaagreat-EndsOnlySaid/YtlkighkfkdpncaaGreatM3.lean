/- Texts of this seat, joined. -/
import Derived.Test.YtlkighkfkdpncaaGreatAm0
import Derived.Test.YtlkighkfkdpncaaGreatAm1
import Derived.Test.YtlkighkfkdpncaaGreatAm2
import Derived.Test.YtlkighkfkdpncaaGreatM0
import Derived.Test.YtlkighkfkdpncaaGreatM1
import Derived.Test.YtlkighkfkdpncaaGreatM2
namespace Go.Proofs.YtlkighkfkdpncaaGreat
open Go Go.Am
set_option linter.unusedSimpArgs false
set_option linter.unusedVariables false
theorem turns_run {md : Md} (H : Nat → Int) (ha : 0 ≤ H 133 ∧ H 133 < 64) (ht : 0 ≤ H 134 ∧ H 134 < 64) : WR AM 144 [.ptr 0 0 138] [.sc md 138 (ia H)] (fun v _ L => v = .s (.int .i64 (H 134 % 8 - H 133 % 8)) ∧ (0, Blk.sc md 138 (ia H)) ∈ L) := by
 refine WR_fn (a := a144) rfl rfl (entryF _) (entry_E (Nat.le_of_ble_eq_true rfl)) (m := 1) rfl (sq (os (mv rfl (nl (sq (pr (mP rfl (WO_nilckP rfl (fa (o' := 133) rfl rfl rfl (fa (o' := 134) rfl rfl rfl (lI rfl rfl (.head _) rfl (q0 rfl (File_sq (by omega)) rfl rfl rfl (mP rfl (WO_nilckP rfl (fa (o' := 133) rfl rfl rfl (fa (o' := 133) rfl rfl rfl (lI rfl rfl (.head _) rfl (c0 rfl (File_sq (by omega)) rfl rfl rfl (sb rfl rfl (by omega) (mI rfl (nl (rt (⟨_, RS_tmp (v := .s (.int _ _)) rfl (RS_nil), ?_⟩)))))))))))))))))))))))
 exact ⟨rfl, (.head _)⟩
theorem takes_run {md : Md} (H : Nat → Int) (ha : 0 ≤ H 133 ∧ H 133 < 64) (ht : 0 ≤ H 134 ∧ H 134 < 64) : WR AM 121 [.ptr 0 0 138] [.sc md 138 (ia H)] (fun v _ L => v = .s (.int .i64 (takesM H (H 136) (H 133) (H 134))) ∧ (0, Blk.sc md 138 (ia H)) ∈ L) := by
 refine WR_fn (a := a121) rfl rfl (entryF _) (entry_E (Nat.le_of_ble_eq_true rfl)) (m := 1) rfl (sq (os (mv rfl (nl (sq (os (mP rfl (WO_nilckP rfl (fa (o' := 133) rfl rfl rfl (fa (o' := 134) rfl rfl rfl (lI rfl rfl (.head _) rfl (mI rfl (nl (WP_cut (fun f n L => (f 0 = .ptr 0 0 138) ∧ (f 3 = .s (.int .i64 (atT H (H 136) (H 133) (H 134)))) ∧ (L = [(0, .sc md 138 (ia H))]) ∧ (n = 1)) ?_ (fun f nb L hI => ?_)))))))))))))))
 ·skip
  refine sq (os (mP rfl (WO_nilckP rfl (fa (o' := 136) rfl rfl rfl (fa (o' := 136) rfl rfl rfl (lI rfl rfl (.head _) rfl (bB rfl rfl rfl (mB rfl (cs (t := 15) rfl (fun h1 => ?_) (fun h1 => ?_))))))))))
  ·try simp only [NM] at h1
   try simp only [isM, decide_eq_true_eq, decide_eq_false_iff_not] at h1
   refine gt rfl (mP rfl (gt rfl (WO_callP rfl (RB_of1 (turns_run H ha ht)) rfl rfl rfl .here (gt rfl (bB rfl rfl rfl (pB rfl rfl (mB rfl (cs (t := 20) rfl (fun h2 => ?_) (fun h2 => ?_)))))))))
   ·try simp only [NM] at h2
    try simp only [isM, decide_eq_true_eq, decide_eq_false_iff_not] at h2
    refine gt rfl (mI rfl (gt rfl (mP rfl (gt rfl (WO_nilckP rfl (gt rfl (fa (o' := 0) rfl rfl rfl (gt rfl (fa (o' := 130) rfl rfl rfl (gt rfl (lI rfl rfl (.head _) rfl (gt rfl (bB rfl rfl rfl (pB rfl rfl (mB rfl (cs (t := 29) rfl (fun h3 => ?_) (fun h3 => ?_)))))))))))))))))
    ·try simp only [NM] at h3
     try simp only [isM, decide_eq_true_eq, decide_eq_false_iff_not] at h3
     refine gt rfl (mP rfl (gt rfl (mI rfl (gt rfl (WO_nilckP rfl (gt rfl (fa (o' := 0) rfl rfl rfl (gt rfl (fa (o' := 0) rfl rfl rfl (gt rfl (ia2 rfl rfl rfl (by omega) (gt rfl ?_))))))))))))
     first | refine l0 rfl rfl (.head _) ?_ | refine lA rfl rfl (.head _) ?_
     refine gt rfl (uI rfl .nil (gt rfl (ea rfl rfl (pB rfl rfl (nl (cd rfl (fun h4 => ?_) (fun h4 => ?_)))))))
     ·try simp only [NM] at h4
      try simp only [isM, decide_eq_true_eq, decide_eq_false_iff_not] at h4
      refine pr (mI rfl (q0 rfl (File_sq (by omega)) rfl rfl rfl (mP rfl (WO_nilckP rfl (fa (o' := 133) rfl rfl rfl (fa (o' := 133) rfl rfl rfl (lI rfl rfl (.head _) rfl (c0 rfl (Rank_sq (by omega)) rfl rfl rfl (c0 rfl (RF_of (At_run _ _ (by omega) (by omega))) rfl rfl rfl (mI rfl (nl (⟨_, (.cons_cons _ .slnil), rfl, ?_, rfl, rfl⟩))))))))))))
      refine congrArg (fun b => V.s (S.int .i64 b)) ?_
      first | (rw [atT, if_pos ⟨by omega, by omega, by omega, by assumption⟩, atM, if_pos (by omega)]; done) | (rw [atT, if_neg (fun q => by omega)]; done) | (rw [atT, if_neg (fun q => Bool.false_ne_true ((show emptyM H (H 134) = false from (by assumption)).symm.trans q.2.2.2))]; done)
     ·try simp only [NM] at h4
      try simp only [isM, decide_eq_true_eq, decide_eq_false_iff_not] at h4
      refine sk (⟨_, (.cons_cons _ .slnil), rfl, ?_, rfl, rfl⟩)
      refine congrArg (fun b => V.s (S.int .i64 b)) ?_
      first | (rw [atT, if_pos ⟨by omega, by omega, by omega, by assumption⟩, atM, if_pos (by omega)]; done) | (rw [atT, if_neg (fun q => by omega)]; done) | (rw [atT, if_neg (fun q => Bool.false_ne_true ((show emptyM H (H 134) = false from (by assumption)).symm.trans q.2.2.2))]; done)
    ·try simp only [NM] at h3
     try simp only [isM, decide_eq_true_eq, decide_eq_false_iff_not] at h3
     refine gf rfl rfl (gf rfl rfl (gf rfl rfl (gf rfl rfl (gf rfl rfl (gf rfl rfl (gf rfl rfl (gf rfl rfl (gf rfl rfl (pB rfl rfl (nl (cd rfl (fun h => nomatch h) (fun _ => sk (⟨_, (.cons_cons _ .slnil), rfl, ?_, rfl, rfl⟩)))))))))))))
     refine congrArg (fun b => V.s (S.int .i64 b)) ?_
     first | (rw [atT, if_pos ⟨by omega, by omega, by omega, by assumption⟩, atM, if_pos (by omega)]; done) | (rw [atT, if_neg (fun q => by omega)]; done) | (rw [atT, if_neg (fun q => Bool.false_ne_true ((show emptyM H (H 134) = false from (by assumption)).symm.trans q.2.2.2))]; done)
   ·try simp only [NM] at h2
    try simp only [isM, decide_eq_true_eq, decide_eq_false_iff_not] at h2
    refine gf rfl rfl (gf rfl rfl (gf rfl rfl (gf rfl rfl (gf rfl rfl (gf rfl rfl (gf rfl rfl (pB rfl rfl (mB rfl (gf rfl rfl (gf rfl rfl (gf rfl rfl (gf rfl rfl (gf rfl rfl (gf rfl rfl (gf rfl rfl (gf rfl rfl (gf rfl rfl (pB rfl rfl (nl (cd rfl (fun h => nomatch h) (fun _ => sk (⟨_, (.cons_cons _ .slnil), rfl, ?_, rfl, rfl⟩))))))))))))))))))))))
    refine congrArg (fun b => V.s (S.int .i64 b)) ?_
    first | (rw [atT, if_pos ⟨by omega, by omega, by omega, by assumption⟩, atM, if_pos (by omega)]; done) | (rw [atT, if_neg (fun q => by omega)]; done) | (rw [atT, if_neg (fun q => Bool.false_ne_true ((show emptyM H (H 134) = false from (by assumption)).symm.trans q.2.2.2))]; done)
  ·try simp only [NM] at h1
   try simp only [isM, decide_eq_true_eq, decide_eq_false_iff_not] at h1
   refine gf rfl rfl (gf rfl rfl (gf rfl rfl (pB rfl rfl (mB rfl (gf rfl rfl (gf rfl rfl (gf rfl rfl (gf rfl rfl (gf rfl rfl (gf rfl rfl (gf rfl rfl (pB rfl rfl (mB rfl (gf rfl rfl (gf rfl rfl (gf rfl rfl (gf rfl rfl (gf rfl rfl (gf rfl rfl (gf rfl rfl (gf rfl rfl (gf rfl rfl (pB rfl rfl ?_)))))))))))))))))))))))
   refine nl (cd rfl (fun h => nomatch h) (fun _ => sk (⟨_, (.cons_cons _ .slnil), rfl, ?_, rfl, rfl⟩)))
   refine congrArg (fun b => V.s (S.int .i64 b)) ?_
   first | (rw [atT, if_pos ⟨by omega, by omega, by omega, by assumption⟩, atM, if_pos (by omega)]; done) | (rw [atT, if_neg (fun q => by omega)]; done) | (rw [atT, if_neg (fun q => Bool.false_ne_true ((show emptyM H (H 134) = false from (by assumption)).symm.trans q.2.2.2))]; done)
 ·skip
  obtain ⟨k0, k3, rfl, rfl⟩ := hI
  refine kn (d := 0) (v := .ptr 0 0 138) k0 (kn (d := 3) (v := .s (.int .i64 (atT H (H 136) (H 133) (H 134)))) k3 ?_)
  have hat := atT_bd (P := H) (k := H 136) ha ht
  refine sq (sq (os (mP rfl (mI rfl (WO_nilckP rfl (fa (o' := 0) rfl rfl rfl (fa (o' := 0) rfl rfl rfl (ia2 rfl rfl rfl (by omega) ?_))))))))
  first | refine l0 rfl rfl (.head _) ?_ | refine lA rfl rfl (.head _) ?_
  refine uI rfl .nil (ea rfl rfl (nl (cd rfl (fun h5 => ?_) (fun h5 => ?_))))
  ·try simp only [NM] at h5
   try simp only [isM, decide_eq_true_eq, decide_eq_false_iff_not] at h5
   refine sq (os (mv rfl (nl (rt (⟨_, RS_tmp (v := .s (.int _ _)) rfl (RS_nil), ?_⟩)))))
   refine ⟨congrArg (fun b => V.s (S.int .i64 b)) ?_, (.head _)⟩
   first | (rw [takesM, show emptyM H (atT H (H 136) (H 133) (H 134)) = true from (by assumption)]; rfl) | (rw [takesM, show emptyM H (atT H (H 136) (H 133) (H 134)) = false from (by assumption)]; rfl)
  ·try simp only [NM] at h5
   try simp only [isM, decide_eq_true_eq, decide_eq_false_iff_not] at h5
   refine sk (sq (os (mI rfl (mI rfl (nl (rt (⟨_, RS_tmp (v := .s (.int _ _)) rfl (RS_nil), ?_⟩)))))))
   refine ⟨congrArg (fun b => V.s (S.int .i64 b)) ?_, (.head _)⟩
   first | (rw [takesM, show emptyM H (atT H (H 136) (H 133) (H 134)) = true from (by assumption)]; rfl) | (rw [takesM, show emptyM H (atT H (H 136) (H 133) (H 134)) = false from (by assumption)]; rfl)
def RookOf (k a t c C x y : Int) (z : Bool) : Prop := (castlingM k a t c C = 1 ∧ z = true ∧ x = a + 3 ∧ y = a + 1) ∨ (castlingM k a t c C = -1 ∧ z = true ∧ x = a - 4 ∧ y = a - 1) ∨ (castlingM k a t c C = 0 ∧ z = false)
theorem rook_none {k a t c C x y : Int} (h : ¬ (k = 6 ∧ a = 56 * c + 4 ∧ (t = a + 2 ∨ t = a - 2))) : RookOf k a t c C x y false := by
 refine .inr (.inr ⟨?_, rfl⟩)
 rw [castlingM, if_neg (fun q => h ⟨q.1, q.2.1, .inl q.2.2.1⟩), if_neg (fun q => h ⟨q.1, q.2.1, .inr q.2.2.1⟩)]
theorem shortM_in {c : Int} : shortM c = 1 ∨ shortM c = 4 := by unfold shortM; split <;> omega
theorem bne_and {C s : Int} (h : 0 ≤ C ∧ C ≤ 15) (hs : s = 1 ∨ s = 2 ∨ s = 4 ∨ s = 8) : (andM C s != 0) = decide (C / s % 2 = 1) := by
 rw [Bool.eq_iff_iff, decide_eq_true_eq, ← and_is h hs, bne_iff_ne]
theorem rook_short {k a t c C : Int} (hC : 0 ≤ C ∧ C ≤ 15) (hk : k = 6) (ha : a = 56 * c + 4) (ht : t = a + 2) : RookOf k a t c C (56 * c + 4 + 3) (56 * c + 4 + 1) (andM C (shortM c) != 0) := by
 have hs := shortM_in (c := c)
 rw [bne_and hC (by omega)]
 by_cases h : C / shortM c % 2 = 1
 ·refine .inl ⟨?_, decide_eq_true h, by omega, by omega⟩
  rw [castlingM, if_pos ⟨hk, ha, ht, h⟩]
 ·refine .inr (.inr ⟨?_, decide_eq_false h⟩)
  rw [castlingM, if_neg (fun q => h q.2.2.2), if_neg (fun q => by omega)]
theorem rook_long {k a t c C : Int} (hC : 0 ≤ C ∧ C ≤ 15) (hk : k = 6) (ha : a = 56 * c + 4) (ht : t = a - 2) : RookOf k a t c C (56 * c + 4 - 4) (56 * c + 4 - 1) (andM C (2 * shortM c) != 0) := by
 have hs := shortM_in (c := c)
 rw [bne_and hC (by omega)]
 by_cases h : C / (2 * shortM c) % 2 = 1
 ·refine .inr (.inl ⟨?_, decide_eq_true h, by omega, by omega⟩)
  rw [castlingM, if_neg (fun q => by omega), if_pos ⟨hk, ha, ht, h⟩]
 ·refine .inr (.inr ⟨?_, decide_eq_false h⟩)
  rw [castlingM, if_neg (fun q => by omega), if_neg (fun q => h q.2.2.2)]
theorem rook_run {md : Md} (H : Nat → Int) (ha : 0 ≤ H 133 ∧ H 133 < 64) (ht : 0 ≤ H 134 ∧ H 134 < 64) (hc : H 137 = 0 ∨ H 137 = 1) (hC : 0 ≤ H 129 ∧ H 129 ≤ 15) : WR AM 122 [.ptr 0 0 138] [.sc md 138 (ia H)] (fun v _ L => (∃ x y z, v = .tup [.s (.int .i64 x), .s (.int .i64 y), .s (.bool z)] ∧ RookOf (H 136) (H 133) (H 134) (H 137) (H 129) x y z) ∧ (0, Blk.sc md 138 (ia H)) ∈ L) := by
 refine WR_fn (a := a122) rfl rfl (entryF _) (entry_E (Nat.le_of_ble_eq_true rfl)) (m := 1) rfl (sq (os (mv rfl (mv rfl (mv rfl (nl (sq (os (mP rfl (WO_nilckP rfl (fa (o' := 136) rfl rfl rfl (fa (o' := 137) rfl rfl rfl (lI rfl rfl (.head _) rfl (WO_mul rfl rfl (by omega) (ad rfl rfl (by omega) (mI rfl (nl (sq (os (mP rfl (WO_nilckP rfl (fa (o' := 136) rfl rfl rfl (fa (o' := 137) rfl rfl rfl ?_)))))))))))))))))))))))
 refine lI rfl rfl (.head _) rfl (WO_mul rfl rfl (by omega) (bi rfl rfl (cast_shl1 hc) (mI rfl (nl (sq (bk (sq (os (mP rfl (WO_nilckP rfl (fa (o' := 136) rfl rfl rfl (fa (o' := 136) rfl rfl rfl (lI rfl rfl (.head _) rfl (bB rfl rfl rfl (mB rfl (cs (t := 28) rfl (fun h6 => ?_) (fun h6 => ?_)))))))))))))))))
 ·try simp only [NM] at h6
  try simp only [isM, decide_eq_true_eq, decide_eq_false_iff_not] at h6
  refine gf rfl rfl (gf rfl rfl (gf rfl rfl (gf rfl rfl (gf rfl rfl (gf rfl rfl (gf rfl rfl (pB rfl rfl (mB rfl (nl (cd rfl (fun _ => ?_) (fun h => nomatch h)))))))))))
  refine sq (os (mv rfl (mv rfl (mv rfl (nl (rt (⟨_, RS_tmp (v := .s (.int _ _)) rfl (RS_tmp (v := .s (.int _ _)) rfl (RS_tmp (v := .s (.bool _)) rfl (RS_nil))), ?_⟩)))))))
  refine ⟨⟨_, _, _, rfl, ?_⟩, (.head _)⟩
  first | exact rook_none (by omega) | exact rook_short hC (by omega) (by omega) (by omega) | exact rook_long hC (by omega) (by omega) (by omega)
 ·try simp only [NM] at h6
  try simp only [isM, decide_eq_true_eq, decide_eq_false_iff_not] at h6
  refine gt rfl (mP rfl (gt rfl (WO_nilckP rfl (gt rfl (fa (o' := 133) rfl rfl rfl (gt rfl (fa (o' := 133) rfl rfl rfl (gt rfl (lI rfl rfl (.head _) rfl (gt rfl (mI rfl (gt rfl (bB rfl rfl rfl (pB rfl rfl (mB rfl (nl (cd rfl (fun h7 => ?_) (fun h7 => ?_))))))))))))))))))
  ·try simp only [NM] at h7
   try simp only [isM, decide_eq_true_eq, decide_eq_false_iff_not] at h7
   refine sq (os (mv rfl (mv rfl (mv rfl (nl (rt (⟨_, RS_tmp (v := .s (.int _ _)) rfl (RS_tmp (v := .s (.int _ _)) rfl (RS_tmp (v := .s (.bool _)) rfl (RS_nil))), ?_⟩)))))))
   refine ⟨⟨_, _, _, rfl, ?_⟩, (.head _)⟩
   first | exact rook_none (by omega) | exact rook_short hC (by omega) (by omega) (by omega) | exact rook_long hC (by omega) (by omega) (by omega)
  ·try simp only [NM] at h7
   try simp only [isM, decide_eq_true_eq, decide_eq_false_iff_not] at h7
   refine sq (os (mP rfl (WO_nilckP rfl (fa (o' := 133) rfl rfl rfl (fa (o' := 134) rfl rfl rfl (lI rfl rfl (.head _) rfl (mI rfl (ad rfl rfl (by omega) (bB rfl rfl rfl (mB rfl (nl (cd rfl (fun h8 => ?_) (fun h8 => ?_)))))))))))))
   ·try simp only [NM] at h8
    try simp only [isM, decide_eq_true_eq, decide_eq_false_iff_not] at h8
    refine sq (pr (mI rfl (ad rfl rfl (by omega) (mI rfl (ad rfl rfl (by omega) (mP rfl (WO_nilckP rfl (fa (o' := 0) rfl rfl rfl (fa (o' := 129) rfl rfl rfl (lI rfl rfl (.head _) rfl (mI rfl (bi (r := .int .i64 (andM (H 129) (shortM (H 137)))) rfl rfl rfl (bB rfl rfl rfl (mI rfl (mI rfl (mB rfl (nl (rt (⟨_, RS_tmp (v := .s (.int _ _)) rfl (RS_tmp (v := .s (.int _ _)) rfl (RS_tmp (v := .s (.bool _)) rfl (RS_nil))), ?_⟩)))))))))))))))))))
    refine ⟨⟨_, _, _, rfl, ?_⟩, (.head _)⟩
    first | exact rook_none (by omega) | exact rook_short hC (by omega) (by omega) (by omega) | exact rook_long hC (by omega) (by omega) (by omega)
   ·try simp only [NM] at h8
    try simp only [isM, decide_eq_true_eq, decide_eq_false_iff_not] at h8
    refine sq (os (mP rfl (WO_nilckP rfl (fa (o' := 133) rfl rfl rfl (fa (o' := 134) rfl rfl rfl (lI rfl rfl (.head _) rfl (mI rfl (sb rfl rfl (by omega) (bB rfl rfl rfl (mB rfl (nl (cd rfl (fun h9 => ?_) (fun h9 => ?_)))))))))))))
    ·try simp only [NM] at h9
     try simp only [isM, decide_eq_true_eq, decide_eq_false_iff_not] at h9
     refine sq (pr (mI rfl (sb rfl rfl (by omega) (mI rfl (sb rfl rfl (by omega) (mP rfl (WO_nilckP rfl (fa (o' := 0) rfl rfl rfl (fa (o' := 129) rfl rfl rfl (lI rfl rfl (.head _) rfl (mI rfl (bi rfl rfl (cast_shl2 hc) (bi (r := .int .i64 (andM (H 129) (2 * shortM (H 137)))) rfl rfl rfl (bB rfl rfl rfl (mI rfl (mI rfl (mB rfl (nl (rt (⟨_, RS_tmp (v := .s (.int _ _)) rfl (RS_tmp (v := .s (.int _ _)) rfl (RS_tmp (v := .s (.bool _)) rfl (RS_nil))), ?_⟩))))))))))))))))))))
     refine ⟨⟨_, _, _, rfl, ?_⟩, (.head _)⟩
     first | exact rook_none (by omega) | exact rook_short hC (by omega) (by omega) (by omega) | exact rook_long hC (by omega) (by omega) (by omega)
    ·try simp only [NM] at h9
     try simp only [isM, decide_eq_true_eq, decide_eq_false_iff_not] at h9
     refine sk (sq (os (mv rfl (mv rfl (mv rfl (nl (rt (⟨_, RS_tmp (v := .s (.int _ _)) rfl (RS_tmp (v := .s (.int _ _)) rfl (RS_tmp (v := .s (.bool _)) rfl (RS_nil))), ?_⟩))))))))
     refine ⟨⟨_, _, _, rfl, ?_⟩, (.head _)⟩
     first | exact rook_none (by omega) | exact rook_short hC (by omega) (by omega) (by omega) | exact rook_long hC (by omega) (by omega) (by omega)
theorem long_run {md : Md} (H : Nat → Int) (ha : 0 ≤ H 133 ∧ H 133 < 64) (ht : 0 ≤ H 134 ∧ H 134 < 64) (hc : H 137 = 0 ∨ H 137 = 1) : WR AM 123 [.ptr 0 0 138] [.sc md 138 (ia H)] (fun v _ L => v = .s (.bool (longM (H 136) (H 133) (H 134) (H 137))) ∧ (0, Blk.sc md 138 (ia H)) ∈ L) := by
 refine WR_fn (a := a123) rfl rfl (entryF _) (entry_E (Nat.le_of_ble_eq_true rfl)) (m := 1) rfl (sq (os (mv rfl (nl (sq (os (mP rfl (WO_nilckP rfl (fa (o' := 136) rfl rfl rfl (fa (o' := 137) rfl rfl rfl (lI rfl rfl (.head _) rfl (WO_mul rfl rfl (by omega) (sb rfl rfl (by omega) (mI rfl (nl (sq (pr (mP rfl (WO_nilckP rfl (fa (o' := 133) rfl rfl rfl (fa (o' := 133) rfl rfl rfl (lI rfl rfl (.head _) rfl (q0 rfl (Rank_sq (by omega)) rfl rfl rfl ?_)))))))))))))))))))))))
 refine mP rfl (WO_nilckP rfl (fa (o' := 133) rfl rfl rfl (fa (o' := 134) rfl rfl rfl (lI rfl rfl (.head _) rfl (c0 rfl (Rank_sq (by omega)) rfl rfl rfl (mI rfl (mI rfl (nl (sq (os (mP rfl (WO_nilckP rfl (fa (o' := 136) rfl rfl rfl (fa (o' := 136) rfl rfl rfl (lI rfl rfl (.head _) rfl (bB rfl rfl rfl (mB rfl (cs (t := 31) rfl (fun h10 => ?_) (fun h10 => ?_)))))))))))))))))))
 ·try simp only [NM] at h10
  try simp only [isM, decide_eq_true_eq, decide_eq_false_iff_not] at h10
  refine gt rfl (mP rfl (gt rfl (WO_callP rfl (RB_of1 (turns_run H ha ht)) rfl rfl rfl .here (gt rfl (bB rfl rfl rfl (pB rfl rfl (mB rfl (cs (t := 36) rfl (fun h11 => ?_) (fun h11 => ?_)))))))))
  ·try simp only [NM] at h11
   try simp only [isM, decide_eq_true_eq, decide_eq_false_iff_not] at h11
   refine gt rfl (mI rfl (gt rfl (mP rfl (gt rfl (WO_nilckP rfl (gt rfl (fa (o' := 136) rfl rfl rfl (gt rfl (fa (o' := 137) rfl rfl rfl (gt rfl (lI rfl rfl (.head _) rfl (gt rfl (WO_mul rfl rfl (by omega) (gt rfl (ad rfl rfl (by omega) (gt rfl (bB rfl rfl rfl (pB rfl rfl (mB rfl (cs (t := 47) rfl (fun h12 => ?_) (fun h12 => ?_)))))))))))))))))))))
   ·try simp only [NM] at h12
    try simp only [isM, decide_eq_true_eq, decide_eq_false_iff_not] at h12
    refine gt rfl (mI rfl (gt rfl (mI rfl (gt rfl (mI rfl (gt rfl (WO_mul rfl rfl (by omega) (gt rfl (ad rfl rfl (by omega) (gt rfl (bB rfl rfl rfl (pB rfl rfl (mB rfl (nl (rt (⟨_, RS_tmp (v := .s (.bool _)) rfl (RS_nil), ?_⟩))))))))))))))))
    refine ⟨congrArg (fun b => V.s (S.bool b)) ?_, (.head _)⟩
    unfold longM
    rw [Bool.eq_iff_iff]
    simp only [beq_iff_eq, decide_eq_true_eq, Bool.false_eq_true, true_iff, false_iff, iff_true, iff_false]
    omega
   ·try simp only [NM] at h12
    try simp only [isM, decide_eq_true_eq, decide_eq_false_iff_not] at h12
    refine gf rfl rfl (gf rfl rfl (gf rfl rfl (gf rfl rfl (gf rfl rfl (gf rfl rfl (pB rfl rfl (mB rfl (nl (rt (⟨_, RS_tmp (v := .s (.bool _)) rfl (RS_nil), ?_⟩))))))))))
    refine ⟨congrArg (fun b => V.s (S.bool b)) ?_, (.head _)⟩
    unfold longM
    rw [Bool.eq_iff_iff]
    simp only [beq_iff_eq, decide_eq_true_eq, Bool.false_eq_true, true_iff, false_iff, iff_true, iff_false]
    omega
  ·try simp only [NM] at h11
   try simp only [isM, decide_eq_true_eq, decide_eq_false_iff_not] at h11
   refine gf rfl rfl (gf rfl rfl (gf rfl rfl (gf rfl rfl (gf rfl rfl (gf rfl rfl (gf rfl rfl (gf rfl rfl (gf rfl rfl (pB rfl rfl (mB rfl (gf rfl rfl (gf rfl rfl (gf rfl rfl (gf rfl rfl (gf rfl rfl (gf rfl rfl (pB rfl rfl (mB rfl (nl (rt (⟨_, RS_tmp (v := .s (.bool _)) rfl (RS_nil), ?_⟩)))))))))))))))))))))
   refine ⟨congrArg (fun b => V.s (S.bool b)) ?_, (.head _)⟩
   unfold longM
   rw [Bool.eq_iff_iff]
   simp only [beq_iff_eq, decide_eq_true_eq, Bool.false_eq_true, true_iff, false_iff, iff_true, iff_false]
   omega
 ·try simp only [NM] at h10
  try simp only [isM, decide_eq_true_eq, decide_eq_false_iff_not] at h10
  refine gf rfl rfl (gf rfl rfl (gf rfl rfl (pB rfl rfl (mB rfl (gf rfl rfl (gf rfl rfl (gf rfl rfl (gf rfl rfl (gf rfl rfl (gf rfl rfl (gf rfl rfl (gf rfl rfl (gf rfl rfl (pB rfl rfl (mB rfl (gf rfl rfl (gf rfl rfl (gf rfl rfl (gf rfl rfl (gf rfl rfl (gf rfl rfl (pB rfl rfl (mB rfl ?_)))))))))))))))))))))))
  refine nl (rt (⟨_, RS_tmp (v := .s (.bool _)) rfl (RS_nil), ?_⟩))
  refine ⟨congrArg (fun b => V.s (S.bool b)) ?_, (.head _)⟩
  unfold longM
  rw [Bool.eq_iff_iff]
  simp only [beq_iff_eq, decide_eq_true_eq, Bool.false_eq_true, true_iff, false_iff, iff_true, iff_false]
  omega
def setM (H X K : Nat → Int) : Nat → Nat → Int
 | 0 => H
 | n + 1 => if isM (K (0 + (n : Int).toNat * 1)) = true then ovA (setM H X K n) (0 + (K (0 + (n : Int).toNat * 1)).toNat * 2) 2 X else setM H X K n
theorem setM_out {H X K : Nat → Int} : ∀ (n : Nat) (i : Nat), 128 ≤ i → setM H X K n i = H i
 | 0, _, _ => rfl
 | n + 1, i, hi => by
  have ih := setM_out (H := H) (X := X) (K := K) n i hi
  unfold setM
  split
  ·rename_i hs
   simp only [isM, decide_eq_true_eq] at hs
   rw [ovA_out (by omega)]
   exact ih
  ·exact ih
theorem setM_of {H X K : Nat → Int} {n : Nat} {s : Int} (hs : K (0 + (n : Int).toNat * 1) = s) (h : 0 ≤ s ∧ s < 64) : setM H X K (n + 1) = ovA (setM H X K n) (sqI s) 2 X := by
 rw [setM, hs, if_pos (show isM s = true from decide_eq_true h)]
theorem setM_no {H X K : Nat → Int} {n : Nat} {s : Int} (hs : K (0 + (n : Int).toNat * 1) = s) (h : ¬ (0 ≤ s ∧ s < 64)) : setM H X K (n + 1) = setM H X K n := by
 rw [setM, hs, if_neg (by rw [isM, decide_eq_false h]; decide)]
theorem set_run {md md2 : Md} (hmd : md.mut = true) {q : Nat} {c : Cp} (H X K : Nat → Int) (n : Nat) (hn : n ≤ 1000) : WR AM 124 [.ptr 0 0 138, .agg 2 (ia X), .sl 1 0 n 1 c] [.sc md 138 (ia H), .sc md2 q (ia K)] (fun v _ L => v = .tup [] ∧ (0, Blk.sc md 138 (ia (setM H X K n))) ∈ L ∧ (1, Blk.sc md2 q (ia K)) ∈ L) := by
 refine WR_fn (a := a124) rfl rfl (entryF _) (entry_E (Nat.le_of_ble_eq_true rfl)) (m := 2) rfl (sq (os (xA rfl (nl (sq (os (mL rfl (WO_len rfl (mv rfl (nl (bk (WP_sub (L' := [_, _, _]) (.cons_cons _ (.cons_cons _ (.cons_cons _ .slnil))) (WP_loop (fun m f _ L => ∃ (i : Nat), (i ≤ n) ∧ (m = n - i) ∧ (f 0 = .ptr 0 0 138) ∧ (f 4 = .ptr 2 0 2) ∧ (f 8 = .sl 1 0 n 1 c) ∧ (f 9 = .s (.int .i64 n)) ∧ (f 10 = .s (.int .i64 i)) ∧ (L = [(2, .sc .var 2 (ia X)), (0, .sc md 138 (ia (setM H X K i))), (1, .sc md2 q (ia K))])) (fun m f nb L hI => ?_) (n) ⟨0, by omega, rfl, rfl, rfl, rfl, rfl, rfl, rfl⟩)))))))))))))
 obtain ⟨i, hi, hm, k0, k4, k8, k9, k10, rfl⟩ := hI
 refine kn (d := 0) (v := .ptr 0 0 138) k0 (kn (d := 4) (v := .ptr 2 0 2) k4 (kn (d := 8) (v := .sl 1 0 n 1 c) k8 (kn (d := 9) (v := .s (.int .i64 n)) k9 (kn (d := 10) (v := .s (.int .i64 i)) k10 (sq (os (bB rfl rfl rfl (nl (sq (cd rfl (fun h13 => ?_) (fun h13 => ?_)))))))))))
 ·try simp only [NM] at h13
  try simp only [isM, decide_eq_true_eq, decide_eq_false_iff_not] at h13
  refine sk (sq (bk (sq (os (is rfl rfl (by omega) (lI (x := K (0 + (i : Int).toNat * 1)) rfl rfl (.tail _ (.tail _ (.head _))) (rfl) (mI rfl (nl (sq (os (mI rfl (c0 rfl (SqIs_run _) rfl rfl rfl (nl (cd rfl (fun h14 => ?_) (fun h14 => ?_)))))))))))))))
  ·try simp only [NM] at h14
   try simp only [isM, decide_eq_true_eq, decide_eq_false_iff_not] at h14
   refine pr (mP rfl (mI rfl ?_))
   first | refine l0 rfl rfl (.head _) ?_ | refine lA rfl rfl (.head _) ?_
   refine WO_nilckP rfl (fa (o' := 0) rfl rfl rfl (fa (o' := 0) rfl rfl rfl (ia2 rfl rfl rfl (by omega) (tA rfl rfl rfl hmd (.there .here) (nl (os (ad rfl rfl (by omega) (mI rfl (nl (⟨n - (i + 1), _, by omega, (.cons_cons _ (.cons_cons _ (.cons_cons _ .slnil))), i + 1, by omega, rfl, rfl, rfl, rfl, rfl, rfl, ?_⟩))))))))))
   first | (rw [setM_of (n := i) (s := K (0 + (i : Int).toNat * 1)) rfl (by assumption)]; done) | (rw [setM_no (n := i) (s := K (0 + (i : Int).toNat * 1)) rfl (by assumption)]; done)
  ·try simp only [NM] at h14
   try simp only [isM, decide_eq_true_eq, decide_eq_false_iff_not] at h14
   refine sk (os (ad rfl rfl (by omega) (mI rfl (nl (⟨n - (i + 1), _, by omega, (.cons_cons _ (.cons_cons _ (.cons_cons _ .slnil))), i + 1, by omega, rfl, rfl, rfl, rfl, rfl, rfl, ?_⟩)))))
   first | (rw [setM_of (n := i) (s := K (0 + (i : Int).toNat * 1)) rfl (by assumption)]; done) | (rw [setM_no (n := i) (s := K (0 + (i : Int).toNat * 1)) rfl (by assumption)]; done)
 ·try simp only [NM] at h13
  try simp only [isM, decide_eq_true_eq, decide_eq_false_iff_not] at h13
  refine WP_exit (xhere (⟨_, RS_nil, ?_⟩))
  obtain rfl : i = n := by omega
  exact ⟨rfl, (.tail _ (.head _)), (.tail _ (.tail _ (.head _)))⟩
def lostL : List (S × V) := [(.int .i64 4, .s (.int .i64 3)), (.int .i64 7, .s (.int .i64 1)), (.int .i64 0, .s (.int .i64 2)), (.int .i64 60, .s (.int .i64 12)), (.int .i64 63, .s (.int .i64 4)), (.int .i64 56, .s (.int .i64 8))]
theorem find_lost (s : Int) : (mfind (.int .i64 s) lostL).getD (Z.v (.one (.s (.int .i64 0)))) = .s (.int .i64 (lostM s)) := by
 simp only [lostL, mfind, S.eqB, lostM]
 by_cases h4 : 4 = s
 ·simp [h4]
 by_cases h7 : 7 = s
 ·simp [h4, h7]
 by_cases h0 : 0 = s
 ·simp [h4, h7, h0]
 by_cases h60 : 60 = s
 ·simp [h4, h7, h0, h60]
 by_cases h63 : 63 = s
 ·simp [h4, h7, h0, h60, h63]
 by_cases h56 : 56 = s
 ·simp [h4, h7, h0, h60, h63, h56]
 simp [h4, h7, h0, h60, h63, h56, Z.v]
def lostsM (K : Nat → Int) : Nat → Int
 | 0 => 0
 | n + 1 => orM (lostsM K n) (lostM (K (0 + (n : Int).toNat * 1)))
theorem losts_run {md : Md} {q : Nat} {c : Cp} (K : Nat → Int) (n : Nat) (hn : n ≤ 1000) : WR AM 125 [.sl 0 0 n 1 c] [.sc md q (ia K)] (fun v _ L => v = .s (.int .i64 (lostsM K n)) ∧ (0, Blk.sc md q (ia K)) ∈ L) := by
 refine WR_fn (a := a125) rfl rfl (entryF _) (entry_E (Nat.le_of_ble_eq_true rfl)) (m := 1) rfl (sq (os (mv rfl (nl (sq (os (WO_mkmap (WO_mput rfl rfl rfl rfl rfl rfl .here (WO_mput rfl rfl rfl rfl rfl rfl .here (WO_mput rfl rfl rfl rfl rfl rfl .here (WO_mput rfl rfl rfl rfl rfl rfl .here (WO_mput rfl rfl rfl rfl rfl rfl .here (WO_mput rfl rfl rfl rfl rfl rfl .here (mv (v := .map _) rfl (mv (v := .map _) rfl (nl (sq (sq (os (mL rfl (WO_len rfl (mv rfl (nl ?_)))))))))))))))))))))))
 refine bk (WP_sub (L' := [_, _]) (.cons_cons _ (.cons_cons _ .slnil)) (WP_loop (fun m f _ L => ∃ (i : Nat), (i ≤ n) ∧ (m = n - i) ∧ (f 2 = .s (.int .i64 (lostsM K i))) ∧ (f 3 = .map 1) ∧ (f 8 = .sl 0 0 n 1 c) ∧ (f 9 = .s (.int .i64 n)) ∧ (f 10 = .s (.int .i64 i)) ∧ (L = [(1, .mp .var lostL), (0, .sc md q (ia K))])) (fun m f nb L hI => ?_) (n) ⟨0, by omega, rfl, rfl, rfl, rfl, rfl, rfl, rfl⟩))
 obtain ⟨i, hi, hm, k2, k3, k8, k9, k10, rfl⟩ := hI
 refine kn (d := 2) (v := .s (.int .i64 (lostsM K i))) k2 (kn (d := 3) (v := .map 1) k3 (kn (d := 8) (v := .sl 0 0 n 1 c) k8 (kn (d := 9) (v := .s (.int .i64 n)) k9 (kn (d := 10) (v := .s (.int .i64 i)) k10 (sq (os (bB rfl rfl rfl (nl (sq (cd rfl (fun h15 => ?_) (fun h15 => ?_)))))))))))
 ·try simp only [NM] at h15
  try simp only [isM, decide_eq_true_eq, decide_eq_false_iff_not] at h15
  refine sk (sq (bk (sq (os (is rfl rfl (by omega) (lI (x := K (0 + (i : Int).toNat * 1)) rfl rfl (.tail _ (.head _)) (rfl) (mI rfl (nl (os (mI rfl (mv (v := .map _) rfl (mI rfl (WO_mget rfl rfl (.head _) rfl (find_lost _) (bi (r := .int .i64 (orM _ _)) rfl rfl rfl (mI rfl (nl (os (ad rfl rfl (by omega) (mI rfl (nl ?_))))))))))))))))))))
  exact ⟨n - (i + 1), _, by omega, (.cons_cons _ (.cons_cons _ .slnil)), i + 1, by omega, rfl, rfl, rfl, rfl, rfl, rfl, rfl⟩
 ·try simp only [NM] at h15
  try simp only [isM, decide_eq_true_eq, decide_eq_false_iff_not] at h15
  refine WP_exit (xhere (sq (os (mI rfl (mI rfl (nl (rt (⟨_, RS_tmp (v := .s (.int _ _)) rfl (RS_nil), ?_⟩))))))))
  obtain rfl : i = n := by omega
  exact ⟨rfl, (.tail _ (.head _))⟩
end Go.Proofs.YtlkighkfkdpncaaGreat
namespace Go.Proofs.YtlkighkfkdpncaaGreat
open Go Go.Am
set_option linter.unusedSimpArgs false
set_option linter.unusedVariables false
theorem rook_ex {md : Md} (H : Nat → Int) (ha : 0 ≤ H 133 ∧ H 133 < 64) (ht : 0 ≤ H 134 ∧ H 134 < 64) (hc : H 137 = 0 ∨ H 137 = 1) (hC : 0 ≤ H 129 ∧ H 129 ≤ 15) :
  ∃ x y z, RookOf (H 136) (H 133) (H 134) (H 137) (H 129) x y z ∧ RB AM 122 [.ptr 0 0 138] [.sc md 138 (ia H)] (.tup [.s (.int .i64 x), .s (.int .i64 y), .s (.bool z)]) [.sc md 138 (ia H)] := by
 obtain ⟨v, σ', n', L', h1, h2, ⟨x, y, z, rfl, hr⟩, h3⟩ := rook_run (md := md) H ha ht hc hC
 exact ⟨x, y, z, hr, σ', h1, (h2.2.mem h3).2, ⟨_, _, _, rfl⟩, trivial⟩
structure Same (H J : Nat → Int) (B : Nat → Int) : Prop where
 lo : ∀ i, i < 128 → J i = B i
 hi : ∀ i, 128 ≤ i → J i = H i
theorem set_ex {md md2 : Md} (hmd : md.mut = true) {q : Nat} {c : Cp} (H X K : Nat → Int) (n : Nat) (hn : n ≤ 1000) : ∃ J, J = setM H X K n ∧ RB AM 124 [.ptr 0 0 138, .agg 2 (ia X), .sl 1 0 n 1 c] [.sc md 138 (ia H), .sc md2 q (ia K)] (.tup []) [.sc md 138 (ia J), .sc md2 q (ia K)] :=
 ⟨_, rfl, RB_of2 (set_run hmd H X K n hn)⟩
theorem set_two {H J : Nat → Int} {w a : Int} (e : J = setM H (fun _ => 0) (ov (ov (fun _ => 0) (0 * 1) w) (1 * 1) a) 2) (ha : 0 ≤ a ∧ a < 64) (hw : -1 ≤ w ∧ w < 64) : Same H J (brd2 H w a) := by
 have h2 := setM_of (H := H) (X := fun _ => 0) (K := ov (ov (fun _ => 0) (0 * 1) w) (1 * 1) a) (n := 1) (s := a) rfl ha
 refine ⟨fun i _ => ?_, fun i hi => by rw [e]; exact setM_out 2 i hi⟩
 rw [e, h2, brd2, brd1]
 by_cases h : 0 ≤ w
 ·rw [setM_of (H := H) (X := fun _ => 0) (K := ov (ov (fun _ => 0) (0 * 1) w) (1 * 1) a) (n := 0) (s := w) rfl (by omega), if_pos h]; rfl
 ·rw [setM_no (H := H) (X := fun _ => 0) (K := ov (ov (fun _ => 0) (0 * 1) w) (1 * 1) a) (n := 0) (s := w) rfl (by omega), if_neg h]; rfl
theorem set_next {H J J' B X Y : Nat → Int} {t : Int} (j : Same H J B) (e : J' = setM J X (ov (fun _ => 0) (0 * 1) t) 1) (ht : 0 ≤ t ∧ t < 64) (hx : ∀ i, i < 2 → X i = Y i) : Same H J' (ovA B (sqI t) 2 Y) := by
 have h1 := setM_of (H := J) (X := X) (K := ov (fun _ => 0) (0 * 1) t) (n := 0) (s := t) rfl ht
 refine ⟨fun i hi => ?_, fun i hi => by rw [e, setM_out 1 i hi]; exact j.hi i hi⟩
 rw [e, h1]
 exact ovA_same (n := 128) j.lo hx i hi
theorem two {X Y : Nat → Int} (h0 : X 0 = Y 0) (h1 : X 1 = Y 1) : ∀ i, i < 2 → X i = Y i
 | 0, _ => h0
 | 1, _ => h1
 | n + 2, h => by omega
theorem castling_a {k a t c C : Int} (h : castlingM k a t c C ≠ 0) : a = 56 * c + 4 := by
 unfold castlingM at h
 split at h
 ·omega
 ·split at h
  ·omega
  ·exact absurd rfl h
theorem set_rook {H J2 J3 J4 X : Nat → Int} {w k a t c b C x y : Int} {z : Bool} (j : Same H J2 (brd3 H w a t k c b)) (e3 : J3 = setM J2 (fun _ => 0) (ov (fun _ => 0) (0 * 1) x) 1) (e4 : J4 = setM J3 (ov (ov (fun _ => 0) 0 4) 1 (X 1)) (ov (fun _ => 0) (0 * 1) y) 1)
  (hr : RookOf k a t c C x y z) (hz : z = true) (hc : c = 0 ∨ c = 1) (hx1 : X 1 = c) : Same H J4 (brd4 H w a t k c b (castlingM k a t c C)) := by
 rcases hr with ⟨hg, _, rfl, rfl⟩ | ⟨hg, _, rfl, rfl⟩ | ⟨_, hf⟩
 ·have := castling_a (h := by rw [hg]; decide)
  rw [hg, brd4, if_pos rfl]
  exact set_next (set_next j e3 (by omega) (fun _ _ => rfl)) e4 (by omega) (two rfl hx1)
 ·have := castling_a (h := by rw [hg]; decide)
  rw [hg, brd4, if_neg (by decide), if_pos rfl]
  exact set_next (set_next j e3 (by omega) (fun _ _ => rfl)) e4 (by omega) (two rfl hx1)
 ·rw [hz] at hf; cases hf
theorem set_norook {H J2 : Nat → Int} {w k a t c b C x y : Int} {z : Bool} (j : Same H J2 (brd3 H w a t k c b)) (hr : RookOf k a t c C x y z) (hz : z = false) : Same H J2 (brd4 H w a t k c b (castlingM k a t c C)) := by
 rcases hr with ⟨_, h, _⟩ | ⟨_, h, _⟩ | ⟨hg, _⟩
 ·rw [hz] at h; cases h
 ·rw [hz] at h; cases h
 ·rw [hg, brd4, if_neg (by decide), if_neg (by decide)]; exact j
structure Done (H J B : Nat → Int) (cs ovr hf fl : Int) : Prop where
 lo : ∀ i, i < 128 → J i = B i
 s : J 128 = H 128
 c : J 129 = cs
 o : J 130 = ovr
 h : J 131 = hf
 f : J 132 = fl
theorem done_is {H J : Nat → Int} {k c a t b C : Int} (h : Done H J (brd4 H (takesM H k a t) a t k c b (castlingM k a t c C)) (andNotM C (orM (orM 0 (lostM a)) (lostM t))) (overM k a t c) (halfM H k (takesM H k a t)) (fullM H)) (i : Nat) : ovA (fun _ => 0) 0 133 (ov J 128 (otherM (H 128))) i = afterM H k c a t b C i := by
 unfold afterM
 by_cases hi : i < 133
 ·rw [ovA_at (by omega), Nat.sub_zero]
  by_cases h1 : i < 128
  ·rw [if_pos h1, ov_out (by omega)]; exact h.lo i h1
  ·rw [if_neg h1]
   have hc : i = 128 ∨ i = 129 ∨ i = 130 ∨ i = 131 ∨ i = 132 := by omega
   rcases hc with rfl | rfl | rfl | rfl | rfl
   ·rfl
   ·exact h.c
   ·exact h.o
   ·exact h.h
   ·exact h.f
 ·rw [ovA_out (by omega), if_neg (by omega), if_neg (by omega), if_neg (by omega), if_neg (by omega), if_neg (by omega), if_neg (by omega)]
theorem made_run (H : Nat → Int) (ha : 0 ≤ H 133 ∧ H 133 < 64) (ht : 0 ≤ H 134 ∧ H 134 < 64) (hc : H 137 = 0 ∨ H 137 = 1) (hC : 0 ≤ H 129 ∧ H 129 ≤ 15) : WR AM 96 [.ptr 0 0 138] [.sc .var 138 (ia H)] (fun v _ L => ∃ J, v = .agg 133 (ia (afterM H (H 136) (H 137) (H 133) (H 134) (H 135) (H 129))) ∧ (0, Blk.sc .var 138 (ia J)) ∈ L) := by
 refine WR_fn (a := a96) rfl rfl (entryF _) (entry_E (Nat.le_of_ble_eq_true rfl)) (m := 1) rfl (sq (os (aI (nl (sq (os (mP rfl (WO_callP rfl (RB_of1 (takes_run H ha ht)) rfl rfl rfl (.there .here) (mI rfl (nl (sq (os (mP rfl ?_)))))))))))))
 obtain ⟨x, y, z, hr, hR⟩ := rook_ex (md := .var) H ha ht hc hC
 refine WO_callP rfl (hR) rfl rfl rfl (.there .here) (mT rfl (ex (v := .s (.int _ _)) rfl rfl (ex (v := .s (.int _ _)) rfl rfl (ex (v := .s (.bool _)) rfl rfl (mI rfl (mI rfl (mB rfl (nl (sq (os (mv rfl (nl (WP_cut (fun f n L => (f 0 = .ptr 0 0 138) ∧ (f 2 = .ptr 1 0 133) ∧ (f 3 = .s (.int .i64 (takesM H (H 136) (H 133) (H 134)))) ∧ (f 4 = .s (.int .i64 x)) ∧ (f 5 = .s (.int .i64 y)) ∧ (f 6 = .s (.bool z)) ∧ (f 7 = .s (.int .i64 (overM (H 136) (H 133) (H 134) (H 137)))) ∧ (L = [(1, .sc .var 133 (ia fun _ => 0)), (0, .sc .var 138 (ia H))]) ∧ (n = 2)) ?_ (fun f nb L hI => ?_))))))))))))))
 ·skip
  refine sq (os (mP rfl (WO_callP rfl (RB_of1 (long_run H ha ht hc)) rfl rfl rfl (.there .here) (nl (cd rfl (fun h1 => ?_) (fun h1 => ?_))))))
  ·try simp only [NM] at h1
   try simp only [isM, decide_eq_true_eq, decide_eq_false_iff_not] at h1
   refine pr (mP rfl (WO_nilckP rfl (fa (o' := 133) rfl rfl rfl (fa (o' := 133) rfl rfl rfl (lI rfl rfl (.tail _ (.head _)) rfl (mP rfl (WO_nilckP rfl (fa (o' := 133) rfl rfl rfl (fa (o' := 134) rfl rfl rfl (lI rfl rfl (.tail _ (.head _)) rfl (ad rfl rfl (by omega) (WO_quo rfl rfl (by omega) (mI rfl (nl (⟨_, (.cons_cons _ (.cons_cons _ .slnil)), rfl, rfl, rfl, rfl, rfl, rfl, ?_, rfl, rfl⟩)))))))))))))))
   refine congrArg (fun b => V.s (S.int .i64 b)) ?_
   rw [overM]
   first | exact (if_pos (by assumption)).symm | exact (if_neg (Bool.eq_false_iff.1 (by assumption))).symm
  ·try simp only [NM] at h1
   try simp only [isM, decide_eq_true_eq, decide_eq_false_iff_not] at h1
   refine sk (⟨_, (.cons_cons _ (.cons_cons _ .slnil)), rfl, rfl, rfl, rfl, rfl, rfl, ?_, rfl, rfl⟩)
   refine congrArg (fun b => V.s (S.int .i64 b)) ?_
   rw [overM]
   first | exact (if_pos (by assumption)).symm | exact (if_neg (Bool.eq_false_iff.1 (by assumption))).symm
 ·skip
  obtain ⟨k0, k2, k3, k4, k5, k6, k7, rfl, rfl⟩ := hI
  refine kn (d := 0) (v := .ptr 0 0 138) k0 (kn (d := 2) (v := .ptr 1 0 133) k2 (kn (d := 3) (v := .s (.int .i64 (takesM H (H 136) (H 133) (H 134)))) k3 (kn (d := 4) (v := .s (.int .i64 x)) k4 (kn (d := 5) (v := .s (.int .i64 y)) k5 (kn (d := 6) (v := .s (.bool z)) k6 (kn (d := 7) (v := .s (.int .i64 (overM (H 136) (H 133) (H 134) (H 137)))) k7 (sq (os (mP rfl (WO_nilckP rfl (fa (o' := 136) rfl rfl rfl ?_)))))))))))
  first | refine l0 rfl rfl (.tail _ (.head _)) ?_ | refine lA rfl rfl (.tail _ (.head _)) ?_
  refine aI (tA rfl rfl rfl rfl .here (nl (WP_cut (fun f n L => ∃ (X : Nat → Int), (X 0 = (if H 135 = 0 then H 136 else H 135)) ∧ (X 1 = H 137) ∧ (f 0 = .ptr 0 0 138) ∧ (f 2 = .ptr 1 0 133) ∧ (f 3 = .s (.int .i64 (takesM H (H 136) (H 133) (H 134)))) ∧ (f 4 = .s (.int .i64 x)) ∧ (f 5 = .s (.int .i64 y)) ∧ (f 6 = .s (.bool z)) ∧ (f 7 = .s (.int .i64 (overM (H 136) (H 133) (H 134) (H 137)))) ∧ (f 8 = .ptr 2 0 2) ∧ (L = [(2, .sc .var 2 (ia X)), (1, .sc .var 133 (ia fun _ => 0)), (0, .sc .var 138 (ia H))]) ∧ (n = 3)) ?_ (fun f nb L hI => ?_))))
  ·skip
   refine sq (os (mP rfl (WO_nilckP rfl (fa (o' := 133) rfl rfl rfl (fa (o' := 135) rfl rfl rfl (lI rfl rfl (.tail _ (.tail _ (.head _))) rfl (bB rfl rfl rfl (nl (cd rfl (fun h2 => ?_) (fun h2 => ?_))))))))))
   ·try simp only [NM] at h2
    try simp only [isM, decide_eq_true_eq, decide_eq_false_iff_not] at h2
    refine os (mP rfl (WO_nilckP rfl (fa (o' := 133) rfl rfl rfl (fa (o' := 135) rfl rfl rfl (lI rfl rfl (.tail _ (.tail _ (.head _))) rfl (fa (o' := 0) rfl rfl rfl (tI rfl rfl rfl rfl .here (nl (⟨_, (.cons_cons _ (.cons_cons _ (.cons_cons _ .slnil))), _, ?_, ?_, rfl, rfl, rfl, rfl, rfl, rfl, rfl, rfl, rfl, rfl⟩)))))))))
    · first | exact (if_pos (by assumption)).symm | exact (if_neg (by assumption)).symm
    · rfl
   ·try simp only [NM] at h2
    try simp only [isM, decide_eq_true_eq, decide_eq_false_iff_not] at h2
    refine sk (⟨_, (.cons_cons _ (.cons_cons _ (.cons_cons _ .slnil))), _, ?_, ?_, rfl, rfl, rfl, rfl, rfl, rfl, rfl, rfl, rfl, rfl⟩)
    · first | exact (if_pos (by assumption)).symm | exact (if_neg (by assumption)).symm
    · rfl
  ·skip
   obtain ⟨X, hx0, hx1, k0, k2, k3, k4, k5, k6, k7, k8, rfl, rfl⟩ := hI
   refine kn (d := 0) (v := .ptr 0 0 138) k0 (kn (d := 2) (v := .ptr 1 0 133) k2 (kn (d := 3) (v := .s (.int .i64 (takesM H (H 136) (H 133) (H 134)))) k3 (kn (d := 4) (v := .s (.int .i64 x)) k4 (kn (d := 5) (v := .s (.int .i64 y)) k5 (kn (d := 6) (v := .s (.bool z)) k6 (kn (d := 7) (v := .s (.int .i64 (overM (H 136) (H 133) (H 134) (H 137)))) k7 (kn (d := 8) (v := .ptr 2 0 2) k8 (sq (os (mP rfl (uI rfl .nil (mI rfl (mP rfl (WO_nilckP rfl (fa (o' := 133) rfl rfl rfl (fa (o' := 133) rfl rfl rfl (lI (x := H 133) rfl rfl (.tail _ (.tail _ (.head _))) (rfl) (WO_mkslS rfl (.one rfl (.one rfl .nil)) ?_))))))))))))))))))
   obtain ⟨J1, eJ1, hSJ1⟩ := set_ex (md := .var) (md2 := .var) (q := 2) (c := .ex 2) rfl H (fun _ => 0) (ov (ov (fun _ => 0) (0 * 1) (takesM H (H 136) (H 133) (H 134))) (1 * 1) (H 133)) 2 (by omega)
   have j1 : Same H J1 (brd2 H (takesM H (H 136) (H 133) (H 134)) (H 133)) := set_two eJ1 ha (takesM_bd ha ht)
   refine WO_call (rs := [0, 3]) (Bs := [_, _]) rfl (hSJ1) rfl rfl (Nat.le_of_ble_eq_true rfl) (fun _ h => h) rfl ⟨(.tail _ (.tail _ (.tail _ (.head _)))), ⟨_, _, _, rfl⟩, ⟨(.head _), ⟨_, _, _, rfl⟩, trivial⟩⟩ rfl rfl rfl (.cons (.there (.there (.there .here))) (.cons .here .nil)) (nl (sq (pr (mP rfl ?_))))
   first | refine l0 rfl rfl (.tail _ (.head _)) ?_ | refine lA rfl rfl (.tail _ (.head _)) ?_
   refine mP rfl (WO_nilckP rfl (fa (o' := 133) rfl rfl rfl (fa (o' := 134) rfl rfl rfl (lI (x := H 134) rfl rfl (.tail _ (.tail _ (.tail _ (.head _)))) (j1.hi 134 (by omega)) (WO_mkslS rfl (.one rfl .nil) ?_)))))
   obtain ⟨J2, eJ2, hSJ2⟩ := set_ex (md := .var) (md2 := .var) (q := 1) (c := .ex 1) rfl J1 X (ov (fun _ => 0) (0 * 1) (H 134)) 1 (by omega)
   have j2 : Same H J2 (brd3 H (takesM H (H 136) (H 133) (H 134)) (H 133) (H 134) (H 136) (H 137) (H 135)) := set_next j1 eJ2 ht (two hx0 hx1)
   refine WO_call (rs := [0, 4]) (Bs := [_, _]) rfl (hSJ2) rfl rfl (Nat.le_of_ble_eq_true rfl) (fun _ h => h) rfl ⟨(.tail _ (.tail _ (.tail _ (.tail _ (.head _))))), ⟨_, _, _, rfl⟩, ⟨(.head _), ⟨_, _, _, rfl⟩, trivial⟩⟩ rfl rfl rfl (.cons (.there (.there (.there (.there .here)))) (.cons .here .nil)) (nl (WP_cut (fun f n L => ∃ (X J : Nat → Int), (3 ≤ n) ∧ (Same H J (brd4 H (takesM H (H 136) (H 133) (H 134)) (H 133) (H 134) (H 136) (H 137) (H 135) (castlingM (H 136) (H 133) (H 134) (H 137) (H 129)))) ∧ (f 0 = .ptr 0 0 138) ∧ (f 2 = .ptr 1 0 133) ∧ (f 3 = .s (.int .i64 (takesM H (H 136) (H 133) (H 134)))) ∧ (f 7 = .s (.int .i64 (overM (H 136) (H 133) (H 134) (H 137)))) ∧ (L = [(2, .sc .var 2 (ia X)), (1, .sc .var 133 (ia fun _ => 0)), (0, .sc .var 138 (ia J))])) ?_ (fun f nb L hI => ?_)))
   ·skip
    refine sq (os (mB rfl (nl (cd rfl (fun h3 => ?_) (fun h3 => ?_)))))
    ·try simp only [NM] at h3
     try simp only [isM, decide_eq_true_eq, decide_eq_false_iff_not] at h3
     refine sq (os (mP rfl (uI rfl .nil (mI rfl (WO_mkslS rfl (.one rfl .nil) ?_)))))
     obtain ⟨J3, eJ3, hSJ3⟩ := set_ex (md := .var) (md2 := .var) (q := 1) (c := .ex 1) rfl J2 (fun _ => 0) (ov (fun _ => 0) (0 * 1) x) 1 (by omega)
     refine WO_call (rs := [0, 5]) (Bs := [_, _]) rfl (hSJ3) rfl rfl (Nat.le_of_ble_eq_true rfl) (fun _ h => h) rfl ⟨(.tail _ (.tail _ (.tail _ (.tail _ (.tail _ (.head _)))))), ⟨_, _, _, rfl⟩, ⟨(.head _), ⟨_, _, _, rfl⟩, trivial⟩⟩ rfl rfl rfl (.cons (.there (.there (.there (.there (.there .here))))) (.cons .here .nil)) (nl (os (mP rfl (fa (o' := 1) rfl rfl rfl (lI rfl rfl (.tail _ (.tail _ (.tail _ (.head _)))) rfl (uI rfl (.one rfl (.one rfl .nil)) (mI rfl (WO_mkslS rfl (.one rfl .nil) ?_))))))))
     obtain ⟨J4, eJ4, hSJ4⟩ := set_ex (md := .var) (md2 := .var) (q := 1) (c := .ex 1) rfl J3 (ov (ov (fun _ => 0) 0 4) 1 (X 1)) (ov (fun _ => 0) (0 * 1) y) 1 (by omega)
     have j4 : Same H J4 (brd4 H (takesM H (H 136) (H 133) (H 134)) (H 133) (H 134) (H 136) (H 137) (H 135) (castlingM (H 136) (H 133) (H 134) (H 137) (H 129))) := set_rook j2 eJ3 eJ4 hr (by assumption) hc hx1
     refine WO_call (rs := [0, 6]) (Bs := [_, _]) rfl (hSJ4) rfl rfl (Nat.le_of_ble_eq_true rfl) (fun _ h => h) rfl ⟨(.tail _ (.tail _ (.tail _ (.tail _ (.tail _ (.tail _ (.head _))))))), ⟨_, _, _, rfl⟩, ⟨(.head _), ⟨_, _, _, rfl⟩, trivial⟩⟩ rfl rfl rfl (.cons (.there (.there (.there (.there (.there (.there .here)))))) (.cons .here .nil)) (nl ?_)
     exact ⟨_, (.cons _ (.cons _ (.cons _ (.cons _ (.cons_cons _ (.cons_cons _ (.cons_cons _ .slnil))))))), X, J4, by omega, j4, rfl, rfl, rfl, rfl, rfl⟩
    ·try simp only [NM] at h3
     try simp only [isM, decide_eq_true_eq, decide_eq_false_iff_not] at h3
     refine sk ?_
     exact ⟨_, (.cons _ (.cons _ (.cons_cons _ (.cons_cons _ (.cons_cons _ .slnil))))), X, J2, by omega, set_norook j2 hr (by assumption), rfl, rfl, rfl, rfl, rfl⟩
   ·skip
    obtain ⟨X, J, hn3, hJ, k0, k2, k3, k7, rfl⟩ := hI
    refine kn (d := 0) (v := .ptr 0 0 138) k0 (kn (d := 2) (v := .ptr 1 0 133) k2 (kn (d := 3) (v := .s (.int .i64 (takesM H (H 136) (H 133) (H 134)))) k3 (kn (d := 7) (v := .s (.int .i64 (overM (H 136) (H 133) (H 134) (H 137)))) k7 (sq (os (mP rfl (mI rfl (WO_nilckP rfl (fa (o' := 0) rfl rfl rfl (fa (o' := 130) rfl rfl rfl (tI rfl rfl rfl rfl (.there (.there .here)) (nl (sq (pr (mP rfl (WO_nilckP rfl (fa (o' := 0) rfl rfl rfl (fa (o' := 129) rfl rfl rfl (lI (x := H 129) rfl rfl (.tail _ (.tail _ (.head _))) (hJ.hi 129 (by omega)) (mP rfl (WO_nilckP rfl (fa (o' := 133) rfl rfl rfl (fa (o' := 133) rfl rfl rfl ?_)))))))))))))))))))))))
    refine lI (x := H 133) rfl rfl (.tail _ (.tail _ (.head _))) (hJ.hi 133 (by omega)) (mP rfl (WO_nilckP rfl (fa (o' := 133) rfl rfl rfl (fa (o' := 134) rfl rfl rfl (lI (x := H 134) rfl rfl (.tail _ (.tail _ (.head _))) (hJ.hi 134 (by omega)) (WO_mkslS rfl (.one rfl (.one rfl .nil)) (WO_callq (rs := [nb]) (Bs := [_]) (av := [.sl nb 0 2 1 (.ex 2)]) (v := .s (.int .i64 (lostsM (ov (ov (fun _ => 0) (0 * 1) (H 133)) (1 * 1) (H 134)) 2))) rfl (RB_of1 (losts_run (md := .ro) (q := 2) (c := .ex 2) (ov (ov (fun _ => 0) (0 * 1) (H 133)) (1 * 1) (H 134)) 2 (by omega))) rfl (by simp [V.refsL, V.refs, dedup]) (by simp [V.refsL, V.refs]) (by simp [V.refsL, V.refs]) (by simp [rnL, V.renL, V.ren, pos]) ⟨(.head _), ⟨_, _, _, rfl⟩, trivial⟩ rfl rfl rfl (bi (r := .int .i64 (andNotM (H 129) _)) rfl rfl rfl (WO_nilckP rfl (fa (o' := 0) rfl rfl rfl (fa (o' := 129) rfl rfl rfl (tI rfl rfl rfl rfl (.there (.there (.there .here))) (nl (sq (os (mP rfl (mP rfl (WO_nilckP rfl (fa (o' := 0) rfl rfl rfl (fa (o' := 131) rfl rfl rfl (lI (x := H 131) rfl rfl (.tail _ (.tail _ (.tail _ (.head _)))) (hJ.hi 131 (by omega)) (WO_mn2 rfl rfl (bi rfl rfl rfl ?_)))))))))))))))))))))))
    refine WO_nilckP rfl (fa (o' := 0) rfl rfl rfl (fa (o' := 131) rfl rfl rfl (tI rfl rfl rfl rfl (.there (.there (.there .here))) (nl (WP_cut (fun f n L => ∃ (J : Nat → Int), (Done H J (brd4 H (takesM H (H 136) (H 133) (H 134)) (H 133) (H 134) (H 136) (H 137) (H 135) (castlingM (H 136) (H 133) (H 134) (H 137) (H 129))) (andNotM (H 129) (orM (orM 0 (lostM (H 133))) (lostM (H 134)))) (overM (H 136) (H 133) (H 134) (H 137)) (halfM H (H 136) (takesM H (H 136) (H 133) (H 134))) (H 132)) ∧ (f 0 = .ptr 0 0 138) ∧ (f 2 = .ptr 1 0 133) ∧ (L = [(1, .sc .var 133 (ia fun _ => 0)), (0, .sc .var 138 (ia J))])) ?_ (fun f nb L hI => ?_))))))
    ·skip
     refine sq (os (mI rfl (bB rfl rfl rfl (mB rfl (cs (t := 118) rfl (fun h4 => ?_) (fun h4 => ?_))))))
     ·try simp only [NM] at h4
      try simp only [isM, decide_eq_true_eq, decide_eq_false_iff_not] at h4
      refine gf rfl rfl (gf rfl rfl (gf rfl rfl (gf rfl rfl (gf rfl rfl (gf rfl rfl (pB rfl rfl (nl (cd rfl (fun _ => ?_) (fun h => nomatch h)))))))))
      refine os (mP rfl (WO_nilckP rfl (fa (o' := 0) rfl rfl rfl (fa (o' := 131) rfl rfl rfl (tI rfl rfl rfl rfl (.there (.there (.there .here))) (nl (⟨_, (.cons _ (.cons _ (.cons_cons _ (.cons_cons _ .slnil)))), _, ?_, rfl, rfl, rfl⟩)))))))
      refine ⟨(by intro i hi; (repeat rw [ov_out (by omega)]); exact hJ.lo i hi), hJ.hi 128 (by omega), rfl, rfl, ?_, hJ.hi 132 (by omega)⟩
      have hb := takesM_bd (P := H) (k := H 136) ha ht
      rw [halfM]
      first | exact (if_pos (by omega)).symm | exact (if_neg (by omega)).symm
     ·try simp only [NM] at h4
      try simp only [isM, decide_eq_true_eq, decide_eq_false_iff_not] at h4
      refine gt rfl (mP rfl (gt rfl (WO_nilckP rfl (gt rfl (fa (o' := 136) rfl rfl rfl (gt rfl (fa (o' := 136) rfl rfl rfl (gt rfl (lI (x := H 136) rfl rfl (.tail _ (.tail _ (.tail _ (.head _)))) (hJ.hi 136 (by omega)) (gt rfl (bB rfl rfl rfl (pB rfl rfl (nl (cd rfl (fun h5 => ?_) (fun h5 => ?_)))))))))))))))
      ·try simp only [NM] at h5
       try simp only [isM, decide_eq_true_eq, decide_eq_false_iff_not] at h5
       refine os (mP rfl (WO_nilckP rfl (fa (o' := 0) rfl rfl rfl (fa (o' := 131) rfl rfl rfl (tI rfl rfl rfl rfl (.there (.there (.there .here))) (nl (⟨_, (.cons _ (.cons _ (.cons_cons _ (.cons_cons _ .slnil)))), _, ?_, rfl, rfl, rfl⟩)))))))
       refine ⟨(by intro i hi; (repeat rw [ov_out (by omega)]); exact hJ.lo i hi), hJ.hi 128 (by omega), rfl, rfl, ?_, hJ.hi 132 (by omega)⟩
       have hb := takesM_bd (P := H) (k := H 136) ha ht
       rw [halfM]
       first | exact (if_pos (by omega)).symm | exact (if_neg (by omega)).symm
      ·try simp only [NM] at h5
       try simp only [isM, decide_eq_true_eq, decide_eq_false_iff_not] at h5
       refine sk (⟨_, (.cons _ (.cons _ (.cons_cons _ (.cons_cons _ .slnil)))), _, ?_, rfl, rfl, rfl⟩)
       refine ⟨(by intro i hi; (repeat rw [ov_out (by omega)]); exact hJ.lo i hi), hJ.hi 128 (by omega), rfl, rfl, ?_, hJ.hi 132 (by omega)⟩
       have hb := takesM_bd (P := H) (k := H 136) ha ht
       rw [halfM]
       first | exact (if_pos (by omega)).symm | exact (if_neg (by omega)).symm
    ·skip
     obtain ⟨J, hD, k0, k2, rfl⟩ := hI
     refine kn (d := 0) (v := .ptr 0 0 138) k0 (kn (d := 2) (v := .ptr 1 0 133) k2 (WP_cut (fun f n L => ∃ (J : Nat → Int), (Done H J (brd4 H (takesM H (H 136) (H 133) (H 134)) (H 133) (H 134) (H 136) (H 137) (H 135) (castlingM (H 136) (H 133) (H 134) (H 137) (H 129))) (andNotM (H 129) (orM (orM 0 (lostM (H 133))) (lostM (H 134)))) (overM (H 136) (H 133) (H 134) (H 137)) (halfM H (H 136) (takesM H (H 136) (H 133) (H 134))) (fullM H)) ∧ (f 0 = .ptr 0 0 138) ∧ (f 2 = .ptr 1 0 133) ∧ (L = [(1, .sc .var 133 (ia fun _ => 0)), (0, .sc .var 138 (ia J))])) ?_ (fun f nb L hI => ?_)))
     ·skip
      refine sq (os (mP rfl (WO_nilckP rfl (fa (o' := 0) rfl rfl rfl (fa (o' := 128) rfl rfl rfl (lI (x := H 128) rfl rfl (.tail _ (.head _)) (hD.s) (bB rfl rfl rfl (nl (cd rfl (fun h6 => ?_) (fun h6 => ?_))))))))))
      ·try simp only [NM] at h6
       try simp only [isM, decide_eq_true_eq, decide_eq_false_iff_not] at h6
       refine os (mP rfl (mP rfl (WO_nilckP rfl (fa (o' := 0) rfl rfl rfl (fa (o' := 132) rfl rfl rfl (lI (x := H 132) rfl rfl (.tail _ (.head _)) (hD.f) (WO_mn2 rfl rfl (bi rfl rfl rfl (WO_nilckP rfl (fa (o' := 0) rfl rfl rfl (fa (o' := 132) rfl rfl rfl (tI rfl rfl rfl rfl (.there .here) (nl (⟨_, (.cons_cons _ (.cons_cons _ .slnil)), _, ?_, rfl, rfl, rfl⟩))))))))))))))
       refine ⟨(by intro i hi; (repeat rw [ov_out (by omega)]); exact hD.lo i hi), hD.s, hD.c, hD.o, hD.h, ?_⟩
       rw [fullM]
       first | exact (if_pos (by assumption)).symm | exact hD.f.trans (if_neg (by assumption)).symm
      ·try simp only [NM] at h6
       try simp only [isM, decide_eq_true_eq, decide_eq_false_iff_not] at h6
       refine sk (⟨_, (.cons_cons _ (.cons_cons _ .slnil)), _, ?_, rfl, rfl, rfl⟩)
       refine ⟨(by intro i hi; (repeat rw [ov_out (by omega)]); exact hD.lo i hi), hD.s, hD.c, hD.o, hD.h, ?_⟩
       rw [fullM]
       first | exact (if_pos (by assumption)).symm | exact hD.f.trans (if_neg (by assumption)).symm
     ·skip
      obtain ⟨J, hE, k0, k2, rfl⟩ := hI
      refine kn (d := 0) (v := .ptr 0 0 138) k0 (kn (d := 2) (v := .ptr 1 0 133) k2 (sq (os (mP rfl (mP rfl (WO_nilckP rfl (fa (o' := 0) rfl rfl rfl (fa (o' := 128) rfl rfl rfl (lI (x := H 128) rfl rfl (.tail _ (.head _)) (hE.s) (c0 rfl (RF_of (Other_run _)) rfl rfl rfl (WO_nilckP rfl (fa (o' := 0) rfl rfl rfl (fa (o' := 128) rfl rfl rfl (tI rfl rfl rfl rfl (.there .here) (nl (sq (os (mP rfl (WO_nilckP rfl (fa (o' := 0) rfl rfl rfl ?_))))))))))))))))))))
      first | refine l0 rfl rfl (.tail _ (.head _)) ?_ | refine lA rfl rfl (.tail _ (.head _)) ?_
      refine tA rfl rfl rfl rfl .here (nl (rt (⟨_, RS_cell rfl rfl (.head _) (RS_nil), ?_⟩)))
      refine ⟨_, congrArg (fun g => V.agg 133 (ia g)) (funext fun i => ?_), (.tail _ (.head _))⟩
      exact done_is hE i
structure HandOf (P m H : Nat → Int) : Prop where
 lo : ∀ i, i < 129 → H i = P i
 c : H 129 = castM P
 hi : ∀ i, 130 ≤ i → i < 133 → H i = P i
 a : H 133 = m 0
 t : H 134 = m 1
 b : H 135 = m 2
 k : H 136 = P (sqI (m 0))
 s : H 137 = P (sqI (m 0) + 1)
def hand0 (P m : Nat → Int) : Nat → Int := ovA (ovA (ovA (fun _ => 0) 0 133 P) 133 3 m) 136 2 (dp P (sqI (m 0)))
theorem hand0_lo {P m : Nat → Int} {i : Nat} (h : i < 133) : hand0 P m i = P i := by
 unfold hand0
 rw [ovA_out (by omega), ovA_out (by omega), ovA_at (by omega), Nat.sub_zero]
theorem hand_keep {P m : Nat → Int} (h : 0 ≤ P 129 ∧ P 129 ≤ 15) : HandOf P m (hand0 P m) :=
 ⟨fun i hi => hand0_lo (by omega), by rw [hand0_lo (by omega), castM, if_neg (by omega)], fun i _ hi => hand0_lo hi, rfl, rfl, rfl, rfl, rfl⟩
theorem hand_none {P m : Nat → Int} (h : P 129 < 0 ∨ 15 < P 129) : HandOf P m (ov (hand0 P m) 129 0) :=
 ⟨fun i hi => by rw [ov_out (by omega)]; exact hand0_lo (by omega), by rw [castM, if_pos h]; rfl, fun i h1 hi => by rw [ov_out (by omega)]; exact hand0_lo hi, rfl, rfl, rfl, rfl, rfl⟩
theorem can_no {P : Nat → Int} {a t b : Int} (h : ¬ (1 ≤ P (sqI a) ∧ P (sqI a) ≤ 6 ∧ P (sqI a + 1) = P 128 ∧ (P (sqI a + 1) = 0 ∨ P (sqI a + 1) = 1) ∧ (if P (sqI a) = 1 ∧ t / 8 = 7 * (1 - P (sqI a + 1)) then 2 ≤ b ∧ b ≤ 5 else b = 0))) : canM P a t b = false := decide_eq_false h
theorem can_yes {P : Nat → Int} {a t b : Int} (h : 1 ≤ P (sqI a) ∧ P (sqI a) ≤ 6 ∧ P (sqI a + 1) = P 128 ∧ (P (sqI a + 1) = 0 ∨ P (sqI a + 1) = 1) ∧ (if P (sqI a) = 1 ∧ t / 8 = 7 * (1 - P (sqI a + 1)) then 2 ≤ b ∧ b ≤ 5 else b = 0)) : canM P a t b = true := decide_eq_true h
theorem taken_run (P m : Nat → Int) : WR AM 95 [.agg 133 (ia P), .agg 3 (ia m)] [] (fun v _ L => (v = .tup [.pnil, .s (.int .i64 (errM P (m 0) (m 1) (m 2)))] ∧ errM P (m 0) (m 1) (m 2) ≠ 0) ∨ (errM P (m 0) (m 1) (m 2) = 0 ∧ ∃ b H, v = .tup [.ptr b 0 138, .s (.int .i64 (errM P (m 0) (m 1) (m 2)))] ∧ HandOf P m H ∧ (b, Blk.sc .var 138 (ia H)) ∈ L)) := by
 refine WR_fn (a := a95) rfl rfl (entryF _) (entry_E (Nat.le_of_ble_eq_true rfl)) (m := 0) rfl (sq (os (xA rfl (xA rfl (mv rfl (mv rfl (nl (sq (sq (os (fa (o' := 0) rfl rfl rfl (lI rfl rfl (.head _) rfl (c0 rfl (SqIs_run _) rfl rfl rfl (un (r := .bool _) rfl rfl (mB rfl (cs (t := 13) rfl (fun h7 => ?_) (fun h7 => ?_)))))))))))))))))
 ·try simp only [NM] at h7
  try simp only [isM, decide_eq_true_eq, decide_eq_false_iff_not] at h7
  refine gf rfl rfl (gf rfl rfl (gf rfl rfl (gf rfl rfl (pB rfl rfl (mB rfl (gf rfl rfl (gf rfl rfl (gf rfl rfl (gf rfl rfl (gf rfl rfl (pB rfl rfl (nl (cd rfl (fun _ => ?_) (fun h => nomatch h))))))))))))))
  refine sq (os (mv rfl (mv rfl (nl (rt (⟨_, RS_tmp (v := .pnil) rfl (RS_tmp (v := .s (.int _ _)) rfl (RS_nil)), ?_⟩))))))
  have he := errM_out (P := P) (a := m 0) (t := m 1) (b := m 2) (by omega)
  rw [he]
  exact .inl ⟨rfl, by decide⟩
 ·try simp only [NM] at h7
  try simp only [isM, decide_eq_true_eq, decide_eq_false_iff_not] at h7
  refine gt rfl (fa (o' := 1) rfl rfl rfl (gt rfl (lI rfl rfl (.head _) rfl (gt rfl (c0 rfl (SqIs_run _) rfl rfl rfl (gt rfl (un (r := .bool _) rfl rfl (pB rfl rfl (mB rfl (cs (t := 19) rfl (fun h8 => ?_) (fun h8 => ?_)))))))))))
  ·try simp only [NM] at h8
   try simp only [isM, decide_eq_true_eq, decide_eq_false_iff_not] at h8
   refine gf rfl rfl (gf rfl rfl (gf rfl rfl (gf rfl rfl (gf rfl rfl (pB rfl rfl (nl (cd rfl (fun _ => ?_) (fun h => nomatch h))))))))
   refine sq (os (mv rfl (mv rfl (nl (rt (⟨_, RS_tmp (v := .pnil) rfl (RS_tmp (v := .s (.int _ _)) rfl (RS_nil)), ?_⟩))))))
   have he := errM_out (P := P) (a := m 0) (t := m 1) (b := m 2) (by omega)
   rw [he]
   exact .inl ⟨rfl, by decide⟩
  ·try simp only [NM] at h8
   try simp only [isM, decide_eq_true_eq, decide_eq_false_iff_not] at h8
   refine gt rfl (fa (o' := 0) rfl rfl rfl (gt rfl (lI rfl rfl (.head _) rfl (gt rfl (fa (o' := 1) rfl rfl rfl (gt rfl (lI rfl rfl (.head _) rfl (gt rfl (bB rfl rfl rfl (pB rfl rfl (nl (cd rfl (fun h9 => ?_) (fun h9 => ?_)))))))))))))
   ·try simp only [NM] at h9
    try simp only [isM, decide_eq_true_eq, decide_eq_false_iff_not] at h9
    refine sq (os (mv rfl (mv rfl (nl (rt (⟨_, RS_tmp (v := .pnil) rfl (RS_tmp (v := .s (.int _ _)) rfl (RS_nil)), ?_⟩))))))
    have he := errM_out (P := P) (a := m 0) (t := m 1) (b := m 2) (by omega)
    rw [he]
    exact .inl ⟨rfl, by decide⟩
   ·try simp only [NM] at h9
    try simp only [isM, decide_eq_true_eq, decide_eq_false_iff_not] at h9
    refine sk (sq (pr ?_))
    first | refine l0 rfl rfl (.tail _ (.head _)) ?_ | refine lA rfl rfl (.tail _ (.head _)) ?_
    first | refine l0 rfl rfl (.head _) ?_ | refine lA rfl rfl (.head _) ?_
    refine fa (o' := 0) rfl rfl rfl (lI rfl rfl (.head _) rfl (fa (o' := 0) rfl rfl rfl (ia2 rfl rfl rfl (by omega) ?_)))
    first | refine l0 rfl rfl (.tail _ (.head _)) ?_ | refine lA rfl rfl (.tail _ (.head _)) ?_
    refine uI rfl (.agg rfl (.agg rfl (.agg rfl .nil))) (xA rfl (mP rfl (nl (WP_cut (fun f n L => ∃ (H : Nat → Int), (HandOf P m H) ∧ (0 ≤ m 0 ∧ m 0 < 64) ∧ (0 ≤ m 1 ∧ m 1 < 64) ∧ (m 0 ≠ m 1) ∧ (f 2 = .ptr 0 0 133) ∧ (f 3 = .ptr 1 0 3) ∧ (f 6 = .ptr 2 0 138) ∧ (L = [(2, .sc .var 138 (ia H)), (1, .sc .var 3 (ia m)), (0, .sc .var 133 (ia P))]) ∧ (n = 3)) ?_ (fun f nb L hI => ?_)))))
    ·skip
     refine sq (os (mP rfl (WO_nilckP rfl (fa (o' := 0) rfl rfl rfl (fa (o' := 129) rfl rfl rfl (lI (x := P 129) rfl rfl (.head _) (rfl) (bB rfl rfl rfl (mB rfl (cs (t := 41) rfl (fun h10 => ?_) (fun h10 => ?_))))))))))
     ·try simp only [NM] at h10
      try simp only [isM, decide_eq_true_eq, decide_eq_false_iff_not] at h10
      refine gf rfl rfl (gf rfl rfl (gf rfl rfl (gf rfl rfl (gf rfl rfl (gf rfl rfl (pB rfl rfl (nl (cd rfl (fun _ => ?_) (fun h => nomatch h)))))))))
      refine os (mP rfl (WO_nilckP rfl (fa (o' := 0) rfl rfl rfl (fa (o' := 129) rfl rfl rfl (tI rfl rfl rfl rfl .here (nl (⟨_, (.cons_cons _ (.cons_cons _ (.cons_cons _ .slnil))), _, ?_, by omega, by omega, by omega, rfl, rfl, rfl, rfl, rfl⟩)))))))
      first | exact hand_none (.inl (by assumption)) | exact hand_none (.inr (by assumption)) | exact hand_keep ⟨by omega, by omega⟩
     ·try simp only [NM] at h10
      try simp only [isM, decide_eq_true_eq, decide_eq_false_iff_not] at h10
      refine gt rfl (mP rfl (gt rfl (WO_nilckP rfl (gt rfl (fa (o' := 0) rfl rfl rfl (gt rfl (fa (o' := 129) rfl rfl rfl (gt rfl (lI (x := P 129) rfl rfl (.head _) (rfl) (gt rfl (bB rfl rfl rfl (pB rfl rfl (nl (cd rfl (fun h11 => ?_) (fun h11 => ?_)))))))))))))))
      ·try simp only [NM] at h11
       try simp only [isM, decide_eq_true_eq, decide_eq_false_iff_not] at h11
       refine os (mP rfl (WO_nilckP rfl (fa (o' := 0) rfl rfl rfl (fa (o' := 129) rfl rfl rfl (tI rfl rfl rfl rfl .here (nl (⟨_, (.cons_cons _ (.cons_cons _ (.cons_cons _ .slnil))), _, ?_, by omega, by omega, by omega, rfl, rfl, rfl, rfl, rfl⟩)))))))
       first | exact hand_none (.inl (by assumption)) | exact hand_none (.inr (by assumption)) | exact hand_keep ⟨by omega, by omega⟩
      ·try simp only [NM] at h11
       try simp only [isM, decide_eq_true_eq, decide_eq_false_iff_not] at h11
       refine sk (⟨_, (.cons_cons _ (.cons_cons _ (.cons_cons _ .slnil))), _, ?_, by omega, by omega, by omega, rfl, rfl, rfl, rfl, rfl⟩)
       first | exact hand_none (.inl (by assumption)) | exact hand_none (.inr (by assumption)) | exact hand_keep ⟨by omega, by omega⟩
    ·skip
     obtain ⟨H, hH, ha, ht, hat, k2, k3, k6, rfl, rfl⟩ := hI
     refine kn (d := 2) (v := .ptr 0 0 133) k2 (kn (d := 3) (v := .ptr 1 0 3) k3 (kn (d := 6) (v := .ptr 2 0 138) k6 (sq (os (mP rfl (WO_nilckP rfl (fa (o' := 136) rfl rfl rfl ?_)))))))
     first | refine l0 rfl rfl (.head _) ?_ | refine lA rfl rfl (.head _) ?_
     refine aI (tA rfl rfl rfl rfl .here (nl (sq (sq (os (fa (o' := 0) rfl rfl rfl (lI (x := P (sqI (m 0))) rfl rfl (.head _) (hH.k) (bB rfl rfl rfl (mB rfl (cs (t := 60) rfl (fun h12 => ?_) (fun h12 => ?_)))))))))))
     ·try simp only [NM] at h12
      try simp only [isM, decide_eq_true_eq, decide_eq_false_iff_not] at h12
      refine gf rfl rfl (gf rfl rfl (gf rfl rfl (pB rfl rfl (mB rfl (gf rfl rfl (gf rfl rfl (gf rfl rfl (gf rfl rfl (gf rfl rfl (pB rfl rfl (mB rfl (gf rfl rfl (gf rfl rfl (gf rfl rfl (gf rfl rfl (WO_gu rfl (WO_gu rfl (WO_gu rfl (gf rfl rfl (pB rfl rfl (nl (cd rfl (fun _ => ?_) (fun h => nomatch h)))))))))))))))))))))))
      refine sq (os (mv rfl (mv rfl (nl (rt (⟨_, RS_tmp (v := .pnil) rfl (RS_tmp (v := .s (.int _ _)) rfl (RS_nil)), ?_⟩))))))
      have hh : canM P (m 0) (m 1) (m 2) = false := can_no (by first | omega | (split <;> omega))
      have he := errM_not (by omega) hh
      rw [he]
      exact .inl ⟨rfl, by decide⟩
     ·try simp only [NM] at h12
      try simp only [isM, decide_eq_true_eq, decide_eq_false_iff_not] at h12
      refine gt rfl (fa (o' := 0) rfl rfl rfl (gt rfl (lI (x := P (sqI (m 0))) rfl rfl (.head _) (hH.k) (gt rfl (bB rfl rfl rfl (pB rfl rfl (mB rfl (cs (t := 65) rfl (fun h13 => ?_) (fun h13 => ?_)))))))))
      ·try simp only [NM] at h13
       try simp only [isM, decide_eq_true_eq, decide_eq_false_iff_not] at h13
       refine gf rfl rfl (gf rfl rfl (gf rfl rfl (gf rfl rfl (gf rfl rfl (pB rfl rfl (mB rfl (gf rfl rfl (gf rfl rfl (gf rfl rfl (gf rfl rfl (WO_gu rfl (WO_gu rfl (WO_gu rfl (gf rfl rfl (pB rfl rfl (nl (cd rfl (fun _ => ?_) (fun h => nomatch h))))))))))))))))))
       refine sq (os (mv rfl (mv rfl (nl (rt (⟨_, RS_tmp (v := .pnil) rfl (RS_tmp (v := .s (.int _ _)) rfl (RS_nil)), ?_⟩))))))
       have hh : canM P (m 0) (m 1) (m 2) = false := can_no (by first | omega | (split <;> omega))
       have he := errM_not (by omega) hh
       rw [he]
       exact .inl ⟨rfl, by decide⟩
      ·try simp only [NM] at h13
       try simp only [isM, decide_eq_true_eq, decide_eq_false_iff_not] at h13
       refine gt rfl (fa (o' := 1) rfl rfl rfl (gt rfl (lI (x := P (sqI (m 0) + 1)) rfl rfl (.head _) (hH.s) (gt rfl (fa (o' := 128) rfl rfl rfl (gt rfl (lI rfl rfl (.tail _ (.tail _ (.tail _ (.head _)))) rfl (gt rfl (bB rfl rfl rfl (pB rfl rfl (mB rfl (cs (t := 72) rfl (fun h14 => ?_) (fun h14 => ?_)))))))))))))
       ·try simp only [NM] at h14
        try simp only [isM, decide_eq_true_eq, decide_eq_false_iff_not] at h14
        refine gf rfl rfl (gf rfl rfl (gf rfl rfl (gf rfl rfl (WO_gu rfl (WO_gu rfl (WO_gu rfl (gf rfl rfl (pB rfl rfl (nl (cd rfl (fun _ => ?_) (fun h => nomatch h)))))))))))
        refine sq (os (mv rfl (mv rfl (nl (rt (⟨_, RS_tmp (v := .pnil) rfl (RS_tmp (v := .s (.int _ _)) rfl (RS_nil)), ?_⟩))))))
        have hh : canM P (m 0) (m 1) (m 2) = false := can_no (by first | omega | (split <;> omega))
        have he := errM_not (by omega) hh
        rw [he]
        exact .inl ⟨rfl, by decide⟩
       ·try simp only [NM] at h14
        try simp only [isM, decide_eq_true_eq, decide_eq_false_iff_not] at h14
        refine gt rfl (fa (o' := 1) rfl rfl rfl (gt rfl (lI (x := P (sqI (m 0) + 1)) rfl rfl (.head _) (hH.s) (gt rfl (bB rfl rfl rfl (gt rfl (mB rfl (cs (t := 76) rfl (fun h15 => ?_) (fun h15 => ?_)))))))))
        ·try simp only [NM] at h15
         try simp only [isM, decide_eq_true_eq, decide_eq_false_iff_not] at h15
         refine gt rfl (fa (o' := 1) rfl rfl rfl (gt rfl (lI (x := P (sqI (m 0) + 1)) rfl rfl (.head _) (hH.s) (gt rfl (bB rfl rfl rfl (gt rfl (pB rfl rfl (pB rfl rfl (nl (cd rfl (fun h16 => ?_) (fun h16 => ?_)))))))))))
         ·try simp only [NM] at h16
          try simp only [isM, decide_eq_true_eq, decide_eq_false_iff_not] at h16
          refine sq (os (mv rfl (mv rfl (nl (rt (⟨_, RS_tmp (v := .pnil) rfl (RS_tmp (v := .s (.int _ _)) rfl (RS_nil)), ?_⟩))))))
          have hh : canM P (m 0) (m 1) (m 2) = false := can_no (by first | omega | (split <;> omega))
          have he := errM_not (by omega) hh
          rw [he]
          exact .inl ⟨rfl, by decide⟩
         ·try simp only [NM] at h16
          try simp only [isM, decide_eq_true_eq, decide_eq_false_iff_not] at h16
          refine sk (sq (pr (fa (o' := 0) rfl rfl rfl (lI (x := P (sqI (m 0))) rfl rfl (.head _) (hH.k) (bB rfl rfl rfl (mB rfl (cs (t := 85) rfl (fun h17 => ?_) (fun h17 => ?_))))))))
          ·try simp only [NM] at h17
           try simp only [isM, decide_eq_true_eq, decide_eq_false_iff_not] at h17
           refine gt rfl (fa (o' := 1) rfl rfl rfl (gt rfl (lI rfl rfl (.tail _ (.tail _ (.head _))) rfl (gt rfl (q0 rfl (Rank_sq (by omega)) rfl rfl rfl (gt rfl (fa (o' := 1) rfl rfl rfl (gt rfl (lI (x := P (sqI (m 0) + 1)) rfl rfl (.head _) (hH.s) (gt rfl (sb rfl rfl (by omega) (gt rfl (WO_mul rfl rfl (by omega) (gt rfl (bB rfl rfl rfl (pB rfl rfl (mB rfl (nl (sq (sq (os (mB rfl (mB rfl ?_)))))))))))))))))))))))
           refine cs (t := 96) rfl (fun h18 => ?_) (fun h18 => ?_)
           ·try simp only [NM] at h18
            try simp only [isM, decide_eq_true_eq, decide_eq_false_iff_not] at h18
            refine gt rfl (fa (o' := 2) rfl rfl rfl (gt rfl (lI rfl rfl (.tail _ (.tail _ (.head _))) rfl (gt rfl (bB rfl rfl rfl (gt rfl (mB rfl (cs (t := 100) rfl (fun h19 => ?_) (fun h19 => ?_)))))))))
            ·try simp only [NM] at h19
             try simp only [isM, decide_eq_true_eq, decide_eq_false_iff_not] at h19
             refine gf rfl rfl (gf rfl rfl (gf rfl rfl (gt rfl (pB rfl rfl (pB rfl rfl (mB rfl (gf rfl rfl (gf rfl rfl (gf rfl rfl (WO_gu rfl (WO_gu rfl (WO_gu rfl (gf rfl rfl (pB rfl rfl (nl (cd rfl (fun _ => ?_) (fun h => nomatch h)))))))))))))))))
             refine sq (os (mv rfl (mv rfl (nl (rt (⟨_, RS_tmp (v := .pnil) rfl (RS_tmp (v := .s (.int _ _)) rfl (RS_nil)), ?_⟩))))))
             have hh : canM P (m 0) (m 1) (m 2) = false := can_no (by first | omega | (split <;> omega))
             have he := errM_not (by omega) hh
             rw [he]
             exact .inl ⟨rfl, by decide⟩
            ·try simp only [NM] at h19
             try simp only [isM, decide_eq_true_eq, decide_eq_false_iff_not] at h19
             refine gt rfl (fa (o' := 2) rfl rfl rfl (gt rfl (lI rfl rfl (.tail _ (.tail _ (.head _))) rfl (gt rfl (bB rfl rfl rfl (gt rfl (pB rfl rfl (pB rfl rfl (mB rfl (cs (t := 106) rfl (fun h20 => ?_) (fun h20 => ?_)))))))))))
             ·try simp only [NM] at h20
              try simp only [isM, decide_eq_true_eq, decide_eq_false_iff_not] at h20
              refine gf rfl rfl (gf rfl rfl (gf rfl rfl (WO_gu rfl (WO_gu rfl (WO_gu rfl (gf rfl rfl (pB rfl rfl (nl (cd rfl (fun _ => ?_) (fun h => nomatch h))))))))))
              refine sq (os (mv rfl (mv rfl (nl (rt (⟨_, RS_tmp (v := .pnil) rfl (RS_tmp (v := .s (.int _ _)) rfl (RS_nil)), ?_⟩))))))
              have hh : canM P (m 0) (m 1) (m 2) = false := can_no (by first | omega | (split <;> omega))
              have he := errM_not (by omega) hh
              rw [he]
              exact .inl ⟨rfl, by decide⟩
             ·try simp only [NM] at h20
              try simp only [isM, decide_eq_true_eq, decide_eq_false_iff_not] at h20
              refine gt rfl (mB rfl (gt rfl (un (r := .bool _) rfl rfl (gt rfl (mB rfl (cs (t := 109) rfl (fun h21 => ?_) (fun h21 => ?_)))))))
              ·try simp only [NM] at h21
               try simp only [isM, decide_eq_true_eq, decide_eq_false_iff_not] at h21
               refine gt rfl (fa (o' := 2) rfl rfl rfl (gt rfl (lI rfl rfl (.tail _ (.tail _ (.head _))) rfl (gt rfl (bB rfl rfl rfl (gt rfl (pB rfl rfl (pB rfl rfl (nl (cd rfl (fun h22 => ?_) (fun h22 => ?_)))))))))))
               ·try simp only [NM] at h22
                try simp only [isM, decide_eq_true_eq, decide_eq_false_iff_not] at h22
                refine sq (os (mv rfl (mv rfl (nl (rt (⟨_, RS_tmp (v := .pnil) rfl (RS_tmp (v := .s (.int _ _)) rfl (RS_nil)), ?_⟩))))))
                have hh : canM P (m 0) (m 1) (m 2) = false := can_no (by first | omega | (split <;> omega))
                have he := errM_not (by omega) hh
                rw [he]
                exact .inl ⟨rfl, by decide⟩
               ·try simp only [NM] at h22
                try simp only [isM, decide_eq_true_eq, decide_eq_false_iff_not] at h22
                refine sk (sq (os (mP rfl (mP rfl (mv rfl (nl (rt (⟨_, RS_tmp (v := .ptr _ _ _) rfl (RS_tmp (v := .s (.int _ _)) rfl (RS_nil)), ?_⟩))))))))
                have hh : canM P (m 0) (m 1) (m 2) = true := can_yes (by refine ⟨by omega, by omega, by omega, by omega, ?_⟩; first | omega | (split <;> omega))
                have he := errM_ok (by omega) hh
                rw [he]
                exact .inr ⟨rfl, _, H, rfl, hH, (.tail _ (.head _))⟩
              ·try simp only [NM] at h21
               try simp only [isM, decide_eq_true_eq, decide_eq_false_iff_not] at h21
               refine gf rfl rfl (gf rfl rfl (gf rfl rfl (gt rfl (pB rfl rfl (pB rfl rfl (nl (cd rfl (fun h => nomatch h) (fun _ => sk (sq (os (mP rfl (mP rfl (mv rfl (nl (rt (⟨_, RS_tmp (v := .ptr _ _ _) rfl (RS_tmp (v := .s (.int _ _)) rfl (RS_nil)), ?_⟩))))))))))))))))
               have hh : canM P (m 0) (m 1) (m 2) = true := can_yes (by refine ⟨by omega, by omega, by omega, by omega, ?_⟩; first | omega | (split <;> omega))
               have he := errM_ok (by omega) hh
               rw [he]
               exact .inr ⟨rfl, _, H, rfl, hH, (.tail _ (.head _))⟩
           ·try simp only [NM] at h18
            try simp only [isM, decide_eq_true_eq, decide_eq_false_iff_not] at h18
            refine gf rfl rfl (gf rfl rfl (gf rfl rfl (gf rfl rfl (WO_gu rfl (WO_gu rfl (WO_gu rfl (gf rfl rfl (pB rfl rfl (mB rfl (gt rfl (mB rfl (gt rfl (un (r := .bool _) rfl rfl (gt rfl (mB rfl (cs (t := 109) rfl (fun h23 => ?_) (fun h23 => ?_)))))))))))))))))
            ·try simp only [NM] at h23
             try simp only [isM, decide_eq_true_eq, decide_eq_false_iff_not] at h23
             refine gt rfl (fa (o' := 2) rfl rfl rfl (gt rfl (lI rfl rfl (.tail _ (.tail _ (.head _))) rfl (gt rfl (bB rfl rfl rfl (gt rfl (pB rfl rfl (pB rfl rfl (nl (cd rfl (fun h24 => ?_) (fun h24 => ?_)))))))))))
             ·try simp only [NM] at h24
              try simp only [isM, decide_eq_true_eq, decide_eq_false_iff_not] at h24
              refine sq (os (mv rfl (mv rfl (nl (rt (⟨_, RS_tmp (v := .pnil) rfl (RS_tmp (v := .s (.int _ _)) rfl (RS_nil)), ?_⟩))))))
              have hh : canM P (m 0) (m 1) (m 2) = false := can_no (by first | omega | (split <;> omega))
              have he := errM_not (by omega) hh
              rw [he]
              exact .inl ⟨rfl, by decide⟩
             ·try simp only [NM] at h24
              try simp only [isM, decide_eq_true_eq, decide_eq_false_iff_not] at h24
              refine sk (sq (os (mP rfl (mP rfl (mv rfl (nl (rt (⟨_, RS_tmp (v := .ptr _ _ _) rfl (RS_tmp (v := .s (.int _ _)) rfl (RS_nil)), ?_⟩))))))))
              have hh : canM P (m 0) (m 1) (m 2) = true := can_yes (by refine ⟨by omega, by omega, by omega, by omega, ?_⟩; first | omega | (split <;> omega))
              have he := errM_ok (by omega) hh
              rw [he]
              exact .inr ⟨rfl, _, H, rfl, hH, (.tail _ (.head _))⟩
            ·try simp only [NM] at h23
             try simp only [isM, decide_eq_true_eq, decide_eq_false_iff_not] at h23
             refine gf rfl rfl (gf rfl rfl (gf rfl rfl (gt rfl (pB rfl rfl (pB rfl rfl (nl (cd rfl (fun h => nomatch h) (fun _ => sk (sq (os (mP rfl (mP rfl (mv rfl (nl (rt (⟨_, RS_tmp (v := .ptr _ _ _) rfl (RS_tmp (v := .s (.int _ _)) rfl (RS_nil)), ?_⟩))))))))))))))))
             have hh : canM P (m 0) (m 1) (m 2) = true := can_yes (by refine ⟨by omega, by omega, by omega, by omega, ?_⟩; first | omega | (split <;> omega))
             have he := errM_ok (by omega) hh
             rw [he]
             exact .inr ⟨rfl, _, H, rfl, hH, (.tail _ (.head _))⟩
          ·try simp only [NM] at h17
           try simp only [isM, decide_eq_true_eq, decide_eq_false_iff_not] at h17
           refine gf rfl rfl (gf rfl rfl (gf rfl rfl (gf rfl rfl (gf rfl rfl (gf rfl rfl (gf rfl rfl (gf rfl rfl (pB rfl rfl (mB rfl (nl (sq (sq (os (mB rfl (mB rfl (gf rfl rfl (gf rfl rfl (gf rfl rfl (gf rfl rfl (WO_gu rfl (WO_gu rfl (WO_gu rfl (gf rfl rfl ?_)))))))))))))))))))))))
           refine pB rfl rfl (mB rfl (gt rfl (mB rfl (gt rfl (un (r := .bool _) rfl rfl (gt rfl (mB rfl (gt rfl (fa (o' := 2) rfl rfl rfl (gt rfl (lI rfl rfl (.tail _ (.tail _ (.head _))) rfl (gt rfl (bB rfl rfl rfl (gt rfl (pB rfl rfl (pB rfl rfl (nl (cd rfl (fun h25 => ?_) (fun h25 => ?_)))))))))))))))))))
           ·try simp only [NM] at h25
            try simp only [isM, decide_eq_true_eq, decide_eq_false_iff_not] at h25
            refine sq (os (mv rfl (mv rfl (nl (rt (⟨_, RS_tmp (v := .pnil) rfl (RS_tmp (v := .s (.int _ _)) rfl (RS_nil)), ?_⟩))))))
            have hh : canM P (m 0) (m 1) (m 2) = false := can_no (by first | omega | (split <;> omega))
            have he := errM_not (by omega) hh
            rw [he]
            exact .inl ⟨rfl, by decide⟩
           ·try simp only [NM] at h25
            try simp only [isM, decide_eq_true_eq, decide_eq_false_iff_not] at h25
            refine sk (sq (os (mP rfl (mP rfl (mv rfl (nl (rt (⟨_, RS_tmp (v := .ptr _ _ _) rfl (RS_tmp (v := .s (.int _ _)) rfl (RS_nil)), ?_⟩))))))))
            have hh : canM P (m 0) (m 1) (m 2) = true := can_yes (by refine ⟨by omega, by omega, by omega, by omega, ?_⟩; first | omega | (split <;> omega))
            have he := errM_ok (by omega) hh
            rw [he]
            exact .inr ⟨rfl, _, H, rfl, hH, (.tail _ (.head _))⟩
        ·try simp only [NM] at h15
         try simp only [isM, decide_eq_true_eq, decide_eq_false_iff_not] at h15
         refine gf rfl rfl (gf rfl rfl (gf rfl rfl (gt rfl (pB rfl rfl (pB rfl rfl (nl (cd rfl (fun h => nomatch h) (fun _ => sk (sq (pr (fa (o' := 0) rfl rfl rfl (lI (x := P (sqI (m 0))) rfl rfl (.head _) (hH.k) (bB rfl rfl rfl (mB rfl (cs (t := 85) rfl (fun h26 => ?_) (fun h26 => ?_))))))))))))))))
         ·try simp only [NM] at h26
          try simp only [isM, decide_eq_true_eq, decide_eq_false_iff_not] at h26
          refine gt rfl (fa (o' := 1) rfl rfl rfl (gt rfl (lI rfl rfl (.tail _ (.tail _ (.head _))) rfl (gt rfl (q0 rfl (Rank_sq (by omega)) rfl rfl rfl (gt rfl (fa (o' := 1) rfl rfl rfl (gt rfl (lI (x := P (sqI (m 0) + 1)) rfl rfl (.head _) (hH.s) (gt rfl (sb rfl rfl (by omega) (gt rfl (WO_mul rfl rfl (by omega) (gt rfl (bB rfl rfl rfl (pB rfl rfl (mB rfl (nl (sq (sq (os (mB rfl (mB rfl ?_)))))))))))))))))))))))
          refine cs (t := 96) rfl (fun h27 => ?_) (fun h27 => ?_)
          ·try simp only [NM] at h27
           try simp only [isM, decide_eq_true_eq, decide_eq_false_iff_not] at h27
           refine gt rfl (fa (o' := 2) rfl rfl rfl (gt rfl (lI rfl rfl (.tail _ (.tail _ (.head _))) rfl (gt rfl (bB rfl rfl rfl (gt rfl (mB rfl (cs (t := 100) rfl (fun h28 => ?_) (fun h28 => ?_)))))))))
           ·try simp only [NM] at h28
            try simp only [isM, decide_eq_true_eq, decide_eq_false_iff_not] at h28
            refine gf rfl rfl (gf rfl rfl (gf rfl rfl (gt rfl (pB rfl rfl (pB rfl rfl (mB rfl (gf rfl rfl (gf rfl rfl (gf rfl rfl (WO_gu rfl (WO_gu rfl (WO_gu rfl (gf rfl rfl (pB rfl rfl (nl (cd rfl (fun _ => ?_) (fun h => nomatch h)))))))))))))))))
            refine sq (os (mv rfl (mv rfl (nl (rt (⟨_, RS_tmp (v := .pnil) rfl (RS_tmp (v := .s (.int _ _)) rfl (RS_nil)), ?_⟩))))))
            have hh : canM P (m 0) (m 1) (m 2) = false := can_no (by first | omega | (split <;> omega))
            have he := errM_not (by omega) hh
            rw [he]
            exact .inl ⟨rfl, by decide⟩
           ·try simp only [NM] at h28
            try simp only [isM, decide_eq_true_eq, decide_eq_false_iff_not] at h28
            refine gt rfl (fa (o' := 2) rfl rfl rfl (gt rfl (lI rfl rfl (.tail _ (.tail _ (.head _))) rfl (gt rfl (bB rfl rfl rfl (gt rfl (pB rfl rfl (pB rfl rfl (mB rfl (cs (t := 106) rfl (fun h29 => ?_) (fun h29 => ?_)))))))))))
            ·try simp only [NM] at h29
             try simp only [isM, decide_eq_true_eq, decide_eq_false_iff_not] at h29
             refine gf rfl rfl (gf rfl rfl (gf rfl rfl (WO_gu rfl (WO_gu rfl (WO_gu rfl (gf rfl rfl (pB rfl rfl (nl (cd rfl (fun _ => ?_) (fun h => nomatch h))))))))))
             refine sq (os (mv rfl (mv rfl (nl (rt (⟨_, RS_tmp (v := .pnil) rfl (RS_tmp (v := .s (.int _ _)) rfl (RS_nil)), ?_⟩))))))
             have hh : canM P (m 0) (m 1) (m 2) = false := can_no (by first | omega | (split <;> omega))
             have he := errM_not (by omega) hh
             rw [he]
             exact .inl ⟨rfl, by decide⟩
            ·try simp only [NM] at h29
             try simp only [isM, decide_eq_true_eq, decide_eq_false_iff_not] at h29
             refine gt rfl (mB rfl (gt rfl (un (r := .bool _) rfl rfl (gt rfl (mB rfl (cs (t := 109) rfl (fun h30 => ?_) (fun h30 => ?_)))))))
             ·try simp only [NM] at h30
              try simp only [isM, decide_eq_true_eq, decide_eq_false_iff_not] at h30
              refine gt rfl (fa (o' := 2) rfl rfl rfl (gt rfl (lI rfl rfl (.tail _ (.tail _ (.head _))) rfl (gt rfl (bB rfl rfl rfl (gt rfl (pB rfl rfl (pB rfl rfl (nl (cd rfl (fun h31 => ?_) (fun h31 => ?_)))))))))))
              ·try simp only [NM] at h31
               try simp only [isM, decide_eq_true_eq, decide_eq_false_iff_not] at h31
               refine sq (os (mv rfl (mv rfl (nl (rt (⟨_, RS_tmp (v := .pnil) rfl (RS_tmp (v := .s (.int _ _)) rfl (RS_nil)), ?_⟩))))))
               have hh : canM P (m 0) (m 1) (m 2) = false := can_no (by first | omega | (split <;> omega))
               have he := errM_not (by omega) hh
               rw [he]
               exact .inl ⟨rfl, by decide⟩
              ·try simp only [NM] at h31
               try simp only [isM, decide_eq_true_eq, decide_eq_false_iff_not] at h31
               refine sk (sq (os (mP rfl (mP rfl (mv rfl (nl (rt (⟨_, RS_tmp (v := .ptr _ _ _) rfl (RS_tmp (v := .s (.int _ _)) rfl (RS_nil)), ?_⟩))))))))
               have hh : canM P (m 0) (m 1) (m 2) = true := can_yes (by refine ⟨by omega, by omega, by omega, by omega, ?_⟩; first | omega | (split <;> omega))
               have he := errM_ok (by omega) hh
               rw [he]
               exact .inr ⟨rfl, _, H, rfl, hH, (.tail _ (.head _))⟩
             ·try simp only [NM] at h30
              try simp only [isM, decide_eq_true_eq, decide_eq_false_iff_not] at h30
              refine gf rfl rfl (gf rfl rfl (gf rfl rfl (gt rfl (pB rfl rfl (pB rfl rfl (nl (cd rfl (fun h => nomatch h) (fun _ => sk (sq (os (mP rfl (mP rfl (mv rfl (nl (rt (⟨_, RS_tmp (v := .ptr _ _ _) rfl (RS_tmp (v := .s (.int _ _)) rfl (RS_nil)), ?_⟩))))))))))))))))
              have hh : canM P (m 0) (m 1) (m 2) = true := can_yes (by refine ⟨by omega, by omega, by omega, by omega, ?_⟩; first | omega | (split <;> omega))
              have he := errM_ok (by omega) hh
              rw [he]
              exact .inr ⟨rfl, _, H, rfl, hH, (.tail _ (.head _))⟩
          ·try simp only [NM] at h27
           try simp only [isM, decide_eq_true_eq, decide_eq_false_iff_not] at h27
           refine gf rfl rfl (gf rfl rfl (gf rfl rfl (gf rfl rfl (WO_gu rfl (WO_gu rfl (WO_gu rfl (gf rfl rfl (pB rfl rfl (mB rfl (gt rfl (mB rfl (gt rfl (un (r := .bool _) rfl rfl (gt rfl (mB rfl (cs (t := 109) rfl (fun h32 => ?_) (fun h32 => ?_)))))))))))))))))
           ·try simp only [NM] at h32
            try simp only [isM, decide_eq_true_eq, decide_eq_false_iff_not] at h32
            refine gt rfl (fa (o' := 2) rfl rfl rfl (gt rfl (lI rfl rfl (.tail _ (.tail _ (.head _))) rfl (gt rfl (bB rfl rfl rfl (gt rfl (pB rfl rfl (pB rfl rfl (nl (cd rfl (fun h33 => ?_) (fun h33 => ?_)))))))))))
            ·try simp only [NM] at h33
             try simp only [isM, decide_eq_true_eq, decide_eq_false_iff_not] at h33
             refine sq (os (mv rfl (mv rfl (nl (rt (⟨_, RS_tmp (v := .pnil) rfl (RS_tmp (v := .s (.int _ _)) rfl (RS_nil)), ?_⟩))))))
             have hh : canM P (m 0) (m 1) (m 2) = false := can_no (by first | omega | (split <;> omega))
             have he := errM_not (by omega) hh
             rw [he]
             exact .inl ⟨rfl, by decide⟩
            ·try simp only [NM] at h33
             try simp only [isM, decide_eq_true_eq, decide_eq_false_iff_not] at h33
             refine sk (sq (os (mP rfl (mP rfl (mv rfl (nl (rt (⟨_, RS_tmp (v := .ptr _ _ _) rfl (RS_tmp (v := .s (.int _ _)) rfl (RS_nil)), ?_⟩))))))))
             have hh : canM P (m 0) (m 1) (m 2) = true := can_yes (by refine ⟨by omega, by omega, by omega, by omega, ?_⟩; first | omega | (split <;> omega))
             have he := errM_ok (by omega) hh
             rw [he]
             exact .inr ⟨rfl, _, H, rfl, hH, (.tail _ (.head _))⟩
           ·try simp only [NM] at h32
            try simp only [isM, decide_eq_true_eq, decide_eq_false_iff_not] at h32
            refine gf rfl rfl (gf rfl rfl (gf rfl rfl (gt rfl (pB rfl rfl (pB rfl rfl (nl (cd rfl (fun h => nomatch h) (fun _ => sk (sq (os (mP rfl (mP rfl (mv rfl (nl (rt (⟨_, RS_tmp (v := .ptr _ _ _) rfl (RS_tmp (v := .s (.int _ _)) rfl (RS_nil)), ?_⟩))))))))))))))))
            have hh : canM P (m 0) (m 1) (m 2) = true := can_yes (by refine ⟨by omega, by omega, by omega, by omega, ?_⟩; first | omega | (split <;> omega))
            have he := errM_ok (by omega) hh
            rw [he]
            exact .inr ⟨rfl, _, H, rfl, hH, (.tail _ (.head _))⟩
         ·try simp only [NM] at h26
          try simp only [isM, decide_eq_true_eq, decide_eq_false_iff_not] at h26
          refine gf rfl rfl (gf rfl rfl (gf rfl rfl (gf rfl rfl (gf rfl rfl (gf rfl rfl (gf rfl rfl (gf rfl rfl (pB rfl rfl (mB rfl (nl (sq (sq (os (mB rfl (mB rfl (gf rfl rfl (gf rfl rfl (gf rfl rfl (gf rfl rfl (WO_gu rfl (WO_gu rfl (WO_gu rfl (gf rfl rfl ?_)))))))))))))))))))))))
          refine pB rfl rfl (mB rfl (gt rfl (mB rfl (gt rfl (un (r := .bool _) rfl rfl (gt rfl (mB rfl (gt rfl (fa (o' := 2) rfl rfl rfl (gt rfl (lI rfl rfl (.tail _ (.tail _ (.head _))) rfl (gt rfl (bB rfl rfl rfl (gt rfl (pB rfl rfl (pB rfl rfl (nl (cd rfl (fun h34 => ?_) (fun h34 => ?_)))))))))))))))))))
          ·try simp only [NM] at h34
           try simp only [isM, decide_eq_true_eq, decide_eq_false_iff_not] at h34
           refine sq (os (mv rfl (mv rfl (nl (rt (⟨_, RS_tmp (v := .pnil) rfl (RS_tmp (v := .s (.int _ _)) rfl (RS_nil)), ?_⟩))))))
           have hh : canM P (m 0) (m 1) (m 2) = false := can_no (by first | omega | (split <;> omega))
           have he := errM_not (by omega) hh
           rw [he]
           exact .inl ⟨rfl, by decide⟩
          ·try simp only [NM] at h34
           try simp only [isM, decide_eq_true_eq, decide_eq_false_iff_not] at h34
           refine sk (sq (os (mP rfl (mP rfl (mv rfl (nl (rt (⟨_, RS_tmp (v := .ptr _ _ _) rfl (RS_tmp (v := .s (.int _ _)) rfl (RS_nil)), ?_⟩))))))))
           have hh : canM P (m 0) (m 1) (m 2) = true := can_yes (by refine ⟨by omega, by omega, by omega, by omega, ?_⟩; first | omega | (split <;> omega))
           have he := errM_ok (by omega) hh
           rw [he]
           exact .inr ⟨rfl, _, H, rfl, hH, (.tail _ (.head _))⟩
end Go.Proofs.YtlkighkfkdpncaaGreat
namespace Go.Proofs.YtlkighkfkdpncaaGreat
open Go Go.Am
set_option linter.unusedSimpArgs false
set_option linter.unusedVariables false
theorem errM_zero {P : Nat → Int} {a t b : Int} (h : errM P a t b = 0) : ((0 ≤ a ∧ a < 64) ∧ (0 ≤ t ∧ t < 64) ∧ a ≠ t) ∧ canM P a t b = true := by
 unfold errM at h
 split at h
 ·rename_i h1
  split at h
  ·rename_i h2; exact ⟨h1, h2⟩
  ·omega
 ·omega
theorem canM_side {P : Nat → Int} {a t b : Int} (h : canM P a t b = true) : P (sqI a + 1) = 0 ∨ P (sqI a + 1) = 1 := (of_decide_eq_true h).2.2.2.1
theorem canM_kind {P : Nat → Int} {a t b : Int} (h : canM P a t b = true) : 1 ≤ P (sqI a) ∧ P (sqI a) ≤ 6 := ⟨(of_decide_eq_true h).1, (of_decide_eq_true h).2.1⟩
theorem ovA_zero : ovA (fun _ => 0) 0 133 (fun _ => 0) = (fun _ => 0 : Nat → Int) := by
 funext i
 by_cases h : i < 133
 ·rw [ovA_at (by omega)]
 ·rw [ovA_out (by omega)]
theorem ovA_id {Q : Nat → Int} (h : ∀ i, 133 ≤ i → Q i = 0) : ovA (fun _ => 0) 0 133 Q = Q := by
 funext i
 by_cases hi : i < 133
 ·rw [ovA_at (by omega), Nat.sub_zero]
 ·rw [ovA_out (by omega), h i (by omega)]
theorem afterM_out {P : Nat → Int} {k c a t b C : Int} {i : Nat} (hi : 133 ≤ i) : afterM P k c a t b C i = 0 := by
 unfold afterM
 rw [if_neg (by omega), if_neg (by omega), if_neg (by omega), if_neg (by omega), if_neg (by omega), if_neg (by omega)]
theorem moveM_out {P : Nat → Int} {a t b : Int} {i : Nat} (hi : 133 ≤ i) : moveM P a t b i = 0 := by
 unfold moveM
 split
 ·exact afterM_out hi
 ·rfl
theorem brd_same {P Q : Nat → Int} {w a t k c b g : Int} (h : ∀ i, i < 128 → P i = Q i) : ∀ i, i < 128 → brd4 P w a t k c b g i = brd4 Q w a t k c b g i := by
 have h1 : ∀ i, i < 128 → brd1 P w i = brd1 Q w i := by
  unfold brd1
  split
  ·exact ovA_same h fun _ _ => rfl
  ·exact h
 have h3 : ∀ i, i < 128 → brd3 P w a t k c b i = brd3 Q w a t k c b i := ovA_same (ovA_same h1 fun _ _ => rfl) fun _ _ => rfl
 unfold brd4
 split
 ·exact ovA_same (ovA_same h3 fun _ _ => rfl) fun _ _ => rfl
 ·split
  ·exact ovA_same (ovA_same h3 fun _ _ => rfl) fun _ _ => rfl
  ·exact h3
theorem afterM_same {P Q : Nat → Int} {k c a t b C : Int} (ha : 0 ≤ a ∧ a < 64) (ht : 0 ≤ t ∧ t < 64) (h : ∀ i, i < 133 → i ≠ 129 → P i = Q i) : afterM P k c a t b C = afterM Q k c a t b C := by
 funext i
 have ht2 : takesM P k a t = takesM Q k a t := takesM_same ha ht (fun i hi => h i (by omega) (by omega)) (h 130 (by omega) (by omega))
 unfold afterM
 rw [ht2]
 by_cases h1 : i < 128
 ·rw [if_pos h1, if_pos h1]
  exact brd_same (fun i hi => h i (by omega) (by omega)) i h1
 ·rw [if_neg h1, if_neg h1, h 128 (by omega) (by omega)]
  have hh : halfM P k (takesM Q k a t) = halfM Q k (takesM Q k a t) := by unfold halfM; rw [h 131 (by omega) (by omega)]
  have hf : fullM P = fullM Q := by unfold fullM; rw [h 128 (by omega) (by omega), h 132 (by omega) (by omega)]
  rw [hh, hf]
theorem HandOf.all {P m H : Nat → Int} (h : HandOf P m H) : ∀ i, i < 133 → i ≠ 129 → H i = P i := fun i hi hn => by
 by_cases hl : i < 129
 ·exact h.lo i hl
 ·exact h.hi i (by omega) hi
theorem after_hand {P m H : Nat → Int} (h : HandOf P m H) (he : errM P (m 0) (m 1) (m 2) = 0) : ovA (fun _ => 0) 0 133 (afterM H (H 136) (H 137) (H 133) (H 134) (H 135) (H 129)) = moveM P (m 0) (m 1) (m 2) := by
 have ⟨hs, _⟩ := errM_zero he
 rw [ovA_id (fun i hi => afterM_out hi), h.a, h.t, h.b, h.k, h.s, h.c, moveM, if_pos he]
 exact afterM_same hs.1 hs.2.1 h.all
theorem taken_ex (P m : Nat → Int) : (errM P (m 0) (m 1) (m 2) ≠ 0 ∧ RF AM 95 [.agg 133 (ia P), .agg 3 (ia m)] (.tup [.pnil, .s (.int .i64 (errM P (m 0) (m 1) (m 2)))])) ∨
  (errM P (m 0) (m 1) (m 2) = 0 ∧ ∃ H, HandOf P m H ∧ RN AM 95 [.agg 133 (ia P), .agg 3 (ia m)] [] (fun b => .tup [.ptr b 0 138, .s (.int .i64 0)]) (.sc .var 138 (ia H)) []) := by
 obtain ⟨v, σ', n', L', h1, h2, h3⟩ := taken_run P m
 rcases h3 with ⟨rfl, he⟩ | ⟨he, b, H, rfl, hH, hm⟩
 ·exact .inl ⟨he, σ', h1⟩
 ·rw [he] at h1
  exact .inr ⟨he, H, hH, b, σ', h1, Nat.zero_le _, (h2.2.mem hm).2, trivial⟩
theorem made_ex {P m H : Nat → Int} (h : HandOf P m H) (he : errM P (m 0) (m 1) (m 2) = 0) : ∃ J, RB AM 96 [.ptr 0 0 138] [.sc .var 138 (ia H)] (.agg 133 (ia (afterM H (H 136) (H 137) (H 133) (H 134) (H 135) (H 129)))) [.sc .var 138 (ia J)] := by
 have ⟨hs, hc⟩ := errM_zero he
 obtain ⟨v, σ', n', L', h1, h2, J, rfl, hm⟩ := made_run H (by rw [h.a]; exact hs.1) (by rw [h.t]; exact hs.2.1) (by rw [h.s]; exact canM_side hc) (by rw [h.c]; exact castM_bd P)
 exact ⟨J, σ', h1, (h2.2.mem hm).2, ⟨_, _, _, rfl⟩, trivial⟩
theorem Move_walk (P m : Nat → Int) : WR AM 71 [.agg 133 (ia P), .agg 3 (ia m)] [] (fun v _ _ => v = .tup [.agg 133 (ia (moveM P (m 0) (m 1) (m 2))), .s (.int .i64 (errM P (m 0) (m 1) (m 2)))]) := by
 refine WR_fn (a := a71) rfl rfl (entryF _) (entry_E (Nat.le_of_ble_eq_true rfl)) (m := 0) rfl (sq (os (xA rfl (xA rfl (aI (mv rfl (nl (sq (os ?_)))))))))
 first | refine l0 rfl rfl (.tail _ (.tail _ (.head _))) ?_ | refine lA rfl rfl (.tail _ (.tail _ (.head _))) ?_
 first | refine l0 rfl rfl (.tail _ (.head _)) ?_ | refine lA rfl rfl (.tail _ (.head _)) ?_
 rcases taken_ex P m with ⟨he, hT⟩ | ⟨he, H, hH, hT⟩
 ·skip
  refine c0 rfl (hT) rfl rfl rfl (mT rfl (ex (v := .pnil) rfl rfl (ex (v := .s (.int _ _)) rfl rfl (mv (v := .pnil) rfl (mI rfl (nl (sq (sq (os (mI rfl (bB rfl rfl rfl (nl (cd rfl (fun h1 => ?_) (fun h1 => ?_))))))))))))))
  ·try simp only [NM] at h1
   try simp only [isM, decide_eq_true_eq, decide_eq_false_iff_not] at h1
   refine sq (os (uI rfl .nil (mI rfl (tA rfl rfl rfl rfl .here (mI rfl (nl (rt (⟨_, RS_cell rfl rfl (.head _) (RS_tmp (v := .s (.int _ _)) rfl (RS_nil)), ?_⟩))))))))
   rw [moveM, if_neg he]
   exact congrArg (fun g => V.tup [V.agg 133 (ia g), V.s (.int .i64 (errM P (m 0) (m 1) (m 2)))]) ovA_zero
  ·try simp only [NM] at h1
   try simp only [isM, decide_eq_true_eq, decide_eq_false_iff_not] at h1
   exfalso; first | omega | (simp at h1)
 ·skip
  refine WO_callN (mk := fun b => .tup [.ptr b 0 138, .s (.int .i64 0)]) (rs := []) (Bs := []) One_ptrS rfl hT rfl rfl (Nat.le_of_ble_eq_true rfl) (fun _ h => h) rfl trivial rfl rfl .nil (mT rfl (ex (v := .ptr _ _ _) rfl rfl (ex (v := .s (.int _ _)) rfl rfl (mP rfl (mI rfl (nl (sq (sq (os (mI rfl (bB rfl rfl rfl (nl (cd rfl (fun h2 => ?_) (fun h2 => ?_))))))))))))))
  ·try simp only [NM] at h2
   try simp only [isM, decide_eq_true_eq, decide_eq_false_iff_not] at h2
   exfalso; first | omega | (simp at h2)
  ·try simp only [NM] at h2
   try simp only [isM, decide_eq_true_eq, decide_eq_false_iff_not] at h2
   refine sk (sq (os (mP rfl ?_)))
   obtain ⟨J, hJ⟩ := made_ex hH he
   refine WO_callP rfl (hJ) rfl rfl rfl .here (tA rfl rfl rfl rfl (.there .here) (mv rfl (nl (rt (⟨_, RS_cell rfl rfl (.tail _ (.head _)) (RS_tmp (v := .s (.int _ _)) rfl (RS_nil)), ?_⟩)))))
   rw [he, ← after_hand hH he]
   rfl
structure SameP (P J B : Nat → Int) : Prop where
 lo : ∀ i, i < 128 → J i = B i
 hi : ∀ i, 128 ≤ i → i < 133 → J i = P i
theorem SameP.put {P J B X Y : Nat → Int} {t : Int} (j : SameP P J B) (ht : 0 ≤ t ∧ t < 64) (hx : ∀ i, i < 2 → X i = Y i) : SameP P (ovA J (0 + t.toNat * 2) 2 X) (ovA B (sqI t) 2 Y) :=
 ⟨ovA_same j.lo hx, fun i h1 h2 => by rw [ovA_out (by omega)]; exact j.hi i h1 h2⟩
theorem SameP.kind {P J B X Y : Nat → Int} {t b : Int} (j : SameP P (ovA J (0 + t.toNat * 2) 2 X) (ovA B (sqI t) 2 X)) (ht : 0 ≤ t ∧ t < 64) (h0 : Y 0 = b) (h1 : Y 1 = X 1) : SameP P (ov (ovA J (0 + t.toNat * 2) 2 X) (0 + t.toNat * 2 + 0) b) (ovA B (sqI t) 2 Y) := by
 have hsq : sqI t = 0 + t.toNat * 2 := rfl
 refine ⟨fun i hi => ?_, fun i h1 h2 => by rw [ov_out (by omega)]; exact j.hi i h1 h2⟩
 have hj := j.lo i hi
 by_cases q : i = 0 + t.toNat * 2 + 0
 ·subst q
  rw [ovA_at (by omega), show 0 + t.toNat * 2 + 0 - sqI t = 0 from by show 0 + t.toNat * 2 + 0 - (0 + t.toNat * 2) = 0; omega, h0]
  show (bif Nat.beq _ _ then b else _) = b
  rw [show Nat.beq (0 + t.toNat * 2 + 0) (0 + t.toNat * 2 + 0) = true from by simp]
  rfl
 ·rw [ov_out q, hj]
  by_cases r : sqI t ≤ i ∧ i < sqI t + 2
  ·have e : i - sqI t = 1 := by
    have : sqI t = 0 + t.toNat * 2 := rfl
    omega
   rw [ovA_at r, ovA_at r, e, h1]
  ·rw [ovA_out (by omega), ovA_out (by omega)]
structure DoneP (P J B : Nat → Int) (s cs ovr hf fl : Int) : Prop where
 lo : ∀ i, i < 128 → J i = B i
 s : J 128 = s
 c : J 129 = cs
 o : J 130 = ovr
 h : J 131 = hf
 f : J 132 = fl
end Go.Proofs.YtlkighkfkdpncaaGreat
set_option linter.unusedSimpArgs false
set_option linter.unusedVariables false
namespace Go.Proofs.YtlkighkfkdpncaaGreat
open Go Go.Am
def castlM (P : Nat → Int) (a t : Int) : Bool := decide (P (sqI a) = 6 ∧ (t - a = 2 ∨ t - a = -2))
def safeM (P : Nat → Int) (l : List Int) : Bool := !(l.any (isByM P (otherM (P 128))))
def posM (P : Nat → Int) : Bool := rightM P && !checkM P (otherM (P 128))
theorem castles_walk (P m : Nat → Int) (ha : 0 ≤ m 0 ∧ m 0 < 64) (ht : 0 ≤ m 1 ∧ m 1 < 64) : WR AM 69 [.agg 133 (ia P), .agg 3 (ia m)] [] (fun v _ _ => v = .s (.bool (castlM P (m 0) (m 1)))) := by
 refine WR_fn (a := a69) rfl rfl (entryF _) (entry_E (Nat.le_of_ble_eq_true rfl)) (m := 0) rfl (sq (os (xA rfl (xA rfl (mv rfl (nl (sq (os (fa (o' := 1) rfl rfl rfl (lI rfl rfl (.head _) rfl (fa (o' := 0) rfl rfl rfl (lI rfl rfl (.head _) rfl (sb rfl rfl (by omega) (mI rfl (nl (sq (os (fa (o' := 0) rfl rfl rfl (lI rfl rfl (.head _) rfl (fa (o' := 0) rfl rfl rfl (fa (o' := 0) rfl rfl rfl (ia2 rfl rfl rfl (by omega) (fa rfl rfl rfl ?_)))))))))))))))))))))))
 refine lI (x := P (sqI (m 0))) rfl rfl (.tail _ (.head _)) (congrArg P (by have hq : sqI (m 0) = 0 + (m 0).toNat * 2 := rfl; omega)) (bB rfl rfl rfl (mB rfl (cs (t := 19) rfl (fun h1 => ?_) (fun h1 => ?_))))
 ·try simp only [NM] at h1
  refine gt rfl (mI rfl (gt rfl (bB rfl rfl rfl (gt rfl (mB rfl (cs (t := 22) rfl (fun h2 => ?_) (fun h2 => ?_)))))))
  ·try simp only [NM] at h2
   refine gf rfl rfl (gf rfl rfl (gt rfl (pB rfl rfl (pB rfl rfl (mB rfl (nl (rt (⟨_, RS_tmp (v := .s (.bool _)) rfl (RS_nil), ?_⟩))))))))
   unfold castlM
   first | (rw [decide_eq_true (by omega)]; rfl) | (rw [decide_eq_false (by omega)]; rfl) | (refine congrArg (fun b => V.s (.bool b)) ?_; rw [Bool.eq_iff_iff]; simp only [beq_iff_eq, decide_eq_true_eq]; omega)
  ·try simp only [NM] at h2
   refine gt rfl (mI rfl (gt rfl (bB rfl rfl rfl (gt rfl (pB rfl rfl (pB rfl rfl (mB rfl (nl (rt (⟨_, RS_tmp (v := .s (.bool _)) rfl (RS_nil), ?_⟩))))))))))
   unfold castlM
   first | (rw [decide_eq_true (by omega)]; rfl) | (rw [decide_eq_false (by omega)]; rfl) | (refine congrArg (fun b => V.s (.bool b)) ?_; rw [Bool.eq_iff_iff]; simp only [beq_iff_eq, decide_eq_true_eq]; omega)
 ·try simp only [NM] at h1
  refine gf rfl rfl (gf rfl rfl (gf rfl rfl (WO_gu rfl (WO_gu rfl (gf rfl rfl (pB rfl rfl (mB rfl (nl (rt (⟨_, RS_tmp (v := .s (.bool _)) rfl (RS_nil), ?_⟩))))))))))
  unfold castlM
  first | (rw [decide_eq_true (by omega)]; rfl) | (rw [decide_eq_false (by omega)]; rfl) | (refine congrArg (fun b => V.s (.bool b)) ?_; rw [Bool.eq_iff_iff]; simp only [beq_iff_eq, decide_eq_true_eq]; omega)
theorem safe_rd (P : Nat → Int) (l : List Int) (hlen : l.length ≤ 1000000) : RdR AM 70 1 [.agg 133 (ia P)] [] l (.s (.bool (safeM P l))) := by
 refine RdR_of fun v Bs hc => ?_
 refine WR_fn (a := a70) rfl rfl (entryF _) (entry_E (Nat.le_of_ble_eq_true rfl)) rfl ?_ (by first | rfl | (cases hc <;> rfl))
 have hr0 := hc.rx
 rw [show known 0 Bs = known 0 Bs ++ [] from (List.append_nil _).symm]
 generalize hown : known 0 Bs = own0 at hr0 ⊢
 refine sq (os (xA rfl (mv rfl (nl (sq (pr (fa (o' := 0) rfl rfl rfl ?_)))))))
 first | refine l0 rfl rfl (.head _) ?_ | refine lA rfl rfl (.head _) ?_
 refine fa (o' := 0) rfl rfl rfl (fa (o' := 128) rfl rfl rfl (lI rfl rfl (.head _) rfl (q0 rfl (RF_of (Other_run _)) rfl rfl rfl (mv (v := v) rfl (WO_callRd (caps := []) rfl (is_rd P (otherM (P 128)) l hlen) rfl (hr0) (fun _ h => (.tail _ (List.mem_append_left _ h))) rfl rfl rfl (un (r := .bool _) rfl rfl (mB rfl (nl (rt (⟨_, RS_tmp (v := .s (.bool _)) rfl (RS_nil), ?_⟩))))))))))
 exact ⟨rfl, (fun _ h => (.tail _ h))⟩
theorem Position_walk (P : Nat → Int) : WR AM 19 [.agg 133 (ia P)] [] (fun v _ _ => v = .s (.bool (posM P))) := by
 refine WR_fn (a := a19) rfl rfl (entryF _) (entry_E (Nat.le_of_ble_eq_true rfl)) (m := 0) rfl (sq (os (xA rfl (mv rfl (nl (sq (pr ?_)))))))
 first | refine l0 rfl rfl (.head _) ?_ | refine lA rfl rfl (.head _) ?_
 refine c0 rfl (RF_of (Right_run _)) rfl rfl rfl (mB rfl (cs (t := 5) rfl (fun h3 => ?_) (fun h3 => ?_)))
 ·try simp only [NM] at h3
  refine gt rfl ?_
  first | refine l0 rfl rfl (.head _) ?_ | refine lA rfl rfl (.head _) ?_
  refine gt rfl (fa (o' := 128) rfl rfl rfl (gt rfl (lI rfl rfl (.head _) rfl (gt rfl (q0 rfl (RF_of (Other_run _)) rfl rfl rfl (gt rfl (c0 rfl (check_run _ _) rfl rfl rfl (gt rfl (un (r := .bool _) rfl rfl (pB rfl rfl (mB rfl (nl (rt (⟨_, RS_tmp (v := .s (.bool _)) rfl (RS_nil), ?_⟩))))))))))))))
  unfold posM
  first | (rw [show rightM P = true by assumption]; rfl) | (rw [show rightM P = false by assumption]; rfl)
 ·try simp only [NM] at h3
  refine gf rfl rfl (gf rfl rfl (gf rfl rfl (gf rfl rfl (gf rfl rfl (gf rfl rfl (pB rfl rfl (mB rfl (nl (rt (⟨_, RS_tmp (v := .s (.bool _)) rfl (RS_nil), ?_⟩))))))))))
  unfold posM
  first | (rw [show rightM P = true by assumption]; rfl) | (rw [show rightM P = false by assumption]; rfl)
end Go.Proofs.YtlkighkfkdpncaaGreat
set_option linter.unusedSimpArgs false
set_option linter.unusedVariables false
namespace Go.Proofs.YtlkighkfkdpncaaGreat
open Go Go.Am
theorem One_fn {g : FuncId} {o z : Nat} : One fun b => .fn g [.ptr b o z] := ⟨fun _ => by simp [V.refs, V.refsL], fun h b => by cases e : h b <;> simp [V.ren, V.renL, e]⟩
theorem jall_rn (P : Nat → Int) : RN AM 52 [.agg 133 (ia P)] [] (fun b => .fn 67 [.ptr b 0 133]) (.sc .var 133 (ia P)) [] := RN_of0 (by
 refine WR_fn (a := a52) rfl rfl (entryF _) (entry_E (Nat.le_of_ble_eq_true rfl)) (m := 0) rfl (sq (os (xA rfl (mv rfl (nl (sq (os (WO_mkfn rfl (mv rfl (nl ?_))))))))))
 exact rt ⟨_, RS_tmp rfl RS_nil, 0, rfl, .head _⟩)
theorem of_rn (P : Nat → Int) (h : posM P = true) : RN AM 32 [.agg 133 (ia P)] [] (fun b => .fn 67 [.ptr b 0 133]) (.sc .var 133 (ia (ovA (fun _ => 0) 0 133 P))) [] := RN_of0 (by
 refine WR_fn (a := a32) rfl rfl (entryF _) (entry_E (Nat.le_of_ble_eq_true rfl)) (m := 0) rfl (sq (os (xA rfl (mv rfl (nl (sq (sq (os (l0 rfl rfl (.head _) (c0 rfl (RF_of (Position_walk P)) rfl rfl rfl ?_))))))))))
 rw [h]
 refine un (r := .bool false) rfl rfl (nl (cd rfl (fun h => nomatch h) (fun _ => sk (sq (os (l0 rfl rfl (.head _) (uI (Q := ovA (fun _ => 0) 0 133 P) rfl (.agg rfl .nil) (WO_callN (rs := []) (Bs := []) (caps := []) (av := [.agg 133 (ia (ovA (fun _ => 0) 0 133 P))]) One_fn rfl (jall_rn _) rfl rfl (Nat.le_of_ble_eq_true rfl) (fun _ h => h) rfl trivial rfl rfl .nil (mv rfl (nl ?_))))))))))
 exact rt ⟨_, RS_tmp rfl RS_nil, 1, rfl, .head _⟩)
theorem of_none (P : Nat → Int) (h : posM P = false) : RF AM 32 [.agg 133 (ia P)] (.fn 51 []) := RF_of (by
 refine WR_fn (a := a32) rfl rfl (entryF _) (entry_E (Nat.le_of_ble_eq_true rfl)) (m := 0) rfl (sq (os (xA rfl (mv rfl (nl (sq (sq (os (l0 rfl rfl (.head _) (c0 rfl (RF_of (Position_walk P)) rfl rfl rfl ?_))))))))))
 rw [h]
 refine un (r := .bool true) rfl rfl (nl (cd rfl (fun _ => ?_) (fun h => nomatch h)))
 refine sq (os (mv rfl (nl ?_)))
 exact rt ⟨_, RS_tmp rfl RS_nil, rfl⟩)
def capsMv (g0 g4 : Nat → S) (c : Nat) : List V := [.agg 133 g0, .ptr 1 0 133, .ptr 2 0 1, .undef, .agg 133 g4, .fn 67 [.ptr c 0 133], .undef, .undef, .undef, .undef, .undef, .undef, .undef]
section
variable (g0 g4 g1 : Nat → S) (Q : Nat → Int)
noncomputable def lpMv (c st : Nat) : Blk := .lp 607 rd20 (capsMv g0 g4 c) st
theorem litA3r {Q : Nat → Int} {x y z : Int} (h0 : Q 0 = x) (h1 : Q 1 = y) (h2 : Q 2 = z) : ∀ i, i < [x, y, z].length → ovA (fun _ => 0) (0 * 3) 3 Q i = [x, y, z].getD i 0 := fun i hi => by have := litA3 h0 h1 h2 i hi; rwa [Nat.zero_add] at this
theorem roundMv_nil (M Y : Nat → Int) :
  WR AM 607 [.pan .undef, .yv 0, .agg 3 (ia M), .agg 133 (ia Y)] [lpMv g0 g4 3 0, .sc .var 133 g1, .vs .var [.snil], .sc .var 133 (ia Q)] (fun v n L => v = .s (.bool true) ∧ outs L [lpMv g0 g4 3 0, .sc .var 133 g1] [.sc .var 133 (ia Q)] [M 0, M 1, M 2]) := by
 refine WR_bodA (N := 13) (B := B20) (f := entryF (((capsMv g0 g4 3).set 6 (.agg 3 (ia M))).set 7 (.agg 133 (ia Y)))) (caps := capsMv g0 g4 3) rfl rfl rfl (list_E rfl) rfl (os (aI (tA rfl rfl rfl rfl .here (nl (⟨607, rd20, capsMv g0 g4 3, rfl, ?_⟩)))))
 refine bk (os (WO_ldV (v := .snil) rfl rfl (.tail _ (.tail _ (.tail _ (.head _)))) rfl (l0 rfl rfl (.head _) (WO_mkslI rfl (.agg rfl .nil) (WO_appRE (c := [M 0, M 1, M 2]) rfl (Rw.nil rfl) rfl (.row rfl (litA3r (Q := ovA (fun _ => 0) 0 3 M) rfl rfl rfl)) (mem1 (.head _)) (Dr.here (own := [])) (by decide) (Nat.le_of_ble_eq_true rfl) (fun v3 own3 n3 hr3 hn3 => WO_stR (b := 2) (u := .snil) (v := v3) rfl rfl hr3.isrow (.appR _ (.appR _ (.there (.there (.there (.there .here)))))) (WO_less (L' := own3 ++ [(0, .lp 607 rd20 (capsMv g0 g4 3) 1), (1, .sc .var 133 g1), (2, .vs .var [v3]), (3, .sc .var 133 (ia Q))]) (List.Sublist.append (.refl _) (List.sublist_append_of_sublist_right (.cons _ (.cons _ (.refl _))))) (WO_perm List.perm_append_comm (nl ⟨607, rd20, capsMv g0 g4 3, rfl, rfl, ?_⟩)))))))))
 have h4 : ∀ p ∈ own3, 4 < p.1 := fun p hp => hn3 p hp (4, _) (.tail _ (.head _))
 rw [List.nil_append] at hr3
 refine outs_of hr3 ⟨.head _, .tail _ (.head _), .tail _ (.tail _ (.head _)), .tail _ (.tail _ (.tail _ (.head _))), trivial⟩ (fun p hp => ⟨.tail _ (.tail _ (.tail _ (.tail _ ?_))), Nat.le_of_lt (h4 p hp)⟩)
 show p ∈ setL 0 _ own3
 rw [setL_none (fun p hp => by have := h4 p hp; omega)]; exact hp
theorem roundMv_row (M Y : Nat → Int) (l : List Int) (m q : Nat) (F : Nat → Int) (hlm : l.length = m * 3) (hF : ∀ i, i < l.length → F i = l.getD i 0) (hll : l.length ≤ 1000000) :
  WR AM 607 [.pan .undef, .yv 0, .agg 3 (ia M), .agg 133 (ia Y)] [lpMv g0 g4 4 0, .sc .var 133 g1, outB .var 3 m 3, .sc .grow q (ia F), .sc .var 133 (ia Q)] (fun v n L => v = .s (.bool true) ∧ outs L [lpMv g0 g4 4 0, .sc .var 133 g1] [.dead, .sc .var 133 (ia Q)] (l ++ [M 0, M 1, M 2])) := by
 refine WR_bodA (N := 13) (B := B20) (f := entryF (((capsMv g0 g4 4).set 6 (.agg 3 (ia M))).set 7 (.agg 133 (ia Y)))) (caps := capsMv g0 g4 4) rfl rfl rfl (list_E rfl) rfl (os (aI (tA rfl rfl rfl rfl .here (nl (⟨607, rd20, capsMv g0 g4 4, rfl, ?_⟩)))))
 refine bk (os (WO_ldV (v := .sl 3 0 m 3 .whole) rfl rfl (.tail _ (.tail _ (.tail _ (.head _)))) rfl (l0 rfl rfl (.head _) (WO_mkslI rfl (.agg rfl .nil) (WO_appRE (c := [M 0, M 1, M 2]) rfl (Rw.row hlm hF) rfl (.row rfl (litA3r (Q := ovA (fun _ => 0) 0 3 M) rfl rfl rfl)) (mem1 (.head _)) (.there (.there (.there (.there (.there .here))))) (by decide) (by simp only [List.length_cons, List.length_nil]; omega) (fun v3 own3 n3 hr3 hn3 => WO_stR (b := 2) (u := .sl 3 0 m 3 .whole) (v := v3) rfl rfl hr3.isrow (.appR _ (.there (.appR _ (.there (.there (.there (.there .here))))))) (WO_less (L' := own3 ++ [(3, .dead), (0, .lp 607 rd20 (capsMv g0 g4 4) 1), (1, .sc .var 133 g1), (2, .vs .var [v3]), (4, .sc .var 133 (ia Q))]) (List.Sublist.append (.refl _) (.cons_cons _ (.cons _ (.cons _ (.refl _))))) (WO_perm List.perm_append_comm (nl ⟨607, rd20, capsMv g0 g4 4, rfl, rfl, ?_⟩)))))))))
 have h4 : ∀ p ∈ own3, 5 < p.1 := fun p hp => hn3 p hp (5, _) (.tail _ (.head _))
 refine outs_of hr3 ⟨.tail _ (.head _), .tail _ (.tail _ (.head _)), .tail _ (.tail _ (.tail _ (.head _))), .head _, .tail _ (.tail _ (.tail _ (.tail _ (.head _)))), trivial⟩ (fun p hp => ⟨.tail _ (.tail _ (.tail _ (.tail _ (.tail _ ?_)))), Nat.le_of_lt (h4 p hp)⟩)
 show p ∈ setL 0 _ own3
 rw [setL_none (fun p hp => by have := h4 p hp; omega)]; exact hp
end
end Go.Proofs.YtlkighkfkdpncaaGreat
set_option linter.unusedSimpArgs false
set_option linter.unusedVariables false
namespace Go.Proofs.YtlkighkfkdpncaaGreat
open Go Go.Am
def legalB (P : Nat → Int) (m : Mv) : Bool := !(castlM P m.1 m.2.1 && !safeM P [m.1, (m.1 + m.2.1) / 2]) && (decide (errM P m.1 m.2.1 m.2.2 = 0) && !checkM (moveM P m.1 m.2.1 m.2.2) (P 128))
def legalU (P : Nat → Int) : List Mv := (allS P).filter (legalB P)
def mvX (F : Nat → Int) (o : Nat) : Nat → Int := ovA (fun _ => 0) 0 3 (fun j => F (o + j))
theorem mvX_at {F : Nat → Int} {l : List Mv} {i : Nat} (hF : ∀ j, j < (flat3 l).length → F j = (flat3 l).getD j 0) (hi : i < l.length) : mvX F (0 + (i : Int).toNat * 3) 0 = (l.getD i (0, 0, 0)).1 ∧ mvX F (0 + (i : Int).toNat * 3) 1 = (l.getD i (0, 0, 0)).2.1 ∧ mvX F (0 + (i : Int).toNat * 3) 2 = (l.getD i (0, 0, 0)).2.2 := by
 obtain ⟨e1, e2, e3⟩ := flat3_at hi
 have hb : 3 * i + 2 < (flat3 l).length := by rw [flat3_len]; omega
 rw [← hF _ (by omega)] at e1 e2 e3
 refine ⟨?_, ?_, ?_⟩
 ·rw [← e1]; show F _ = F _; exact congrArg F (by omega)
 ·rw [← e2]; show F _ = F _; exact congrArg F (by omega)
 ·rw [← e3]; show F _ = F _; exact congrArg F (by omega)
theorem toM_bd {s k c t : Int} {m : Mv} (hs : 0 ≤ s ∧ s < 64) (ht : 0 ≤ t ∧ t < 64) (h : m ∈ toM s k c t) : (0 ≤ m.1 ∧ m.1 < 64) ∧ (0 ≤ m.2.1 ∧ m.2.1 < 64) := by
 unfold toM at h
 split at h
 ·simp only [List.mem_cons, List.not_mem_nil, or_false] at h
  rcases h with rfl | rfl | rfl | rfl <;> exact ⟨hs, ht⟩
 ·rw [List.mem_singleton.1 h]; exact ⟨hs, ht⟩
theorem allS_bd {P : Nat → Int} {m : Mv} (h : m ∈ allS P) : (0 ≤ m.1 ∧ m.1 < 64) ∧ (0 ≤ m.2.1 ∧ m.2.1 < 64) := by
 have h := (srt3_perm _).mem_iff.1 h
 unfold allU nums at h
 rw [List.mem_flatMap] at h
 obtain ⟨s, hs, h⟩ := h
 rw [List.mem_map] at hs
 obtain ⟨k, hk, rfl⟩ := hs
 have hk := List.mem_range.1 hk
 split at h
 ·unfold movesU at h
  rw [List.mem_flatMap] at h
  obtain ⟨t, ht, h⟩ := h
  exact toM_bd (by constructor <;> omega) (squares_bd ht) h
 ·cases h
theorem allS_len (P : Nat → Int) : (allS P).length ≤ 16896 := by
 have := allU_len P 64
 rw [show (allS P).length = _ from (srt3_perm _).length_eq]; omega
theorem getD_mv {l : List Mv} {i : Nat} (hi : i < l.length) : l.getD i (0, 0, 0) ∈ l := by
 rw [List.getD_eq_getElem?_getD, List.getElem?_eq_getElem hi]
 exact List.getElem_mem hi
theorem leg_yes {P X : Nat → Int} {l : List Mv} {i : Nat} (hi : i < l.length) (h0 : X 0 = (l.getD i (0, 0, 0)).1) (h1 : X 1 = (l.getD i (0, 0, 0)).2.1) (h2 : X 2 = (l.getD i (0, 0, 0)).2.2) (h : legalB P (l.getD i (0, 0, 0)) = true) : flat3 ((l.take i).filter (legalB P)) ++ [X 0, X 1, X 2] = flat3 ((l.take (i + 1)).filter (legalB P)) := by
 rw [take_next (0, 0, 0) hi, List.filter_append, List.filter_cons, h, if_pos rfl, flat3_app, h0, h1, h2]; rfl
theorem leg_no {P : Nat → Int} {l : List Mv} {i : Nat} (hi : i < l.length) (h : legalB P (l.getD i (0, 0, 0)) = false) : flat3 ((l.take (i + 1)).filter (legalB P)) = flat3 ((l.take i).filter (legalB P)) := by
 rw [take_next (0, 0, 0) hi, List.filter_append, List.filter_cons, h, if_neg (by decide)]; simp
theorem legflat_len (P : Nat → Int) {l : List Mv} (i : Nat) : (flat3 ((l.take i).filter (legalB P))).length ≤ l.length * 3 := by
 have h1 := List.length_filter_le (legalB P) (l.take i)
 rw [List.length_take] at h1
 rw [flat3_len]; omega
theorem leg_a {P : Nat → Int} {m : Mv} (h1 : castlM P m.1 m.2.1 = true) (h2 : safeM P [m.1, (m.1 + m.2.1) / 2] = false) : legalB P m = false := by unfold legalB; rw [h1, h2]; rfl
theorem leg_b {P : Nat → Int} {m : Mv} (h : errM P m.1 m.2.1 m.2.2 ≠ 0) : legalB P m = false := by unfold legalB; rw [decide_eq_false h]; simp
theorem leg_c {P : Nat → Int} {m : Mv} (h : checkM (moveM P m.1 m.2.1 m.2.2) (P 128) = true) : legalB P m = false := by unfold legalB; rw [h]; simp
theorem leg_t {P : Nat → Int} {m : Mv} (h1 : castlM P m.1 m.2.1 = false ∨ safeM P [m.1, (m.1 + m.2.1) / 2] = true) (h2 : errM P m.1 m.2.1 m.2.2 = 0) (h3 : checkM (moveM P m.1 m.2.1 m.2.2) (P 128) = false) : legalB P m = true := by
 unfold legalB
 rw [decide_eq_true h2, h3]
 rcases h1 with h | h <;> rw [h] <;> simp
theorem iter_mv (g0 g4 g1 : Nat → S) (P : Nat → Int) : WR AM 67 [.yv 0, .ptr 3 0 133] [(lpMv g0 g4 3 0), .sc .var 133 g1, .vs .var [.snil], .sc .var 133 (ia P)] (fun v _ L => v = .tup [] ∧ outs L [(lpMv g0 g4 3 0), .sc .var 133 g1] [.sc .var 133 (ia P)] (flat3 (legalU P))) := by
 refine WR_fn (a := a67) rfl rfl (entryF _) (entry_E (Nat.le_of_ble_eq_true rfl)) (m := 4) rfl (sq (os (fa (o' := 0) rfl rfl rfl ?_)))
 first | refine l0 rfl rfl (.tail _ (.tail _ (.tail _ (.head _)))) ?_ | refine lA rfl rfl (.tail _ (.tail _ (.tail _ (.head _)))) ?_
 obtain ⟨l, hleq⟩ : ∃ l, l = allS P := ⟨_, rfl⟩
 have hall := all_rt P
 rw [← hleq] at hall
 have hlen := allS_len P
 rw [← hleq] at hlen
 refine WO_callRt0 rfl (hall) rfl rfl (fun v1 own1 n1 hr1 => WO_lenX rfl hr1.rx (by decide) (flat3_len l) (mv rfl (nl (bk (WP_sub (List.Sublist.append (.refl _) (.cons_cons _ (.cons_cons _ (.cons_cons _ (.cons_cons _ .slnil))))) (WP_loop (fun m f _ L => ∃ (i : Nat) (vO : V) (ownO : HA), (i ≤ l.length) ∧ (m = l.length - i) ∧ (∀ p ∈ ownO, 4 ≤ p.1) ∧ (Rw 3 (flat3 ((l.take i).filter (legalB P))) vO ownO) ∧ (f 0 = .yv 0) ∧ (f 1 = .ptr 3 0 133) ∧ (f 9 = v1) ∧ (f 10 = .s (.int .i64 l.length)) ∧ (f 11 = .s (.int .i64 i)) ∧ (L = (ownO ++ (own1 ++ [(0, (lpMv g0 g4 3 0)), (1, .sc .var 133 g1), (2, .vs .var [vO]), (3, .sc .var 133 (ia P))])))) (fun m f nb L hI => ?_) (l.length) (⟨0, .snil, [], by omega, by omega, (fun p (hp : p ∈ ([] : HA)) => (by cases hp)), Rw.nil rfl, rfl, rfl, rfl, rfl, rfl, rfl⟩)))))))
 obtain ⟨i, vO, ownO, hi, hm, hgO, hrO, k0, k1, k9, k10, k11, rfl⟩ := hI
 refine kn (d := 0) (v := .yv 0) k0 (kn (d := 1) (v := .ptr 3 0 133) k1 (kn (d := 9) (v := v1) k9 (kn (d := 10) (v := .s (.int .i64 l.length)) k10 (kn (d := 11) (v := .s (.int .i64 i)) k11 (sq (os (bB rfl rfl rfl (nl (sq (cd rfl (fun h1 => ?_) (fun h1 => ?_)))))))))))
 ·try simp only [NM] at h1
  refine sk (sq (bk (sq (os ?_))))
  obtain ⟨b1, q1, md1, c1, F1, rfl, rfl, hF1⟩ := hr1.rx.at (by decide) (flat3_len l) (by omega)
  refine is rfl rfl (by omega) ?_
  first | refine l0 rfl rfl (List.mem_append_right _ (.head _)) ?_ | refine lA rfl rfl (List.mem_append_right _ (.head _)) ?_
  refine aI (tA rfl rfl rfl rfl .here (nl (sq (sq (os ?_)))))
  obtain ⟨hx0, hx1, hx2⟩ := mvX_at hF1 (i := i) (by omega)
  have hbd : (0 ≤ (l.getD i (0, 0, 0)).1 ∧ (l.getD i (0, 0, 0)).1 < 64) ∧ (0 ≤ (l.getD i (0, 0, 0)).2.1 ∧ (l.getD i (0, 0, 0)).2.1 < 64) := allS_bd (P := P) (by rw [← hleq]; exact getD_mv (by omega))
  have hcas := RF_of (castles_walk P (mvX F1 (0 + (i : Int).toNat * 3)) (by omega) (by omega))
  rw [hx0, hx1] at hcas
  have hmove := RF_of (Move_walk P (mvX F1 (0 + (i : Int).toNat * 3)))
  rw [hx0, hx1, hx2] at hmove
  have hid : ovA (fun _ => 0) 0 133 (moveM P (l.getD i (0, 0, 0)).1 (l.getD i (0, 0, 0)).2.1 (l.getD i (0, 0, 0)).2.2) = (moveM P (l.getD i (0, 0, 0)).1 (l.getD i (0, 0, 0)).2.1 (l.getD i (0, 0, 0)).2.2) := ovA_id (fun i hi => moveM_out hi)
  have hchk := check_run (ovA (fun _ => 0) 0 133 (moveM P (l.getD i (0, 0, 0)).1 (l.getD i (0, 0, 0)).2.1 (l.getD i (0, 0, 0)).2.2)) (P 128)
  rw [show checkM (ovA (fun _ => 0) 0 133 (moveM P (l.getD i (0, 0, 0)).1 (l.getD i (0, 0, 0)).2.1 (l.getD i (0, 0, 0)).2.2)) (P 128) = checkM (moveM P (l.getD i (0, 0, 0)).1 (l.getD i (0, 0, 0)).2.1 (l.getD i (0, 0, 0)).2.2) (P 128) by rw [hid]] at hchk
  first | refine l0 rfl rfl (.tail _ (List.mem_append_right _ (.tail _ (.tail _ (.tail _ (.tail _ (.head _))))))) ?_ | refine lA rfl rfl (.tail _ (List.mem_append_right _ (.tail _ (.tail _ (.tail _ (.tail _ (.head _))))))) ?_
  first | refine l0 rfl rfl (.head _) ?_ | refine lA rfl rfl (.head _) ?_
  refine c0 rfl (hcas) rfl rfl rfl (mB rfl (cs (t := 18) rfl (fun h2 => ?_) (fun h2 => ?_)))
  ·try simp only [NM] at h2
   refine gt rfl ?_
   first | refine l0 rfl rfl (.tail _ (List.mem_append_right _ (.tail _ (.tail _ (.tail _ (.tail _ (.head _))))))) ?_ | refine lA rfl rfl (.tail _ (List.mem_append_right _ (.tail _ (.tail _ (.tail _ (.tail _ (.head _))))))) ?_
   refine gt rfl (fa (o' := 0) rfl rfl rfl (gt rfl (lI (x := (l.getD i (0, 0, 0)).1) rfl rfl (.head _) (hx0) (gt rfl (fa (o' := 0) rfl rfl rfl (gt rfl (lI (x := (l.getD i (0, 0, 0)).1) rfl rfl (.head _) (hx0) (gt rfl (fa (o' := 1) rfl rfl rfl (gt rfl (lI (x := (l.getD i (0, 0, 0)).2.1) rfl rfl (.head _) (hx1) (gt rfl (ad rfl rfl (by omega) (gt rfl (WO_quo rfl rfl (by omega) (gt rfl (WO_mkslS rfl (.one rfl (.one rfl .nil)) (gt rfl (WO_callRd (caps := []) rfl (safe_rd P [(l.getD i (0, 0, 0)).1, ((l.getD i (0, 0, 0)).1 + (l.getD i (0, 0, 0)).2.1) / 2] (Nat.le_of_ble_eq_true rfl)) rfl ((.row rfl lit2r)) (mem1 (.head _)) rfl rfl rfl (gt rfl (un (r := .bool _) rfl rfl (pB rfl rfl (nl ?_)))))))))))))))))))))))
   refine cd rfl (fun h3 => ?_) (fun h3 => ?_)
   ·try simp only [NM] at h3
    refine WP_exit (xhere (os (ad rfl rfl (by omega) (mI rfl (nl (⟨l.length - (i + 1), _, by omega, (.cons _ (.cons _ (List.Sublist.append (.refl _) (.cons_cons _ (.cons_cons _ (.cons_cons _ (.cons_cons _ (.cons_cons _ .slnil)))))))), i + 1, _, _, by omega, rfl, hgO, ?_, rfl, rfl, rfl, rfl, rfl, rfl⟩))))))
    first | exact hrO | (rw [leg_no (by omega) (by first | exact leg_a (by assumption) (by assumption) | exact leg_b (by assumption) | exact leg_c (by assumption))]; exact hrO)
   ·try simp only [NM] at h3
    refine sk (sq (os (fa (o' := 0) rfl rfl rfl ?_)))
    first | refine l0 rfl rfl (.tail _ (.tail _ (List.mem_append_right _ (.tail _ (.tail _ (.tail _ (.tail _ (.head _)))))))) ?_ | refine lA rfl rfl (.tail _ (.tail _ (List.mem_append_right _ (.tail _ (.tail _ (.tail _ (.tail _ (.head _)))))))) ?_
    first | refine l0 rfl rfl (.tail _ (.head _)) ?_ | refine lA rfl rfl (.tail _ (.head _)) ?_
    refine c0 rfl (hmove) rfl rfl rfl (mT rfl (ex (v := .agg _ _) rfl rfl (ex (v := .s (.int _ _)) rfl rfl (aI (tA rfl rfl rfl rfl .here (mI rfl (nl (sq (WP_opsX (WOx_app (l1 := [_, _, _, _, _, _, _, _, _, _, _, _, _, _]) (l2 := [_, _, _]) (mI rfl (bB rfl rfl rfl (mB rfl (cs (t := 41) rfl (fun h4 => ?_) (fun h4 => ?_)))))))))))))))
    ·try simp only [NM] at h4
     refine gt rfl ?_
     first | refine l0 rfl rfl (.head _) ?_ | refine lA rfl rfl (.head _) ?_
     refine gt rfl (fa (o' := 0) rfl rfl rfl (gt rfl (fa (o' := 128) rfl rfl rfl (gt rfl (lI rfl rfl (.tail _ (.tail _ (.tail _ (List.mem_append_right _ (.tail _ (.tail _ (.tail _ (.tail _ (.head _))))))))) rfl (gt rfl (c0 rfl (hchk) rfl rfl rfl (gt rfl (un (r := .bool _) rfl rfl (pB rfl rfl (mB rfl (cs (t := 49) rfl (fun h5 => ?_) (fun h5 => ?_)))))))))))))
     ·try simp only [NM] at h5
      refine gt rfl (mv (v := .yv _) rfl (gt rfl ?_))
      first | refine l0 rfl rfl (.tail _ (.tail _ (.head _))) ?_ | refine lA rfl rfl (.tail _ (.tail _ (.head _))) ?_
      refine gt rfl ?_
      first | refine l0 rfl rfl (.head _) ?_ | refine lA rfl rfl (.head _) ?_
      refine nl (WOx_less (.cons _ (.cons _ (.cons _ (List.Sublist.append (.refl _) (.cons_cons _ (.cons_cons _ (.cons_cons _ (.cons_cons _ (.cons_cons _ .slnil))))))))) (WOx_gt rfl ?_))
      have hll := legflat_len P (l := l) i
      refine WOx_yldO (caps := capsMv g0 g4) (xa := [.agg 3 (ia (mvX F1 (0 + (i : Int).toNat * 3))), .agg 133 (ia (ovA (fun _ => 0) 0 133 (moveM P (l.getD i (0, 0, 0)).1 (l.getD i (0, 0, 0)).2.1 (l.getD i (0, 0, 0)).2.2)))]) (L0 := [_]) rfl (fun _ => rfl) rfl rfl (fun _ _ _ => rfl) (Nat.le_of_ble_eq_true rfl) (Nat.le_of_ble_eq_true rfl) rfl rfl hrO (List.Perm.append_left _ (List.perm_append_comm (l₁ := [_]) (l₂ := [_, _, _, _]))) (fun e => by have h := roundMv_nil g0 g4 g1 P (mvX F1 (0 + (i : Int).toNat * 3)) (ovA (fun _ => 0) 0 133 (moveM P (l.getD i (0, 0, 0)).1 (l.getD i (0, 0, 0)).2.1 (l.getD i (0, 0, 0)).2.2)); rw [e]; exact h) (fun m q F h1 h2 => roundMv_row g0 g4 g1 P (mvX F1 (0 + (i : Int).toNat * 3)) _ _ m q F h1 h2 (by omega)) (fun v2 own2 n2 hr2 hge2 => WOx_of ?_)
      rw [leg_yes (by omega) hx0 hx1 hx2 (leg_t (by first | exact .inl (by assumption) | exact .inr (by assumption)) (by assumption) (by assumption))] at hr2
      refine WO_perm (List.Perm.append_left _ (List.perm_append_comm (l₁ := [_, _, _, _]) (l₂ := [_]))) (gt rfl (un (r := .bool _) rfl rfl (pB rfl rfl (nl (cd rfl (fun h => nomatch h) (fun _ => sk (os (ad rfl rfl (by omega) (mI rfl (nl (⟨l.length - (i + 1), _, by omega, (List.Sublist.append (.refl _) (.cons_cons _ (.cons_cons _ (.cons_cons _ (.cons_cons _ (.cons_cons _ .slnil)))))), i + 1, _, _, by omega, rfl, hge2, ?_, rfl, rfl, rfl, rfl, rfl, rfl⟩)))))))))))
      first | exact hr2 | (rw [leg_no (by omega) (by first | exact leg_a (by assumption) (by assumption) | exact leg_b (by assumption) | exact leg_c (by assumption))]; exact hr2)
     ·try simp only [NM] at h5
      refine gf rfl rfl (gf rfl rfl (gf rfl rfl (nl (WOx_of (gf rfl rfl (gf rfl rfl (pB rfl rfl (nl (cd rfl (fun h => nomatch h) (fun _ => sk (os (ad rfl rfl (by omega) (mI rfl (nl (⟨l.length - (i + 1), _, by omega, (.cons _ (.cons _ (.cons _ (List.Sublist.append (.refl _) (.cons_cons _ (.cons_cons _ (.cons_cons _ (.cons_cons _ (.cons_cons _ .slnil))))))))), i + 1, _, _, by omega, rfl, hgO, ?_, rfl, rfl, rfl, rfl, rfl, rfl⟩)))))))))))))))
      first | exact hrO | (rw [leg_no (by omega) (by first | exact leg_a (by assumption) (by assumption) | exact leg_b (by assumption) | exact leg_c (by assumption))]; exact hrO)
    ·try simp only [NM] at h4
     refine gf rfl rfl (gf rfl rfl (gf rfl rfl (gf rfl rfl (gf rfl rfl (gf rfl rfl (pB rfl rfl (mB rfl (gf rfl rfl (gf rfl rfl (gf rfl rfl (nl (WOx_of (gf rfl rfl (gf rfl rfl (pB rfl rfl (nl (cd rfl (fun h => nomatch h) (fun _ => sk (os (ad rfl rfl (by omega) (mI rfl (nl (⟨l.length - (i + 1), _, by omega, (.cons _ (.cons _ (.cons _ (List.Sublist.append (.refl _) (.cons_cons _ (.cons_cons _ (.cons_cons _ (.cons_cons _ (.cons_cons _ .slnil))))))))), i + 1, _, _, by omega, rfl, hgO, ?_, rfl, rfl, rfl, rfl, rfl, rfl⟩)))))))))))))))))))))))
     first | exact hrO | (rw [leg_no (by omega) (by first | exact leg_a (by assumption) (by assumption) | exact leg_b (by assumption) | exact leg_c (by assumption))]; exact hrO)
  ·try simp only [NM] at h2
   refine gf rfl rfl (gf rfl rfl (gf rfl rfl (gf rfl rfl (gf rfl rfl (gf rfl rfl (gf rfl rfl (gf rfl rfl (gf rfl rfl (gf rfl rfl (gf rfl rfl (gf rfl rfl (pB rfl rfl (nl (cd rfl (fun h => nomatch h) (fun _ => sk (sq (os (fa (o' := 0) rfl rfl rfl ?_))))))))))))))))))
   first | refine l0 rfl rfl (.tail _ (List.mem_append_right _ (.tail _ (.tail _ (.tail _ (.tail _ (.head _))))))) ?_ | refine lA rfl rfl (.tail _ (List.mem_append_right _ (.tail _ (.tail _ (.tail _ (.tail _ (.head _))))))) ?_
   first | refine l0 rfl rfl (.head _) ?_ | refine lA rfl rfl (.head _) ?_
   refine c0 rfl (hmove) rfl rfl rfl (mT rfl (ex (v := .agg _ _) rfl rfl (ex (v := .s (.int _ _)) rfl rfl (aI (tA rfl rfl rfl rfl .here (mI rfl (nl (sq (WP_opsX (WOx_app (l1 := [_, _, _, _, _, _, _, _, _, _, _, _, _, _]) (l2 := [_, _, _]) (mI rfl (bB rfl rfl rfl (mB rfl (cs (t := 41) rfl (fun h6 => ?_) (fun h6 => ?_)))))))))))))))
   ·try simp only [NM] at h6
    refine gt rfl ?_
    first | refine l0 rfl rfl (.head _) ?_ | refine lA rfl rfl (.head _) ?_
    refine gt rfl (fa (o' := 0) rfl rfl rfl (gt rfl (fa (o' := 128) rfl rfl rfl (gt rfl (lI rfl rfl (.tail _ (.tail _ (List.mem_append_right _ (.tail _ (.tail _ (.tail _ (.tail _ (.head _)))))))) rfl (gt rfl (c0 rfl (hchk) rfl rfl rfl (gt rfl (un (r := .bool _) rfl rfl (pB rfl rfl (mB rfl (cs (t := 49) rfl (fun h7 => ?_) (fun h7 => ?_)))))))))))))
    ·try simp only [NM] at h7
     refine gt rfl (mv (v := .yv _) rfl (gt rfl ?_))
     first | refine l0 rfl rfl (.tail _ (.head _)) ?_ | refine lA rfl rfl (.tail _ (.head _)) ?_
     refine gt rfl ?_
     first | refine l0 rfl rfl (.head _) ?_ | refine lA rfl rfl (.head _) ?_
     refine nl (WOx_less (.cons _ (.cons _ (List.Sublist.append (.refl _) (.cons_cons _ (.cons_cons _ (.cons_cons _ (.cons_cons _ (.cons_cons _ .slnil)))))))) (WOx_gt rfl ?_))
     have hll := legflat_len P (l := l) i
     refine WOx_yldO (caps := capsMv g0 g4) (xa := [.agg 3 (ia (mvX F1 (0 + (i : Int).toNat * 3))), .agg 133 (ia (ovA (fun _ => 0) 0 133 (moveM P (l.getD i (0, 0, 0)).1 (l.getD i (0, 0, 0)).2.1 (l.getD i (0, 0, 0)).2.2)))]) (L0 := [_]) rfl (fun _ => rfl) rfl rfl (fun _ _ _ => rfl) (Nat.le_of_ble_eq_true rfl) (Nat.le_of_ble_eq_true rfl) rfl rfl hrO (List.Perm.append_left _ (List.perm_append_comm (l₁ := [_]) (l₂ := [_, _, _, _]))) (fun e => by have h := roundMv_nil g0 g4 g1 P (mvX F1 (0 + (i : Int).toNat * 3)) (ovA (fun _ => 0) 0 133 (moveM P (l.getD i (0, 0, 0)).1 (l.getD i (0, 0, 0)).2.1 (l.getD i (0, 0, 0)).2.2)); rw [e]; exact h) (fun m q F h1 h2 => roundMv_row g0 g4 g1 P (mvX F1 (0 + (i : Int).toNat * 3)) _ _ m q F h1 h2 (by omega)) (fun v3 own3 n3 hr3 hge3 => WOx_of ?_)
     rw [leg_yes (by omega) hx0 hx1 hx2 (leg_t (by first | exact .inl (by assumption) | exact .inr (by assumption)) (by assumption) (by assumption))] at hr3
     refine WO_perm (List.Perm.append_left _ (List.perm_append_comm (l₁ := [_, _, _, _]) (l₂ := [_]))) (gt rfl (un (r := .bool _) rfl rfl (pB rfl rfl (nl (cd rfl (fun h => nomatch h) (fun _ => sk (os (ad rfl rfl (by omega) (mI rfl (nl (⟨l.length - (i + 1), _, by omega, (List.Sublist.append (.refl _) (.cons_cons _ (.cons_cons _ (.cons_cons _ (.cons_cons _ (.cons_cons _ .slnil)))))), i + 1, _, _, by omega, rfl, hge3, ?_, rfl, rfl, rfl, rfl, rfl, rfl⟩)))))))))))
     first | exact hr3 | (rw [leg_no (by omega) (by first | exact leg_a (by assumption) (by assumption) | exact leg_b (by assumption) | exact leg_c (by assumption))]; exact hr3)
    ·try simp only [NM] at h7
     refine gf rfl rfl (gf rfl rfl (gf rfl rfl (nl (WOx_of (gf rfl rfl (gf rfl rfl (pB rfl rfl (nl (cd rfl (fun h => nomatch h) (fun _ => sk (os (ad rfl rfl (by omega) (mI rfl (nl (⟨l.length - (i + 1), _, by omega, (.cons _ (.cons _ (List.Sublist.append (.refl _) (.cons_cons _ (.cons_cons _ (.cons_cons _ (.cons_cons _ (.cons_cons _ .slnil)))))))), i + 1, _, _, by omega, rfl, hgO, ?_, rfl, rfl, rfl, rfl, rfl, rfl⟩)))))))))))))))
     first | exact hrO | (rw [leg_no (by omega) (by first | exact leg_a (by assumption) (by assumption) | exact leg_b (by assumption) | exact leg_c (by assumption))]; exact hrO)
   ·try simp only [NM] at h6
    refine gf rfl rfl (gf rfl rfl (gf rfl rfl (gf rfl rfl (gf rfl rfl (gf rfl rfl (pB rfl rfl (mB rfl (gf rfl rfl (gf rfl rfl (gf rfl rfl (nl (WOx_of (gf rfl rfl (gf rfl rfl (pB rfl rfl (nl (cd rfl (fun h => nomatch h) (fun _ => sk (os (ad rfl rfl (by omega) (mI rfl (nl (⟨l.length - (i + 1), _, by omega, (.cons _ (.cons _ (List.Sublist.append (.refl _) (.cons_cons _ (.cons_cons _ (.cons_cons _ (.cons_cons _ (.cons_cons _ .slnil)))))))), i + 1, _, _, by omega, rfl, hgO, ?_, rfl, rfl, rfl, rfl, rfl, rfl⟩)))))))))))))))))))))))
    first | exact hrO | (rw [leg_no (by omega) (by first | exact leg_a (by assumption) (by assumption) | exact leg_b (by assumption) | exact leg_c (by assumption))]; exact hrO)
 ·try simp only [NM] at h1
  refine WP_exit (xhere (⟨_, RS_nil, ?_⟩))
  obtain rfl : i = l.length := by omega
  rw [List.take_length, hleq] at hrO
  exact ⟨rfl, outs_of hrO ⟨(List.mem_append_right _ (List.mem_append_right _ (.head _))), (List.mem_append_right _ (List.mem_append_right _ (.tail _ (.head _)))), (List.mem_append_right _ (List.mem_append_right _ (.tail _ (.tail _ (.head _))))), (List.mem_append_right _ (List.mem_append_right _ (.tail _ (.tail _ (.tail _ (.head _)))))), trivial⟩ (fun p hp => ⟨List.mem_append_left _ hp, hgO p hp⟩)⟩
end Go.Proofs.YtlkighkfkdpncaaGreat
set_option linter.unusedSimpArgs false
set_option linter.unusedVariables false
namespace Go.Proofs.YtlkighkfkdpncaaGreat
open Go Go.Am
def movesM (P : Nat → Int) : List Mv := if posM P = true then legalU (ovA (fun _ => 0) 0 133 P) else []
def capsNo (g0 g4 : Nat → S) : List V := [.agg 133 g0, .ptr 1 0 133, .ptr 2 0 1, .undef, .agg 133 g4, .fn 51 [], .undef, .undef, .undef, .undef, .undef, .undef, .undef]
theorem moves_rt (P : Nat → Int) : RtR AM 20 3 [.agg 133 (ia P)] [] (flat3 (movesM P)) [] := by
 refine RtR_of0 (WR_fnV (a := a20) rfl rfl (entryF _) (entry_E (Nat.le_of_ble_eq_true rfl)) (m := 0) (c0 := 2) rfl rfl (sq (os (xA rfl (WO_allocB (z := .one .snil) rfl (nl (sq (sq (os (l0 rfl rfl (.tail _ (.head _)) ?_))))))))))
 have fin : ∀ (f : FE) (n : Nat) (v : V) (own : HA), f 2 = .ptr 1 0 1 → Rw 3 (flat3 (movesM P)) v own → WP AM a20.nt (.seq (.ops [l' 12 false 1 2, s' 1 2 12]) .ret) f n (own ++ [(1, .vs .var [v])])
   (fun _ _ _ => False) (fun _ _ _ _ => False) (fun f n L => ∃ b md v, rd a20.nt f 2 = .ptr b 0 1 ∧ (b, Blk.vs md [v]) ∈ L ∧ ∃ own, Rw 3 (flat3 (movesM P)) v own ∧ ∀ p ∈ own, p ∈ L) (fun _ _ _ _ => False) := fun f n v own h2 hr => by
  refine kn (d := 2) (v := .ptr 1 0 1) h2 (sq (os (WO_ldV (v := v) rfl rfl (List.mem_append_right _ (.head _)) rfl (WO_stR (b := 1) (u := v) (v := v) rfl rfl hr.isrow (.appR _ .here) ?_))))
  exact nl (rt ⟨1, .var, v, rfl, List.mem_append_right _ (.head _), own, hr, fun p hp => List.mem_append_left _ hp⟩)
 cases h : posM P with
 | false =>
  have hl : flat3 (movesM P) = [] := by unfold movesM; rw [h]; rfl
  refine c0 rfl (of_none P h) rfl rfl rfl (nl (bk (WP_rfnN (Lr := [(0, _), (1, _)]) (L0 := []) (vs := [.yv 0]) (Bs := [.lp 607 rd20 (capsNo (ia P) (ia P)) 0, .sc .var 133 (ia P), .vs .var [.snil]]) (List.reverse_perm [_, _]) rfl rfl rfl rfl rfl (WR_fn (a := a51) rfl rfl (entryF _) (entry_E (Nat.le_of_ble_eq_true rfl)) (m := 3) rfl (sk ⟨_, RS_nil, ?_⟩)))))
  refine .inl ⟨[_, _, _], .tup [], _, ⟨.head _, .tail _ (.head _), .tail _ (.tail _ (.head _)), trivial⟩, rfl, rfl, rfl, rfl, 607, rd20, _, 0, _, .refl _, ?_⟩
  refine WP_sub (.cons _ (.cons_cons _ .slnil)) ?_
  exact fin _ _ .snil [] rfl (.nil hl)
 | true =>
  have hl : flat3 (movesM P) = flat3 (legalU (ovA (fun _ => 0) 0 133 P)) := by unfold movesM; rw [h]; rfl
  refine WO_callN (rs := []) (Bs := []) (caps := []) (av := [.agg 133 (ia P)]) One_fn rfl (of_rn P h) rfl rfl (Nat.le_of_ble_eq_true rfl) (fun _ h => h) rfl trivial rfl rfl .nil (nl (bk (WP_rfnN (Lr := [(0, _), (1, _), (2, _)]) (L0 := []) (vs := [.yv 0, .ptr 3 0 133]) (Bs := [lpMv (ia P) (ia P) 3 0, .sc .var 133 (ia P), .vs .var [.snil], .sc .var 133 (ia (ovA (fun _ => 0) 0 133 P))]) (List.reverse_perm [_, _, _]) rfl rfl rfl rfl rfl (WR_mono (iter_mv (ia P) (ia P) (ia P) (ovA (fun _ => 0) 0 133 P)) ?_))))
  rintro r n1 L1 ⟨rfl, ho⟩
  rw [← hl] at ho
  rcases ho with ⟨e1, e2⟩ | ⟨b, m, q, F, e1, e2, e3, e4, e5⟩
  ·refine .inl ⟨_, .tup [], _, e2, rfl, rfl, rfl, rfl, 607, rd20, _, 0, _, .refl _, ?_⟩
   refine WP_sub (.cons _ (.cons_cons _ (.cons _ .slnil))) ?_
   exact fin _ _ .snil [] rfl (.nil e1)
  ·refine .inr ⟨[lpMv (ia P) (ia P) 3 0, .sc .var 133 (ia P)], [.sc .var 133 (ia (ovA (fun _ => 0) 0 133 P))], b, m, 3, q, .var, .grow, ia F, .tup [], _, _, e3, rfl, e1, e2, rfl, rfl, rfl, rfl, rfl, (Nat.le_of_ble_eq_true rfl), 607, rd20, _, 0, _, .swap _ _ _, ?_⟩
   refine WP_sub (.cons_cons _ (.cons _ (.cons_cons _ (.cons _ .slnil)))) ?_
   exact fin _ _ _ [(_, _)] rfl (.row e4 e5)
end Go.Proofs.YtlkighkfkdpncaaGreat
set_option linter.unusedVariables false
set_option linter.unusedSimpArgs false
namespace Go.Proofs.YtlkighkfkdpncaaGreat
open Go Go.Am
theorem fromR_mem {P : Nat → Int} {s : Int} {m : Mv} (h : m ∈ fromR P s 64) : (0 ≤ m.2.1 ∧ m.2.1 < 64) ∧ goesM P s m.2.1 = true ∧ m ∈ toM s (P (sqI s)) (P (sqI s + 1)) m.2.1 := by
 unfold fromR at h
 rw [List.mem_flatMap] at h
 obtain ⟨t, ht, h⟩ := h
 split at h
 ·rename_i hg
  have e := (toM_mem h).2
  rw [e]
  exact ⟨mem64.1 ht, hg, h⟩
 ·cases h
theorem allR_mem {P : Nat → Int} {m : Mv} (h : m ∈ allR P 64) : (0 ≤ m.1 ∧ m.1 < 64) ∧ (0 ≤ m.2.1 ∧ m.2.1 < 64) ∧ goesM P m.1 m.2.1 = true ∧ m ∈ toM m.1 (P (sqI m.1)) (P (sqI m.1 + 1)) m.2.1 := by
 unfold allR at h
 rw [List.mem_flatMap] at h
 obtain ⟨s, hs, h⟩ := h
 have e := fromR_fst h
 rw [e]
 exact ⟨mem64.1 hs, fromR_mem h⟩
def cntR (P : Nat → Int) (s : Nat) : Nat := (allR P s).length
theorem mover_of {P : Nat → Int} {s t : Int} (h : goesM P s t = true) : (1 ≤ P (sqI s) ∧ P (sqI s) ≤ 6) ∧ (P (sqI s + 1) = 0 ∨ P (sqI s + 1) = 1) ∧ P (sqI s + 1) = P 128 ∧ s ≠ t := by
 unfold goesM moverM mayM at h
 simp only [Bool.and_eq_true, decide_eq_true_eq] at h
 omega
theorem toM_can {P : Nat → Int} {m : Mv} (h : m ∈ toM m.1 (P (sqI m.1)) (P (sqI m.1 + 1)) m.2.1) : if P (sqI m.1) = 1 ∧ m.2.1 / 8 = 7 * (1 - P (sqI m.1 + 1)) then 2 ≤ m.2.2 ∧ m.2.2 ≤ 5 else m.2.2 = 0 := by
 unfold toM endM at h
 split at h
 ·rename_i e
  rw [decide_eq_true_eq] at e
  rw [if_pos e]
  simp only [List.mem_cons, List.not_mem_nil, or_false] at h
  rcases h with h | h | h | h <;> (have := congrArg (fun m : Mv => m.2.2) h; simp only at this; omega)
 ·rename_i e
  rw [decide_eq_true_eq] at e
  rw [if_neg e]
  have := congrArg (fun m : Mv => m.2.2) (List.mem_singleton.1 h)
  simpa using this
theorem mv_can {P : Nat → Int} {m : Mv} (h : m ∈ allR P 64) : errM P m.1 m.2.1 m.2.2 = 0 := by
 obtain ⟨ha, ht, hg, hm⟩ := allR_mem h
 obtain ⟨h1, h2, h3, h4⟩ := mover_of hg
 refine errM_ok ⟨ha, ht, h4⟩ ?_
 unfold canM
 exact decide_eq_true ⟨h1.1, h1.2, h3, h2, toM_can hm⟩
end Go.Proofs.YtlkighkfkdpncaaGreat
set_option linter.unusedSimpArgs false
set_option linter.unusedVariables false
namespace Go.Proofs.YtlkighkfkdpncaaGreat
open Go Go.Am
def fnzM : List Int → Int
 | [] => 0
 | x :: l => if x = 0 then fnzM l else x
def cmpM (x y : Int) : Int := if x < y then -1 else if y < x then 1 else 0
end Go.Proofs.YtlkighkfkdpncaaGreat
namespace Go.Proofs.YtlkighkfkdpncaaGreat
open Go Go.Am
theorem eql_no1 {a b : Int} (h : a ≠ b) : binS .eql (.int .i64 a) (.int .i64 b) = some (.bool false) := by
 show (if IntKind.i64 = IntKind.i64 then some (S.bool (a == b)) else none) = _
 simp [h]
theorem eql_yes1 {a b : Int} (h : a = b) : binS .eql (.int .i64 a) (.int .i64 b) = some (.bool true) := by
 subst h
 show (if IntKind.i64 = IntKind.i64 then some (S.bool (a == a)) else none) = _
 simp
theorem neq_of1 {a b : Int} (h : a = b) : binS .neq (.int .i64 a) (.int .i64 b) = some (.bool false) := by
 subst h
 show (if IntKind.i64 = IntKind.i64 then some (S.bool (a != a)) else none) = _
 simp
theorem neq_no1 {a b : Int} (h : a ≠ b) : binS .neq (.int .i64 a) (.int .i64 b) = some (.bool true) := by
 show (if IntKind.i64 = IntKind.i64 then some (S.bool (a != b)) else none) = _
 simp [h]
end Go.Proofs.YtlkighkfkdpncaaGreat
set_option linter.unusedSimpArgs false
set_option linter.unusedVariables false
namespace Go.Proofs.YtlkighkfkdpncaaGreat
open Go Go.Am
def pathOK (a b : Int) : Bool := decide (a = b) || (!(lineM a b || diagM a b) || (decide (1 ≤ farM a b ∧ b = a + stpM a b * farM a b) && (List.range (farM a b - 1)).all fun (j : Nat) => decide ((0 ≤ a + stpM a b * ((j : Int) + 1) ∧ a + stpM a b * ((j : Int) + 1) < 64) ∧ a + stpM a b * ((j : Int) + 1) ≠ b)))
section
variable {P : Nat → Int} {a b : Int}
end
def hitA (P : Nat → Int) (c s a : Int) : Bool := decide (P (sqI a + 1) = c) && attM P a s
def toL (P : Nat → Int) (s c : Int) (n : Nat) : List Int := if 0 ≤ s ∧ s < 64 then (nums n).filter (hitA P c s) else []
def isR (P : Nat → Int) (c : Int) (s : Int) : Bool := decide (0 < (toL P s c 64).length)
def checkR (P : Nat → Int) (c : Int) : Bool := if c = 0 ∨ c = 1 then (findL P (kingX c)).any (isR P (otherM c)) else false
end Go.Proofs.YtlkighkfkdpncaaGreat
set_option linter.unusedSimpArgs false
set_option linter.unusedVariables false
namespace Go.Proofs.YtlkighkfkdpncaaGreat
open Go Go.Am
section
variable {P : Nat → Int} {s t c : Int}
end
end Go.Proofs.YtlkighkfkdpncaaGreat
set_option linter.unusedSimpArgs false
set_option linter.unusedVariables false
namespace Go.Proofs.YtlkighkfkdpncaaGreat
open Go Go.Am
def fromD (P : Nat → Int) (s : Int) (n : Nat) : List Mv := if 0 ≤ s ∧ s < 64 then fromR P s n else []
end Go.Proofs.YtlkighkfkdpncaaGreat
set_option linter.unusedSimpArgs false
set_option linter.unusedVariables false
namespace Go.Proofs.YtlkighkfkdpncaaGreat
open Go Go.Am
def fineM (P : Nat → Int) (m : Mv) : Bool := decide (errM P m.1 m.2.1 m.2.2 = 0) && (!checkM (moveM P m.1 m.2.1 m.2.2) (P 128) && (!castlM P m.1 m.2.1 || (!checkM P (P 128) && !([(m.1 + m.2.1) / 2].any (isR P (otherM (P 128)))))))
section
variable {P : Nat → Int} {m : Mv}
end
def movesD (P : Nat → Int) : List Mv := if posM P = true then (allR P 64).filter (fineM P) else []
def winsM (s : Int) : Int := if s = 1 then 2 else 1
def ofN (P : Nat → Int) (n : Nat) : Int × Int := if posM P = false ∨ 0 < n then (0, 0) else if checkM P (P 128) = true then (winsM (otherM (P 128)), 1) else (3, 2)
section
variable {P : Nat → Int} {n : Nat}
theorem of_open (h : posM P = false ∨ 0 < n) : ofN P n = (0, 0) := if_pos h
theorem of_go (h1 : posM P = true) (h2 : ¬ 0 < n) : ¬ (posM P = false ∨ 0 < n) := fun h => h.elim (fun h => by rw [h1] at h; cases h) h2
theorem of_mate (h1 : posM P = true) (h2 : ¬ 0 < n) (h3 : checkM P (P 128) = true) : ofN P n = (winsM (otherM (P 128)), 1) := by
 unfold ofN; rw [if_neg (of_go h1 h2), if_pos h3]
theorem of_stale (h1 : posM P = true) (h2 : ¬ 0 < n) (h3 : checkM P (P 128) = false) : ofN P n = (3, 2) := by
 unfold ofN; rw [if_neg (of_go h1 h2), if_neg (by rw [h3]; decide)]
end
end Go.Proofs.YtlkighkfkdpncaaGreat
set_option linter.unusedSimpArgs false
set_option linter.unusedVariables false
namespace Go.Proofs.YtlkighkfkdpncaaGreat
open Go Go.Am
theorem wins_walk (s : Int) : WR AM 13 [.s (.int .i64 s)] [] (fun v _ _ => v = .s (.int .i64 (winsM s))) := by
 refine WR_fn (a := a13) rfl rfl (entryF _) (entry_E (Nat.le_of_ble_eq_true rfl)) (m := 0) rfl (sq (os (mv rfl (nl (sq (sq (os (mI rfl (bB rfl rfl rfl (nl (cd rfl (fun h1 => ?_) (fun h1 => ?_))))))))))))
 ·try simp only [NM] at h1
  try rw [beq_eq_false_iff_ne] at h1
  refine sq (os (mv rfl (nl (rt (⟨_, RS_tmp (v := .s (.int _ _)) rfl (RS_nil), ?_⟩)))))
  refine congrArg (fun b => V.s (S.int .i64 b)) ?_
  first | exact (if_pos (by omega)).symm | exact (if_neg (by omega)).symm
 ·try simp only [NM] at h1
  try rw [beq_eq_false_iff_ne] at h1
  refine sk (sq (os (mv rfl (nl (rt (⟨_, RS_tmp (v := .s (.int _ _)) rfl (RS_nil), ?_⟩))))))
  refine congrArg (fun b => V.s (S.int .i64 b)) ?_
  first | exact (if_pos (by omega)).symm | exact (if_neg (by omega)).symm
def stuckM (P : Nat → Int) : Bool := posM P && decide ((movesM P).length = 0)
theorem stuck_f {P : Nat → Int} (h : stuckM P = false) : posM P = false ∨ 0 < (movesM P).length := by
 unfold stuckM at h
 cases hp : posM P with
 | false => exact .inl rfl
 | true =>
  rw [hp, Bool.true_and] at h
  have := of_decide_eq_false h
  exact .inr (by omega)
theorem stuck_t {P : Nat → Int} (h : stuckM P = true) : posM P = true ∧ ¬ 0 < (movesM P).length := by
 unfold stuckM at h
 rw [Bool.and_eq_true, decide_eq_true_eq] at h
 exact ⟨h.1, by omega⟩
theorem stuck_walk (P : Nat → Int) (hz : ∀ i, 133 ≤ i → P i = 0) : WR AM 26 [.agg 133 (ia P)] [] (fun v _ _ => v = .s (.bool (stuckM P))) := by
 refine WR_fn (a := a26) rfl rfl (entryF _) (entry_E (Nat.le_of_ble_eq_true rfl)) (m := 0) rfl (sq (os (xA rfl (mv rfl (nl (sq (os (fa (o' := 0) rfl rfl rfl (l0 rfl rfl (.head _) (c0 rfl (RF_of (Position_walk P)) rfl rfl rfl (mB rfl (cs (t := 6) rfl (fun h2 => ?_) (fun h2 => ?_)))))))))))))
 ·try simp only [NM] at h2
  try rw [beq_eq_false_iff_ne] at h2
  refine gt rfl (fa (o' := 0) rfl rfl rfl (gt rfl (l0 rfl rfl (.head _) (gt rfl (WO_callRt0 rfl (moves_rt P) rfl rfl (fun v1 own1 n1 hr1 => gt rfl (WO_lenX rfl hr1.rx (by decide) (flat3_len _) (gt rfl (bB rfl rfl rfl (pB rfl rfl (mB rfl (nl (rt (⟨_, RS_tmp (v := .s (.bool _)) rfl (RS_nil), ?_⟩))))))))))))))
  refine congrArg (fun b => V.s (S.bool b)) ?_
  unfold stuckM
  first | (rw [show posM P = true by assumption, Bool.true_and, Bool.eq_iff_iff, beq_iff_eq, decide_eq_true_eq]; omega) | (rw [show posM P = false by assumption]; rfl)
 ·try simp only [NM] at h2
  try rw [beq_eq_false_iff_ne] at h2
  refine gf rfl rfl (gf rfl rfl (gf rfl rfl (gf rfl rfl (gf rfl rfl (pB rfl rfl (mB rfl (nl (rt (⟨_, RS_tmp (v := .s (.bool _)) rfl (RS_nil), ?_⟩)))))))))
  refine congrArg (fun b => V.s (S.bool b)) ?_
  unfold stuckM
  first | (rw [show posM P = true by assumption, Bool.true_and, Bool.eq_iff_iff, beq_iff_eq, decide_eq_true_eq]; omega) | (rw [show posM P = false by assumption]; rfl)
theorem of_walk (P : Nat → Int) (hz : ∀ i, 133 ≤ i → P i = 0) : WR AM 7 [.agg 133 (ia P)] [] (fun v _ _ => v = .tup [.s (.int .i64 (ofN P (movesM P).length).1), .s (.int .i64 (ofN P (movesM P).length).2)]) := by
 have hid : ovA (fun _ => 0) 0 133 P = P := ovA_id hz
 refine WR_fn (a := a7) rfl rfl (entryF _) (entry_E (Nat.le_of_ble_eq_true rfl)) (m := 0) rfl (sq (os (xA rfl (mv rfl (mv rfl (nl (sq (sq (os ?_)))))))))
 first | refine l0 rfl rfl (.head _) ?_ | refine lA rfl rfl (.head _) ?_
 refine uI rfl (.agg rfl .nil) ?_
 rw [hid]
 refine aI (tA rfl rfl rfl rfl .here ?_)
 try rw [hid]
 refine nl (bk (sq (os ?_)))
 first | refine l0 rfl rfl (.head _) ?_ | refine lA rfl rfl (.head _) ?_
 refine c0 rfl (RF_of (stuck_walk P hz)) rfl rfl rfl (un (r := .bool _) rfl rfl (mB rfl (nl (cd rfl (fun h3 => ?_) (fun h3 => ?_)))))
 ·try simp only [NM] at h3
  try rw [beq_eq_false_iff_ne] at h3
  refine sq (os (mv rfl (mv rfl (nl (rt (⟨_, RS_tmp (v := .s (.int _ _)) rfl (RS_tmp (v := .s (.int _ _)) rfl (RS_nil)), ?_⟩))))))
  first | (rw [of_open (stuck_f (by assumption))]; rfl) | (rw [of_mate (stuck_t (by assumption)).1 (stuck_t (by assumption)).2 (by assumption)]; rfl) | (rw [of_stale (stuck_t (by assumption)).1 (stuck_t (by assumption)).2 (by assumption)]; rfl)
 ·try simp only [NM] at h3
  try rw [beq_eq_false_iff_ne] at h3
  refine sq (os ?_)
  first | refine l0 rfl rfl (.tail _ (.head _)) ?_ | refine lA rfl rfl (.tail _ (.head _)) ?_
  refine fa (o' := 0) rfl rfl rfl (fa (o' := 128) rfl rfl rfl (lI (x := P 128) rfl rfl (.head _) (rfl) (c0 rfl (check_run P (P 128)) rfl rfl rfl (mB rfl (nl (cd rfl (fun h4 => ?_) (fun h4 => ?_)))))))
  ·try simp only [NM] at h4
   try rw [beq_eq_false_iff_ne] at h4
   refine sq (os (fa (o' := 0) rfl rfl rfl (fa (o' := 128) rfl rfl rfl (lI (x := P 128) rfl rfl (.head _) (rfl) (c0 rfl (RF_of (Other_run _)) rfl rfl rfl (c0 rfl (RF_of (wins_walk _)) rfl rfl rfl (mI rfl (mv rfl (nl (rt (⟨_, RS_tmp (v := .s (.int _ _)) rfl (RS_tmp (v := .s (.int _ _)) rfl (RS_nil)), ?_⟩)))))))))))
   first | (rw [of_open (stuck_f (by assumption))]; rfl) | (rw [of_mate (stuck_t (by assumption)).1 (stuck_t (by assumption)).2 (by assumption)]; rfl) | (rw [of_stale (stuck_t (by assumption)).1 (stuck_t (by assumption)).2 (by assumption)]; rfl)
  ·try simp only [NM] at h4
   try rw [beq_eq_false_iff_ne] at h4
   refine sk (sq (os (mv rfl (mv rfl (nl (rt (⟨_, RS_tmp (v := .s (.int _ _)) rfl (RS_tmp (v := .s (.int _ _)) rfl (RS_nil)), ?_⟩)))))))
   first | (rw [of_open (stuck_f (by assumption))]; rfl) | (rw [of_mate (stuck_t (by assumption)).1 (stuck_t (by assumption)).2 (by assumption)]; rfl) | (rw [of_stale (stuck_t (by assumption)).1 (stuck_t (by assumption)).2 (by assumption)]; rfl)
end Go.Proofs.YtlkighkfkdpncaaGreat
set_option linter.unusedSimpArgs false
set_option linter.unusedVariables false
namespace Go.Proofs.YtlkighkfkdpncaaGreat
open Go Go.Am
theorem turn_k {P Q : Nat → Int} (h : Turned P Q 64) {x : Int} (hx : 0 ≤ x ∧ x < 64) : Q (sqI (acrossM x)) = P (sqI x) ∧ Q (sqI (acrossM x) + 1) = sideT (P (sqI x)) (P (sqI x + 1)) := by
 obtain ⟨s, rfl⟩ : ∃ s : Nat, x = s := ⟨x.toNat, by omega⟩
 have h1 := h s (by omega)
 have e1 : sqI (s : Int) = s * 2 := by show 0 + (s : Int).toNat * 2 = s * 2; omega
 have e2 : sqI (acrossM (s : Int)) = acr s * 2 := by show 0 + (acrossM (s : Int)).toNat * 2 = acr s * 2; rw [acr_across (by omega)]; omega
 rw [e1, e2]
 exact h1
theorem acr_acr {s : Nat} (h : s < 64) : acr (acr s) = s := by unfold acr; omega
theorem turned_uniq {P Q R : Nat → Int} (h : Turned P Q 64) (k : Turned P R 64) : ∀ i, i < 128 → Q i = R i := by
 intro i hi
 have hl := acr_lt (s := i / 2) (by omega)
 have h1 := h (acr (i / 2)) hl
 have k1 := k (acr (i / 2)) hl
 rw [acr_acr (by omega)] at h1 k1
 by_cases e : i % 2 = 0
 ·rw [show i = i / 2 * 2 by omega, h1.1, k1.1]
 ·rw [show i = i / 2 * 2 + 1 by omega, h1.2, k1.2]
theorem across_bd {x : Int} (h : 0 ≤ x ∧ x < 64) : 0 ≤ acrossM x ∧ acrossM x < 64 := by unfold acrossM; omega
theorem sqI_acr {x : Int} (h : 0 ≤ x ∧ x < 64) : sqI (acrossM x) = acr x.toNat * 2 := by
 show 0 + (acrossM x).toNat * 2 = acr x.toNat * 2
 unfold acrossM acr; omega
theorem turned_put {B C X Y : Nat → Int} {x : Int} (h : Turned B C 64) (hx : 0 ≤ x ∧ x < 64) (h0 : Y 0 = X 0) (h1 : Y 1 = sideT (X 0) (X 1)) : Turned (ovA B (sqI x) 2 X) (ovA C (sqI (acrossM x)) 2 Y) 64 := by
 intro s hs
 have e1 : sqI x = x.toNat * 2 := by show 0 + x.toNat * 2 = x.toNat * 2; omega
 rw [sqI_acr hx, e1]
 by_cases q : s = x.toNat
 ·subst q
  rw [ovA_at (by omega), ovA_at (by omega), ovA_at (by omega), ovA_at (by omega)]
  rw [show acr x.toNat * 2 - acr x.toNat * 2 = 0 by omega, show acr x.toNat * 2 + 1 - acr x.toNat * 2 = 1 by omega, show x.toNat * 2 - x.toNat * 2 = 0 by omega, show x.toNat * 2 + 1 - x.toNat * 2 = 1 by omega]
  exact ⟨h0, h1⟩
 ·have hne : acr s ≠ acr x.toNat := fun e => q (acr_inj hs (by omega) e)
  rw [ovA_out (by omega), ovA_out (by omega), ovA_out (by omega), ovA_out (by omega)]
  exact h s hs
theorem sideT_may {k c : Int} (hk : 1 ≤ k ∧ k ≤ 6) (hc : c = 0 ∨ c = 1) : sideT k c = 1 - c := by
 unfold sideT
 rw [if_pos (show mayM k c = true from decide_eq_true ⟨hk.1, hk.2, hc⟩), other0 hc]
theorem sideT_not {k c : Int} (h : ¬ (1 ≤ k ∧ k ≤ 6 ∧ (c = 0 ∨ c = 1))) : sideT k c = c := by
 unfold sideT
 rw [if_neg (by rw [mayM, decide_eq_false h]; decide)]
theorem can_turn {P Q : Nat → Int} (T : TurnOf P Q) (hs : P 128 = 0 ∨ P 128 = 1) {a t b : Int} (ha : 0 ≤ a ∧ a < 64) (ht : 0 ≤ t ∧ t < 64) : canM Q (acrossM a) (acrossM t) b = canM P a t b := by
 have ⟨hk, hc⟩ := turn_k T.sq ha
 have h8 : acrossM t / 8 = 7 - t / 8 := by unfold acrossM; omega
 have hd := T.side
 rw [other0 hs] at hd
 unfold canM
 rw [hk, hc, hd, h8]
 by_cases m : 1 ≤ P (sqI a) ∧ P (sqI a) ≤ 6 ∧ (P (sqI a + 1) = 0 ∨ P (sqI a + 1) = 1)
 ·rw [sideT_may ⟨m.1, m.2.1⟩ m.2.2, Bool.eq_iff_iff, decide_eq_true_eq, decide_eq_true_eq]
  by_cases e : P (sqI a) = 1 ∧ t / 8 = 7 * (1 - P (sqI a + 1))
  ·rw [if_pos e, if_pos (by omega)]; omega
  ·rw [if_neg e, if_neg (by omega)]; omega
 ·rw [sideT_not m, Bool.eq_iff_iff, decide_eq_true_eq, decide_eq_true_eq]
  constructor
  ·intro q; exact absurd ⟨q.1, q.2.1, q.2.2.2.1⟩ m
  ·intro q; exact absurd ⟨q.1, q.2.1, q.2.2.2.1⟩ m
theorem err_turn {P Q : Nat → Int} (T : TurnOf P Q) (hs : P 128 = 0 ∨ P 128 = 1) {a t b : Int} (ha : 0 ≤ a ∧ a < 64) (ht : 0 ≤ t ∧ t < 64) : errM Q (acrossM a) (acrossM t) b = errM P a t b := by
 have h1 := across_bd ha
 have h2 := across_bd ht
 unfold errM
 rw [can_turn T hs ha ht]
 by_cases e : a = t
 ·rw [if_neg (fun q => q.2.2 (by rw [e])), if_neg (fun q => q.2.2 e)]
 ·have c1 : (0 ≤ acrossM a ∧ acrossM a < 64) ∧ (0 ≤ acrossM t ∧ acrossM t < 64) ∧ acrossM a ≠ acrossM t := ⟨h1, h2, fun q => e (by unfold acrossM at q; omega)⟩
  have c2 : (0 ≤ a ∧ a < 64) ∧ (0 ≤ t ∧ t < 64) ∧ a ≠ t := ⟨ha, ht, e⟩
  rw [if_pos c1, if_pos c2]
theorem empty_turn {P Q : Nat → Int} (T : TurnOf P Q) {x : Int} (hx : 0 ≤ x ∧ x < 64) : emptyM Q (acrossM x) = emptyM P x := by
 have ⟨hk, hc⟩ := turn_k T.sq hx
 rw [Bool.eq_iff_iff, emptyM_iff, emptyM_iff, hk, hc]
 constructor
 ·rintro ⟨e0, e1⟩
  rw [sideT_not (by omega)] at e1
  exact ⟨e0, e1⟩
 ·rintro ⟨e0, e1⟩
  rw [sideT_not (by omega)]
  exact ⟨e0, e1⟩
theorem at_turn {P Q : Nat → Int} (T : TurnOf P Q) {k a t : Int} (ha : 0 ≤ a ∧ a < 64) (ht : 0 ≤ t ∧ t < 64) : atT Q k (acrossM a) (acrossM t) = acrossM (atT P k a t) := by
 unfold atT
 rw [empty_turn T ht, T.over]
 have ho : acrossM t = overT (P 130) ↔ t = P 130 := by
  unfold overT isM
  by_cases q : 0 ≤ P 130 ∧ P 130 < 64
  ·rw [if_pos (decide_eq_true q)]; unfold acrossM; omega
  ·rw [if_neg (by rw [decide_eq_false q]; decide)]; unfold acrossM; omega
 have hf : acrossM t % 8 ≠ acrossM a % 8 ↔ t % 8 ≠ a % 8 := by unfold acrossM; omega
 by_cases c : k = 1 ∧ t % 8 ≠ a % 8 ∧ t = P 130 ∧ emptyM P t = true
 ·rw [if_pos c, if_pos ⟨c.1, hf.2 c.2.1, ho.2 c.2.2.1, c.2.2.2⟩]; unfold acrossM; omega
 ·rw [if_neg c, if_neg (fun q => c ⟨q.1, hf.1 q.2.1, ho.1 q.2.2.1, q.2.2.2⟩)]
theorem takes_turn {P Q : Nat → Int} (T : TurnOf P Q) {k a t : Int} (ha : 0 ≤ a ∧ a < 64) (ht : 0 ≤ t ∧ t < 64) : (takesM P k a t = -1 ∧ takesM Q k (acrossM a) (acrossM t) = -1) ∨ ((0 ≤ takesM P k a t ∧ takesM P k a t < 64) ∧ takesM Q k (acrossM a) (acrossM t) = acrossM (takesM P k a t)) := by
 have hb := atT_bd (P := P) (k := k) ha ht
 unfold takesM
 rw [at_turn T ha ht, empty_turn T hb]
 by_cases e : emptyM P (atT P k a t) = true
 ·rw [if_pos e, if_pos e]; exact .inl ⟨rfl, rfl⟩
 ·rw [if_neg e, if_neg e]; exact .inr ⟨hb, rfl⟩
theorem cast_bits : ∀ C : Fin 16, castT (C.val : Int) / 4 % 2 = (C.val : Int) / 1 % 2 ∧ castT (C.val : Int) / (2 * 4) % 2 = (C.val : Int) / (2 * 1) % 2 ∧ castT (C.val : Int) / 1 % 2 = (C.val : Int) / 4 % 2 ∧ castT (C.val : Int) / (2 * 1) % 2 = (C.val : Int) / (2 * 4) % 2 := by decide +kernel
theorem castling_turn {k a t c C : Int} (hc : c = 0 ∨ c = 1) (hC : 0 ≤ C ∧ C ≤ 15) (ha : 0 ≤ a ∧ a < 64) (ht : 0 ≤ t ∧ t < 64) : castlingM k (acrossM a) (acrossM t) (1 - c) (castT C) = castlingM k a t c C := by
 obtain ⟨n, rfl⟩ : ∃ n : Nat, C = n := ⟨C.toNat, by omega⟩
 have ⟨b1, b2, b3, b4⟩ := cast_bits ⟨n, by omega⟩
 simp only at b1 b2 b3 b4
 rcases hc with rfl | rfl
 ·have e1 : shortM (1 - 0) = 4 := rfl
  have e2 : shortM 0 = 1 := rfl
  unfold castlingM acrossM
  rw [e1, e2]
  have q1 : (k = 6 ∧ (7 - a / 8) * 8 + a % 8 = 56 * (1 - 0) + 4 ∧ (7 - t / 8) * 8 + t % 8 = (7 - a / 8) * 8 + a % 8 + 2 ∧ castT (n : Int) / 4 % 2 = 1) ↔ (k = 6 ∧ a = 56 * 0 + 4 ∧ t = a + 2 ∧ (n : Int) / 1 % 2 = 1) := by rw [b1]; omega
  have q2 : (k = 6 ∧ (7 - a / 8) * 8 + a % 8 = 56 * (1 - 0) + 4 ∧ (7 - t / 8) * 8 + t % 8 = (7 - a / 8) * 8 + a % 8 - 2 ∧ castT (n : Int) / (2 * 4) % 2 = 1) ↔ (k = 6 ∧ a = 56 * 0 + 4 ∧ t = a - 2 ∧ (n : Int) / (2 * 1) % 2 = 1) := by rw [b2]; omega
  simp only [q1, q2]
 ·have e1 : shortM (1 - 1) = 1 := rfl
  have e2 : shortM 1 = 4 := rfl
  unfold castlingM acrossM
  rw [e1, e2]
  have q1 : (k = 6 ∧ (7 - a / 8) * 8 + a % 8 = 56 * (1 - 1) + 4 ∧ (7 - t / 8) * 8 + t % 8 = (7 - a / 8) * 8 + a % 8 + 2 ∧ castT (n : Int) / 1 % 2 = 1) ↔ (k = 6 ∧ a = 56 * 1 + 4 ∧ t = a + 2 ∧ (n : Int) / 4 % 2 = 1) := by rw [b3]; omega
  have q2 : (k = 6 ∧ (7 - a / 8) * 8 + a % 8 = 56 * (1 - 1) + 4 ∧ (7 - t / 8) * 8 + t % 8 = (7 - a / 8) * 8 + a % 8 - 2 ∧ castT (n : Int) / (2 * 1) % 2 = 1) ↔ (k = 6 ∧ a = 56 * 1 + 4 ∧ t = a - 2 ∧ (n : Int) / (2 * 4) % 2 = 1) := by rw [b4]; omega
  simp only [q1, q2]
theorem turned_if {B C X Y : Nat → Int} {w w' : Int} (h : Turned B C 64) (hw : (w = -1 ∧ w' = -1) ∨ ((0 ≤ w ∧ w < 64) ∧ w' = acrossM w)) : Turned (brd1 B w) (brd1 C w') 64 := by
 unfold brd1
 rcases hw with ⟨rfl, rfl⟩ | ⟨hw, rfl⟩
 ·rw [if_neg (by decide), if_neg (by decide)]; exact h
 ·have := across_bd hw
  rw [if_pos hw.1, if_pos this.1]
  exact turned_put h hw rfl rfl
theorem brd_turn {P Q : Nat → Int} {w w' a t k c b g : Int} (h : Turned P Q 64) (hw : (w = -1 ∧ w' = -1) ∨ ((0 ≤ w ∧ w < 64) ∧ w' = acrossM w)) (ha : 0 ≤ a ∧ a < 64) (ht : 0 ≤ t ∧ t < 64) (hk : 1 ≤ k ∧ k ≤ 6) (hc : c = 0 ∨ c = 1) (hb : b = 0 ∨ (2 ≤ b ∧ b ≤ 5)) (hg : g ≠ 0 → a = 56 * c + 4) :
  Turned (brd4 P w a t k c b g) (brd4 Q w' (acrossM a) (acrossM t) k (1 - c) b g) 64 := by
 have h3 : Turned (brd3 P w a t k c b) (brd3 Q w' (acrossM a) (acrossM t) k (1 - c) b) 64 := by
  unfold brd3 brd2
  refine turned_put (turned_put (turned_if (X := nopc) (Y := nopc) h hw) ha rfl rfl) ht rfl ?_
  show 1 - c = sideT (if b = 0 then k else b) c
  rw [sideT_may (by split <;> omega) hc]
 unfold brd4
 by_cases g1 : g = 1
 ·have hh := hg (by omega)
  rw [if_pos g1, if_pos g1, show acrossM a + 3 = acrossM (a + 3) by unfold acrossM; omega, show acrossM a + 1 = acrossM (a + 1) by unfold acrossM; omega]
  exact turned_put (turned_put h3 (by omega) rfl rfl) (by omega) rfl (sideT_may (k := 4) (by omega) hc).symm
 ·rw [if_neg g1, if_neg g1]
  by_cases g2 : g = -1
  ·have hh := hg (by omega)
   rw [if_pos g2, if_pos g2, show acrossM a - 4 = acrossM (a - 4) by unfold acrossM; omega, show acrossM a - 1 = acrossM (a - 1) by unfold acrossM; omega]
   exact turned_put (turned_put h3 (by omega) rfl rfl) (by omega) rfl (sideT_may (k := 4) (by omega) hc).symm
  ·rw [if_neg g2, if_neg g2]; exact h3
theorem lost_acr : ∀ s : Fin 64, lostM (acrossM (s.val : Int)) = castT (lostM (s.val : Int)) := by decide +kernel
theorem lost_turn {s : Int} (h : 0 ≤ s ∧ s < 64) : lostM (acrossM s) = castT (lostM s) := by
 obtain ⟨n, rfl⟩ : ∃ n : Nat, s = n := ⟨s.toNat, by omega⟩
 exact lost_acr ⟨n, by omega⟩
theorem andNot_bits : ∀ C : Fin 16, ∀ x ∈ [0, 1, 2, 3, 4, 8, 12], ∀ y ∈ [0, 1, 2, 3, 4, 8, 12], andNotM (castT (C.val : Int)) (orM (orM 0 (castT x)) (castT y)) = castT (andNotM (C.val : Int) (orM (orM 0 x) y)) := by decide +kernel
theorem andNot_turn {C a t : Int} (hC : 0 ≤ C ∧ C ≤ 15) (ha : 0 ≤ a ∧ a < 64) (ht : 0 ≤ t ∧ t < 64) : andNotM (castT C) (orM (orM 0 (lostM (acrossM a))) (lostM (acrossM t))) = castT (andNotM C (orM (orM 0 (lostM a)) (lostM t))) := by
 rw [lost_turn ha, lost_turn ht]
 obtain ⟨n, rfl⟩ : ∃ n : Nat, C = n := ⟨C.toNat, by omega⟩
 exact andNot_bits ⟨n, by omega⟩ _ (lost_in a) _ (lost_in t)
theorem cast_turn {P Q : Nat → Int} (T : TurnOf P Q) : castM Q = castT (castM P) := by
 by_cases h : 0 ≤ P 129 ∧ P 129 ≤ 15
 ·have e : castT (P 129) = P 129 / 4 + P 129 % 4 * 4 := if_pos h
  have f : castM P = P 129 := if_neg (by omega)
  rw [f]
  show (if Q 129 < 0 ∨ 15 < Q 129 then 0 else Q 129) = _
  rw [T.castle, if_neg (by rw [e]; omega)]
 ·have e : castT (P 129) = P 129 := if_neg h
  have f : castM P = 0 := if_pos (by omega)
  rw [f]
  show (if Q 129 < 0 ∨ 15 < Q 129 then 0 else Q 129) = _
  rw [T.castle, e, if_pos (by omega)]; rfl
theorem over_turn {k a t c : Int} (hc : c = 0 ∨ c = 1) (ha : 0 ≤ a ∧ a < 64) (ht : 0 ≤ t ∧ t < 64) : overM k (acrossM a) (acrossM t) (1 - c) = overT (overM k a t c) := by
 have hl : longM k (acrossM a) (acrossM t) (1 - c) = longM k a t c := by
  unfold longM acrossM
  rw [Bool.eq_iff_iff, decide_eq_true_eq, decide_eq_true_eq]
  omega
 unfold overM
 rw [hl]
 by_cases h : longM k a t c = true
 ·have h2 := of_decide_eq_true h
  rw [if_pos h, if_pos h, overT, if_pos (show isM ((a + t) / 2) = true from decide_eq_true (by omega))]
  unfold acrossM
  omega
 ·rw [if_neg h, if_neg h]; rfl
theorem move_turn {P Q S : Nat → Int} (T : TurnOf P Q) (hs : P 128 = 0 ∨ P 128 = 1) {a t b : Int} (he : errM P a t b = 0) (ha : 0 ≤ a ∧ a < 64) (ht : 0 ≤ t ∧ t < 64) (U : TurnOf (ovA (fun _ => 0) 0 133 (moveM P a t b)) S) :
  ∀ i, i < 133 → i ≠ 132 → S i = moveM Q (acrossM a) (acrossM t) b i := by
 have hcan := (errM_zero he).2
 have hk := canM_kind hcan
 have hc := canM_side hcan
 have hb : b = 0 ∨ (2 ≤ b ∧ b ≤ 5) := by
  have := (of_decide_eq_true hcan).2.2.2.2
  split at this
  ·exact .inr this
  ·exact .inl this
 have ⟨tk, tc⟩ := turn_k T.sq ha
 rw [sideT_may hk hc] at tc
 have e0 : ovA (fun _ => 0) 0 133 (moveM P a t b) = moveM P a t b := ovA_id fun i hi => moveM_out hi
 rw [e0] at U
 have hP : moveM P a t b = afterM P (P (sqI a)) (P (sqI a + 1)) a t b (castM P) := by unfold moveM; rw [if_pos he]
 have hQ : moveM Q (acrossM a) (acrossM t) b = afterM Q (P (sqI a)) (1 - P (sqI a + 1)) (acrossM a) (acrossM t) b (castT (castM P)) := by
  unfold moveM; rw [if_pos (by rw [err_turn T hs ha ht]; exact he), tk, tc, cast_turn T]
 have hw := takes_turn T (k := P (sqI a)) ha ht
 rw [hP] at U
 rw [hQ]
 have hbr := brd_turn (b := b) T.sq hw ha ht hk hc hb (castling_a (k := P (sqI a)) (a := a) (t := t) (c := P (sqI a + 1)) (C := castM P))
 have hcg := castling_turn (k := P (sqI a)) (t := t) hc (castM_bd P) ha ht
 intro i hi hn
 have lo : ∀ i, i < 128 → S i = brd4 Q (takesM Q (P (sqI a)) (acrossM a) (acrossM t)) (acrossM a) (acrossM t) (P (sqI a)) (1 - P (sqI a + 1)) b (castlingM (P (sqI a)) a t (P (sqI a + 1)) (castM P)) i := by
  refine turned_uniq (P := brd4 P (takesM P (P (sqI a)) a t) a t (P (sqI a)) (P (sqI a + 1)) b (castlingM (P (sqI a)) a t (P (sqI a + 1)) (castM P))) ?_ hbr
  intro s hs2
  have := U.sq s hs2
  unfold afterM at this
  rw [if_pos (by omega), if_pos (by omega)] at this
  exact this
 unfold afterM
 by_cases h1 : i < 128
 ·rw [if_pos h1, hcg]; exact lo i h1
 ·rw [if_neg h1]
  have hcs : i = 128 ∨ i = 129 ∨ i = 130 ∨ i = 131 := by omega
  rcases hcs with rfl | rfl | rfl | rfl
  ·rw [if_pos rfl, U.side, T.side]; rfl
  ·rw [if_neg (by decide), if_pos rfl, U.castle, andNot_turn (castM_bd P) ha ht]; rfl
  ·rw [if_neg (by decide), if_neg (by decide), if_pos rfl, U.over, over_turn hc ha ht]; rfl
  ·rw [if_neg (by decide), if_neg (by decide), if_neg (by decide), if_pos rfl, U.half]
   show halfM P (P (sqI a)) (takesM P (P (sqI a)) a t) = _
   unfold halfM
   rw [T.half]
   rcases hw with ⟨x, y⟩ | ⟨x, y⟩
   ·rw [x, y]
   ·have := across_bd x
    by_cases q : P (sqI a) = 1
    ·rw [if_pos (.inl q), if_pos (.inl q)]
    ·rw [if_pos (.inr x.1), if_pos (.inr (by rw [y]; exact this.1))]
theorem TurnX_ex (P : Nat → Int) : ∃ Q, TurnOf P Q ∧ RF AM 24 [.agg 133 (ia P)] (.agg 133 (ia Q)) := by
 obtain ⟨v, σ, _, _, h, _, Q, hQ, rfl⟩ := Turn_run P
 exact ⟨Q, hQ, σ, h⟩
def sumB (g : Nat → Int) : Nat → Int
 | 0 => 0
 | n + 1 => sumB g n + g n
theorem sumB_same {g h : Nat → Int} : ∀ (n : Nat), (∀ s, s < n → g s = h s) → sumB g n = sumB h n
 | 0, _ => rfl
 | n + 1, e => by
  show sumB g n + g n = sumB h n + h n
  rw [sumB_same n (fun s hs => e s (by omega)), e n (by omega)]
theorem sumB_acr (f : Nat → Int) : sumB (fun s => f (acr s)) 64 = sumB f 64 := by
 show ((((((((((((((((((((((((((((((((((((((((((((((((((((((((((((((((0 + f 56) + f 57) + f 58) + f 59) + f 60) + f 61) + f 62) + f 63) + f 48) + f 49) + f 50) + f 51) + f 52) + f 53) + f 54) + f 55) + f 40) + f 41) + f 42) + f 43) + f 44) + f 45) + f 46) + f 47) + f 32) + f 33) + f 34) + f 35) + f 36) + f 37) + f 38) + f 39) + f 24) + f 25) + f 26) + f 27) + f 28) + f 29) + f 30) + f 31) + f 16) + f 17) + f 18) + f 19) + f 20) + f 21) + f 22) + f 23) + f 8) + f 9) + f 10) + f 11) + f 12) + f 13) + f 14) + f 15) + f 0) + f 1) + f 2) + f 3) + f 4) + f 5) + f 6) + f 7) = ((((((((((((((((((((((((((((((((((((((((((((((((((((((((((((((((0 + f 0) + f 1) + f 2) + f 3) + f 4) + f 5) + f 6) + f 7) + f 8) + f 9) + f 10) + f 11) + f 12) + f 13) + f 14) + f 15) + f 16) + f 17) + f 18) + f 19) + f 20) + f 21) + f 22) + f 23) + f 24) + f 25) + f 26) + f 27) + f 28) + f 29) + f 30) + f 31) + f 32) + f 33) + f 34) + f 35) + f 36) + f 37) + f 38) + f 39) + f 40) + f 41) + f 42) + f 43) + f 44) + f 45) + f 46) + f 47) + f 48) + f 49) + f 50) + f 51) + f 52) + f 53) + f 54) + f 55) + f 56) + f 57) + f 58) + f 59) + f 60) + f 61) + f 62) + f 63)
 omega
theorem kM_sum (P : Nat → Int) (c : Int) : ∀ n : Nat, kM P c n = sumB (fun s => if P (s * 2) = 6 ∧ P (s * 2 + 1) = c then 1 else 0) n
 | 0 => rfl
 | n + 1 => by
  show kM P c n + (if P (0 + (n : Int).toNat * 2) = 6 ∧ P (0 + (n : Int).toNat * 2 + 1) = c then 1 else 0) = sumB _ n + (if P (n * 2) = 6 ∧ P (n * 2 + 1) = c then 1 else 0)
  rw [kM_sum P c n, show 0 + (n : Int).toNat * 2 = n * 2 by omega]
def Clean (P : Nat → Int) : Prop := ∀ s : Nat, s < 64 → (P (s * 2) = 0 ∧ P (s * 2 + 1) = 0) ∨ (1 ≤ P (s * 2) ∧ P (s * 2) ≤ 6 ∧ (P (s * 2 + 1) = 0 ∨ P (s * 2 + 1) = 1))
theorem sqI_nat (s : Nat) : sqI (s : Int) = s * 2 := by show 0 + (s : Int).toNat * 2 = _; omega
theorem cell_turn {P Q : Nat → Int} (T : TurnOf P Q) (hP : Clean P) {s : Nat} (hs : s < 64) : Q (acr s * 2) = P (s * 2) ∧ ((P (s * 2) = 0 ∧ P (s * 2 + 1) = 0 ∧ Q (acr s * 2 + 1) = 0) ∨ ((1 ≤ P (s * 2) ∧ P (s * 2) ≤ 6 ∧ (P (s * 2 + 1) = 0 ∨ P (s * 2 + 1) = 1)) ∧ Q (acr s * 2 + 1) = 1 - P (s * 2 + 1))) := by
 obtain ⟨h1, h2⟩ := T.sq s hs
 refine ⟨h1, ?_⟩
 rcases hP s hs with h | h
 ·refine .inl ⟨h.1, h.2, ?_⟩
  rw [h2, sideT, if_neg (by rw [mayM, decide_eq_false (by omega)]; decide)]; exact h.2
 ·refine .inr ⟨h, ?_⟩
  rw [h2, sideT, if_pos (show mayM _ _ = true from decide_eq_true h)]
  unfold otherM; split <;> omega
theorem acr_acr2 {s : Nat} (h : s < 64) : acr (acr s) = s := by unfold acr; omega
theorem turn_back {P Q R : Nat → Int} (T : TurnOf P Q) (U : TurnOf Q R) (hP : Clean P) (hs : P 128 = 0 ∨ P 128 = 1) : ∀ i, i < 133 → R i = P i := by
 intro i hi
 by_cases a : i < 128
 ·have hl := acr_lt (s := i / 2) (by omega)
  obtain ⟨u1, u2⟩ := U.sq (acr (i / 2)) hl
  obtain ⟨t1, t2⟩ := cell_turn T hP (s := i / 2) (by omega)
  rw [acr_acr2 (by omega)] at u1 u2
  by_cases e : i % 2 = 0
  ·rw [show i = i / 2 * 2 by omega, u1, t1]
  ·rw [show i = i / 2 * 2 + 1 by omega, u2, t1]
   rcases t2 with ⟨h0, h1, h2⟩ | ⟨h0, h2⟩
   ·rw [h2, h1, h0, sideT, if_neg (by decide)]
   ·rw [sideT, if_pos (show mayM _ _ = true from decide_eq_true ⟨h0.1, h0.2.1, by omega⟩), h2]
    unfold otherM; split <;> omega
 ·have : i = 128 ∨ i = 129 ∨ i = 130 ∨ i = 131 ∨ i = 132 := by omega
  rcases this with rfl | rfl | rfl | rfl | rfl
  ·rw [U.side, T.side]; unfold otherM; split <;> split <;> omega
  ·rw [U.castle, T.castle]; unfold castT; split <;> (try split) <;> omega
  ·rw [U.over, T.over]; unfold overT
   by_cases h : isM (P 130) = true
   ·have h' := of_decide_eq_true h
    rw [if_pos h, if_pos (show isM (acrossM (P 130)) = true from decide_eq_true (by unfold acrossM; omega))]
    unfold acrossM; omega
   ·rw [if_neg h, if_neg h]
  ·rw [U.half, T.half]
  ·rw [U.full, T.full]
theorem ok_turn {P Q : Nat → Int} (T : TurnOf P Q) (hP : Clean P) : (∀ s : Nat, s < 64 → okM Q s) ↔ (∀ s : Nat, s < 64 → okM P s) := by
 have one : ∀ s : Nat, s < 64 → (okM Q (acr s) ↔ okM P s) := fun s hs => by
  have hl := acr_lt hs
  obtain ⟨t1, t2⟩ := cell_turn T hP hs
  unfold okM
  rw [sqI_nat, sqI_nat, t1]
  have e : (acr s < 8 ∨ 56 ≤ acr s) ↔ (s < 8 ∨ 56 ≤ s) := by unfold acr; omega
  rw [e]
  omega
 constructor
 ·intro h s hs; exact (one s hs).1 (h _ (acr_lt hs))
 ·intro h s hs
  have := (one (acr s) (acr_lt hs)).2 (h _ (acr_lt hs))
  rwa [acr_acr2 hs] at this
theorem kings_turn {P Q : Nat → Int} (T : TurnOf P Q) (hP : Clean P) {c : Int} (hc : c = 0 ∨ c = 1) : kM Q c 64 = kM P (1 - c) 64 := by
 rw [kM_sum, kM_sum, ← sumB_acr]
 refine sumB_same 64 fun s hs => ?_
 obtain ⟨t1, t2⟩ := cell_turn T hP hs
 show (if Q (acr s * 2) = 6 ∧ Q (acr s * 2 + 1) = c then (1 : Int) else 0) = (if P (s * 2) = 6 ∧ P (s * 2 + 1) = 1 - c then 1 else 0)
 rw [t1]
 by_cases h : P (s * 2) = 6 ∧ P (s * 2 + 1) = 1 - c
 ·rw [if_pos h, if_pos (by omega)]
 ·rw [if_neg h, if_neg (by omega)]
theorem stand_turn {P Q : Nat → Int} (T : TurnOf P Q) (hP : Clean P) {s : Nat} (hs : s < 64) {k c c' : Int} (hk : (k = 0 ∧ c = 0 ∧ c' = 0) ∨ (1 ≤ k ∧ (c = 0 ∨ c = 1) ∧ c' = 1 - c)) : (Q (acr s * 2) = k ∧ Q (acr s * 2 + 1) = c') ↔ (P (s * 2) = k ∧ P (s * 2 + 1) = c) := by
 obtain ⟨t1, t2⟩ := cell_turn T hP hs
 rw [t1]
 omega
theorem home_turn {P Q : Nat → Int} (T : TurnOf P Q) (hP : Clean P) {c : Int} (hc : c = 0 ∨ c = 1) {a b : Nat} (ha : a < 64) (hb : b < 64) {x y : Int} (hx : x = (acr a : Nat)) (hy : y = (acr b : Nat)) : (homeM Q (1 - c) x y = true) ↔ (homeM P c a b = true) := by
 subst hx; subst hy
 unfold homeM
 rw [sqI_nat, sqI_nat, sqI_nat, sqI_nat, decide_eq_true_eq, decide_eq_true_eq]
 have h1 := stand_turn T hP ha (k := 6) (c := c) (c' := 1 - c) (.inr ⟨by omega, hc, rfl⟩)
 have h2 := stand_turn T hP hb (k := 4) (c := c) (c' := 1 - c) (.inr ⟨by omega, hc, rfl⟩)
 constructor
 ·rintro ⟨a1, a2, a3, a4⟩
  have := h1.1 ⟨a1, a2⟩; have := h2.1 ⟨a3, a4⟩
  exact ⟨by omega, by omega, by omega, by omega⟩
 ·rintro ⟨a1, a2, a3, a4⟩
  have := h1.2 ⟨a1, a2⟩; have := h2.2 ⟨a3, a4⟩
  exact ⟨by omega, by omega, by omega, by omega⟩
theorem castles_turn {P Q : Nat → Int} (T : TurnOf P Q) (hP : Clean P) : castlesM Q = castlesM P := by
 unfold castlesM
 have w1 := home_turn T hP (c := 0) (.inl rfl) (a := 4) (b := 7) (by omega) (by omega) (x := 60) (y := 63) rfl rfl
 have w2 := home_turn T hP (c := 0) (.inl rfl) (a := 4) (b := 0) (by omega) (by omega) (x := 60) (y := 56) rfl rfl
 have b1 := home_turn T hP (c := 1) (.inr rfl) (a := 60) (b := 63) (by omega) (by omega) (x := 4) (y := 7) rfl rfl
 have b2 := home_turn T hP (c := 1) (.inr rfl) (a := 60) (b := 56) (by omega) (by omega) (x := 4) (y := 0) rfl rfl
 have w1' : homeM Q 1 60 63 = true ↔ homeM P 0 4 7 = true := w1
 have w2' : homeM Q 1 60 56 = true ↔ homeM P 0 4 0 = true := w2
 have b1' : homeM Q 0 4 7 = true ↔ homeM P 1 60 63 = true := b1
 have b2' : homeM Q 0 4 0 = true ↔ homeM P 1 60 56 = true := b2
 rw [Bool.eq_iff_iff, decide_eq_true_eq, decide_eq_true_eq, w1', w2', b1', b2', T.castle]
 generalize (homeM P 0 4 7 = true) = h1
 generalize (homeM P 0 4 0 = true) = h2
 generalize (homeM P 1 60 63 = true) = h3
 generalize (homeM P 1 60 56 = true) = h4
 generalize P 129 = c
 unfold castT
 by_cases hc : 0 ≤ c ∧ c ≤ 15
 ·rw [if_pos hc]
  have e1 : (c / 4 + c % 4 * 4) % 2 = 0 ↔ c / 4 % 2 = 0 := by omega
  have e2 : (c / 4 + c % 4 * 4) / 2 % 2 = 0 ↔ c / 8 = 0 := by omega
  have e3 : (c / 4 + c % 4 * 4) / 4 % 2 = 0 ↔ c % 2 = 0 := by omega
  have e4 : (c / 4 + c % 4 * 4) / 8 = 0 ↔ c / 2 % 2 = 0 := by omega
  rw [e1, e2, e3, e4]
  constructor
  ·rintro ⟨_, a1, a2, a3, a4⟩; exact ⟨hc, a3, a4, a1, a2⟩
  ·rintro ⟨_, a1, a2, a3, a4⟩; exact ⟨by omega, a3, a4, a1, a2⟩
 ·rw [if_neg hc]
  constructor
  ·rintro ⟨a, _⟩; exact absurd a hc
  ·rintro ⟨a, _⟩; exact absurd a hc
theorem over_ok_turn {P Q : Nat → Int} (T : TurnOf P Q) (hP : Clean P) (hs : P 128 = 0 ∨ P 128 = 1) : overOK Q = overOK P := by
 unfold overOK
 rw [Bool.eq_iff_iff, decide_eq_true_eq, decide_eq_true_eq, T.half, T.side, T.over]
 unfold overT
 by_cases h : 0 ≤ P 130 ∧ P 130 < 64
 ·rw [if_pos (show isM (P 130) = true from decide_eq_true h)]
  obtain ⟨x, hx⟩ : ∃ x : Nat, P 130 = x := ⟨(P 130).toNat, by omega⟩
  rw [hx] at h ⊢
  have hxx : x < 64 := by omega
  have hac : acrossM (x : Int) = (acr x : Nat) := by unfold acrossM acr; omega
  have hal := acr_lt hxx
  have ho : otherM (P 128) = 1 - P 128 := by unfold otherM; split <;> omega
  have st : ∀ (s : Nat) (k c c' : Int), s < 64 → ((k = 0 ∧ c = 0 ∧ c' = 0) ∨ (1 ≤ k ∧ (c = 0 ∨ c = 1) ∧ c' = 1 - c)) → ((standM Q (acr s : Nat) k c' = true) ↔ (standM P (s : Nat) k c = true)) := fun s k c c' hs hk => by
   unfold standM
   rw [sqI_nat, sqI_nat, decide_eq_true_eq, decide_eq_true_eq]
   exact stand_turn T hP hs hk
  rw [hac, ho]
  have hz := st x 0 0 0 hxx (.inl ⟨rfl, rfl, rfl⟩)
  rw [hz]
  by_cases r2 : x / 8 = 2
  ·have e1 : ((acr x : Nat) : Int) + 8 = (acr (x - 8) : Nat) := by unfold acr; omega
   have e2 : ((acr x : Nat) : Int) - 8 = (acr (x + 8) : Nat) := by unfold acr; omega
   have e3 : (x : Int) - 8 = ((x - 8 : Nat) : Int) := by omega
   have e4 : (x : Int) + 8 = ((x + 8 : Nat) : Int) := by omega
   rw [e1, e2, e3, e4, st (x - 8) 0 0 0 (by omega) (.inl ⟨rfl, rfl, rfl⟩), st (x + 8) 1 0 1 (by omega) (.inr ⟨by omega, .inl rfl, rfl⟩)]
   have q1 : ((acr x : Nat) : Int) / 8 = 5 := by unfold acr; omega
   have q2 : (x : Int) / 8 = 2 := by omega
   rw [q1, q2]
   constructor
   ·rintro (a | ⟨a, b, (⟨c1, c2, _⟩ | ⟨c1, _, c3, c4, c5⟩)⟩)
    ·omega
    ·omega
    ·exact .inr ⟨h, b, .inl ⟨by omega, rfl, c3, c4, c5⟩⟩
   ·rintro (a | ⟨a, b, (⟨c1, _, c3, c4, c5⟩ | ⟨c1, c2, _⟩)⟩)
    ·omega
    ·exact .inr ⟨by omega, b, .inr ⟨by omega, rfl, c3, c4, c5⟩⟩
    ·omega
  ·by_cases r5 : x / 8 = 5
   ·have e1 : ((acr x : Nat) : Int) - 8 = (acr (x + 8) : Nat) := by unfold acr; omega
    have e2 : ((acr x : Nat) : Int) + 8 = (acr (x - 8) : Nat) := by unfold acr; omega
    have e3 : (x : Int) - 8 = ((x - 8 : Nat) : Int) := by omega
    have e4 : (x : Int) + 8 = ((x + 8 : Nat) : Int) := by omega
    rw [e1, e2, e3, e4, st (x + 8) 0 0 0 (by omega) (.inl ⟨rfl, rfl, rfl⟩), st (x - 8) 1 1 0 (by omega) (.inr ⟨by omega, .inr rfl, rfl⟩)]
    have q1 : ((acr x : Nat) : Int) / 8 = 2 := by unfold acr; omega
    have q2 : (x : Int) / 8 = 5 := by omega
    rw [q1, q2]
    constructor
    ·rintro (a | ⟨a, b, (⟨c1, _, c3, c4, c5⟩ | ⟨c1, c2, _⟩)⟩)
     ·omega
     ·exact .inr ⟨h, b, .inr ⟨by omega, rfl, c3, c4, c5⟩⟩
     ·omega
    ·rintro (a | ⟨a, b, (⟨c1, c2, _⟩ | ⟨c1, _, c3, c4, c5⟩)⟩)
     ·omega
     ·omega
     ·exact .inr ⟨by omega, b, .inl ⟨by omega, rfl, c3, c4, c5⟩⟩
   ·have q1 : ¬ ((acr x : Nat) : Int) / 8 = 2 := by unfold acr; omega
    have q2 : ¬ ((acr x : Nat) : Int) / 8 = 5 := by unfold acr; omega
    constructor
    ·rintro (a | ⟨a, b, (⟨_, c2, _⟩ | ⟨_, c2, _⟩)⟩)
     ·omega
     ·exact absurd c2 q1
     ·exact absurd c2 q2
    ·rintro (a | ⟨a, b, (⟨_, c2, _⟩ | ⟨_, c2, _⟩)⟩) <;> omega
 ·rw [if_neg (show ¬ isM (P 130) = true from fun e => h (of_decide_eq_true e))]
  constructor
  ·rintro (a | ⟨a, _⟩)
   ·exact .inl a
   ·exact absurd a h
  ·rintro (a | ⟨a, _⟩)
   ·exact .inl a
   ·exact absurd a h
theorem right_turn {P Q : Nat → Int} (T : TurnOf P Q) (hP : Clean P) (hs : P 128 = 0 ∨ P 128 = 1) : rightM Q = rightM P := by
 have hp : piecesM Q = piecesM P := by
  unfold piecesM
  rw [Bool.eq_iff_iff, decide_eq_true_eq, decide_eq_true_eq, ok_turn T hP, kings_turn T hP (c := 0) (.inl rfl), kings_turn T hP (c := 1) (.inr rfl), T.side]
  have ho : otherM (P 128) = 1 - P 128 := by unfold otherM; split <;> omega
  rw [ho]
  constructor
  ·rintro ⟨a, b, c, d⟩; exact ⟨a, c, b, hs⟩
  ·rintro ⟨a, b, c, d⟩; exact ⟨a, c, b, by omega⟩
 unfold rightM
 rw [hp, castles_turn T hP, over_ok_turn T hP hs, T.half, T.full]
end Go.Proofs.YtlkighkfkdpncaaGreat
set_option linter.unusedVariables false
set_option linter.unusedSimpArgs false
namespace Go.Proofs.YtlkighkfkdpncaaGreat
open Go Go.Am
theorem dcongr {p q : Prop} [Decidable p] [Decidable q] (h : p ↔ q) : decide p = decide q := decide_eq_decide.2 h
theorem across2 {x : Int} (h : 0 ≤ x ∧ x < 64) : acrossM (acrossM x) = x := by unfold acrossM; omega
theorem across_mod {x : Int} (h : 0 ≤ x ∧ x < 64) : acrossM x % 8 = x % 8 := by unfold acrossM; omega
theorem across_div {x : Int} (h : 0 ≤ x ∧ x < 64) : acrossM x / 8 = 7 - x / 8 := by unfold acrossM; omega
theorem across_eq {a b : Int} (ha : 0 ≤ a ∧ a < 64) (hb : 0 ≤ b ∧ b < 64) : acrossM a = acrossM b ↔ a = b := by unfold acrossM; omega
theorem abs_neg (a b : Int) : absM (7 - b - (7 - a)) = absM (b - a) := by unfold absM; split <;> split <;> omega
theorem line_turn {a b : Int} (ha : 0 ≤ a ∧ a < 64) (hb : 0 ≤ b ∧ b < 64) : lineM (acrossM a) (acrossM b) = lineM a b := by
 unfold lineM
 rw [across_mod ha, across_mod hb, across_div ha, across_div hb, Bool.eq_iff_iff, decide_eq_true_eq, decide_eq_true_eq]
 omega
theorem diag_turn {a b : Int} (ha : 0 ≤ a ∧ a < 64) (hb : 0 ≤ b ∧ b < 64) : diagM (acrossM a) (acrossM b) = diagM a b := by
 unfold diagM
 rw [across_mod ha, across_mod hb, across_div ha, across_div hb, abs_neg]
def betOK (a b : Int) : Bool := !(lineM a b || diagM a b) || (beqL (betM (acrossM a) (acrossM b)) ((betM a b).map acrossM) && (betM a b).all fun t => decide (0 ≤ t ∧ t < 64))
theorem bet_all : (all64 fun a => all64 fun b => betOK a b) = true := by decide +kernel
theorem open_bet (P : Nat → Int) (a b : Int) : openM P a b = (betM a b).all fun t => emptyM P t := by
 unfold openM betM
 rw [List.all_map]; rfl
theorem open_turn {P Q : Nat → Int} (T : TurnOf P Q) {a b : Int} (ha : 0 ≤ a ∧ a < 64) (hb : 0 ≤ b ∧ b < 64) (h : (lineM a b || diagM a b) = true) : openM Q (acrossM a) (acrossM b) = openM P a b := by
 obtain ⟨x, rfl⟩ := fin_of ha
 obtain ⟨y, rfl⟩ := fin_of hb
 have h1 := all64_at (all64_at bet_all x) y
 unfold betOK at h1
 rw [h, Bool.not_true, Bool.false_or, Bool.and_eq_true] at h1
 rw [open_bet, open_bet, beqL_is h1.1, List.all_map, Bool.eq_iff_iff, List.all_eq_true, List.all_eq_true]
 have hb := List.all_eq_true.1 h1.2
 constructor
 ·intro k t ht; rw [← empty_turn T (of_decide_eq_true (hb t ht))]; exact k t ht
 ·intro k t ht; show emptyM Q (acrossM t) = true; rw [empty_turn T (of_decide_eq_true (hb t ht))]; exact k t ht
theorem may_yes {k c : Int} (h : (1 ≤ k ∧ k ≤ 6) ∧ (c = 0 ∨ c = 1)) : mayM k c = true := decide_eq_true ⟨h.1.1, h.1.2, h.2⟩
theorem may_no {k c : Int} (h : ¬ ((1 ≤ k ∧ k ≤ 6) ∧ (c = 0 ∨ c = 1))) : mayM k c = false := decide_eq_false fun q => h ⟨⟨q.1, q.2.1⟩, q.2.2⟩
theorem side_turn {P Q : Nat → Int} (T : TurnOf P Q) {a : Int} (ha : 0 ≤ a ∧ a < 64) : Q (sqI (acrossM a)) = P (sqI a) ∧ (((1 ≤ P (sqI a) ∧ P (sqI a) ≤ 6) ∧ (P (sqI a + 1) = 0 ∨ P (sqI a + 1) = 1)) ∧ Q (sqI (acrossM a) + 1) = 1 - P (sqI a + 1) ∨ ¬ ((1 ≤ P (sqI a) ∧ P (sqI a) ≤ 6) ∧ (P (sqI a + 1) = 0 ∨ P (sqI a + 1) = 1)) ∧ Q (sqI (acrossM a) + 1) = P (sqI a + 1)) := by
 have ⟨hk, hc⟩ := turn_k T.sq ha
 refine ⟨hk, ?_⟩
 by_cases m : (1 ≤ P (sqI a) ∧ P (sqI a) ≤ 6) ∧ (P (sqI a + 1) = 0 ∨ P (sqI a + 1) = 1)
 ·exact .inl ⟨m, by rw [hc, sideT_may m.1 m.2]⟩
 ·exact .inr ⟨m, by rw [hc, sideT_not fun q => m ⟨⟨q.1, q.2.1⟩, q.2.2⟩]⟩
theorem att_turn {P Q : Nat → Int} (T : TurnOf P Q) {a b : Int} (ha : 0 ≤ a ∧ a < 64) (hb : 0 ≤ b ∧ b < 64) : attM Q (acrossM a) (acrossM b) = attM P a b := by
 obtain ⟨hk, hs⟩ := side_turn T ha
 have lo : (lineM a b && openM Q (acrossM a) (acrossM b)) = (lineM a b && openM P a b) := by
  cases e : lineM a b with
  | false => rfl
  | true => rw [open_turn T ha hb (by rw [e]; rfl)]
 have dg : (diagM a b && openM Q (acrossM a) (acrossM b)) = (diagM a b && openM P a b) := by
  cases e : diagM a b with
  | false => rfl
  | true => rw [open_turn T ha hb (by rw [e, Bool.or_true])]
 have ld : ((lineM a b || diagM a b) && openM Q (acrossM a) (acrossM b)) = ((lineM a b || diagM a b) && openM P a b) := by
  cases e : (lineM a b || diagM a b) with
  | false => rfl
  | true => rw [open_turn T ha hb e]
 unfold attM
 rw [hk]
 rcases hs with ⟨m, hs⟩ | ⟨m, hs⟩
 ·rw [hs]
  unfold attK
  rw [may_yes m, may_yes (k := P (sqI a)) (c := 1 - P (sqI a + 1)) ⟨m.1, by omega⟩]
  by_cases q : a = b
  ·rw [if_pos (.inr (by rw [q])), if_pos (.inr q)]
  ·rw [if_neg (show ¬ (true = false ∨ acrossM a = acrossM b) from fun h => h.elim (fun h => Bool.noConfusion h) fun h => q ((across_eq ha hb).1 h)), if_neg (show ¬ (true = false ∨ a = b) from fun h => h.elim (fun h => Bool.noConfusion h) q)]
   rw [line_turn ha hb, diag_turn ha hb, across_mod ha, across_mod hb, across_div ha, across_div hb, abs_neg, lo, dg, ld]
   rw [dcongr (show (absM (b % 8 - a % 8) = 1 ∧ 7 - b / 8 - (7 - a / 8) = 1 - 2 * (1 - P (sqI a + 1))) ↔ (absM (b % 8 - a % 8) = 1 ∧ b / 8 - a / 8 = 1 - 2 * P (sqI a + 1)) by omega)]
 ·rw [hs]
  unfold attK
  rw [if_pos (.inl (may_no m)), if_pos (.inl (may_no m))]
theorem att_may {P : Nat → Int} {a b : Int} (h : attM P a b = true) : (1 ≤ P (sqI a) ∧ P (sqI a) ≤ 6) ∧ (P (sqI a + 1) = 0 ∨ P (sqI a + 1) = 1) := by
 unfold attM attK at h
 by_cases m : (1 ≤ P (sqI a) ∧ P (sqI a) ≤ 6) ∧ (P (sqI a + 1) = 0 ∨ P (sqI a + 1) = 1)
 ·exact m
 ·rw [if_pos (.inl (may_no m))] at h; cases h
theorem hit_is {P : Nat → Int} {c a s : Int} (ha : 0 ≤ a ∧ a < 64) (hs : 0 ≤ s ∧ s < 64) : hitM P c s a = true ↔ P (sqI a + 1) = c ∧ attM P a s = true := by
 unfold hitM
 rw [Bool.and_eq_true, decide_eq_true_eq, decide_eq_true_eq, from_att ha hs]
theorem isBy_is {P : Nat → Int} {c s : Int} (hs : 0 ≤ s ∧ s < 64) : isByM P c s = true ↔ ∃ a, (0 ≤ a ∧ a < 64) ∧ P (sqI a + 1) = c ∧ attM P a s = true := by
 unfold isByM
 rw [List.any_eq_true]
 constructor
 ·rintro ⟨a, ha, h⟩; exact ⟨a, mem64.1 ha, (hit_is (mem64.1 ha) hs).1 h⟩
 ·rintro ⟨a, ha, h⟩; exact ⟨a, mem64.2 ha, (hit_is ha hs).2 h⟩
theorem isBy_turn {P Q : Nat → Int} (T : TurnOf P Q) {c s : Int} (hs : 0 ≤ s ∧ s < 64) : isByM Q (1 - c) (acrossM s) = isByM P c s := by
 rw [Bool.eq_iff_iff, isBy_is hs, isBy_is (across_bd hs)]
 constructor
 ·rintro ⟨a, ha, h1, h2⟩
  have hb := across_bd ha
  rw [← across2 ha] at h1 h2
  rw [att_turn T hb hs] at h2
  obtain ⟨_, h3⟩ := side_turn T hb
  have m := att_may h2
  refine ⟨acrossM a, hb, ?_, h2⟩
  rcases h3 with ⟨_, h3⟩ | ⟨h3, _⟩
  ·omega
  ·exact absurd m h3
 ·rintro ⟨a, ha, h1, h2⟩
  refine ⟨acrossM a, across_bd ha, ?_, by rw [att_turn T ha hs]; exact h2⟩
  obtain ⟨_, h3⟩ := side_turn T ha
  rcases h3 with ⟨_, h3⟩ | ⟨h3, _⟩
  ·omega
  ·exact absurd (att_may h2) h3
theorem find_mem {P : Nat → Int} {c x : Int} : x ∈ findL P (kingX c) ↔ (0 ≤ x ∧ x < 64) ∧ P (sqI x) = 6 ∧ P (sqI x + 1) = c := by
 unfold findL
 rw [List.mem_filter, mem64]
 unfold isX
 rw [decide_eq_true_eq]
 exact Iff.rfl
theorem check_is {P : Nat → Int} {c : Int} (hc : c = 0 ∨ c = 1) : checkM P c = true ↔ ∃ x, ((0 ≤ x ∧ x < 64) ∧ P (sqI x) = 6 ∧ P (sqI x + 1) = c) ∧ isByM P (1 - c) x = true := by
 unfold checkM
 rw [if_pos hc, other0 hc, List.any_eq_true]
 constructor
 ·rintro ⟨x, hx, h⟩; exact ⟨x, find_mem.1 hx, h⟩
 ·rintro ⟨x, hx, h⟩; exact ⟨x, find_mem.2 hx, h⟩
theorem check_turn {P Q : Nat → Int} (T : TurnOf P Q) {c : Int} (hc : c = 0 ∨ c = 1) : checkM Q (1 - c) = checkM P c := by
 rw [Bool.eq_iff_iff, check_is hc, check_is (by omega)]
 constructor
 ·rintro ⟨x, ⟨hx, h1, h2⟩, h3⟩
  have hb := across_bd hx
  rw [← across2 hx] at h1 h2 h3
  rw [isBy_turn T hb] at h3
  obtain ⟨h4, h5⟩ := side_turn T hb
  refine ⟨acrossM x, ⟨hb, by rw [← h4]; exact h1, ?_⟩, h3⟩
  omega
 ·rintro ⟨x, ⟨hx, h1, h2⟩, h3⟩
  obtain ⟨h4, h5⟩ := side_turn T hx
  refine ⟨acrossM x, ⟨across_bd hx, by rw [h4]; exact h1, by omega⟩, ?_⟩
  rw [isBy_turn T hx]; exact h3
theorem right_is2 {P : Nat → Int} (h : rightM P = true) : Clean P ∧ (P 128 = 0 ∨ P 128 = 1) := by
 unfold rightM at h
 simp only [Bool.and_eq_true] at h
 have h := pieces_is h.1.1.1
 refine ⟨fun s hs => ?_, h.2.2.2⟩
 have := h.1 s hs
 unfold okM at this
 rw [sqI_nat] at this
 omega
theorem pos_turn {P Q : Nat → Int} (T : TurnOf P Q) (hP : Clean P) (hs : P 128 = 0 ∨ P 128 = 1) : posM Q = posM P := by
 unfold posM
 rw [right_turn T hP hs, T.side, other0 hs, other0 (x := 1 - P 128) (by omega), show (1 : Int) - (1 - P 128) = P 128 by omega, ← check_turn T (c := 1 - P 128) (by omega), show (1 : Int) - (1 - P 128) = P 128 by omega]
theorem free_turn {P Q : Nat → Int} (T : TurnOf P Q) {t : Int} (ht : 0 ≤ t ∧ t < 64) : freeM Q (acrossM t) = freeM P t := by
 unfold freeM isM
 rw [empty_turn T ht, decide_eq_true ht, decide_eq_true (across_bd ht)]
theorem clean_at {P : Nat → Int} (hP : Clean P) {x : Int} (hx : 0 ≤ x ∧ x < 64) : emptyM P x = true ∨ ((1 ≤ P (sqI x) ∧ P (sqI x) ≤ 6) ∧ (P (sqI x + 1) = 0 ∨ P (sqI x + 1) = 1)) := by
 have h := hP x.toNat (by omega)
 have e : sqI x = x.toNat * 2 := by show 0 + x.toNat * 2 = _; omega
 rw [emptyM_iff, e]
 omega
theorem over_eq {P Q : Nat → Int} (T : TurnOf P Q) {t : Int} (ht : 0 ≤ t ∧ t < 64) : acrossM t = Q 130 ↔ t = P 130 := by
 rw [T.over]
 unfold overT isM
 by_cases q : 0 ≤ P 130 ∧ P 130 < 64
 ·rw [if_pos (decide_eq_true q)]; unfold acrossM; omega
 ·rw [if_neg (by rw [decide_eq_false q]; decide)]; unfold acrossM; omega
theorem goP_turn {P Q : Nat → Int} (T : TurnOf P Q) (hP : Clean P) {s t c : Int} (hs : 0 ≤ s ∧ s < 64) (ht : 0 ≤ t ∧ t < 64) (hc : c = 0 ∨ c = 1) : goP Q (acrossM s) (acrossM t) (1 - c) = goP P s t c := by
 unfold goP
 by_cases h1 : t = s + 8 * (1 - 2 * c)
 ·rw [if_pos h1, if_pos (by unfold acrossM; omega), free_turn T ht]
 ·rw [if_neg h1, if_neg (by unfold acrossM; omega)]
  by_cases h2 : t = s + 16 * (1 - 2 * c) ∧ s / 8 = 1 + 5 * c
  ·rw [if_pos h2, if_pos (by unfold acrossM; omega), free_turn T ht]
   rw [show acrossM s + 8 * (1 - 2 * (1 - c)) = acrossM (s + 8 * (1 - 2 * c)) by unfold acrossM; omega, free_turn T (by omega)]
  ·rw [if_neg h2, if_neg (by unfold acrossM; omega), att_turn T hs ht, free_turn T ht, empty_turn T ht, dcongr (over_eq T ht)]
   rcases clean_at hP ht with e | m
   ·rw [e]; rfl
   ·obtain ⟨_, h3⟩ := side_turn T ht
    have h4 : Q (sqI (acrossM t) + 1) = 1 - P (sqI t + 1) := h3.elim (·.2) fun h => absurd m h.1
    have h5 : sideM Q (acrossM t) = otherM (1 - c) ↔ sideM P t = otherM c := by
     unfold sideM
     rw [h4, other0 hc, other0 (by omega)]; omega
    rw [dcongr h5]
theorem rook_turn {P Q : Nat → Int} (T : TurnOf P Q) {c t : Int} (hc : c = 0 ∨ c = 1) (ht : 0 ≤ t ∧ t < 64) : rookM Q (1 - c) (acrossM t) = rookM P c t := by
 obtain ⟨h1, h2⟩ := side_turn T ht
 unfold rookM
 rw [Bool.eq_iff_iff, decide_eq_true_eq, decide_eq_true_eq, h1]
 omega
theorem cast_at {C : Int} (h : 0 ≤ C ∧ C ≤ 15) {c : Int} (hc : c = 0 ∨ c = 1) : castT C / shortM (1 - c) % 2 = C / shortM c % 2 ∧ castT C / (2 * shortM (1 - c)) % 2 = C / (2 * shortM c) % 2 := by
 obtain ⟨n, rfl⟩ : ∃ n : Nat, C = n := ⟨C.toNat, by omega⟩
 have ⟨b1, b2, b3, b4⟩ := cast_bits ⟨n, by omega⟩
 simp only at b1 b2 b3 b4
 rcases hc with rfl | rfl
 ·exact ⟨b1, b2⟩
 ·exact ⟨b3, b4⟩
theorem goC_turn {P Q : Nat → Int} (T : TurnOf P Q) {s t c : Int} (hs : 0 ≤ s ∧ s < 64) (ht : 0 ≤ t ∧ t < 64) (hc : c = 0 ∨ c = 1) : goC Q (acrossM s) (acrossM t) (1 - c) = goC P s t c := by
 unfold goC
 by_cases h : s ≠ 56 * c + 4 ∨ P 129 < 0 ∨ 15 < P 129
 ·rw [if_pos h, if_pos]
  rcases h with h | h
  ·exact .inl (by unfold acrossM; omega)
  ·refine .inr ?_
   rw [T.castle]; unfold castT; rw [if_neg (by omega)]; exact h
 ·have hC : 0 ≤ P 129 ∧ P 129 ≤ 15 := by omega
  obtain ⟨b1, b2⟩ := cast_at hC hc
  have hq : Q 129 = castT (P 129) := T.castle
  have hqb : 0 ≤ castT (P 129) ∧ castT (P 129) ≤ 15 := by unfold castT; rw [if_pos hC]; omega
  have hq2 : ¬ (Q 129 < 0 ∨ 15 < Q 129) := by rw [hq]; omega
  have hse : s = 56 * c + 4 := by omega
  have hse2 : acrossM s = 56 * (1 - c) + 4 := by unfold acrossM; omega
  rw [if_neg h, if_neg (fun q => q.elim (fun q => q hse2) hq2), hq, b1, b2]
  rw [show acrossM s + 3 = acrossM (s + 3) by unfold acrossM; omega, show acrossM s - 4 = acrossM (s - 4) by unfold acrossM; omega,
   show acrossM s + 1 = acrossM (s + 1) by unfold acrossM; omega, show acrossM s - 1 = acrossM (s - 1) by unfold acrossM; omega,
   show acrossM s + 2 = acrossM (s + 2) by unfold acrossM; omega, show acrossM s - 2 = acrossM (s - 2) by unfold acrossM; omega, show acrossM s - 3 = acrossM (s - 3) by unfold acrossM; omega]
  rw [rook_turn T hc (by omega), rook_turn T hc (by omega), free_turn T (by omega), free_turn T (by omega), free_turn T (by omega), free_turn T (by omega), free_turn T (by omega)]
  rw [dcongr (across_eq ht (show 0 ≤ s - 2 ∧ s - 2 < 64 by omega))]
  by_cases e : t = s + 2
  ·rw [if_pos e, if_pos ((across_eq ht (by omega)).2 e)]
  ·rw [if_neg e, if_neg fun q => e ((across_eq ht (by omega)).1 q)]
theorem goes_turn {P Q : Nat → Int} (T : TurnOf P Q) (hP : Clean P) (hd : P 128 = 0 ∨ P 128 = 1) {s t : Int} (hs : 0 ≤ s ∧ s < 64) (ht : 0 ≤ t ∧ t < 64) : goesM Q (acrossM s) (acrossM t) = goesM P s t := by
 obtain ⟨hk, h3⟩ := side_turn T hs
 unfold goesM
 rw [dcongr (not_congr (across_eq hs ht)), hk]
 rcases h3 with ⟨m, h3⟩ | ⟨m, h3⟩
 ·have hm : moverM Q (acrossM s) = moverM P s := by
   unfold moverM
   rw [hk, h3, may_yes m, may_yes (k := P (sqI s)) (c := 1 - P (sqI s + 1)) ⟨m.1, by omega⟩, T.side, other0 hd]
   exact congrArg _ (dcongr (by omega))
  rw [hm, h3]
  refine congrArg _ ?_
  unfold goK
  by_cases e : P (sqI s) = 1
  ·rw [if_pos e, if_pos e, goP_turn T hP hs ht m.2]
  ·rw [if_neg e, if_neg e, att_turn T hs ht, goC_turn T hs ht m.2]
   have ho : ownM Q (1 - P (sqI s + 1)) (acrossM t) = ownM P (P (sqI s + 1)) t := by
    unfold ownM
    rw [empty_turn T ht]
    rcases clean_at hP ht with e | m2
    ·rw [e]; rfl
    ·obtain ⟨_, h5⟩ := side_turn T ht
     have h6 : Q (sqI (acrossM t) + 1) = 1 - P (sqI t + 1) := h5.elim (·.2) fun h => absurd m2 h.1
     refine congrArg _ (dcongr ?_)
     unfold sideM
     rw [h6]; omega
   rw [ho]
 ·have e1 : moverM Q (acrossM s) = false := by unfold moverM; rw [hk, h3, may_no m, Bool.false_and]
  have e2 : moverM P s = false := by unfold moverM; rw [may_no m, Bool.false_and]
  rw [e1, e2, Bool.false_and, Bool.false_and, Bool.false_and]
def mvT (m : Mv) : Mv := (acrossM m.1, acrossM m.2.1, m.2.2)
theorem toM_turn {s t k c : Int} (ht : 0 ≤ t ∧ t < 64) (hc : c = 0 ∨ c = 1) : toM (acrossM s) k (1 - c) (acrossM t) = (toM s k c t).map mvT := by
 have he : endM k (1 - c) (acrossM t) = endM k c t := by
  unfold endM
  rw [across_div ht]
  exact dcongr (by omega)
 unfold toM
 rw [he]
 split <;> rfl
theorem allR_of {P : Nat → Int} {m : Mv} (hs : 0 ≤ m.1 ∧ m.1 < 64) (ht : 0 ≤ m.2.1 ∧ m.2.1 < 64) (hg : goesM P m.1 m.2.1 = true) (hm : m ∈ toM m.1 (P (sqI m.1)) (P (sqI m.1 + 1)) m.2.1) : m ∈ allR P 64 := by
 unfold allR
 rw [List.mem_flatMap]
 refine ⟨m.1, mem64.2 hs, ?_⟩
 unfold fromR
 rw [List.mem_flatMap]
 exact ⟨m.2.1, mem64.2 ht, by rw [if_pos hg]; exact hm⟩
theorem all_turn {P Q : Nat → Int} (T : TurnOf P Q) (hP : Clean P) (hd : P 128 = 0 ∨ P 128 = 1) {m : Mv} (h : m ∈ allR P 64) : mvT m ∈ allR Q 64 := by
 obtain ⟨hs, ht, hg, hm⟩ := allR_mem h
 obtain ⟨h1, h2, _⟩ := mover_of hg
 obtain ⟨hk, h3⟩ := side_turn T hs
 have h4 : Q (sqI (acrossM m.1) + 1) = 1 - P (sqI m.1 + 1) := h3.elim (·.2) fun h => absurd ⟨h1, h2⟩ h.1
 refine allR_of (m := mvT m) (across_bd hs) (across_bd ht) (by show goesM Q (acrossM m.1) (acrossM m.2.1) = true; rw [goes_turn T hP hd hs ht]; exact hg) ?_
 show mvT m ∈ toM (acrossM m.1) (Q (sqI (acrossM m.1))) (Q (sqI (acrossM m.1) + 1)) (acrossM m.2.1)
 rw [hk, h4, toM_turn ht h2]
 exact List.mem_map_of_mem hm
theorem wide_of {P : Nat → Int} {s t : Int} (hs : 0 ≤ s ∧ s < 64) (ht : 0 ≤ t ∧ t < 64) (hg : goesM P s t = true) (h : castlM P s t = true) : (s = 4 ∨ s = 60) ∧ (t = s + 2 ∨ t = s - 2) := by
 unfold castlM at h
 rw [decide_eq_true_eq] at h
 obtain ⟨h1, h2⟩ := h
 obtain ⟨_, hc, _, _⟩ := mover_of hg
 unfold goesM at hg
 rw [Bool.and_eq_true] at hg
 have hg := hg.2
 unfold goK at hg
 rw [if_neg (by omega), Bool.or_eq_true, Bool.and_eq_true, Bool.and_eq_true] at hg
 rcases hg with ⟨ha, _⟩ | ⟨_, hg⟩
 ·have := att_king ha h1
  unfold absM at this
  split at this <;> omega
 ·unfold goC at hg
  split at hg
  ·cases hg
  ·omega
theorem sq_same {P Q : Nat → Int} (h : ∀ i, i < 128 → Q i = P i) (c : Int) (hc : c = 0 ∨ c = 1) : checkM Q c = checkM P c := by
 have hx : ∀ x : Int, 0 ≤ x ∧ x < 64 → Q (sqI x) = P (sqI x) ∧ Q (sqI x + 1) = P (sqI x + 1) := fun x hx => by
  have hq : sqI x = 0 + x.toNat * 2 := rfl
  exact ⟨h _ (by omega), h _ (by omega)⟩
 have he : ∀ x : Int, 0 ≤ x ∧ x < 64 → emptyM Q x = emptyM P x := fun x hb => by
  rw [Bool.eq_iff_iff, emptyM_iff, emptyM_iff, (hx x hb).1, (hx x hb).2]
 have ho : ∀ a b : Int, 0 ≤ a ∧ a < 64 → 0 ≤ b ∧ b < 64 → (lineM a b || diagM a b) = true → openM Q a b = openM P a b := fun a b ha hb hl => by
  obtain ⟨x, rfl⟩ := fin_of ha
  obtain ⟨y, rfl⟩ := fin_of hb
  have h1 := all64_at (all64_at bet_all x) y
  unfold betOK at h1
  rw [hl, Bool.not_true, Bool.false_or, Bool.and_eq_true] at h1
  have hb := List.all_eq_true.1 h1.2
  rw [open_bet, open_bet, Bool.eq_iff_iff, List.all_eq_true, List.all_eq_true]
  constructor
  ·intro k t ht; rw [← he t (of_decide_eq_true (hb t ht))]; exact k t ht
  ·intro k t ht; rw [he t (of_decide_eq_true (hb t ht))]; exact k t ht
 have ha : ∀ a b : Int, 0 ≤ a ∧ a < 64 → 0 ≤ b ∧ b < 64 → attM Q a b = attM P a b := fun a b ha hb => by
  unfold attM
  rw [(hx a ha).1, (hx a ha).2]
  unfold attK
  have lo : (lineM a b && openM Q a b) = (lineM a b && openM P a b) := by
   cases e : lineM a b with
   | false => rfl
   | true => rw [ho a b ha hb (by rw [e]; rfl)]
  have dg : (diagM a b && openM Q a b) = (diagM a b && openM P a b) := by
   cases e : diagM a b with
   | false => rfl
   | true => rw [ho a b ha hb (by rw [e, Bool.or_true])]
  have ld : ((lineM a b || diagM a b) && openM Q a b) = ((lineM a b || diagM a b) && openM P a b) := by
   cases e : (lineM a b || diagM a b) with
   | false => rfl
   | true => rw [ho a b ha hb e]
  rw [lo, dg, ld]
 rw [Bool.eq_iff_iff, check_is hc, check_is hc]
 have hy : ∀ x : Int, 0 ≤ x ∧ x < 64 → (isByM Q (1 - c) x = true ↔ isByM P (1 - c) x = true) := fun x hb => by
  rw [isBy_is hb, isBy_is hb]
  constructor
  ·rintro ⟨a, h1, h2, h3⟩; exact ⟨a, h1, by rw [← (hx a h1).2]; exact h2, by rw [← ha a x h1 hb]; exact h3⟩
  ·rintro ⟨a, h1, h2, h3⟩; exact ⟨a, h1, by rw [(hx a h1).2]; exact h2, by rw [ha a x h1 hb]; exact h3⟩
 constructor
 ·rintro ⟨x, ⟨h1, h2, h3⟩, h4⟩; exact ⟨x, ⟨h1, by rw [← (hx x h1).1]; exact h2, by rw [← (hx x h1).2]; exact h3⟩, (hy x h1).1 h4⟩
 ·rintro ⟨x, ⟨h1, h2, h3⟩, h4⟩; exact ⟨x, ⟨h1, by rw [(hx x h1).1]; exact h2, by rw [(hx x h1).2]; exact h3⟩, (hy x h1).2 h4⟩
theorem legal_turn {P Q : Nat → Int} (T : TurnOf P Q) (hP : Clean P) (hd : P 128 = 0 ∨ P 128 = 1) {m : Mv} (h : m ∈ allR P 64) {S : Nat → Int} (U : TurnOf (ovA (fun _ => 0) 0 133 (moveM P m.1 m.2.1 m.2.2)) S) : legalB Q (mvT m) = legalB P m := by
 obtain ⟨hs, ht, hg, hm⟩ := allR_mem h
 have he := mv_can h
 have hw := wide_of hs ht hg
 obtain ⟨hk, h3⟩ := side_turn T hs
 have hc : castlM Q (acrossM m.1) (acrossM m.2.1) = castlM P m.1 m.2.1 := by
  have hg2 := goes_turn T hP hd hs ht
  rw [hg] at hg2
  have hw2 := wide_of (across_bd hs) (across_bd ht) hg2
  rw [Bool.eq_iff_iff]
  constructor
  ·intro q
   have h1 := hw2 q
   unfold castlM at q ⊢
   rw [decide_eq_true_eq] at q ⊢
   rw [hk] at q
   refine ⟨q.1, ?_⟩
   unfold acrossM at h1; omega
  ·intro q
   have h1 := hw q
   unfold castlM at q ⊢
   rw [decide_eq_true_eq] at q ⊢
   rw [hk]
   refine ⟨q.1, ?_⟩
   unfold acrossM; omega
 have hmv := move_turn T hd he hs ht U
 have e0 : ovA (fun _ => 0) 0 133 (moveM P m.1 m.2.1 m.2.2) = moveM P m.1 m.2.1 m.2.2 := ovA_id fun i hi => moveM_out hi
 rw [e0] at U
 have hchk : checkM (moveM Q (acrossM m.1) (acrossM m.2.1) m.2.2) (Q 128) = checkM (moveM P m.1 m.2.1 m.2.2) (P 128) := by
  rw [T.side, other0 hd, ← check_turn U hd]
  exact sq_same (fun i hi => (hmv i (by omega) (by omega)).symm) _ (by omega)
 unfold legalB mvT
 simp only []
 rw [hc, err_turn T hd hs ht, hchk]
 cases hcs : castlM P m.1 m.2.1 with
 | false => rfl
 | true =>
  have h1 := hw hcs
  have hsafe : safeM Q [acrossM m.1, (acrossM m.1 + acrossM m.2.1) / 2] = safeM P [m.1, (m.1 + m.2.1) / 2] := by
   unfold safeM
   rw [show (acrossM m.1 + acrossM m.2.1) / 2 = acrossM ((m.1 + m.2.1) / 2) by unfold acrossM; omega]
   simp only [List.any_cons, List.any_nil, T.side, other0 hd]
   rw [other0 (x := 1 - P 128) (by omega), isBy_turn T hs, isBy_turn T (show 0 ≤ (m.1 + m.2.1) / 2 ∧ (m.1 + m.2.1) / 2 < 64 by omega)]
  rw [hsafe]
end Go.Proofs.YtlkighkfkdpncaaGreat
set_option linter.unusedVariables false
set_option linter.unusedSimpArgs false
namespace Go.Proofs.YtlkighkfkdpncaaGreat
open Go Go.Am
theorem pos_right {P : Nat → Int} (h : posM P = true) : rightM P = true := by
 unfold posM at h
 rw [Bool.and_eq_true] at h
 exact h.1
theorem movesM_is {P : Nat → Int} (hz : ∀ i, 133 ≤ i → P i = 0) : movesM P = if posM P = true then (allR P 64).filter (legalB P) else [] := by
 unfold movesM legalU
 rw [ovA_id hz, allS_is]
theorem moves_mem {P : Nat → Int} (hz : ∀ i, 133 ≤ i → P i = 0) {m : Mv} : m ∈ movesM P ↔ posM P = true ∧ m ∈ allR P 64 ∧ legalB P m = true := by
 rw [movesM_is hz]
 by_cases hp : posM P = true
 ·rw [if_pos hp, List.mem_filter]; simp [hp]
 ·rw [if_neg hp]; simp [hp]
end Go.Proofs.YtlkighkfkdpncaaGreat
set_option linter.unusedVariables false
set_option linter.unusedSimpArgs false
namespace Go.Proofs.YtlkighkfkdpncaaGreat
open Go Go.Am
theorem moves_fwd {P Q : Nat → Int} (T : TurnOf P Q) (hz : ∀ i, 133 ≤ i → P i = 0) (hR : rightM P = true) {m : Mv} (h : m ∈ movesM P) : mvT m ∈ movesM Q := by
 obtain ⟨hP, hd⟩ := right_is2 hR
 obtain ⟨h1, h2, h3⟩ := (moves_mem hz).1 h
 obtain ⟨S, U, _⟩ := TurnX_ex (ovA (fun _ => 0) 0 133 (moveM P m.1 m.2.1 m.2.2))
 exact (moves_mem T.out).2 ⟨by rw [pos_turn T hP hd]; exact h1, all_turn T hP hd h2, by rw [legal_turn T hP hd h2 U]; exact h3⟩
theorem turn_eq {P Q R : Nat → Int} (T : TurnOf P Q) (U : TurnOf Q R) (hz : ∀ i, 133 ≤ i → P i = 0) (hR : rightM P = true) : R = P := by
 obtain ⟨hP, hd⟩ := right_is2 hR
 funext i
 by_cases h : i < 133
 ·exact turn_back T U hP hd i h
 ·rw [U.out i (by omega), hz i (by omega)]
theorem len_turn {P Q : Nat → Int} (T : TurnOf P Q) (hz : ∀ i, 133 ≤ i → P i = 0) (hR : rightM P = true) : 0 < (movesM Q).length ↔ 0 < (movesM P).length := by
 obtain ⟨hP, hd⟩ := right_is2 hR
 have hRQ : rightM Q = true := by rw [right_turn T hP hd]; exact hR
 rw [List.length_pos_iff_exists_mem, List.length_pos_iff_exists_mem]
 constructor
 ·rintro ⟨m, hm⟩
  obtain ⟨R, U, _⟩ := TurnX_ex Q
  have := moves_fwd U T.out hRQ hm
  rw [turn_eq T U hz hR] at this
  exact ⟨_, this⟩
 ·rintro ⟨m, hm⟩
  exact ⟨_, moves_fwd T hz hR hm⟩
theorem ends_turn {P Q : Nat → Int} (T : TurnOf P Q) (hz : ∀ i, 133 ≤ i → P i = 0) (hR : rightM P = true) : posM Q = posM P ∧ (0 < (movesM Q).length ↔ 0 < (movesM P).length) ∧ checkM Q (Q 128) = checkM P (P 128) ∧ Q 128 = 1 - P 128 ∧ (P 128 = 0 ∨ P 128 = 1) := by
 obtain ⟨hP, hd⟩ := right_is2 hR
 have hq : Q 128 = 1 - P 128 := by rw [T.side, other0 hd]
 exact ⟨pos_turn T hP hd, len_turn T hz hR, by rw [hq]; exact check_turn T hd, hq, hd⟩
end Go.Proofs.YtlkighkfkdpncaaGreat
