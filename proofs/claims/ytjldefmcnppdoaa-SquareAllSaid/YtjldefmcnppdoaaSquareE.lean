/- The walks of squares: names that are read; SquareTells, SquareBack. -/
import Derived.Test.YtjldefmcnppdoaaSquareD
import Derived.Test.YtjldefmcnppdoaaSqK
namespace Go.Proofs.Ytjldefmcnppdoaa
open Go Go.Am
set_option linter.unusedSimpArgs false
set_option linter.unusedVariables false
theorem idx_run (s : ByteArray) (c : Int) : RF AM 85 [.s (.str s), .s (.int .u8 c)] (.s (.int .i64 (Lib.indexByte s.data.toList c.toNat.toUInt8))) :=
  ⟨[], by rw [Run_prim (A := AM) (f := 85) (pf := idxPrim) rfl]; rfl⟩
/-- A byte of a text, as a number. -/
def byteN (s : ByteArray) (i : Nat) : Int := ((s.data.getD i 0).toNat : Nat)
theorem byteN_bd (s : ByteArray) (i : Nat) : 0 ≤ byteN s i ∧ byteN s i < 256 := by
  have := (s.data.getD i 0).toNat_lt
  unfold byteN
  omega
theorem letter_idx : ∀ n : Fin 256, Lib.indexByte (⟨#[97, 98, 99, 100, 101, 102, 103, 104]⟩ : ByteArray).data.toList n.val.toUInt8 = if 97 ≤ n.val ∧ n.val ≤ 104 then (n.val : Int) - 97 else -1 := by decide +kernel
theorem digit_idx : ∀ n : Fin 256, Lib.indexByte (⟨#[49, 50, 51, 52, 53, 54, 55, 56]⟩ : ByteArray).data.toList n.val.toUInt8 = if 49 ≤ n.val ∧ n.val ≤ 56 then (n.val : Int) - 49 else -1 := by decide +kernel
def fileOf (c : Int) : Int := if 97 ≤ c ∧ c ≤ 104 then c - 97 else -1
def rankOf (c : Int) : Int := if 49 ≤ c ∧ c ≤ 56 then c - 49 else -1
theorem file_run {c : Int} (h : 0 ≤ c ∧ c < 256) : RF AM 85 [.s (.str ⟨#[97, 98, 99, 100, 101, 102, 103, 104]⟩), .s (.int .u8 c)] (.s (.int .i64 (fileOf c))) := by
  have h1 := idx_run ⟨#[97, 98, 99, 100, 101, 102, 103, 104]⟩ c
  have h2 := letter_idx ⟨c.toNat, by omega⟩
  simp only at h2
  rw [h2] at h1
  have e : (if 97 ≤ c.toNat ∧ c.toNat ≤ 104 then (c.toNat : Int) - 97 else -1) = fileOf c := by
    unfold fileOf
    by_cases k : 97 ≤ c ∧ c ≤ 104
    · rw [if_pos k, if_pos (by omega)]; omega
    · rw [if_neg k, if_neg (by omega)]
  rw [e] at h1
  exact h1
theorem rank_run2 {c : Int} (h : 0 ≤ c ∧ c < 256) : RF AM 85 [.s (.str ⟨#[49, 50, 51, 52, 53, 54, 55, 56]⟩), .s (.int .u8 c)] (.s (.int .i64 (rankOf c))) := by
  have h1 := idx_run ⟨#[49, 50, 51, 52, 53, 54, 55, 56]⟩ c
  have h2 := digit_idx ⟨c.toNat, by omega⟩
  simp only at h2
  rw [h2] at h1
  have e : (if 49 ≤ c.toNat ∧ c.toNat ≤ 56 then (c.toNat : Int) - 49 else -1) = rankOf c := by
    unfold rankOf
    by_cases k : 49 ≤ c ∧ c ≤ 56
    · rw [if_pos k, if_pos (by omega)]; omega
    · rw [if_neg k, if_neg (by omega)]
  rw [e] at h1
  exact h1
/-- Is it a square's name? -/
def isName (s : ByteArray) : Prop := s.size = 2 ∧ (97 ≤ byteN s 0 ∧ byteN s 0 ≤ 104) ∧ (49 ≤ byteN s 1 ∧ byteN s 1 ≤ 56)
instance (s : ByteArray) : Decidable (isName s) := by unfold isName; infer_instance
def namedM (s : ByteArray) : Int := if isName s then (byteN s 1 - 49) * 8 + (byteN s 0 - 97) else 0
theorem two_bytes {s : ByteArray} (h : s.size = 2) : s = ⟨#[s.data.getD 0 0, s.data.getD 1 0]⟩ := by
  have h1 : s.data.size = 2 := h
  refine ByteArray.ext (Array.ext (by simp [h1]) fun i hi hj => ?_)
  have : i = 0 ∨ i = 1 := by omega
  rcases this with rfl | rfl
  · simp [Array.getD, h1]
  · simp [Array.getD, h1]
theorem name_byte {x : Int} (h : 0 ≤ x ∧ x < 64) : isName (nameS x) ∧ namedM (nameS x) = x := by
  have e := name_in h
  have b0 : byteN (nameS x) 0 = 97 + x % 8 := by
    rw [e]
    show ((UInt8.ofNat (97 + (x % 8).toNat)).toNat : Int) = _
    rw [UInt8.toNat_ofNat']
    omega
  have b1 : byteN (nameS x) 1 = 49 + x / 8 := by
    rw [e]
    show ((UInt8.ofNat (49 + (x / 8).toNat)).toNat : Int) = _
    rw [UInt8.toNat_ofNat']
    omega
  have hn : isName (nameS x) := ⟨by rw [e]; rfl, by omega, by omega⟩
  refine ⟨hn, ?_⟩
  unfold namedM
  rw [if_pos hn, b0, b1]
  omega
theorem byte_eq {a : UInt8} {n : Nat} (h : a.toNat = n) : UInt8.ofNat n = a := by
  subst h
  exact UInt8.ofNat_toNat
theorem name_of {s : ByteArray} (h : isName s) : (0 ≤ namedM s ∧ namedM s < 64) ∧ nameS (namedM s) = s := by
  have hh := h
  obtain ⟨h2, h0, h1⟩ := h
  have e : namedM s = (byteN s 1 - 49) * 8 + (byteN s 0 - 97) := if_pos hh
  have hb : 0 ≤ namedM s ∧ namedM s < 64 := by omega
  refine ⟨hb, ?_⟩
  rw [name_in hb]
  conv => rhs; rw [two_bytes h2]
  have q0 : (s.data.getD 0 0).toNat = 97 + (namedM s % 8).toNat := by
    have : byteN s 0 = ((s.data.getD 0 0).toNat : Nat) := rfl
    omega
  have q1 : (s.data.getD 1 0).toNat = 49 + (namedM s / 8).toNat := by
    have : byteN s 1 = ((s.data.getD 1 0).toNat : Nat) := rfl
    omega
  rw [byte_eq q0, byte_eq q1]

theorem fr_bd (a b : Int) (i : Nat) (ha : 0 ≤ a ∧ a < 256) (hb : 0 ≤ b ∧ b < 256) : -9223372036854775808 ≤ ovA (fun _ => 0) 0 2 (ov (ov (fun _ => 0) 0 (fileOf a)) 1 (rankOf b)) i ∧ ovA (fun _ => 0) 0 2 (ov (ov (fun _ => 0) 0 (fileOf a)) 1 (rankOf b)) i ≤ 9223372036854775807 := by
  rw [two_fn]
  have h1 : -1 ≤ fileOf a ∧ fileOf a < 256 := by unfold fileOf; split <;> omega
  have h2 : -1 ≤ rankOf b ∧ rankOf b < 256 := by unfold rankOf; split <;> omega
  dsimp only
  split
  · omega
  · split <;> omega

theorem named_no {s : ByteArray} (h : ¬ isName s) : (V.tup [.s (.int .i64 0), .s (.bool false)]) = .tup [.s (.int .i64 (namedM s)), .s (.bool (decide (isName s)))] := by
  rw [decide_eq_false h, namedM, if_neg h]
theorem named_yes {s : ByteArray} {x : Int} (h : isName s) (hx : x = namedM s) : (V.tup [.s (.int .i64 x), .s (.bool true)]) = .tup [.s (.int .i64 (namedM s)), .s (.bool (decide (isName s)))] := by
  rw [decide_eq_true h, hx]

theorem named_fr {s : ByteArray} (hs : (s.size : Int) = 2) (h : 0 ≤ fileOf (byteN s 0) ∧ fileOf (byteN s 0) < 8 ∧ 0 ≤ rankOf (byteN s 1) ∧ rankOf (byteN s 1) < 8) : (V.tup [.s (.int .i64 (atM (fileOf (byteN s 0)) (rankOf (byteN s 1)))), .s (.bool true)]) = .tup [.s (.int .i64 (namedM s)), .s (.bool (decide (isName s)))] := by
  unfold fileOf rankOf at h
  by_cases a : 97 ≤ byteN s 0 ∧ byteN s 0 ≤ 104
  · by_cases b : 49 ≤ byteN s 1 ∧ byteN s 1 ≤ 56
    · have hn : isName s := ⟨by omega, a, b⟩
      refine named_yes hn ?_
      unfold fileOf rankOf atM namedM
      rw [if_pos a, if_pos b, if_pos hn, if_pos (by omega)]
    · rw [if_neg b] at h; omega
  · rw [if_neg a] at h; omega
theorem Named_walk (s : ByteArray) : WR AM 34 [.s (.str s)] [] (fun v _ _ => v = .tup [.s (.int .i64 (namedM s)), .s (.bool (decide (isName s)))]) := by
 refine WR_fn (a := a34) rfl rfl (entryF _) (entry_E (Nat.le_of_ble_eq_true rfl)) (m := 0) rfl ?_
 refine WP_seq ?_
 refine WP_ops ?_
 refine WO_mv rfl ?_
 refine WO_mv rfl ?_
 refine WO_nil ?_
 refine WP_seq ?_
 refine WP_seq ?_
 refine WP_ops ?_
 refine WO_mv (v := .s _) rfl ?_
 refine WO_lenS rfl ?_
 refine WO_bin (r := .bool _) rfl rfl rfl ?_
 refine WO_nil ?_
 refine WP_cond rfl (fun h1 => ?_) (fun h1 => ?_)
 ·try simp only [NM] at h1
  try simp only [decide_eq_true_eq, decide_eq_false_iff_not] at h1
  refine WP_seq ?_
  refine WP_ops ?_
  refine WO_mv rfl ?_
  refine WO_mv rfl ?_
  refine WO_nil ?_
  refine WP_ret ?_
  refine ⟨_, RS_tmp (v := .s (.int _ _)) rfl (RS_tmp (v := .s (.bool _)) rfl (RS_nil)), ?_⟩
  first | exact named_no (fun q => by have := q.1; omega) | exact named_no (fun q => by obtain ⟨q1, q2, q3⟩ := q; have e1 : fileOf (byteN s 0) = byteN s 0 - 97 := if_pos q2; have e2 : rankOf (byteN s 1) = byteN s 1 - 49 := if_pos q3; omega) | exact named_fr (by omega) (by assumption)
 ·try simp only [NM] at h1
  try simp only [decide_eq_true_eq, decide_eq_false_iff_not] at h1
  refine WP_skip ?_
  refine WP_seq ?_
  refine WP_ops ?_
  refine WO_mv (v := .s _) rfl ?_
  refine WO_ixstr rfl rfl (by omega) ?_
  refine WO_callq0 rfl (file_run (byteN_bd s 0)) rfl rfl rfl ?_
  refine WO_mv (v := .s _) rfl ?_
  refine WO_ixstr rfl rfl (by omega) ?_
  refine WO_callq0 rfl (rank_run2 (byteN_bd s 1)) rfl rfl rfl ?_
  refine WO_buildI rfl (.one rfl (.one rfl .nil)) ?_
  refine WO_allocI ?_
  refine WO_stA rfl rfl rfl rfl .here ?_
  refine WO_nil ?_
  refine WP_seq ?_
  refine WP_seq ?_
  refine WP_ops ?_
  first | refine WO_ldA0 rfl rfl (.head _) ?_ | refine WO_ldAI rfl rfl (.head _) ?_
  refine WO_call0 rfl (show RF AM 86 _ (.s (.bool (decide (0 ≤ fileOf (byteN s 0) ∧ fileOf (byteN s 0) < 8 ∧ 0 ≤ rankOf (byteN s 1) ∧ rankOf (byteN s 1) < 8)))) from RF_of (within_run (ovA (fun _ => 0) 0 2 (ov (ov (fun _ => 0) 0 (fileOf (byteN s 0))) 1 (rankOf (byteN s 1)))) (fr_bd _ _ 0 (byteN_bd s 0) (byteN_bd s 1)) (fr_bd _ _ 1 (byteN_bd s 0) (byteN_bd s 1)))) rfl rfl rfl ?_
  refine WO_un (r := .bool _) rfl rfl ?_
  refine WO_nil ?_
  refine WP_cond rfl (fun h2 => ?_) (fun h2 => ?_)
  ·try simp only [NM] at h2
   try simp only [decide_eq_true_eq, decide_eq_false_iff_not] at h2
   refine WP_seq ?_
   refine WP_ops ?_
   refine WO_mv rfl ?_
   refine WO_mv rfl ?_
   refine WO_nil ?_
   refine WP_ret ?_
   refine ⟨_, RS_tmp (v := .s (.int _ _)) rfl (RS_tmp (v := .s (.bool _)) rfl (RS_nil)), ?_⟩
   first | exact named_no (fun q => by have := q.1; omega) | exact named_no (fun q => by obtain ⟨q1, q2, q3⟩ := q; have e1 : fileOf (byteN s 0) = byteN s 0 - 97 := if_pos q2; have e2 : rankOf (byteN s 1) = byteN s 1 - 49 := if_pos q3; omega) | exact named_fr (by omega) (by assumption)
  ·try simp only [NM] at h2
   try simp only [decide_eq_true_eq, decide_eq_false_iff_not] at h2
   refine WP_skip ?_
   refine WP_seq ?_
   refine WP_ops ?_
   first | refine WO_ldA0 rfl rfl (.head _) ?_ | refine WO_ldAI rfl rfl (.head _) ?_
   refine WO_call0 rfl (show RF AM 84 _ (.s (.int .i64 (atM (fileOf (byteN s 0)) (rankOf (byteN s 1))))) from RF_of (number_run (ovA (fun _ => 0) 0 2 (ov (ov (fun _ => 0) 0 (fileOf (byteN s 0))) 1 (rankOf (byteN s 1)))) (fr_bd _ _ 0 (byteN_bd s 0) (byteN_bd s 1)) (fr_bd _ _ 1 (byteN_bd s 0) (byteN_bd s 1)))) rfl rfl rfl ?_
   refine WO_mv (v := .s (.int _ _)) rfl ?_
   refine WO_mv rfl ?_
   refine WO_nil ?_
   refine WP_ret ?_
   refine ⟨_, RS_tmp (v := .s (.int _ _)) rfl (RS_tmp (v := .s (.bool _)) rfl (RS_nil)), ?_⟩
   first | exact named_no (fun q => by have := q.1; omega) | exact named_no (fun q => by obtain ⟨q1, q2, q3⟩ := q; have e1 : fileOf (byteN s 0) = byteN s 0 - 97 := if_pos q2; have e2 : rankOf (byteN s 1) = byteN s 1 - 49 := if_pos q3; omega) | exact named_fr (by omega) (by assumption)
theorem Named_run (s : ByteArray) : RF AM 34 [.s (.str s)] (.tup [.s (.int .i64 (namedM s)), .s (.bool (decide (isName s)))]) := RF_of (Named_walk s)

theorem dNamed_walk (s : ByteArray) : WR AM 41 [.s (.str s)] [] (fun v _ _ => v = .tup [.s (.int .i64 (namedM s)), .s (.bool (decide (isName s)))]) := by
 refine WR_fn (a := a41) rfl rfl (entryF _) (entry_E (Nat.le_of_ble_eq_true rfl)) (m := 0) rfl ?_
 refine WP_seq ?_
 refine WP_ops ?_
 refine WO_mv rfl ?_
 refine WO_mv rfl ?_
 refine WO_nil ?_
 refine WP_seq ?_
 refine WP_seq ?_
 refine WP_ops ?_
 refine WO_mv rfl ?_
 refine WO_nil ?_
 refine WP_block ?_
 refine WP_sub (L' := []) .slnil ?_
 refine WP_loop (fun m f _ L => ∃ (i : Nat), (i ≤ 64) ∧ (m = 64 - i) ∧ (∀ j : Nat, j < i → nameS j ≠ s) ∧ (f 0 = .s (.str s)) ∧ (f 4 = .s (.int .i64 i)) ∧ (L = [])) (fun m f nb L hI => ?_) (64) ⟨0, by omega, rfl, fun j h => by omega, rfl, rfl, rfl⟩
 obtain ⟨i, hi, hm, hn, k0, k4, rfl⟩ := hI
 refine WP_know (d := 0) (v := .s (.str s)) k0 ?_
 refine WP_know (d := 4) (v := .s (.int .i64 i)) k4 ?_
 refine WP_seq ?_
 refine WP_seq ?_
 refine WP_ops ?_
 refine WO_mv (v := .s (.int _ _)) rfl ?_
 refine WO_bin (r := .bool _) rfl rfl rfl ?_
 refine WO_nil ?_
 refine WP_cond rfl (fun h3 => ?_) (fun h3 => ?_)
 ·try simp only [NM] at h3
  refine WP_skip ?_
  refine WP_seq ?_
  refine WP_block ?_
  refine WP_seq ?_
  refine WP_ops ?_
  refine WO_mv (v := .s (.int _ _)) rfl ?_
  refine WO_call0 rfl (RF_of (dName_run _)) rfl rfl rfl ?_
  refine WO_mv (v := .s _) rfl ?_
  refine WO_bin (r := .bool _) rfl rfl rfl ?_
  refine WO_nil ?_
  refine WP_cond rfl (fun h4 => ?_) (fun h4 => ?_)
  ·try simp only [NM] at h4
   refine WP_seq ?_
   refine WP_ops ?_
   refine WO_mv (v := .s (.int _ _)) rfl ?_
   refine WO_mv (v := .s (.int _ _)) rfl ?_
   refine WO_mv rfl ?_
   refine WO_nil ?_
   refine WP_ret ?_
   refine ⟨_, RS_tmp (v := .s (.int _ _)) rfl (RS_tmp (v := .s (.bool _)) rfl (RS_nil)), ?_⟩
   first | (have hq := (seql_is (by assumption)).1 rfl; have hb := name_byte (x := (i : Int)) (by omega); rw [hq] at hb; exact named_yes hb.1 hb.2.symm) | exact named_no (fun q => by have hb := name_of q; exact absurd hb.2 (by have := hn (namedM s).toNat (by omega); rwa [show (((namedM s).toNat : Nat) : Int) = namedM s by omega] at this))
  ·try simp only [NM] at h4
   refine WP_skip ?_
   refine WP_ops ?_
   refine WO_mv (v := .s (.int _ _)) rfl ?_
   refine WO_add rfl rfl (by omega) ?_
   refine WO_mv (v := .s (.int _ _)) rfl ?_
   refine WO_nil ?_
   refine ⟨64 - (i + 1), _, by omega, .slnil, i + 1, by omega, rfl, ?_, rfl, rfl, rfl⟩
   intro j hj
   by_cases e : j = i
   · subst e; intro q; exact absurd ((seql_is (by assumption)).2 q) (by decide)
   · exact hn j (by omega)
 ·try simp only [NM] at h3
  refine WP_exit ?_
  refine xhere ?_
  refine WP_seq ?_
  refine WP_ops ?_
  refine WO_mv rfl ?_
  refine WO_mv rfl ?_
  refine WO_nil ?_
  refine WP_ret ?_
  refine ⟨_, RS_tmp (v := .s (.int _ _)) rfl (RS_tmp (v := .s (.bool _)) rfl (RS_nil)), ?_⟩
  first | (have hq := (seql_is (by assumption)).1 rfl; have hb := name_byte (x := (i : Int)) (by omega); rw [hq] at hb; exact named_yes hb.1 hb.2.symm) | exact named_no (fun q => by have hb := name_of q; exact absurd hb.2 (by have := hn (namedM s).toNat (by omega); rwa [show (((namedM s).toNat : Nat) : Int) = namedM s by omega] at this))
theorem dNamed_run (s : ByteArray) : RF AM 41 [.s (.str s)] (.tup [.s (.int .i64 (namedM s)), .s (.bool (decide (isName s)))]) := RF_of (dNamed_walk s)

theorem Named_name {x : Int} (h : 0 ≤ x ∧ x < 64) : RF AM 34 [.s (.str (nameS x))] (.tup [.s (.int .i64 x), .s (.bool true)]) := by
  have hb := name_byte h
  have := Named_run (nameS x)
  rw [hb.2, decide_eq_true hb.1] at this
  exact this
theorem File_in2 {x : Int} (h : 0 ≤ x ∧ x < 64) : RF AM 37 [.s (.int .i64 x)] (.s (.int .i64 (x % 8))) := by
  have := File_run x
  rw [fileM, if_pos h] at this
  exact this
theorem Rank_in2 {x : Int} (h : 0 ≤ x ∧ x < 64) : RF AM 38 [.s (.int .i64 x)] (.s (.int .i64 (x / 8))) := by
  have := Rank_run x
  rw [rankM, if_pos h] at this
  exact this
theorem At_in2 {x : Int} (h : 0 ≤ x ∧ x < 64) : RF AM 36 [.s (.int .i64 (x % 8)), .s (.int .i64 (x / 8))] (.s (.int .i64 x)) := by
  have := RF_of (At_run (x % 8) (x / 8) (by omega) (by omega))
  rw [show atM (x % 8) (x / 8) = x from by unfold atM; rw [if_pos (by omega)]; omega] at this
  exact this
theorem ge_is {t : Int} (h : t < 64) : decide (t ≥ 0) = isM t := by
  unfold isM
  rw [Bool.eq_iff_iff, decide_eq_true_eq, decide_eq_true_eq]
  omega
theorem stepM_eq {s p r : Int} (hs : 0 ≤ s ∧ s < 64) (h1 : 0 ≤ s % 8 + p ∧ s % 8 + p < 8) (h2 : 0 ≤ s / 8 + r ∧ s / 8 + r < 8) : stepM s p r = (s / 8 + r) * 8 + (s % 8 + p) := by
  unfold stepM atM
  rw [if_pos ⟨hs, by omega, by omega⟩, if_pos (by omega)]
theorem step_back {x p r : Int} (h : 0 ≤ stepM x p r) : stepM (stepM x p r) (-p) (-r) = x := by
  have ⟨h1, h2, h3, h4⟩ := stepM_is (s := x) (f := p) (r := r) (by omega)
  have e1 : stepM x p r % 8 = x % 8 + p := by omega
  have e2 : stepM x p r / 8 = x / 8 + r := by omega
  rw [stepM_eq (s := stepM x p r) (by omega) (by omega) (by omega), e1, e2]
  omega
theorem step_dark {x p r : Int} (h : 0 ≤ stepM x p r) (hp : -7 ≤ p ∧ p ≤ 7) (hr : -7 ≤ r ∧ r ≤ 7) : darkM (stepM x p r) = (darkM x == ((p + r + 14) % 2 == 0)) := by
  have ⟨h1, h2, h3, h4⟩ := stepM_is (s := x) (f := p) (r := r) (by omega)
  have e1 : stepM x p r % 8 = x % 8 + p := by omega
  have e2 : stepM x p r / 8 = x / 8 + r := by omega
  have hb : 0 ≤ stepM x p r ∧ stepM x p r < 64 := by omega
  unfold darkM
  rw [e1, e2, Bool.eq_iff_iff, decide_eq_true_eq, beq_iff_eq]
  by_cases q : (x % 8 + x / 8) % 2 = 0
  · rw [decide_eq_true (show (0 ≤ x ∧ x < 64) ∧ (x % 8 + x / 8) % 2 = 0 from ⟨h1, q⟩)]
    constructor
    · intro k; exact (beq_iff_eq.2 (by omega)).symm
    · intro k; have := beq_iff_eq.1 k.symm; exact ⟨hb, by omega⟩
  · rw [decide_eq_false (show ¬ ((0 ≤ x ∧ x < 64) ∧ (x % 8 + x / 8) % 2 = 0) from fun k => q k.2)]
    constructor
    · intro k; exact (beq_eq_false_iff_ne.2 (by omega)).symm
    · intro k; have := beq_eq_false_iff_ne.1 k.symm; exact ⟨hb, by omega⟩
theorem step_neg {t k r : Int} (h : t < 0) : stepM t k r = -1 := by
  unfold stepM; rw [if_neg (by omega)]
theorem step_two {x p r k : Int} (h : 0 ≤ stepM x p r) (hu : 0 ≤ stepM (stepM x p r) k 0) (hk : -7 ≤ p + k ∧ p + k ≤ 7) (hr : -7 ≤ r ∧ r ≤ 7) : stepM x (p + k) r = stepM (stepM x p r) k 0 := by
  have ⟨h1, h2, h3, h4⟩ := stepM_is (s := x) (f := p) (r := r) (by omega)
  have ⟨g1, g2, g3, g4⟩ := stepM_is (s := stepM x p r) (f := k) (r := 0) (by omega)
  have e1 : stepM x p r % 8 = x % 8 + p := by omega
  have e2 : stepM x p r / 8 = x / 8 + r := by omega
  rw [g4, e1, e2]
  rw [stepM_eq h1 (by omega) (by omega)]
  omega

theorem SquareBack_run (x y z u : Int) : WR AM 7 [.s (.int .i64 x), .s (.int .i64 y), .s (.int .i64 z), .s (.int .i64 u)] [] (fun v _ _ => v = .s (.bool true)) := by
 refine WR_fn (a := a7) rfl rfl (entryF _) (entry_E (Nat.le_of_ble_eq_true rfl)) (m := 0) rfl ?_
 refine WP_seq ?_
 refine WP_ops ?_
 refine WO_mv rfl ?_
 refine WO_nil ?_
 refine WP_seq ?_
 refine WP_seq ?_
 refine WP_ops ?_
 refine WO_call0 rfl (sqAwake_run) rfl rfl rfl ?_
 refine WO_un (r := .bool _) rfl rfl ?_
 refine WO_nil ?_
 refine WP_cond rfl (fun h => nomatch h) (fun _ => ?_)
 refine WP_skip ?_
 refine WP_seq ?_
 refine WP_ops ?_
 refine WO_mv (v := .s (.int _ _)) rfl ?_
 have hq20 := pickM_bd x (n := 64) (by omega)
 refine WO_call0 rfl (RF_of (Pick_run x 64 (by omega) (by omega))) rfl rfl rfl ?_
 obtain ⟨a, hna⟩ : ∃ q, q = pickM x 64 := ⟨_, rfl⟩
 rw [← hna]
 have hx : 0 ≤ a ∧ a < 64 := by omega
 refine WO_mv (v := .s (.int _ _)) rfl ?_
 refine WO_nil ?_
 refine WP_seq ?_
 refine WP_ops ?_
 refine WO_mv (v := .s (.int _ _)) rfl ?_
 have hq22 := pickM_bd y (n := 15) (by omega)
 refine WO_call0 rfl (RF_of (Pick_run y 15 (by omega) (by omega))) rfl rfl rfl ?_
 refine WO_sub rfl rfl (by omega) ?_
 obtain ⟨p, hnp⟩ : ∃ q, q = pickM y 15 - 7 := ⟨_, rfl⟩
 rw [← hnp]
 have hp : -7 ≤ p ∧ p ≤ 7 := by omega
 refine WO_mv (v := .s (.int _ _)) rfl ?_
 have hq25 := pickM_bd z (n := 15) (by omega)
 refine WO_call0 rfl (RF_of (Pick_run z 15 (by omega) (by omega))) rfl rfl rfl ?_
 refine WO_sub rfl rfl (by omega) ?_
 obtain ⟨r, hnr⟩ : ∃ q, q = pickM z 15 - 7 := ⟨_, rfl⟩
 rw [← hnr]
 have hr : -7 ≤ r ∧ r ≤ 7 := by omega
 refine WO_mv (v := .s (.int _ _)) rfl ?_
 refine WO_mv (v := .s (.int _ _)) rfl ?_
 refine WO_nil ?_
 refine WP_seq ?_
 refine WP_ops ?_
 refine WO_mv (v := .s (.int _ _)) rfl ?_
 refine WO_call0 rfl (Name_run _) rfl rfl rfl ?_
 refine WO_call0 rfl (Named_name hx) rfl rfl rfl ?_
 refine WO_mv (v := .tup _) rfl ?_
 refine WO_ext (v := .s (.int _ _)) rfl rfl ?_
 refine WO_ext (v := .s (.bool _)) rfl rfl ?_
 refine WO_mv (v := .s (.int _ _)) rfl ?_
 refine WO_mv (v := .s (.bool _)) rfl ?_
 refine WO_nil ?_
 refine WP_seq ?_
 refine WP_seq ?_
 refine WP_ops ?_
 refine WO_mv (v := .s (.bool _)) rfl ?_
 refine WO_un (r := .bool _) rfl rfl ?_
 refine WO_mv (v := .s (.bool _)) rfl ?_
 refine WO_gt rfl ?_
 refine WO_mv (v := .s (.int _ _)) rfl ?_
 refine WO_gt rfl ?_
 refine WO_mv (v := .s (.int _ _)) rfl ?_
 refine WO_gt rfl ?_
 refine WO_bin rfl rfl (neq_same rfl) ?_
 refine WO_pick (v := .s (.bool _)) rfl rfl ?_
 refine WO_mv (v := .s (.bool _)) rfl ?_
 refine WO_gt rfl ?_
 refine WO_mv (v := .s (.int _ _)) rfl ?_
 refine WO_gt rfl ?_
 refine WO_call0 rfl (File_in2 hx) rfl rfl rfl ?_
 refine WO_gt rfl ?_
 refine WO_mv (v := .s (.int _ _)) rfl ?_
 refine WO_gt rfl ?_
 refine WO_call0 rfl (Rank_in2 hx) rfl rfl rfl ?_
 refine WO_gt rfl ?_
 refine WO_call0 rfl (At_in2 hx) rfl rfl rfl ?_
 refine WO_gt rfl ?_
 refine WO_mv (v := .s (.int _ _)) rfl ?_
 refine WO_gt rfl ?_
 refine WO_bin rfl rfl (neq_same rfl) ?_
 refine WO_pick (v := .s (.bool _)) rfl rfl ?_
 refine WO_nil ?_
 refine WP_cond rfl (fun h => nomatch h) (fun _ => ?_)
 refine WP_skip ?_
 refine WP_seq ?_
 refine WP_ops ?_
 refine WO_mv (v := .s (.int _ _)) rfl ?_
 refine WO_mv (v := .s (.int _ _)) rfl ?_
 refine WO_mv (v := .s (.int _ _)) rfl ?_
 refine WO_call0 rfl (Step_run _ _ _) rfl rfl rfl ?_
 have hsb := stepM_bd a p r
 refine WO_mv (v := .s (.int _ _)) rfl ?_
 refine WO_nil ?_
 refine WP_seq ?_
 refine WP_seq ?_
 refine WP_ops ?_
 refine WO_mv (v := .s (.int _ _)) rfl ?_
 refine WO_bin (r := .bool _) rfl rfl rfl ?_
 refine WO_mv (v := .s (.int _ _)) rfl ?_
 refine WO_call0 rfl (SqIs_run _) rfl rfl rfl ?_
 refine WO_eqbF rfl rfl (ge_is (by omega)) ?_
 refine WO_mv (v := .s (.bool _)) rfl ?_
 refine WO_gt rfl ?_
 refine WO_mv (v := .s (.int _ _)) rfl ?_
 refine WO_gt rfl ?_
 refine WO_bin (r := .bool _) rfl rfl rfl ?_
 refine WO_gt rfl ?_
 refine WO_mv (v := .s (.bool _)) rfl ?_
 refine WO_case (t := 61) rfl (fun h5 => ?_) (fun h5 => ?_)
 ·try simp only [NM] at h5
  refine WO_gt rfl ?_
  refine WO_mv (v := .s (.int _ _)) rfl ?_
  refine WO_gt rfl ?_
  refine WO_mv (v := .s (.int _ _)) rfl ?_
  refine WO_gt rfl ?_
  refine WO_neg rfl (by omega) ?_
  refine WO_gt rfl ?_
  refine WO_mv (v := .s (.int _ _)) rfl ?_
  refine WO_gt rfl ?_
  refine WO_neg rfl (by omega) ?_
  refine WO_gt rfl ?_
  refine WO_call0 rfl (Step_run _ _ _) rfl rfl rfl ?_
  refine WO_gt rfl ?_
  refine WO_mv (v := .s (.int _ _)) rfl ?_
  refine WO_gt rfl ?_
  refine WO_bin rfl rfl (neq_same (step_back (by omega))) ?_
  refine WO_gt rfl ?_
  refine WO_mv (v := .s (.bool _)) rfl ?_
  refine WO_gt rfl ?_
  refine WO_mv (v := .s (.int _ _)) rfl ?_
  refine WO_gt rfl ?_
  refine WO_call0 rfl (Dark_run _) rfl rfl rfl ?_
  refine WO_gt rfl ?_
  refine WO_mv (v := .s (.int _ _)) rfl ?_
  refine WO_gt rfl ?_
  refine WO_call0 rfl (Dark_run _) rfl rfl rfl ?_
  refine WO_gt rfl ?_
  refine WO_mv (v := .s (.int _ _)) rfl ?_
  refine WO_gt rfl ?_
  refine WO_mv (v := .s (.int _ _)) rfl ?_
  refine WO_gt rfl ?_
  refine WO_add rfl rfl (by omega) ?_
  refine WO_gt rfl ?_
  refine WO_add rfl rfl (by omega) ?_
  refine WO_gt rfl ?_
  refine WO_rem rfl rfl (by omega) ?_
  refine WO_gt rfl ?_
  refine WO_bin (r := .bool _) rfl rfl rfl ?_
  refine WO_gt rfl ?_
  refine WO_eqb rfl rfl ?_
  refine WO_gt rfl ?_
  refine WO_eqbF rfl rfl (step_dark (by omega) hp hr) ?_
  refine WO_gt rfl ?_
  refine WO_pick (v := .s (.bool _)) rfl rfl ?_
  refine WO_gt rfl ?_
  refine WO_pick (v := .s (.bool _)) rfl rfl ?_
  refine WO_pick (v := .s (.bool _)) rfl rfl ?_
  refine WO_nil ?_
  refine WP_cond rfl (fun h => nomatch h) (fun _ => ?_)
  refine WP_skip ?_
  refine WP_seq ?_
  refine WP_ops ?_
  refine WO_mv (v := .s (.int _ _)) rfl ?_
  have hq87 := pickM_bd u (n := 15) (by omega)
  refine WO_call0 rfl (RF_of (Pick_run u 15 (by omega) (by omega))) rfl rfl rfl ?_
  refine WO_sub rfl rfl (by omega) ?_
  obtain ⟨k, hnk⟩ : ∃ q, q = pickM u 15 - 7 := ⟨_, rfl⟩
  rw [← hnk]
  have hk : -7 ≤ k ∧ k ≤ 7 := by omega
  refine WO_mv (v := .s (.int _ _)) rfl ?_
  refine WO_nil ?_
  refine WP_seq ?_
  refine WP_ops ?_
  refine WO_mv (v := .s (.int _ _)) rfl ?_
  refine WO_mv (v := .s (.int _ _)) rfl ?_
  refine WO_call0 rfl (Step_run _ _ _) rfl rfl rfl ?_
  have hub := stepM_bd (stepM a p r) k 0
  have hneg : 0 ≤ (stepM a p r) ∨ (stepM (stepM a p r) k 0) = -1 := by
    by_cases q : 0 ≤ (stepM a p r)
    · exact .inl q
    · exact .inr (step_neg (by omega))
  refine WO_mv (v := .s (.int _ _)) rfl ?_
  refine WO_nil ?_
  refine WP_seq ?_
  refine WP_ops ?_
  refine WO_mv (v := .s (.int _ _)) rfl ?_
  refine WO_bin (r := .bool _) rfl rfl rfl ?_
  refine WO_mv (v := .s (.bool _)) rfl ?_
  refine WO_case (t := 94) rfl (fun h6 => ?_) (fun h6 => ?_)
  ·try simp only [NM] at h6
   refine WO_gt rfl ?_
   refine WO_mv (v := .s (.int _ _)) rfl ?_
   refine WO_gt rfl ?_
   refine WO_bin (r := .bool _) rfl rfl rfl ?_
   refine WO_pick (v := .s (.bool _)) rfl rfl ?_
   refine WO_mv (v := .s (.bool _)) rfl ?_
   refine WO_case (t := 98) rfl (fun h7 => ?_) (fun h7 => ?_)
   ·try simp only [NM] at h7
    refine WO_gf rfl rfl ?_
    refine WO_gf rfl rfl ?_
    refine WO_gf rfl rfl ?_
    refine WO_gu rfl ?_
    refine WO_gu rfl ?_
    refine WO_gu rfl ?_
    refine WO_gu rfl ?_
    refine WO_gu rfl ?_
    refine WO_gu rfl ?_
    refine WO_gu rfl ?_
    refine WO_gu rfl ?_
    refine WO_gu rfl ?_
    refine WO_gu rfl ?_
    refine WO_gu rfl ?_
    refine WO_gu rfl ?_
    refine WO_gu rfl ?_
    refine WO_gu rfl ?_
    refine WO_gu rfl ?_
    refine WO_gu rfl ?_
    refine WO_gu rfl ?_
    refine WO_gu rfl ?_
    refine WO_gu rfl ?_
    refine WO_gu rfl ?_
    refine WO_gu rfl ?_
    refine WO_gu rfl ?_
    refine WO_gu rfl ?_
    refine WO_gu rfl ?_
    refine WO_gf rfl rfl ?_
    refine WO_pick (v := .s (.bool _)) rfl rfl ?_
    refine WO_mv (v := .s (.bool _)) rfl ?_
    refine WO_nil ?_
    refine WP_ret ?_
    refine ⟨_, RS_tmp (v := .s (.bool _)) rfl (RS_nil), ?_⟩
    first | rfl | (refine congrArg (fun b => V.s (S.bool b)) ?_; simp only [beq_iff_eq, decide_eq_true_eq, Bool.false_eq_true]; omega) | (exfalso; omega)
   ·try simp only [NM] at h7
    refine WO_gt rfl ?_
    refine WO_mv (v := .s (.int _ _)) rfl ?_
    refine WO_gt rfl ?_
    refine WO_bin (r := .bool _) rfl rfl rfl ?_
    refine WO_gt rfl ?_
    refine WO_mv (v := .s (.bool _)) rfl ?_
    refine WO_case (t := 101) rfl (fun h8 => ?_) (fun h8 => ?_)
    ·try simp only [NM] at h8
     refine WO_gt rfl ?_
     refine WO_mv (v := .s (.int _ _)) rfl ?_
     refine WO_gt rfl ?_
     refine WO_bin (r := .bool _) rfl rfl rfl ?_
     refine WO_gt rfl ?_
     refine WO_mv (v := .s (.bool _)) rfl ?_
     refine WO_case (t := 104) rfl (fun h9 => ?_) (fun h9 => ?_)
     ·try simp only [NM] at h9
      refine WO_gf rfl rfl ?_
      refine WO_gf rfl rfl ?_
      refine WO_gf rfl rfl ?_
      refine WO_gf rfl rfl ?_
      refine WO_gt rfl ?_
      refine WO_pick (v := .s (.bool _)) rfl rfl ?_
      refine WO_gt rfl ?_
      refine WO_mv (v := .s (.bool _)) rfl ?_
      refine WO_gf rfl rfl ?_
      refine WO_gf rfl rfl ?_
      refine WO_gf rfl rfl ?_
      refine WO_gf rfl rfl ?_
      refine WO_gt rfl ?_
      refine WO_pick (v := .s (.bool _)) rfl rfl ?_
      refine WO_gt rfl ?_
      refine WO_mv (v := .s (.bool _)) rfl ?_
      refine WO_gf rfl rfl ?_
      refine WO_gf rfl rfl ?_
      refine WO_gf rfl rfl ?_
      refine WO_gf rfl rfl ?_
      refine WO_gf rfl rfl ?_
      refine WO_gf rfl rfl ?_
      refine WO_gf rfl rfl ?_
      refine WO_gf rfl rfl ?_
      refine WO_gt rfl ?_
      refine WO_pick (v := .s (.bool _)) rfl rfl ?_
      refine WO_gt rfl ?_
      refine WO_pick (v := .s (.bool _)) rfl rfl ?_
      refine WO_pick (v := .s (.bool _)) rfl rfl ?_
      refine WO_mv (v := .s (.bool _)) rfl ?_
      refine WO_nil ?_
      refine WP_ret ?_
      refine ⟨_, RS_tmp (v := .s (.bool _)) rfl (RS_nil), ?_⟩
      first | rfl | (refine congrArg (fun b => V.s (S.bool b)) ?_; simp only [beq_iff_eq, decide_eq_true_eq, Bool.false_eq_true]; omega) | (exfalso; omega)
     ·try simp only [NM] at h9
      refine WO_gt rfl ?_
      refine WO_mv (v := .s (.int _ _)) rfl ?_
      refine WO_gt rfl ?_
      refine WO_mv (v := .s (.int _ _)) rfl ?_
      refine WO_gt rfl ?_
      refine WO_add rfl rfl (by omega) ?_
      refine WO_gt rfl ?_
      refine WO_bin (r := .bool _) rfl rfl rfl ?_
      refine WO_gt rfl ?_
      refine WO_pick (v := .s (.bool _)) rfl rfl ?_
      refine WO_gt rfl ?_
      refine WO_mv (v := .s (.bool _)) rfl ?_
      refine WO_case (t := 110) rfl (fun h10 => ?_) (fun h10 => ?_)
      ·try simp only [NM] at h10
       refine WO_gf rfl rfl ?_
       refine WO_gf rfl rfl ?_
       refine WO_gf rfl rfl ?_
       refine WO_gf rfl rfl ?_
       refine WO_gt rfl ?_
       refine WO_pick (v := .s (.bool _)) rfl rfl ?_
       refine WO_gt rfl ?_
       refine WO_mv (v := .s (.bool _)) rfl ?_
       refine WO_gf rfl rfl ?_
       refine WO_gf rfl rfl ?_
       refine WO_gf rfl rfl ?_
       refine WO_gf rfl rfl ?_
       refine WO_gf rfl rfl ?_
       refine WO_gf rfl rfl ?_
       refine WO_gf rfl rfl ?_
       refine WO_gf rfl rfl ?_
       refine WO_gt rfl ?_
       refine WO_pick (v := .s (.bool _)) rfl rfl ?_
       refine WO_gt rfl ?_
       refine WO_pick (v := .s (.bool _)) rfl rfl ?_
       refine WO_pick (v := .s (.bool _)) rfl rfl ?_
       refine WO_mv (v := .s (.bool _)) rfl ?_
       refine WO_nil ?_
       refine WP_ret ?_
       refine ⟨_, RS_tmp (v := .s (.bool _)) rfl (RS_nil), ?_⟩
       first | rfl | (refine congrArg (fun b => V.s (S.bool b)) ?_; simp only [beq_iff_eq, decide_eq_true_eq, Bool.false_eq_true]; omega) | (exfalso; omega)
      ·try simp only [NM] at h10
       refine WO_gt rfl ?_
       refine WO_mv (v := .s (.int _ _)) rfl ?_
       refine WO_gt rfl ?_
       refine WO_mv (v := .s (.int _ _)) rfl ?_
       refine WO_gt rfl ?_
       refine WO_add rfl rfl (by omega) ?_
       refine WO_gt rfl ?_
       refine WO_bin (r := .bool _) rfl rfl rfl ?_
       refine WO_gt rfl ?_
       refine WO_pick (v := .s (.bool _)) rfl rfl ?_
       refine WO_gt rfl ?_
       refine WO_mv (v := .s (.bool _)) rfl ?_
       refine WO_case (t := 116) rfl (fun h11 => ?_) (fun h11 => ?_)
       ·try simp only [NM] at h11
        refine WO_gf rfl rfl ?_
        refine WO_gf rfl rfl ?_
        refine WO_gf rfl rfl ?_
        refine WO_gf rfl rfl ?_
        refine WO_gf rfl rfl ?_
        refine WO_gf rfl rfl ?_
        refine WO_gf rfl rfl ?_
        refine WO_gf rfl rfl ?_
        refine WO_gt rfl ?_
        refine WO_pick (v := .s (.bool _)) rfl rfl ?_
        refine WO_gt rfl ?_
        refine WO_pick (v := .s (.bool _)) rfl rfl ?_
        refine WO_pick (v := .s (.bool _)) rfl rfl ?_
        refine WO_mv (v := .s (.bool _)) rfl ?_
        refine WO_nil ?_
        refine WP_ret ?_
        refine ⟨_, RS_tmp (v := .s (.bool _)) rfl (RS_nil), ?_⟩
        first | rfl | (refine congrArg (fun b => V.s (S.bool b)) ?_; simp only [beq_iff_eq, decide_eq_true_eq, Bool.false_eq_true]; omega) | (exfalso; omega)
       ·try simp only [NM] at h11
        refine WO_gt rfl ?_
        refine WO_mv (v := .s (.int _ _)) rfl ?_
        refine WO_gt rfl ?_
        refine WO_mv (v := .s (.int _ _)) rfl ?_
        refine WO_gt rfl ?_
        refine WO_mv (v := .s (.int _ _)) rfl ?_
        refine WO_gt rfl ?_
        refine WO_add rfl rfl (by omega) ?_
        refine WO_gt rfl ?_
        refine WO_mv (v := .s (.int _ _)) rfl ?_
        refine WO_gt rfl ?_
        refine WO_call0 rfl (Step_run _ _ _) rfl rfl rfl ?_
        refine WO_gt rfl ?_
        refine WO_mv (v := .s (.int _ _)) rfl ?_
        refine WO_gt rfl ?_
        refine WO_bin rfl rfl (eql_same (step_two (by omega) (by omega) (by omega) hr)) ?_
        refine WO_gt rfl ?_
        refine WO_pick (v := .s (.bool _)) rfl rfl ?_
        refine WO_gt rfl ?_
        refine WO_pick (v := .s (.bool _)) rfl rfl ?_
        refine WO_pick (v := .s (.bool _)) rfl rfl ?_
        refine WO_mv (v := .s (.bool _)) rfl ?_
        refine WO_nil ?_
        refine WP_ret ?_
        refine ⟨_, RS_tmp (v := .s (.bool _)) rfl (RS_nil), ?_⟩
        first | rfl | (refine congrArg (fun b => V.s (S.bool b)) ?_; simp only [beq_iff_eq, decide_eq_true_eq, Bool.false_eq_true]; omega) | (exfalso; omega)
    ·try simp only [NM] at h8
     refine WO_gf rfl rfl ?_
     refine WO_gf rfl rfl ?_
     refine WO_gf rfl rfl ?_
     refine WO_gu rfl ?_
     refine WO_gu rfl ?_
     refine WO_gu rfl ?_
     refine WO_gu rfl ?_
     refine WO_gf rfl rfl ?_
     refine WO_gf rfl rfl ?_
     refine WO_gu rfl ?_
     refine WO_gu rfl ?_
     refine WO_gu rfl ?_
     refine WO_gu rfl ?_
     refine WO_gf rfl rfl ?_
     refine WO_gf rfl rfl ?_
     refine WO_gu rfl ?_
     refine WO_gu rfl ?_
     refine WO_gu rfl ?_
     refine WO_gu rfl ?_
     refine WO_gu rfl ?_
     refine WO_gu rfl ?_
     refine WO_gu rfl ?_
     refine WO_gu rfl ?_
     refine WO_gf rfl rfl ?_
     refine WO_gt rfl ?_
     refine WO_pick (v := .s (.bool _)) rfl rfl ?_
     refine WO_pick (v := .s (.bool _)) rfl rfl ?_
     refine WO_mv (v := .s (.bool _)) rfl ?_
     refine WO_nil ?_
     refine WP_ret ?_
     refine ⟨_, RS_tmp (v := .s (.bool _)) rfl (RS_nil), ?_⟩
     first | rfl | (refine congrArg (fun b => V.s (S.bool b)) ?_; simp only [beq_iff_eq, decide_eq_true_eq, Bool.false_eq_true]; omega) | (exfalso; omega)
  ·try simp only [NM] at h6
   refine WO_gf rfl rfl ?_
   refine WO_gf rfl rfl ?_
   refine WO_pick (v := .s (.bool _)) rfl rfl ?_
   refine WO_mv (v := .s (.bool _)) rfl ?_
   refine WO_gt rfl ?_
   refine WO_mv (v := .s (.int _ _)) rfl ?_
   refine WO_gt rfl ?_
   refine WO_bin (r := .bool _) rfl rfl rfl ?_
   refine WO_gt rfl ?_
   refine WO_mv (v := .s (.bool _)) rfl ?_
   refine WO_case (t := 101) rfl (fun h12 => ?_) (fun h12 => ?_)
   ·try simp only [NM] at h12
    refine WO_gt rfl ?_
    refine WO_mv (v := .s (.int _ _)) rfl ?_
    refine WO_gt rfl ?_
    refine WO_bin (r := .bool _) rfl rfl rfl ?_
    refine WO_gt rfl ?_
    refine WO_mv (v := .s (.bool _)) rfl ?_
    refine WO_case (t := 104) rfl (fun h13 => ?_) (fun h13 => ?_)
    ·try simp only [NM] at h13
     refine WO_gf rfl rfl ?_
     refine WO_gf rfl rfl ?_
     refine WO_gf rfl rfl ?_
     refine WO_gf rfl rfl ?_
     refine WO_gt rfl ?_
     refine WO_pick (v := .s (.bool _)) rfl rfl ?_
     refine WO_gt rfl ?_
     refine WO_mv (v := .s (.bool _)) rfl ?_
     refine WO_gf rfl rfl ?_
     refine WO_gf rfl rfl ?_
     refine WO_gf rfl rfl ?_
     refine WO_gf rfl rfl ?_
     refine WO_gt rfl ?_
     refine WO_pick (v := .s (.bool _)) rfl rfl ?_
     refine WO_gt rfl ?_
     refine WO_mv (v := .s (.bool _)) rfl ?_
     refine WO_gf rfl rfl ?_
     refine WO_gf rfl rfl ?_
     refine WO_gf rfl rfl ?_
     refine WO_gf rfl rfl ?_
     refine WO_gf rfl rfl ?_
     refine WO_gf rfl rfl ?_
     refine WO_gf rfl rfl ?_
     refine WO_gf rfl rfl ?_
     refine WO_gt rfl ?_
     refine WO_pick (v := .s (.bool _)) rfl rfl ?_
     refine WO_gt rfl ?_
     refine WO_pick (v := .s (.bool _)) rfl rfl ?_
     refine WO_pick (v := .s (.bool _)) rfl rfl ?_
     refine WO_mv (v := .s (.bool _)) rfl ?_
     refine WO_nil ?_
     refine WP_ret ?_
     refine ⟨_, RS_tmp (v := .s (.bool _)) rfl (RS_nil), ?_⟩
     first | rfl | (refine congrArg (fun b => V.s (S.bool b)) ?_; simp only [beq_iff_eq, decide_eq_true_eq, Bool.false_eq_true]; omega) | (exfalso; omega)
    ·try simp only [NM] at h13
     refine WO_gt rfl ?_
     refine WO_mv (v := .s (.int _ _)) rfl ?_
     refine WO_gt rfl ?_
     refine WO_mv (v := .s (.int _ _)) rfl ?_
     refine WO_gt rfl ?_
     refine WO_add rfl rfl (by omega) ?_
     refine WO_gt rfl ?_
     refine WO_bin (r := .bool _) rfl rfl rfl ?_
     refine WO_gt rfl ?_
     refine WO_pick (v := .s (.bool _)) rfl rfl ?_
     refine WO_gt rfl ?_
     refine WO_mv (v := .s (.bool _)) rfl ?_
     refine WO_case (t := 110) rfl (fun h14 => ?_) (fun h14 => ?_)
     ·try simp only [NM] at h14
      refine WO_gf rfl rfl ?_
      refine WO_gf rfl rfl ?_
      refine WO_gf rfl rfl ?_
      refine WO_gf rfl rfl ?_
      refine WO_gt rfl ?_
      refine WO_pick (v := .s (.bool _)) rfl rfl ?_
      refine WO_gt rfl ?_
      refine WO_mv (v := .s (.bool _)) rfl ?_
      refine WO_gf rfl rfl ?_
      refine WO_gf rfl rfl ?_
      refine WO_gf rfl rfl ?_
      refine WO_gf rfl rfl ?_
      refine WO_gf rfl rfl ?_
      refine WO_gf rfl rfl ?_
      refine WO_gf rfl rfl ?_
      refine WO_gf rfl rfl ?_
      refine WO_gt rfl ?_
      refine WO_pick (v := .s (.bool _)) rfl rfl ?_
      refine WO_gt rfl ?_
      refine WO_pick (v := .s (.bool _)) rfl rfl ?_
      refine WO_pick (v := .s (.bool _)) rfl rfl ?_
      refine WO_mv (v := .s (.bool _)) rfl ?_
      refine WO_nil ?_
      refine WP_ret ?_
      refine ⟨_, RS_tmp (v := .s (.bool _)) rfl (RS_nil), ?_⟩
      first | rfl | (refine congrArg (fun b => V.s (S.bool b)) ?_; simp only [beq_iff_eq, decide_eq_true_eq, Bool.false_eq_true]; omega) | (exfalso; omega)
     ·try simp only [NM] at h14
      refine WO_gt rfl ?_
      refine WO_mv (v := .s (.int _ _)) rfl ?_
      refine WO_gt rfl ?_
      refine WO_mv (v := .s (.int _ _)) rfl ?_
      refine WO_gt rfl ?_
      refine WO_add rfl rfl (by omega) ?_
      refine WO_gt rfl ?_
      refine WO_bin (r := .bool _) rfl rfl rfl ?_
      refine WO_gt rfl ?_
      refine WO_pick (v := .s (.bool _)) rfl rfl ?_
      refine WO_gt rfl ?_
      refine WO_mv (v := .s (.bool _)) rfl ?_
      refine WO_case (t := 116) rfl (fun h15 => ?_) (fun h15 => ?_)
      ·try simp only [NM] at h15
       refine WO_gf rfl rfl ?_
       refine WO_gf rfl rfl ?_
       refine WO_gf rfl rfl ?_
       refine WO_gf rfl rfl ?_
       refine WO_gf rfl rfl ?_
       refine WO_gf rfl rfl ?_
       refine WO_gf rfl rfl ?_
       refine WO_gf rfl rfl ?_
       refine WO_gt rfl ?_
       refine WO_pick (v := .s (.bool _)) rfl rfl ?_
       refine WO_gt rfl ?_
       refine WO_pick (v := .s (.bool _)) rfl rfl ?_
       refine WO_pick (v := .s (.bool _)) rfl rfl ?_
       refine WO_mv (v := .s (.bool _)) rfl ?_
       refine WO_nil ?_
       refine WP_ret ?_
       refine ⟨_, RS_tmp (v := .s (.bool _)) rfl (RS_nil), ?_⟩
       first | rfl | (refine congrArg (fun b => V.s (S.bool b)) ?_; simp only [beq_iff_eq, decide_eq_true_eq, Bool.false_eq_true]; omega) | (exfalso; omega)
      ·try simp only [NM] at h15
       refine WO_gt rfl ?_
       refine WO_mv (v := .s (.int _ _)) rfl ?_
       refine WO_gt rfl ?_
       refine WO_mv (v := .s (.int _ _)) rfl ?_
       refine WO_gt rfl ?_
       refine WO_mv (v := .s (.int _ _)) rfl ?_
       refine WO_gt rfl ?_
       refine WO_add rfl rfl (by omega) ?_
       refine WO_gt rfl ?_
       refine WO_mv (v := .s (.int _ _)) rfl ?_
       refine WO_gt rfl ?_
       refine WO_call0 rfl (Step_run _ _ _) rfl rfl rfl ?_
       refine WO_gt rfl ?_
       refine WO_mv (v := .s (.int _ _)) rfl ?_
       refine WO_gt rfl ?_
       refine WO_bin rfl rfl (eql_same (step_two (by omega) (by omega) (by omega) hr)) ?_
       refine WO_gt rfl ?_
       refine WO_pick (v := .s (.bool _)) rfl rfl ?_
       refine WO_gt rfl ?_
       refine WO_pick (v := .s (.bool _)) rfl rfl ?_
       refine WO_pick (v := .s (.bool _)) rfl rfl ?_
       refine WO_mv (v := .s (.bool _)) rfl ?_
       refine WO_nil ?_
       refine WP_ret ?_
       refine ⟨_, RS_tmp (v := .s (.bool _)) rfl (RS_nil), ?_⟩
       first | rfl | (refine congrArg (fun b => V.s (S.bool b)) ?_; simp only [beq_iff_eq, decide_eq_true_eq, Bool.false_eq_true]; omega) | (exfalso; omega)
   ·try simp only [NM] at h12
    refine WO_gf rfl rfl ?_
    refine WO_gf rfl rfl ?_
    refine WO_gf rfl rfl ?_
    refine WO_gu rfl ?_
    refine WO_gu rfl ?_
    refine WO_gu rfl ?_
    refine WO_gu rfl ?_
    refine WO_gf rfl rfl ?_
    refine WO_gf rfl rfl ?_
    refine WO_gu rfl ?_
    refine WO_gu rfl ?_
    refine WO_gu rfl ?_
    refine WO_gu rfl ?_
    refine WO_gf rfl rfl ?_
    refine WO_gf rfl rfl ?_
    refine WO_gu rfl ?_
    refine WO_gu rfl ?_
    refine WO_gu rfl ?_
    refine WO_gu rfl ?_
    refine WO_gu rfl ?_
    refine WO_gu rfl ?_
    refine WO_gu rfl ?_
    refine WO_gu rfl ?_
    refine WO_gf rfl rfl ?_
    refine WO_gt rfl ?_
    refine WO_pick (v := .s (.bool _)) rfl rfl ?_
    refine WO_pick (v := .s (.bool _)) rfl rfl ?_
    refine WO_mv (v := .s (.bool _)) rfl ?_
    refine WO_nil ?_
    refine WP_ret ?_
    refine ⟨_, RS_tmp (v := .s (.bool _)) rfl (RS_nil), ?_⟩
    first | rfl | (refine congrArg (fun b => V.s (S.bool b)) ?_; simp only [beq_iff_eq, decide_eq_true_eq, Bool.false_eq_true]; omega) | (exfalso; omega)
 ·try simp only [NM] at h5
  refine WO_gf rfl rfl ?_
  refine WO_gf rfl rfl ?_
  refine WO_gf rfl rfl ?_
  refine WO_gf rfl rfl ?_
  refine WO_gf rfl rfl ?_
  refine WO_gf rfl rfl ?_
  refine WO_gf rfl rfl ?_
  refine WO_gf rfl rfl ?_
  refine WO_gf rfl rfl ?_
  refine WO_gu rfl ?_
  refine WO_gu rfl ?_
  refine WO_gu rfl ?_
  refine WO_gu rfl ?_
  refine WO_gu rfl ?_
  refine WO_gu rfl ?_
  refine WO_gu rfl ?_
  refine WO_gu rfl ?_
  refine WO_gu rfl ?_
  refine WO_gu rfl ?_
  refine WO_gu rfl ?_
  refine WO_gu rfl ?_
  refine WO_gf rfl rfl ?_
  refine WO_gt rfl ?_
  refine WO_pick (v := .s (.bool _)) rfl rfl ?_
  refine WO_pick (v := .s (.bool _)) rfl rfl ?_
  refine WO_nil ?_
  refine WP_cond rfl (fun h => nomatch h) (fun _ => ?_)
  refine WP_skip ?_
  refine WP_seq ?_
  refine WP_ops ?_
  refine WO_mv (v := .s (.int _ _)) rfl ?_
  have hq87 := pickM_bd u (n := 15) (by omega)
  refine WO_call0 rfl (RF_of (Pick_run u 15 (by omega) (by omega))) rfl rfl rfl ?_
  refine WO_sub rfl rfl (by omega) ?_
  obtain ⟨k, hnk⟩ : ∃ q, q = pickM u 15 - 7 := ⟨_, rfl⟩
  rw [← hnk]
  have hk : -7 ≤ k ∧ k ≤ 7 := by omega
  refine WO_mv (v := .s (.int _ _)) rfl ?_
  refine WO_nil ?_
  refine WP_seq ?_
  refine WP_ops ?_
  refine WO_mv (v := .s (.int _ _)) rfl ?_
  refine WO_mv (v := .s (.int _ _)) rfl ?_
  refine WO_call0 rfl (Step_run _ _ _) rfl rfl rfl ?_
  have hub := stepM_bd (stepM a p r) k 0
  have hneg : 0 ≤ (stepM a p r) ∨ (stepM (stepM a p r) k 0) = -1 := by
    by_cases q : 0 ≤ (stepM a p r)
    · exact .inl q
    · exact .inr (step_neg (by omega))
  refine WO_mv (v := .s (.int _ _)) rfl ?_
  refine WO_nil ?_
  refine WP_seq ?_
  refine WP_ops ?_
  refine WO_mv (v := .s (.int _ _)) rfl ?_
  refine WO_bin (r := .bool _) rfl rfl rfl ?_
  refine WO_mv (v := .s (.bool _)) rfl ?_
  refine WO_case (t := 94) rfl (fun h16 => ?_) (fun h16 => ?_)
  ·try simp only [NM] at h16
   refine WO_gt rfl ?_
   refine WO_mv (v := .s (.int _ _)) rfl ?_
   refine WO_gt rfl ?_
   refine WO_bin (r := .bool _) rfl rfl rfl ?_
   refine WO_pick (v := .s (.bool _)) rfl rfl ?_
   refine WO_mv (v := .s (.bool _)) rfl ?_
   refine WO_case (t := 98) rfl (fun h17 => ?_) (fun h17 => ?_)
   ·try simp only [NM] at h17
    refine WO_gf rfl rfl ?_
    refine WO_gf rfl rfl ?_
    refine WO_gf rfl rfl ?_
    refine WO_gu rfl ?_
    refine WO_gu rfl ?_
    refine WO_gu rfl ?_
    refine WO_gu rfl ?_
    refine WO_gu rfl ?_
    refine WO_gu rfl ?_
    refine WO_gu rfl ?_
    refine WO_gu rfl ?_
    refine WO_gu rfl ?_
    refine WO_gu rfl ?_
    refine WO_gu rfl ?_
    refine WO_gu rfl ?_
    refine WO_gu rfl ?_
    refine WO_gu rfl ?_
    refine WO_gu rfl ?_
    refine WO_gu rfl ?_
    refine WO_gu rfl ?_
    refine WO_gu rfl ?_
    refine WO_gu rfl ?_
    refine WO_gu rfl ?_
    refine WO_gu rfl ?_
    refine WO_gu rfl ?_
    refine WO_gu rfl ?_
    refine WO_gu rfl ?_
    refine WO_gf rfl rfl ?_
    refine WO_pick (v := .s (.bool _)) rfl rfl ?_
    refine WO_mv (v := .s (.bool _)) rfl ?_
    refine WO_nil ?_
    refine WP_ret ?_
    refine ⟨_, RS_tmp (v := .s (.bool _)) rfl (RS_nil), ?_⟩
    first | rfl | (refine congrArg (fun b => V.s (S.bool b)) ?_; simp only [beq_iff_eq, decide_eq_true_eq, Bool.false_eq_true]; omega) | (exfalso; omega)
   ·try simp only [NM] at h17
    refine WO_gt rfl ?_
    refine WO_mv (v := .s (.int _ _)) rfl ?_
    refine WO_gt rfl ?_
    refine WO_bin (r := .bool _) rfl rfl rfl ?_
    refine WO_gt rfl ?_
    refine WO_mv (v := .s (.bool _)) rfl ?_
    refine WO_case (t := 101) rfl (fun h18 => ?_) (fun h18 => ?_)
    ·try simp only [NM] at h18
     refine WO_gt rfl ?_
     refine WO_mv (v := .s (.int _ _)) rfl ?_
     refine WO_gt rfl ?_
     refine WO_bin (r := .bool _) rfl rfl rfl ?_
     refine WO_gt rfl ?_
     refine WO_mv (v := .s (.bool _)) rfl ?_
     refine WO_case (t := 104) rfl (fun h19 => ?_) (fun h19 => ?_)
     ·try simp only [NM] at h19
      refine WO_gf rfl rfl ?_
      refine WO_gf rfl rfl ?_
      refine WO_gf rfl rfl ?_
      refine WO_gf rfl rfl ?_
      refine WO_gt rfl ?_
      refine WO_pick (v := .s (.bool _)) rfl rfl ?_
      refine WO_gt rfl ?_
      refine WO_mv (v := .s (.bool _)) rfl ?_
      refine WO_gf rfl rfl ?_
      refine WO_gf rfl rfl ?_
      refine WO_gf rfl rfl ?_
      refine WO_gf rfl rfl ?_
      refine WO_gt rfl ?_
      refine WO_pick (v := .s (.bool _)) rfl rfl ?_
      refine WO_gt rfl ?_
      refine WO_mv (v := .s (.bool _)) rfl ?_
      refine WO_gf rfl rfl ?_
      refine WO_gf rfl rfl ?_
      refine WO_gf rfl rfl ?_
      refine WO_gf rfl rfl ?_
      refine WO_gf rfl rfl ?_
      refine WO_gf rfl rfl ?_
      refine WO_gf rfl rfl ?_
      refine WO_gf rfl rfl ?_
      refine WO_gt rfl ?_
      refine WO_pick (v := .s (.bool _)) rfl rfl ?_
      refine WO_gt rfl ?_
      refine WO_pick (v := .s (.bool _)) rfl rfl ?_
      refine WO_pick (v := .s (.bool _)) rfl rfl ?_
      refine WO_mv (v := .s (.bool _)) rfl ?_
      refine WO_nil ?_
      refine WP_ret ?_
      refine ⟨_, RS_tmp (v := .s (.bool _)) rfl (RS_nil), ?_⟩
      first | rfl | (refine congrArg (fun b => V.s (S.bool b)) ?_; simp only [beq_iff_eq, decide_eq_true_eq, Bool.false_eq_true]; omega) | (exfalso; omega)
     ·try simp only [NM] at h19
      refine WO_gt rfl ?_
      refine WO_mv (v := .s (.int _ _)) rfl ?_
      refine WO_gt rfl ?_
      refine WO_mv (v := .s (.int _ _)) rfl ?_
      refine WO_gt rfl ?_
      refine WO_add rfl rfl (by omega) ?_
      refine WO_gt rfl ?_
      refine WO_bin (r := .bool _) rfl rfl rfl ?_
      refine WO_gt rfl ?_
      refine WO_pick (v := .s (.bool _)) rfl rfl ?_
      refine WO_gt rfl ?_
      refine WO_mv (v := .s (.bool _)) rfl ?_
      refine WO_case (t := 110) rfl (fun h20 => ?_) (fun h20 => ?_)
      ·try simp only [NM] at h20
       refine WO_gf rfl rfl ?_
       refine WO_gf rfl rfl ?_
       refine WO_gf rfl rfl ?_
       refine WO_gf rfl rfl ?_
       refine WO_gt rfl ?_
       refine WO_pick (v := .s (.bool _)) rfl rfl ?_
       refine WO_gt rfl ?_
       refine WO_mv (v := .s (.bool _)) rfl ?_
       refine WO_gf rfl rfl ?_
       refine WO_gf rfl rfl ?_
       refine WO_gf rfl rfl ?_
       refine WO_gf rfl rfl ?_
       refine WO_gf rfl rfl ?_
       refine WO_gf rfl rfl ?_
       refine WO_gf rfl rfl ?_
       refine WO_gf rfl rfl ?_
       refine WO_gt rfl ?_
       refine WO_pick (v := .s (.bool _)) rfl rfl ?_
       refine WO_gt rfl ?_
       refine WO_pick (v := .s (.bool _)) rfl rfl ?_
       refine WO_pick (v := .s (.bool _)) rfl rfl ?_
       refine WO_mv (v := .s (.bool _)) rfl ?_
       refine WO_nil ?_
       refine WP_ret ?_
       refine ⟨_, RS_tmp (v := .s (.bool _)) rfl (RS_nil), ?_⟩
       first | rfl | (refine congrArg (fun b => V.s (S.bool b)) ?_; simp only [beq_iff_eq, decide_eq_true_eq, Bool.false_eq_true]; omega) | (exfalso; omega)
      ·try simp only [NM] at h20
       refine WO_gt rfl ?_
       refine WO_mv (v := .s (.int _ _)) rfl ?_
       refine WO_gt rfl ?_
       refine WO_mv (v := .s (.int _ _)) rfl ?_
       refine WO_gt rfl ?_
       refine WO_add rfl rfl (by omega) ?_
       refine WO_gt rfl ?_
       refine WO_bin (r := .bool _) rfl rfl rfl ?_
       refine WO_gt rfl ?_
       refine WO_pick (v := .s (.bool _)) rfl rfl ?_
       refine WO_gt rfl ?_
       refine WO_mv (v := .s (.bool _)) rfl ?_
       refine WO_case (t := 116) rfl (fun h21 => ?_) (fun h21 => ?_)
       ·try simp only [NM] at h21
        refine WO_gf rfl rfl ?_
        refine WO_gf rfl rfl ?_
        refine WO_gf rfl rfl ?_
        refine WO_gf rfl rfl ?_
        refine WO_gf rfl rfl ?_
        refine WO_gf rfl rfl ?_
        refine WO_gf rfl rfl ?_
        refine WO_gf rfl rfl ?_
        refine WO_gt rfl ?_
        refine WO_pick (v := .s (.bool _)) rfl rfl ?_
        refine WO_gt rfl ?_
        refine WO_pick (v := .s (.bool _)) rfl rfl ?_
        refine WO_pick (v := .s (.bool _)) rfl rfl ?_
        refine WO_mv (v := .s (.bool _)) rfl ?_
        refine WO_nil ?_
        refine WP_ret ?_
        refine ⟨_, RS_tmp (v := .s (.bool _)) rfl (RS_nil), ?_⟩
        first | rfl | (refine congrArg (fun b => V.s (S.bool b)) ?_; simp only [beq_iff_eq, decide_eq_true_eq, Bool.false_eq_true]; omega) | (exfalso; omega)
       ·try simp only [NM] at h21
        refine WO_gt rfl ?_
        refine WO_mv (v := .s (.int _ _)) rfl ?_
        refine WO_gt rfl ?_
        refine WO_mv (v := .s (.int _ _)) rfl ?_
        refine WO_gt rfl ?_
        refine WO_mv (v := .s (.int _ _)) rfl ?_
        refine WO_gt rfl ?_
        refine WO_add rfl rfl (by omega) ?_
        refine WO_gt rfl ?_
        refine WO_mv (v := .s (.int _ _)) rfl ?_
        refine WO_gt rfl ?_
        refine WO_call0 rfl (Step_run _ _ _) rfl rfl rfl ?_
        refine WO_gt rfl ?_
        refine WO_mv (v := .s (.int _ _)) rfl ?_
        refine WO_gt rfl ?_
        refine WO_bin rfl rfl (eql_same (step_two (by omega) (by omega) (by omega) hr)) ?_
        refine WO_gt rfl ?_
        refine WO_pick (v := .s (.bool _)) rfl rfl ?_
        refine WO_gt rfl ?_
        refine WO_pick (v := .s (.bool _)) rfl rfl ?_
        refine WO_pick (v := .s (.bool _)) rfl rfl ?_
        refine WO_mv (v := .s (.bool _)) rfl ?_
        refine WO_nil ?_
        refine WP_ret ?_
        refine ⟨_, RS_tmp (v := .s (.bool _)) rfl (RS_nil), ?_⟩
        first | rfl | (refine congrArg (fun b => V.s (S.bool b)) ?_; simp only [beq_iff_eq, decide_eq_true_eq, Bool.false_eq_true]; omega) | (exfalso; omega)
    ·try simp only [NM] at h18
     refine WO_gf rfl rfl ?_
     refine WO_gf rfl rfl ?_
     refine WO_gf rfl rfl ?_
     refine WO_gu rfl ?_
     refine WO_gu rfl ?_
     refine WO_gu rfl ?_
     refine WO_gu rfl ?_
     refine WO_gf rfl rfl ?_
     refine WO_gf rfl rfl ?_
     refine WO_gu rfl ?_
     refine WO_gu rfl ?_
     refine WO_gu rfl ?_
     refine WO_gu rfl ?_
     refine WO_gf rfl rfl ?_
     refine WO_gf rfl rfl ?_
     refine WO_gu rfl ?_
     refine WO_gu rfl ?_
     refine WO_gu rfl ?_
     refine WO_gu rfl ?_
     refine WO_gu rfl ?_
     refine WO_gu rfl ?_
     refine WO_gu rfl ?_
     refine WO_gu rfl ?_
     refine WO_gf rfl rfl ?_
     refine WO_gt rfl ?_
     refine WO_pick (v := .s (.bool _)) rfl rfl ?_
     refine WO_pick (v := .s (.bool _)) rfl rfl ?_
     refine WO_mv (v := .s (.bool _)) rfl ?_
     refine WO_nil ?_
     refine WP_ret ?_
     refine ⟨_, RS_tmp (v := .s (.bool _)) rfl (RS_nil), ?_⟩
     first | rfl | (refine congrArg (fun b => V.s (S.bool b)) ?_; simp only [beq_iff_eq, decide_eq_true_eq, Bool.false_eq_true]; omega) | (exfalso; omega)
  ·try simp only [NM] at h16
   refine WO_gf rfl rfl ?_
   refine WO_gf rfl rfl ?_
   refine WO_pick (v := .s (.bool _)) rfl rfl ?_
   refine WO_mv (v := .s (.bool _)) rfl ?_
   refine WO_gt rfl ?_
   refine WO_mv (v := .s (.int _ _)) rfl ?_
   refine WO_gt rfl ?_
   refine WO_bin (r := .bool _) rfl rfl rfl ?_
   refine WO_gt rfl ?_
   refine WO_mv (v := .s (.bool _)) rfl ?_
   refine WO_case (t := 101) rfl (fun h22 => ?_) (fun h22 => ?_)
   ·try simp only [NM] at h22
    refine WO_gt rfl ?_
    refine WO_mv (v := .s (.int _ _)) rfl ?_
    refine WO_gt rfl ?_
    refine WO_bin (r := .bool _) rfl rfl rfl ?_
    refine WO_gt rfl ?_
    refine WO_mv (v := .s (.bool _)) rfl ?_
    refine WO_case (t := 104) rfl (fun h23 => ?_) (fun h23 => ?_)
    ·try simp only [NM] at h23
     refine WO_gf rfl rfl ?_
     refine WO_gf rfl rfl ?_
     refine WO_gf rfl rfl ?_
     refine WO_gf rfl rfl ?_
     refine WO_gt rfl ?_
     refine WO_pick (v := .s (.bool _)) rfl rfl ?_
     refine WO_gt rfl ?_
     refine WO_mv (v := .s (.bool _)) rfl ?_
     refine WO_gf rfl rfl ?_
     refine WO_gf rfl rfl ?_
     refine WO_gf rfl rfl ?_
     refine WO_gf rfl rfl ?_
     refine WO_gt rfl ?_
     refine WO_pick (v := .s (.bool _)) rfl rfl ?_
     refine WO_gt rfl ?_
     refine WO_mv (v := .s (.bool _)) rfl ?_
     refine WO_gf rfl rfl ?_
     refine WO_gf rfl rfl ?_
     refine WO_gf rfl rfl ?_
     refine WO_gf rfl rfl ?_
     refine WO_gf rfl rfl ?_
     refine WO_gf rfl rfl ?_
     refine WO_gf rfl rfl ?_
     refine WO_gf rfl rfl ?_
     refine WO_gt rfl ?_
     refine WO_pick (v := .s (.bool _)) rfl rfl ?_
     refine WO_gt rfl ?_
     refine WO_pick (v := .s (.bool _)) rfl rfl ?_
     refine WO_pick (v := .s (.bool _)) rfl rfl ?_
     refine WO_mv (v := .s (.bool _)) rfl ?_
     refine WO_nil ?_
     refine WP_ret ?_
     refine ⟨_, RS_tmp (v := .s (.bool _)) rfl (RS_nil), ?_⟩
     first | rfl | (refine congrArg (fun b => V.s (S.bool b)) ?_; simp only [beq_iff_eq, decide_eq_true_eq, Bool.false_eq_true]; omega) | (exfalso; omega)
    ·try simp only [NM] at h23
     refine WO_gt rfl ?_
     refine WO_mv (v := .s (.int _ _)) rfl ?_
     refine WO_gt rfl ?_
     refine WO_mv (v := .s (.int _ _)) rfl ?_
     refine WO_gt rfl ?_
     refine WO_add rfl rfl (by omega) ?_
     refine WO_gt rfl ?_
     refine WO_bin (r := .bool _) rfl rfl rfl ?_
     refine WO_gt rfl ?_
     refine WO_pick (v := .s (.bool _)) rfl rfl ?_
     refine WO_gt rfl ?_
     refine WO_mv (v := .s (.bool _)) rfl ?_
     refine WO_case (t := 110) rfl (fun h24 => ?_) (fun h24 => ?_)
     ·try simp only [NM] at h24
      refine WO_gf rfl rfl ?_
      refine WO_gf rfl rfl ?_
      refine WO_gf rfl rfl ?_
      refine WO_gf rfl rfl ?_
      refine WO_gt rfl ?_
      refine WO_pick (v := .s (.bool _)) rfl rfl ?_
      refine WO_gt rfl ?_
      refine WO_mv (v := .s (.bool _)) rfl ?_
      refine WO_gf rfl rfl ?_
      refine WO_gf rfl rfl ?_
      refine WO_gf rfl rfl ?_
      refine WO_gf rfl rfl ?_
      refine WO_gf rfl rfl ?_
      refine WO_gf rfl rfl ?_
      refine WO_gf rfl rfl ?_
      refine WO_gf rfl rfl ?_
      refine WO_gt rfl ?_
      refine WO_pick (v := .s (.bool _)) rfl rfl ?_
      refine WO_gt rfl ?_
      refine WO_pick (v := .s (.bool _)) rfl rfl ?_
      refine WO_pick (v := .s (.bool _)) rfl rfl ?_
      refine WO_mv (v := .s (.bool _)) rfl ?_
      refine WO_nil ?_
      refine WP_ret ?_
      refine ⟨_, RS_tmp (v := .s (.bool _)) rfl (RS_nil), ?_⟩
      first | rfl | (refine congrArg (fun b => V.s (S.bool b)) ?_; simp only [beq_iff_eq, decide_eq_true_eq, Bool.false_eq_true]; omega) | (exfalso; omega)
     ·try simp only [NM] at h24
      refine WO_gt rfl ?_
      refine WO_mv (v := .s (.int _ _)) rfl ?_
      refine WO_gt rfl ?_
      refine WO_mv (v := .s (.int _ _)) rfl ?_
      refine WO_gt rfl ?_
      refine WO_add rfl rfl (by omega) ?_
      refine WO_gt rfl ?_
      refine WO_bin (r := .bool _) rfl rfl rfl ?_
      refine WO_gt rfl ?_
      refine WO_pick (v := .s (.bool _)) rfl rfl ?_
      refine WO_gt rfl ?_
      refine WO_mv (v := .s (.bool _)) rfl ?_
      refine WO_case (t := 116) rfl (fun h25 => ?_) (fun h25 => ?_)
      ·try simp only [NM] at h25
       refine WO_gf rfl rfl ?_
       refine WO_gf rfl rfl ?_
       refine WO_gf rfl rfl ?_
       refine WO_gf rfl rfl ?_
       refine WO_gf rfl rfl ?_
       refine WO_gf rfl rfl ?_
       refine WO_gf rfl rfl ?_
       refine WO_gf rfl rfl ?_
       refine WO_gt rfl ?_
       refine WO_pick (v := .s (.bool _)) rfl rfl ?_
       refine WO_gt rfl ?_
       refine WO_pick (v := .s (.bool _)) rfl rfl ?_
       refine WO_pick (v := .s (.bool _)) rfl rfl ?_
       refine WO_mv (v := .s (.bool _)) rfl ?_
       refine WO_nil ?_
       refine WP_ret ?_
       refine ⟨_, RS_tmp (v := .s (.bool _)) rfl (RS_nil), ?_⟩
       first | rfl | (refine congrArg (fun b => V.s (S.bool b)) ?_; simp only [beq_iff_eq, decide_eq_true_eq, Bool.false_eq_true]; omega) | (exfalso; omega)
      ·try simp only [NM] at h25
       refine WO_gt rfl ?_
       refine WO_mv (v := .s (.int _ _)) rfl ?_
       refine WO_gt rfl ?_
       refine WO_mv (v := .s (.int _ _)) rfl ?_
       refine WO_gt rfl ?_
       refine WO_mv (v := .s (.int _ _)) rfl ?_
       refine WO_gt rfl ?_
       refine WO_add rfl rfl (by omega) ?_
       refine WO_gt rfl ?_
       refine WO_mv (v := .s (.int _ _)) rfl ?_
       refine WO_gt rfl ?_
       refine WO_call0 rfl (Step_run _ _ _) rfl rfl rfl ?_
       refine WO_gt rfl ?_
       refine WO_mv (v := .s (.int _ _)) rfl ?_
       refine WO_gt rfl ?_
       refine WO_bin rfl rfl (eql_same (step_two (by omega) (by omega) (by omega) hr)) ?_
       refine WO_gt rfl ?_
       refine WO_pick (v := .s (.bool _)) rfl rfl ?_
       refine WO_gt rfl ?_
       refine WO_pick (v := .s (.bool _)) rfl rfl ?_
       refine WO_pick (v := .s (.bool _)) rfl rfl ?_
       refine WO_mv (v := .s (.bool _)) rfl ?_
       refine WO_nil ?_
       refine WP_ret ?_
       refine ⟨_, RS_tmp (v := .s (.bool _)) rfl (RS_nil), ?_⟩
       first | rfl | (refine congrArg (fun b => V.s (S.bool b)) ?_; simp only [beq_iff_eq, decide_eq_true_eq, Bool.false_eq_true]; omega) | (exfalso; omega)
   ·try simp only [NM] at h22
    refine WO_gf rfl rfl ?_
    refine WO_gf rfl rfl ?_
    refine WO_gf rfl rfl ?_
    refine WO_gu rfl ?_
    refine WO_gu rfl ?_
    refine WO_gu rfl ?_
    refine WO_gu rfl ?_
    refine WO_gf rfl rfl ?_
    refine WO_gf rfl rfl ?_
    refine WO_gu rfl ?_
    refine WO_gu rfl ?_
    refine WO_gu rfl ?_
    refine WO_gu rfl ?_
    refine WO_gf rfl rfl ?_
    refine WO_gf rfl rfl ?_
    refine WO_gu rfl ?_
    refine WO_gu rfl ?_
    refine WO_gu rfl ?_
    refine WO_gu rfl ?_
    refine WO_gu rfl ?_
    refine WO_gu rfl ?_
    refine WO_gu rfl ?_
    refine WO_gu rfl ?_
    refine WO_gf rfl rfl ?_
    refine WO_gt rfl ?_
    refine WO_pick (v := .s (.bool _)) rfl rfl ?_
    refine WO_pick (v := .s (.bool _)) rfl rfl ?_
    refine WO_mv (v := .s (.bool _)) rfl ?_
    refine WO_nil ?_
    refine WP_ret ?_
    refine ⟨_, RS_tmp (v := .s (.bool _)) rfl (RS_nil), ?_⟩
    first | rfl | (refine congrArg (fun b => V.s (S.bool b)) ?_; simp only [beq_iff_eq, decide_eq_true_eq, Bool.false_eq_true]; omega) | (exfalso; omega)
end Go.Proofs.Ytjldefmcnppdoaa
