/- The walks of the chapter board: found, kings, put, turned by the document. -/
import Derived.Test.YtjldefmcnppdoaaBoardB
namespace Go.Am
open Go
section
variable {A : AP} {N : Nat} {f : FE} {n : Nat} {L : HA} {K : KN} {l : List I} {d : Nat}
theorem WO_slA0 {len z : Nat} {x : O} {b o z' : Nat} (hx : x.fv N f = .ptr b o z') (hz : Nat.ble (len * z) z' = true) (h0 : 0 < len) (k : WO A N l (upd f d (.sl b o len z (.ex len))) n L K) : WO A N (⟨some d, none, .p (.slA len z x none none)⟩ :: l) f n L K :=
  WO_p (v := .sl b o len z (.ex len)) (by
    simp only [pureV, ev_E, hx, bound_E, fvb, if_pos (Nat.le_of_ble_eq_true hz)]
    rw [if_pos (by omega), if_pos (by omega)]
    simp) k
theorem WO_slVx {z : Nat} {x y : O} {b o p c : Nat} {q : Int} (hx : x.fv N f = .sl b o p z (.ex c)) (hy : y.fv N f = .s (.int .i64 q)) (hq : 0 ≤ q ∧ q ≤ c) (k : WO A N l (upd f d (.sl b o q.toNat z (.ex c))) n L K) : WO A N (⟨some d, none, .p (.slV z x none (some y))⟩ :: l) f n L K :=
  WO_p (v := .sl b o q.toNat z (.ex c)) (by
    simp only [pureV, ev_E, hx, bound_E, fvb, hy, num?, if_true]
    rw [if_pos ⟨by omega, hq.1, hq.2⟩]
    simp) k
theorem WO_mkslI0 {bytes : Nat} {x y : O} {c : Int} (hx : x.fv N f = .s (.int .i64 0)) (hy : y.fv N f = .s (.int .i64 c)) (hc : 0 ≤ c ∧ c ≤ 9223372036854775807) (hr : roomy c.toNat bytes = true) (k : WO A N l (upd f d (.sl n 0 0 1 (.ex c.toNat))) (n + 1) ((n, .sc .var c.toNat (ia fun _ => 0)) :: L) K) : WO A N (⟨some d, none, .h (.mkslice 1 bytes (.one (.s (.int .i64 0))) x y)⟩ :: l) f n L K :=
  WO_h (v := .sl n 0 0 1 (.ex c.toNat)) (fun σ hσ => ⟨σ ++ [.sc .var c.toNat (ia fun _ => 0)], by
    simp only [heapV, ev_E, hx, hy, Z.size]
    rw [if_pos ⟨by omega, by omega, trivial, by omega⟩, hr]
    simp only [cond_true, Z.row, hσ.1]
    rfl, hσ.new _⟩) k
theorem WO_appendX {z bytes m p c : Nat} {s x : O} {b o b' o' : Nat} {c' : Cp} {md md' : Md} {q q' : Nat} {R R' : Nat → Int} {L' : HA} (hs : s.fv N f = .sl b o p z (.ex c)) (hx : x.fv N f = .sl b' o' m z c') (hb : (b', Blk.sc md' q' (ia R')) ∈ L) (hmd : md.mut = true) (hle : p + m ≤ c) (hm : At b (.sc md q (ia R)) (.sc md q (ia (ovA R (o + p * z) (m * z) fun i => R' (o' + i)))) L L')
    (k : WO A N l (upd f d (.sl b o (p + m) z (.ex c))) n L' K) : WO A N (⟨some d, none, .h (.append z bytes s x)⟩ :: l) f n L K :=
  WO_h (v := .sl b o (p + m) z (.ex c)) (fun σ hσ => ⟨σ.set b (.sc md q (ia (ovA R (o + p * z) (m * z) fun i => R' (o' + i)))), by
    simp only [heapV, ev_E, hs, hx, appendV, srcOf, (hσ.2.mem hb).2, if_true]
    rw [if_pos hle]
    simp only [wrV, (hσ.2.mem hm.mem).2, hmd, if_true, V.scells, Option.map_some]
    rw [← over_ia], hσ.set hm⟩) k
theorem WO_appendX0 {z bytes p c : Nat} {s x : O} {b o : Nat} {md : Md} {q : Nat} {R : Nat → Int} {L' : HA} {v : V} (hs : s.fv N f = .sl b o p z (.ex c)) (hx : x.fv N f = v) (hv : v = .snil ∨ v = .slz) (hmd : md.mut = true) (hle : p ≤ c) (hm : At b (.sc md q (ia R)) (.sc md q (ia (ovA R (o + p * z) (0 * z) fun _ => 0))) L L')
    (k : WO A N l (upd f d (.sl b o p z (.ex c))) n L' K) : WO A N (⟨some d, none, .h (.append z bytes s x)⟩ :: l) f n L K :=
  WO_h (v := .sl b o p z (.ex c)) (fun σ hσ => ⟨σ.set b (.sc md q (ia (ovA R (o + p * z) (0 * z) fun _ => 0))), by
    rcases hv with rfl | rfl <;>
    · simp only [heapV, ev_E, hs, hx, appendV, srcOf, if_true, Nat.add_zero]
      rw [if_pos hle]
      simp only [wrV, (hσ.2.mem hm.mem).2, hmd, if_true, V.scells, Option.map_some]
      rw [← over_ia]
      rfl, hσ.set hm⟩) k
end
end Go.Am

namespace Go.Proofs.Ytjldefmcnppdoaa
open Go Go.Am
set_option linter.unusedSimpArgs false
set_option linter.unusedVariables false
/-- The first of n that are so; all of them, listed. -/
def IsFst (S1 : Nat → Bool) (n : Nat) (x : Int) : Prop := (x = -1 ∧ ∀ j : Nat, j < n → S1 j = false) ∨ (∃ i : Nat, i < n ∧ x = i ∧ S1 i = true ∧ ∀ j : Nat, j < i → S1 j = false)
theorem IsFst.uniq {S1 : Nat → Bool} {n : Nat} {x y : Int} (h : IsFst S1 n x) (k : IsFst S1 n y) : x = y := by
  rcases h with ⟨rfl, h⟩ | ⟨i, hi, rfl, h1, h2⟩
  · rcases k with ⟨rfl, _⟩ | ⟨j, hj, rfl, k1, _⟩
    · rfl
    · rw [h j hj] at k1; cases k1
  · rcases k with ⟨rfl, k⟩ | ⟨j, hj, rfl, k1, k2⟩
    · rw [k i hi] at h1; cases h1
    · by_cases a : i < j
      · rw [k2 i a] at h1; cases h1
      · by_cases b : j < i
        · rw [h2 j b] at k1; cases k1
        · have : i = j := by omega
          rw [this]
def lstM (S1 : Nat → Bool) : Nat → Nat × (Nat → Int)
  | 0 => (0, fun _ => 0)
  | i + 1 => if S1 i = true then ((lstM S1 i).1 + 1, fun j => if j < (lstM S1 i).1 then (lstM S1 i).2 j else i) else lstM S1 i
theorem lstM_le (S1 : Nat → Bool) : ∀ n, (lstM S1 n).1 ≤ n
  | 0 => Nat.le_refl _
  | i + 1 => by
    have := lstM_le S1 i
    unfold lstM
    split
    · show _ + 1 ≤ _; omega
    · omega
theorem lst_no {S1 : Nat → Bool} {i : Nat} (h : S1 i = false) : lstM S1 (i + 1) = lstM S1 i := by rw [lstM, if_neg (by rw [h]; decide)]
theorem lst_yes {S1 : Nat → Bool} {i : Nat} (h : S1 i = true) : lstM S1 (i + 1) = ((lstM S1 i).1 + 1, fun j => if j < (lstM S1 i).1 then (lstM S1 i).2 j else i) := by rw [lstM, if_pos h]
theorem lst_first (S1 : Nat → Bool) : ∀ n : Nat, ((lstM S1 n).1 = 0 ∧ ∀ j : Nat, j < n → S1 j = false) ∨ (0 < (lstM S1 n).1 ∧ ∃ i : Nat, i < n ∧ (lstM S1 n).2 0 = i ∧ S1 i = true ∧ ∀ j : Nat, j < i → S1 j = false)
  | 0 => .inl ⟨rfl, fun j h => by omega⟩
  | n + 1 => by
    cases hs : S1 n with
    | false =>
      rw [lst_no hs]
      rcases lst_first S1 n with ⟨h0, h⟩ | ⟨h0, i, hi, e, h1, h2⟩
      · exact .inl ⟨h0, fun j hj => by
          by_cases q : j = n
          · subst q; exact hs
          · exact h j (by omega)⟩
      · exact .inr ⟨h0, i, by omega, e, h1, h2⟩
    | true =>
      rw [lst_yes hs]
      rcases lst_first S1 n with ⟨h0, h⟩ | ⟨h0, i, hi, e, h1, h2⟩
      · refine .inr ⟨by show 0 < _ + 1; omega, n, by omega, ?_, hs, h⟩
        show (if 0 < (lstM S1 n).1 then _ else _) = _
        rw [if_neg (by omega)]
      · refine .inr ⟨by show 0 < _ + 1; omega, i, by omega, ?_, h1, h2⟩
        show (if 0 < (lstM S1 n).1 then _ else _) = _
        rw [if_pos h0]; exact e
theorem gw_at {G R : Nat → Int} {c : Nat} {j : Nat} (h : j < c + 1) : (bif Nat.blt j (c * 1) then G (0 + j) else R (0 + (j - c * 1))) = if j < c then G j else R 0 := by
  by_cases k : j < c
  · rw [show Nat.blt j (c * 1) = true from Nat.ble_eq_true_of_le (by omega), if_pos k, Nat.zero_add]; rfl
  · have : Nat.blt j (c * 1) = false := by
      cases hb : Nat.blt j (c * 1) with
      | false => rfl
      | true => have := Nat.le_of_ble_eq_true hb; omega
    rw [this, if_neg k, show 0 + (j - c * 1) = 0 by omega]; rfl
theorem gw_lst {F R G : Nat → Int} {c : Nat} {t : Int} (h : ∀ j : Nat, j < c → F j = G j) (hr : R 0 = t) : ∀ j : Nat, j < c + 1 → (bif Nat.blt j (c * 1) then F (0 + j) else R (0 + (j - c * 1))) = if j < c then G j else t := by
  intro j hj
  rw [gw_at hj]
  by_cases k : j < c
  · rw [if_pos k, if_pos k]; exact h j k
  · rw [if_neg k, if_neg k]; exact hr
/-- A piece stands on a square of a position. -/
def stB (P X : Nat → Int) (s : Nat) : Bool := standM P s (X 0) (X 1)
theorem eq_stB {P X : Nat → Int} {i : Nat} : eqI 2 (dp P (sqI i)) X = stB P X i := by
  rw [eq_two]; rfl
theorem eq_stB2 {P X : Nat → Int} {i : Nat} : eqI 2 X (dp P (sqI i)) = stB P X i := by
  rw [eq_two, Bool.eq_iff_iff]
  show _ ↔ decide (P (sqI i) = X 0 ∧ P (sqI i + 1) = X 1) = true
  rw [decide_eq_true_eq, decide_eq_true_eq]
  constructor
  · rintro ⟨a, b⟩; exact ⟨a.symm, b.symm⟩
  · rintro ⟨a, b⟩; exact ⟨a.symm, b.symm⟩
theorem eqI_two {X Y X' Y' : Nat → Int} (h0 : X 0 = X' 0) (h1 : X 1 = X' 1) (k0 : Y 0 = Y' 0) (k1 : Y 1 = Y' 1) : eqI 2 X Y = eqI 2 X' Y' := by
  rw [eq_two, eq_two, h0, h1, k0, k1]

theorem Find_walk (P X : Nat → Int) : WR AM 58 [.agg 133 (ia P), .agg 2 (ia X)] [] (fun v _ L => ((lstM (stB P X) 64).1 = 0 ∧ v = .snil) ∨ (0 < (lstM (stB P X) 64).1 ∧ ∃ b q F, v = .sl b 0 (lstM (stB P X) 64).1 1 .whole ∧ (∀ j : Nat, j < (lstM (stB P X) 64).1 → F j = (lstM (stB P X) 64).2 j) ∧ (b, Blk.sc .grow q (ia F)) ∈ L)) := by
 refine WR_fn (a := a58) rfl rfl (entryF _) (entry_E (Nat.le_of_ble_eq_true rfl)) (m := 0) rfl ?_
 refine WP_seq ?_
 refine WP_ops ?_
 refine WO_boxA rfl ?_
 refine WO_boxA rfl ?_
 refine WO_mv rfl ?_
 refine WO_nil ?_
 refine WP_seq ?_
 refine WP_seq ?_
 refine WP_ops ?_
 refine WO_fa (o' := 0) rfl rfl rfl ?_
 first | refine WO_ldA0 rfl rfl (.tail _ (.head _)) ?_ | refine WO_ldAI rfl rfl (.tail _ (.head _)) ?_
 refine WO_mv rfl ?_
 refine WO_nil ?_
 refine WP_block ?_
 refine WP_sub (L' := [_, _]) (.cons_cons _ (.cons_cons _ .slnil)) ?_
 refine WP_loop (fun m f nn L => ∃ (i : Nat), (i ≤ 64) ∧ (m = 64 - i) ∧ (f 8 = .agg 128 (ia P)) ∧ (f 2 = .ptr 0 0 133) ∧ (f 3 = .ptr 1 0 2) ∧ (f 9 = .s (.int .i64 i)) ∧ ((((lstM (stB P X) i).1 = 0) ∧ (f 4 = .snil) ∧ (L = [(1, .sc .var 2 (ia X)), (0, .sc .var 133 (ia P))])) ∨ (∃ (b cnt q : Nat) (F : Nat → Int), (cnt = (lstM (stB P X) i).1 ∧ 0 < cnt) ∧ (∀ j : Nat, j < cnt → F j = (lstM (stB P X) i).2 j) ∧ (f 4 = .sl b 0 cnt 1 .whole) ∧ (L = (b, Blk.sc .grow q (ia F)) :: [(1, .sc .var 2 (ia X)), (0, .sc .var 133 (ia P))])))) (fun m f nb L hI => ?_) (64) ⟨0, by omega, rfl, rfl, rfl, rfl, rfl, .inl ⟨rfl, rfl, rfl⟩⟩
 obtain ⟨i, hi, hm, k8, k2, k3, k9, hI2⟩ := hI
 rcases hI2 with ⟨hc, kS, rfl⟩ | ⟨b, cnt, q, F, hc, hF, kS, rfl⟩
 ·skip
  refine WP_know (d := 8) (v := .agg 128 (ia P)) k8 ?_
  refine WP_know (d := 2) (v := .ptr 0 0 133) k2 ?_
  refine WP_know (d := 3) (v := .ptr 1 0 2) k3 ?_
  refine WP_know (d := 9) (v := .s (.int .i64 i)) k9 ?_
  refine WP_know (d := 4) (v := .snil) kS ?_
  have hle := lstM_le (stB P X) i
  refine WP_seq ?_
  refine WP_ops ?_
  refine WO_bin (r := .bool _) rfl rfl rfl ?_
  refine WO_nil ?_
  refine WP_seq ?_
  refine WP_cond rfl (fun h1 => ?_) (fun h1 => ?_)
  ·try simp only [NM] at h1
   try replace h1 := ((eqI_two (X := X) (X' := X) (Y := ovA (fun _ => 0) 0 2 (dp P (sqI i))) (Y' := dp P (sqI i)) rfl rfl rfl rfl).trans eq_stB2).symm.trans h1
   refine WP_skip ?_
   refine WP_seq ?_
   refine WP_block ?_
   refine WP_seq ?_
   refine WP_ops ?_
   refine WO_mv (v := .s (.int _ _)) rfl ?_
   refine WO_ixA rfl rfl rfl (by omega) ?_
   rw [dp_ix]
   refine WO_allocI ?_
   refine WO_mv (v := .s (.int _ _)) rfl ?_
   refine WO_stA rfl rfl rfl rfl .here ?_
   refine WO_nil ?_
   refine WP_seq ?_
   refine WP_ops ?_
   first | refine WO_ldA0 rfl rfl (.tail _ (.head _)) ?_ | refine WO_ldAI rfl rfl (.tail _ (.head _)) ?_
   first | refine WO_ldA0 rfl rfl (.head _) ?_ | refine WO_ldAI rfl rfl (.head _) ?_
   refine WO_eqa rfl rfl ?_
   refine WO_nil ?_
   refine WP_cond rfl (fun h2 => ?_) (fun h2 => ?_)
   ·try simp only [NM] at h2
    try replace h2 := ((eqI_two (X := X) (X' := X) (Y := ovA (fun _ => 0) 0 2 (dp P (sqI i))) (Y' := dp P (sqI i)) rfl rfl rfl rfl).trans eq_stB2).symm.trans h2
    refine WP_ops ?_
    refine WO_mv (v := .snil) rfl ?_
    refine WO_mv (v := .s (.int _ _)) rfl ?_
    refine WO_mkslS rfl (.one rfl .nil) ?_
    refine WO_appendNil rfl rfl (.head _) (by decide) rfl ?_
    refine WO_mv (v := .sl _ _ _ _ _) rfl ?_
    refine WO_nil ?_
    refine WP_ops ?_
    refine WO_add rfl rfl (by omega) ?_
    refine WO_mv (v := .s (.int _ _)) rfl ?_
    refine WO_nil ?_
    have hr := lst_yes (S1 := stB P X) (i := i) (by assumption)
    refine ⟨64 - (i + 1), _, by omega, (.cons_cons _ (.cons _ (.cons _ (.cons_cons _ (.cons_cons _ .slnil))))), i + 1, by omega, rfl, rfl, rfl, rfl, rfl, .inr ⟨_, 1, _, _, ⟨by rw [hr]; show 1 = _ + 1; omega, by omega⟩, ?_, rfl, rfl⟩⟩
    intro j hj
    obtain rfl : j = 0 := by omega
    rw [hr]
    show _ = if 0 < (lstM (stB P X) i).1 then _ else _
    rw [if_neg (by omega)]; rfl
   ·try simp only [NM] at h2
    try replace h2 := ((eqI_two (X := X) (X' := X) (Y := ovA (fun _ => 0) 0 2 (dp P (sqI i))) (Y' := dp P (sqI i)) rfl rfl rfl rfl).trans eq_stB2).symm.trans h2
    refine WP_skip ?_
    refine WP_ops ?_
    refine WO_add rfl rfl (by omega) ?_
    refine WO_mv (v := .s (.int _ _)) rfl ?_
    refine WO_nil ?_
    have hr := lst_no (S1 := stB P X) (i := i) (by assumption)
    refine ⟨64 - (i + 1), _, by omega, (.cons _ (.cons_cons _ (.cons_cons _ .slnil))), i + 1, by omega, rfl, rfl, rfl, rfl, rfl, .inl ⟨by rw [hr]; exact hc, rfl, rfl⟩⟩
  ·try simp only [NM] at h1
   try replace h1 := ((eqI_two (X := X) (X' := X) (Y := ovA (fun _ => 0) 0 2 (dp P (sqI i))) (Y' := dp P (sqI i)) rfl rfl rfl rfl).trans eq_stB2).symm.trans h1
   refine WP_exit ?_
   refine xhere ?_
   refine WP_seq ?_
   refine WP_ops ?_
   refine WO_mv (v := .snil) rfl ?_
   refine WO_mv (v := .snil) rfl ?_
   refine WO_nil ?_
   refine WP_ret ?_
   refine ⟨_, RS_tmp (v := .snil) rfl (RS_nil), ?_⟩
   obtain rfl : i = 64 := by omega
   exact .inl ⟨hc, rfl⟩
 ·skip
  refine WP_know (d := 8) (v := .agg 128 (ia P)) k8 ?_
  refine WP_know (d := 2) (v := .ptr 0 0 133) k2 ?_
  refine WP_know (d := 3) (v := .ptr 1 0 2) k3 ?_
  refine WP_know (d := 9) (v := .s (.int .i64 i)) k9 ?_
  refine WP_know (d := 4) (v := .sl b 0 cnt 1 .whole) kS ?_
  have hle := lstM_le (stB P X) i
  refine WP_seq ?_
  refine WP_ops ?_
  refine WO_bin (r := .bool _) rfl rfl rfl ?_
  refine WO_nil ?_
  refine WP_seq ?_
  refine WP_cond rfl (fun h3 => ?_) (fun h3 => ?_)
  ·try simp only [NM] at h3
   try replace h3 := ((eqI_two (X := X) (X' := X) (Y := ovA (fun _ => 0) 0 2 (dp P (sqI i))) (Y' := dp P (sqI i)) rfl rfl rfl rfl).trans eq_stB2).symm.trans h3
   refine WP_skip ?_
   refine WP_seq ?_
   refine WP_block ?_
   refine WP_seq ?_
   refine WP_ops ?_
   refine WO_mv (v := .s (.int _ _)) rfl ?_
   refine WO_ixA rfl rfl rfl (by omega) ?_
   rw [dp_ix]
   refine WO_allocI ?_
   refine WO_mv (v := .s (.int _ _)) rfl ?_
   refine WO_stA rfl rfl rfl rfl .here ?_
   refine WO_nil ?_
   refine WP_seq ?_
   refine WP_ops ?_
   first | refine WO_ldA0 rfl rfl (.tail _ (.tail _ (.head _))) ?_ | refine WO_ldAI rfl rfl (.tail _ (.tail _ (.head _))) ?_
   first | refine WO_ldA0 rfl rfl (.head _) ?_ | refine WO_ldAI rfl rfl (.head _) ?_
   refine WO_eqa rfl rfl ?_
   refine WO_nil ?_
   refine WP_cond rfl (fun h4 => ?_) (fun h4 => ?_)
   ·try simp only [NM] at h4
    try replace h4 := ((eqI_two (X := X) (X' := X) (Y := ovA (fun _ => 0) 0 2 (dp P (sqI i))) (Y' := dp P (sqI i)) rfl rfl rfl rfl).trans eq_stB2).symm.trans h4
    refine WP_ops ?_
    refine WO_mv (v := .sl _ _ _ _ _) rfl ?_
    refine WO_mv (v := .s (.int _ _)) rfl ?_
    refine WO_mkslS rfl (.one rfl .nil) ?_
    refine WO_appendW rfl rfl (.head _) (.there (.there .here)) (by simp [roomy]; omega) ?_
    refine WO_mv (v := .sl _ _ _ _ _) rfl ?_
    refine WO_nil ?_
    refine WP_ops ?_
    refine WO_add rfl rfl (by omega) ?_
    refine WO_mv (v := .s (.int _ _)) rfl ?_
    refine WO_nil ?_
    have hr := lst_yes (S1 := stB P X) (i := i) (by assumption)
    obtain ⟨hc1, hc0⟩ := hc
    have hle := lstM_le (stB P X) i
    refine ⟨64 - (i + 1), _, by omega, (.cons_cons _ (.cons _ (.cons _ (.cons _ (.cons_cons _ (.cons_cons _ .slnil)))))), i + 1, by omega, rfl, rfl, rfl, rfl, rfl, .inr ⟨_, cnt + 1, _, _, ⟨by rw [hr, hc1], by omega⟩, ?_, rfl, rfl⟩⟩
    rw [hr]
    rw [← hc1]
    exact gw_lst hF rfl
   ·try simp only [NM] at h4
    try replace h4 := ((eqI_two (X := X) (X' := X) (Y := ovA (fun _ => 0) 0 2 (dp P (sqI i))) (Y' := dp P (sqI i)) rfl rfl rfl rfl).trans eq_stB2).symm.trans h4
    refine WP_skip ?_
    refine WP_ops ?_
    refine WO_add rfl rfl (by omega) ?_
    refine WO_mv (v := .s (.int _ _)) rfl ?_
    refine WO_nil ?_
    have hr := lst_no (S1 := stB P X) (i := i) (by assumption)
    refine ⟨64 - (i + 1), _, by omega, (.cons _ (.cons_cons _ (.cons_cons _ (.cons_cons _ .slnil)))), i + 1, by omega, rfl, rfl, rfl, rfl, rfl, .inr ⟨_, cnt, _, _, by rw [hr]; exact hc, by rw [hr]; exact hF, rfl, rfl⟩⟩
  ·try simp only [NM] at h3
   try replace h3 := ((eqI_two (X := X) (X' := X) (Y := ovA (fun _ => 0) 0 2 (dp P (sqI i))) (Y' := dp P (sqI i)) rfl rfl rfl rfl).trans eq_stB2).symm.trans h3
   refine WP_exit ?_
   refine xhere ?_
   refine WP_seq ?_
   refine WP_ops ?_
   refine WO_mv (v := .sl _ _ _ _ _) rfl ?_
   refine WO_mv (v := .sl _ _ _ _ _) rfl ?_
   refine WO_nil ?_
   refine WP_ret ?_
   refine ⟨_, RS_tmp (v := .sl _ _ _ _ _) rfl (RS_nil), ?_⟩
   obtain rfl : i = 64 := by omega
   obtain ⟨rfl, hc0⟩ := hc
   exact .inr ⟨hc0, _, _, F, rfl, hF, (.head _)⟩
theorem Find_ex (P X : Nat → Int) : ((lstM (stB P X) 64).1 = 0 ∧ RF AM 58 [.agg 133 (ia P), .agg 2 (ia X)] .snil) ∨ (0 < (lstM (stB P X) 64).1 ∧ ∃ q F, (∀ j : Nat, j < (lstM (stB P X) 64).1 → F j = (lstM (stB P X) 64).2 j) ∧ RN AM 58 [.agg 133 (ia P), .agg 2 (ia X)] [] (fun b => .sl b 0 (lstM (stB P X) 64).1 1 .whole) (.sc .grow q (ia F)) []) := by
  obtain ⟨v, σ', n', L', h1, h2, h3⟩ := Find_walk P X
  rcases h3 with ⟨h0, rfl⟩ | ⟨h0, b, q, F, rfl, hF, hm⟩
  · exact .inl ⟨h0, σ', h1⟩
  · exact .inr ⟨h0, q, F, hF, b, σ', h1, Nat.zero_le _, (h2.2.mem hm).2, trivial⟩

theorem dFind_walk (P X : Nat → Int) : WR AM 74 [.agg 133 (ia P), .agg 2 (ia X)] [] (fun v _ L => ((lstM (stB P X) 64).1 = 0 ∧ v = .snil) ∨ (0 < (lstM (stB P X) 64).1 ∧ ∃ b q F, v = .sl b 0 (lstM (stB P X) 64).1 1 .whole ∧ (∀ j : Nat, j < (lstM (stB P X) 64).1 → F j = (lstM (stB P X) 64).2 j) ∧ (b, Blk.sc .grow q (ia F)) ∈ L)) := by
 refine WR_fn (a := a74) rfl rfl (entryF _) (entry_E (Nat.le_of_ble_eq_true rfl)) (m := 0) rfl ?_
 refine WP_seq ?_
 refine WP_ops ?_
 refine WO_boxA rfl ?_
 refine WO_boxA rfl ?_
 refine WO_mv rfl ?_
 refine WO_nil ?_
 refine WP_seq ?_
 refine WP_ops ?_
 refine WO_mv rfl ?_
 refine WO_nil ?_
 refine WP_seq ?_
 refine WP_seq ?_
 refine WP_ops ?_
 refine WO_mv rfl ?_
 refine WO_nil ?_
 refine WP_block ?_
 refine WP_sub (L' := [_, _]) (.cons_cons _ (.cons_cons _ .slnil)) ?_
 refine WP_loop (fun m f nn L => ∃ (i : Nat), (i ≤ 64) ∧ (m = 64 - i) ∧ (f 2 = .ptr 0 0 133) ∧ (f 3 = .ptr 1 0 2) ∧ (f 6 = .s (.int .i64 i)) ∧ ((((lstM (stB P X) i).1 = 0) ∧ (f 5 = .snil) ∧ (L = [(1, .sc .var 2 (ia X)), (0, .sc .var 133 (ia P))])) ∨ (∃ (b cnt q : Nat) (F : Nat → Int), (cnt = (lstM (stB P X) i).1 ∧ 0 < cnt) ∧ (∀ j : Nat, j < cnt → F j = (lstM (stB P X) i).2 j) ∧ (f 5 = .sl b 0 cnt 1 .whole) ∧ (L = (b, Blk.sc .grow q (ia F)) :: [(1, .sc .var 2 (ia X)), (0, .sc .var 133 (ia P))])))) (fun m f nb L hI => ?_) (64) ⟨0, by omega, rfl, rfl, rfl, rfl, .inl ⟨rfl, rfl, rfl⟩⟩
 obtain ⟨i, hi, hm, k2, k3, k6, hI2⟩ := hI
 rcases hI2 with ⟨hc, kS, rfl⟩ | ⟨b, cnt, q, F, hc, hF, kS, rfl⟩
 ·skip
  refine WP_know (d := 2) (v := .ptr 0 0 133) k2 ?_
  refine WP_know (d := 3) (v := .ptr 1 0 2) k3 ?_
  refine WP_know (d := 6) (v := .s (.int .i64 i)) k6 ?_
  refine WP_know (d := 5) (v := .snil) kS ?_
  have hle := lstM_le (stB P X) i
  refine WP_seq ?_
  refine WP_seq ?_
  refine WP_ops ?_
  refine WO_mv (v := .s (.int _ _)) rfl ?_
  refine WO_bin (r := .bool _) rfl rfl rfl ?_
  refine WO_nil ?_
  refine WP_cond rfl (fun h5 => ?_) (fun h5 => ?_)
  ·try simp only [NM] at h5
   try replace h5 := eq_stB.symm.trans h5
   refine WP_skip ?_
   refine WP_seq ?_
   refine WP_block ?_
   refine WP_seq ?_
   refine WP_ops ?_
   refine WO_mv (v := .s (.int _ _)) rfl ?_
   refine WO_fa (o' := 0) rfl rfl rfl ?_
   refine WO_ixa rfl rfl rfl (by omega) ?_
   first | refine WO_ldA0 rfl rfl (.tail _ (.head _)) ?_ | refine WO_ldAI rfl rfl (.tail _ (.head _)) ?_
   first | refine WO_ldA0 rfl rfl (.head _) ?_ | refine WO_ldAI rfl rfl (.head _) ?_
   refine WO_eqa rfl rfl ?_
   refine WO_nil ?_
   refine WP_cond rfl (fun h6 => ?_) (fun h6 => ?_)
   ·try simp only [NM] at h6
    try replace h6 := eq_stB.symm.trans h6
    refine WP_ops ?_
    refine WO_mv (v := .snil) rfl ?_
    refine WO_mv (v := .s (.int _ _)) rfl ?_
    refine WO_mkslS rfl (.one rfl .nil) ?_
    refine WO_appendNil rfl rfl (.head _) (by decide) rfl ?_
    refine WO_mv (v := .sl _ _ _ _ _) rfl ?_
    refine WO_nil ?_
    refine WP_ops ?_
    refine WO_mv (v := .s (.int _ _)) rfl ?_
    refine WO_add rfl rfl (by omega) ?_
    refine WO_mv (v := .s (.int _ _)) rfl ?_
    refine WO_nil ?_
    have hr := lst_yes (S1 := stB P X) (i := i) (by assumption)
    refine ⟨64 - (i + 1), _, by omega, (.cons_cons _ (.cons _ (.cons_cons _ (.cons_cons _ .slnil)))), i + 1, by omega, rfl, rfl, rfl, rfl, .inr ⟨_, 1, _, _, ⟨by rw [hr]; show 1 = _ + 1; omega, by omega⟩, ?_, rfl, rfl⟩⟩
    intro j hj
    obtain rfl : j = 0 := by omega
    rw [hr]
    show _ = if 0 < (lstM (stB P X) i).1 then _ else _
    rw [if_neg (by omega)]; rfl
   ·try simp only [NM] at h6
    try replace h6 := eq_stB.symm.trans h6
    refine WP_skip ?_
    refine WP_ops ?_
    refine WO_mv (v := .s (.int _ _)) rfl ?_
    refine WO_add rfl rfl (by omega) ?_
    refine WO_mv (v := .s (.int _ _)) rfl ?_
    refine WO_nil ?_
    have hr := lst_no (S1 := stB P X) (i := i) (by assumption)
    refine ⟨64 - (i + 1), _, by omega, (.cons_cons _ (.cons_cons _ .slnil)), i + 1, by omega, rfl, rfl, rfl, rfl, .inl ⟨by rw [hr]; exact hc, rfl, rfl⟩⟩
  ·try simp only [NM] at h5
   try replace h5 := eq_stB.symm.trans h5
   refine WP_exit ?_
   refine xhere ?_
   refine WP_seq ?_
   refine WP_ops ?_
   refine WO_mv (v := .snil) rfl ?_
   refine WO_mv (v := .snil) rfl ?_
   refine WO_nil ?_
   refine WP_ret ?_
   refine ⟨_, RS_tmp (v := .snil) rfl (RS_nil), ?_⟩
   obtain rfl : i = 64 := by omega
   exact .inl ⟨hc, rfl⟩
 ·skip
  refine WP_know (d := 2) (v := .ptr 0 0 133) k2 ?_
  refine WP_know (d := 3) (v := .ptr 1 0 2) k3 ?_
  refine WP_know (d := 6) (v := .s (.int .i64 i)) k6 ?_
  refine WP_know (d := 5) (v := .sl b 0 cnt 1 .whole) kS ?_
  have hle := lstM_le (stB P X) i
  refine WP_seq ?_
  refine WP_seq ?_
  refine WP_ops ?_
  refine WO_mv (v := .s (.int _ _)) rfl ?_
  refine WO_bin (r := .bool _) rfl rfl rfl ?_
  refine WO_nil ?_
  refine WP_cond rfl (fun h7 => ?_) (fun h7 => ?_)
  ·try simp only [NM] at h7
   try replace h7 := eq_stB.symm.trans h7
   refine WP_skip ?_
   refine WP_seq ?_
   refine WP_block ?_
   refine WP_seq ?_
   refine WP_ops ?_
   refine WO_mv (v := .s (.int _ _)) rfl ?_
   refine WO_fa (o' := 0) rfl rfl rfl ?_
   refine WO_ixa rfl rfl rfl (by omega) ?_
   first | refine WO_ldA0 rfl rfl (.tail _ (.tail _ (.head _))) ?_ | refine WO_ldAI rfl rfl (.tail _ (.tail _ (.head _))) ?_
   first | refine WO_ldA0 rfl rfl (.tail _ (.head _)) ?_ | refine WO_ldAI rfl rfl (.tail _ (.head _)) ?_
   refine WO_eqa rfl rfl ?_
   refine WO_nil ?_
   refine WP_cond rfl (fun h8 => ?_) (fun h8 => ?_)
   ·try simp only [NM] at h8
    try replace h8 := eq_stB.symm.trans h8
    refine WP_ops ?_
    refine WO_mv (v := .sl _ _ _ _ _) rfl ?_
    refine WO_mv (v := .s (.int _ _)) rfl ?_
    refine WO_mkslS rfl (.one rfl .nil) ?_
    refine WO_appendW rfl rfl (.head _) (.there .here) (by simp [roomy]; omega) ?_
    refine WO_mv (v := .sl _ _ _ _ _) rfl ?_
    refine WO_nil ?_
    refine WP_ops ?_
    refine WO_mv (v := .s (.int _ _)) rfl ?_
    refine WO_add rfl rfl (by omega) ?_
    refine WO_mv (v := .s (.int _ _)) rfl ?_
    refine WO_nil ?_
    have hr := lst_yes (S1 := stB P X) (i := i) (by assumption)
    obtain ⟨hc1, hc0⟩ := hc
    have hle := lstM_le (stB P X) i
    refine ⟨64 - (i + 1), _, by omega, (.cons_cons _ (.cons _ (.cons _ (.cons_cons _ (.cons_cons _ .slnil))))), i + 1, by omega, rfl, rfl, rfl, rfl, .inr ⟨_, cnt + 1, _, _, ⟨by rw [hr, hc1], by omega⟩, ?_, rfl, rfl⟩⟩
    rw [hr]
    rw [← hc1]
    exact gw_lst hF rfl
   ·try simp only [NM] at h8
    try replace h8 := eq_stB.symm.trans h8
    refine WP_skip ?_
    refine WP_ops ?_
    refine WO_mv (v := .s (.int _ _)) rfl ?_
    refine WO_add rfl rfl (by omega) ?_
    refine WO_mv (v := .s (.int _ _)) rfl ?_
    refine WO_nil ?_
    have hr := lst_no (S1 := stB P X) (i := i) (by assumption)
    refine ⟨64 - (i + 1), _, by omega, (.cons_cons _ (.cons_cons _ (.cons_cons _ .slnil))), i + 1, by omega, rfl, rfl, rfl, rfl, .inr ⟨_, cnt, _, _, by rw [hr]; exact hc, by rw [hr]; exact hF, rfl, rfl⟩⟩
  ·try simp only [NM] at h7
   try replace h7 := eq_stB.symm.trans h7
   refine WP_exit ?_
   refine xhere ?_
   refine WP_seq ?_
   refine WP_ops ?_
   refine WO_mv (v := .sl _ _ _ _ _) rfl ?_
   refine WO_mv (v := .sl _ _ _ _ _) rfl ?_
   refine WO_nil ?_
   refine WP_ret ?_
   refine ⟨_, RS_tmp (v := .sl _ _ _ _ _) rfl (RS_nil), ?_⟩
   obtain rfl : i = 64 := by omega
   obtain ⟨rfl, hc0⟩ := hc
   exact .inr ⟨hc0, _, _, F, rfl, hF, (.head _)⟩
theorem dFind_ex (P X : Nat → Int) : ((lstM (stB P X) 64).1 = 0 ∧ RF AM 74 [.agg 133 (ia P), .agg 2 (ia X)] .snil) ∨ (0 < (lstM (stB P X) 64).1 ∧ ∃ q F, (∀ j : Nat, j < (lstM (stB P X) 64).1 → F j = (lstM (stB P X) 64).2 j) ∧ RN AM 74 [.agg 133 (ia P), .agg 2 (ia X)] [] (fun b => .sl b 0 (lstM (stB P X) 64).1 1 .whole) (.sc .grow q (ia F)) []) := by
  obtain ⟨v, σ', n', L', h1, h2, h3⟩ := dFind_walk P X
  rcases h3 with ⟨h0, rfl⟩ | ⟨h0, b, q, F, rfl, hF, hm⟩
  · exact .inl ⟨h0, σ', h1⟩
  · exact .inr ⟨h0, q, F, hF, b, σ', h1, Nat.zero_le _, (h2.2.mem hm).2, trivial⟩

theorem Index_run {md : Md} {q : Nat} {c : Cp} (P X : Nat → Int) : WR AM 94 [.sl 0 0 64 2 c, .agg 2 (ia X)] [.sc md q (ia P)] (fun v _ L => (∃ x, v = .s (.int .i64 x) ∧ IsFst (stB P X) 64 x) ∧ (0, Blk.sc md q (ia P)) ∈ L) := by
 refine WR_fn (a := a94) rfl rfl (entryF _) (entry_E (Nat.le_of_ble_eq_true rfl)) (m := 1) rfl ?_
 refine WP_seq ?_
 refine WP_ops ?_
 refine WO_boxA rfl ?_
 refine WO_mv rfl ?_
 refine WO_nil ?_
 refine WP_seq ?_
 refine WP_seq ?_
 refine WP_ops ?_
 refine WO_mv (v := .sl _ _ _ _ _) rfl ?_
 refine WO_len rfl ?_
 refine WO_mv rfl ?_
 refine WO_nil ?_
 refine WP_block ?_
 refine WP_sub (L' := [_, _]) (.cons_cons _ (.cons_cons _ .slnil)) ?_
 refine WP_loop (fun m f _ L => ∃ (i : Nat), (i ≤ 64) ∧ (m = 64 - i) ∧ (∀ j : Nat, j < i → stB P X j = false) ∧ (f 0 = .sl 0 0 64 2 c) ∧ (f 3 = .ptr 1 0 2) ∧ (f 7 = .s (.int .i64 64)) ∧ (f 8 = .s (.int .i64 i)) ∧ (L = [(1, .sc .var 2 (ia X)), (0, .sc md q (ia P))])) (fun m f nb L hI => ?_) (64) ⟨0, by omega, rfl, fun j h => by omega, rfl, rfl, rfl, rfl, rfl⟩
 obtain ⟨i, hi, hm, hn, k0, k3, k7, k8, rfl⟩ := hI
 refine WP_know (d := 0) (v := .sl 0 0 64 2 c) k0 ?_
 refine WP_know (d := 3) (v := .ptr 1 0 2) k3 ?_
 refine WP_know (d := 7) (v := .s (.int .i64 64)) k7 ?_
 refine WP_know (d := 8) (v := .s (.int .i64 i)) k8 ?_
 refine WP_seq ?_
 refine WP_ops ?_
 refine WO_bin (r := .bool _) rfl rfl rfl ?_
 refine WO_nil ?_
 refine WP_seq ?_
 refine WP_cond rfl (fun h9 => ?_) (fun h9 => ?_)
 ·try simp only [NM] at h9
  try replace h9 := eq_stB2.symm.trans h9
  refine WP_skip ?_
  refine WP_seq ?_
  refine WP_block ?_
  refine WP_seq ?_
  refine WP_ops ?_
  refine WO_mv (v := .s (.int _ _)) rfl ?_
  refine WO_mv (v := .s (.int _ _)) rfl ?_
  refine WO_nil ?_
  refine WP_seq ?_
  refine WP_ops ?_
  first | refine WO_ldA0 rfl rfl (.head _) ?_ | refine WO_ldAI rfl rfl (.head _) ?_
  refine WO_mv (v := .sl _ _ _ _ _) rfl ?_
  refine WO_mv (v := .s (.int _ _)) rfl ?_
  refine WO_ixs rfl rfl (by omega) ?_
  first | refine WO_ldA0 rfl rfl (.tail _ (.head _)) ?_ | refine WO_ldAI rfl rfl (.tail _ (.head _)) ?_
  refine WO_eqa rfl rfl ?_
  refine WO_nil ?_
  refine WP_cond rfl (fun h10 => ?_) (fun h10 => ?_)
  ·try simp only [NM] at h10
   try replace h10 := eq_stB2.symm.trans h10
   refine WP_seq ?_
   refine WP_ops ?_
   refine WO_mv (v := .s (.int _ _)) rfl ?_
   refine WO_mv (v := .s (.int _ _)) rfl ?_
   refine WO_nil ?_
   refine WP_ret ?_
   refine ⟨_, RS_tmp (v := .s (.int _ _)) rfl (RS_nil), ?_⟩
   first | exact ⟨⟨_, rfl, .inr ⟨i, by omega, rfl, by assumption, hn⟩⟩, (.tail _ (.head _))⟩ | exact ⟨⟨_, rfl, .inl ⟨rfl, fun j hj => hn j (by omega)⟩⟩, (.tail _ (.head _))⟩
  ·try simp only [NM] at h10
   try replace h10 := eq_stB2.symm.trans h10
   refine WP_skip ?_
   refine WP_ops ?_
   refine WO_add rfl rfl (by omega) ?_
   refine WO_mv (v := .s (.int _ _)) rfl ?_
   refine WO_nil ?_
   refine ⟨64 - (i + 1), _, by omega, (.cons_cons _ (.cons_cons _ .slnil)), i + 1, by omega, rfl, ?_, rfl, rfl, rfl, rfl, rfl⟩
   intro j hj
   by_cases e : j = i
   · subst e; assumption
   · exact hn j (by omega)
 ·try simp only [NM] at h9
  try replace h9 := eq_stB2.symm.trans h9
  refine WP_exit ?_
  refine xhere ?_
  refine WP_seq ?_
  refine WP_ops ?_
  refine WO_mv rfl ?_
  refine WO_nil ?_
  refine WP_ret ?_
  refine ⟨_, RS_tmp (v := .s (.int _ _)) rfl (RS_nil), ?_⟩
  first | exact ⟨⟨_, rfl, .inr ⟨i, by omega, rfl, by assumption, hn⟩⟩, (.tail _ (.head _))⟩ | exact ⟨⟨_, rfl, .inl ⟨rfl, fun j hj => hn j (by omega)⟩⟩, (.tail _ (.head _))⟩
theorem Index_ex {md : Md} {q : Nat} {c : Cp} (P X : Nat → Int) : ∃ x, IsFst (stB P X) 64 x ∧ RB AM 94 [.sl 0 0 64 2 c, .agg 2 (ia X)] [.sc md q (ia P)] (.s (.int .i64 x)) [.sc md q (ia P)] := by
  obtain ⟨v, σ', n', L', h1, h2, ⟨x, rfl, hx⟩, hm⟩ := Index_run (md := md) (q := q) (c := c) P X
  exact ⟨x, hx, σ', h1, (h2.2.mem hm).2, ⟨_, _, _, rfl⟩, trivial⟩
/-- A king. -/
abbrev kgX (s : Int) : Nat → Int := ov (ov (fun _ => 0) 0 6) 1 s

theorem King_walk (P : Nat → Int) (s : Int) : WR AM 60 [.agg 133 (ia P), .s (.int .i64 s)] [] (fun v _ _ => ∃ x, v = .s (.int .i64 x) ∧ IsFst (stB P (kgX s)) 64 x) := by
 refine WR_fn (a := a60) rfl rfl (entryF _) (entry_E (Nat.le_of_ble_eq_true rfl)) (m := 0) rfl ?_
 refine WP_seq ?_
 refine WP_ops ?_
 refine WO_boxA rfl ?_
 refine WO_mv rfl ?_
 refine WO_nil ?_
 refine WP_seq ?_
 refine WP_ops ?_
 refine WO_fa (o' := 0) rfl rfl rfl ?_
 refine WO_slA0 rfl rfl (by decide) ?_
 refine WO_mv (v := .s (.int _ _)) rfl ?_
 refine WO_buildI rfl (.one rfl (.one rfl .nil)) ?_
 obtain ⟨x, hx, hI⟩ := Index_ex (md := .var) (q := 133) (c := .ex 64) P (kgX s)
 refine WO_call (rs := [0]) (Bs := [_]) rfl (hI) rfl rfl (Nat.le_of_ble_eq_true rfl) (fun _ h => h) rfl ⟨(.head _), ⟨_, _, _, rfl⟩, trivial⟩ rfl rfl rfl (.cons .here .nil) ?_
 refine WO_mv (v := .s (.int _ _)) rfl ?_
 refine WO_nil ?_
 refine WP_ret ?_
 refine ⟨_, RS_tmp (v := .s (.int _ _)) rfl (RS_nil), ?_⟩
 exact ⟨_, rfl, hx⟩
theorem dKing_walk (P : Nat → Int) (s : Int) : WR AM 75 [.agg 133 (ia P), .s (.int .i64 s)] [] (fun v _ _ => ∃ x, v = .s (.int .i64 x) ∧ IsFst (stB P (kgX s)) 64 x) := by
 refine WR_fn (a := a75) rfl rfl (entryF _) (entry_E (Nat.le_of_ble_eq_true rfl)) (m := 0) rfl ?_
 refine WP_seq ?_
 refine WP_ops ?_
 refine WO_boxA rfl ?_
 refine WO_mv rfl ?_
 refine WO_nil ?_
 refine WP_seq ?_
 refine WP_ops ?_
 first | refine WO_ldA0 rfl rfl (.head _) ?_ | refine WO_ldAI rfl rfl (.head _) ?_
 refine WO_mv (v := .s (.int _ _)) rfl ?_
 refine WO_buildI rfl (.one rfl (.one rfl .nil)) ?_
 rcases dFind_ex P (kgX s) with ⟨hc0, hT⟩ | ⟨hc0, q, F, hF, hT⟩
 ·skip
  refine WO_call0 rfl (hT) rfl rfl rfl ?_
  refine WO_mv (v := .snil) rfl ?_
  refine WO_nil ?_
  refine WP_seq ?_
  refine WP_seq ?_
  refine WP_ops ?_
  refine WO_mv (v := .snil) rfl ?_
  refine WO_lenN rfl ?_
  refine WO_bin (r := .bool _) rfl rfl rfl ?_
  refine WO_nil ?_
  refine WP_cond rfl (fun h11 => ?_) (fun h11 => ?_)
  ·try simp only [NM] at h11
   refine WP_seq ?_
   refine WP_ops ?_
   refine WO_mv rfl ?_
   refine WO_nil ?_
   refine WP_ret ?_
   refine ⟨_, RS_tmp (v := .s (.int _ _)) rfl (RS_nil), ?_⟩
   rcases lst_first (stB P (kgX s)) 64 with ⟨h0, h⟩ | ⟨h0, i, hi, e, h1, h2⟩
   · exact ⟨_, rfl, .inl ⟨rfl, h⟩⟩
   · exfalso; omega
  ·try simp only [NM] at h11
   exfalso; first | omega | (simp at h11)
 ·skip
  refine WO_callN (mk := fun b => .sl b 0 (lstM (stB P (kgX s)) 64).1 1 .whole) (rs := []) (Bs := []) One_sl rfl hT rfl rfl (Nat.le_of_ble_eq_true rfl) (fun _ h => h) rfl trivial rfl rfl .nil ?_
  refine WO_mv (v := .sl _ _ _ _ _) rfl ?_
  refine WO_nil ?_
  refine WP_seq ?_
  refine WP_seq ?_
  refine WP_ops ?_
  refine WO_mv (v := .sl _ _ _ _ _) rfl ?_
  refine WO_len rfl ?_
  refine WO_bin (r := .bool _) rfl rfl rfl ?_
  refine WO_nil ?_
  refine WP_cond rfl (fun h12 => ?_) (fun h12 => ?_)
  ·try simp only [NM] at h12
   exfalso; first | omega | (simp at h12)
  ·try simp only [NM] at h12
   refine WP_skip ?_
   refine WP_seq ?_
   refine WP_ops ?_
   refine WO_mv (v := .sl _ _ _ _ _) rfl ?_
   refine WO_ixs rfl rfl (by omega) ?_
   refine WO_ldI (x := (lstM (stB P (kgX s)) 64).2 0) rfl rfl (.head _) (hF 0 hc0) ?_
   refine WO_mv (v := .s (.int _ _)) rfl ?_
   refine WO_nil ?_
   refine WP_ret ?_
   refine ⟨_, RS_tmp (v := .s (.int _ _)) rfl (RS_nil), ?_⟩
   rcases lst_first (stB P (kgX s)) 64 with ⟨h0, h⟩ | ⟨h0, i, hi, e, h1, h2⟩
   · exfalso; omega
   · exact ⟨_, rfl, .inr ⟨i, hi, e, h1, h2⟩⟩
theorem King_both (P : Nat → Int) (s : Int) : ∃ x, IsFst (stB P (kgX s)) 64 x ∧ RF AM 60 [.agg 133 (ia P), .s (.int .i64 s)] (.s (.int .i64 x)) ∧ RF AM 75 [.agg 133 (ia P), .s (.int .i64 s)] (.s (.int .i64 x)) := by
  obtain ⟨v, σ, _, _, h, _, x, rfl, hx⟩ := King_walk P s
  obtain ⟨v2, σ2, _, _, h2, _, y, rfl, hy⟩ := dKing_walk P s
  rw [hy.uniq hx] at h2
  exact ⟨x, hx, ⟨σ, h⟩, ⟨σ2, h2⟩⟩

theorem side_eq {k c : Int} : (if mayM k c = true then otherM c else c) = sideT k c := rfl
theorem dturn_step {P Q X : Nat → Int} {i : Nat} (hi : i < 64) (h : ∀ s : Nat, s < i → Q (s * 2) = P (acr s * 2) ∧ Q (s * 2 + 1) = sideT (P (acr s * 2)) (P (acr s * 2 + 1))) (h0 : X 0 = P (acr i * 2)) (h1 : X 1 = sideT (P (acr i * 2)) (P (acr i * 2 + 1))) :
    ∀ s : Nat, s < i + 1 → ovA Q (0 + (i : Int).toNat * 2) 2 X (s * 2) = P (acr s * 2) ∧ ovA Q (0 + (i : Int).toNat * 2) 2 X (s * 2 + 1) = sideT (P (acr s * 2)) (P (acr s * 2 + 1)) := by
  intro s hs
  by_cases e : s = i
  · subst e
    rw [ovA_at (by omega), ovA_at (by omega), show s * 2 - (0 + (s : Int).toNat * 2) = 0 by omega, show s * 2 + 1 - (0 + (s : Int).toNat * 2) = 1 by omega]
    exact ⟨h0, h1⟩
  · rw [ovA_out (by omega), ovA_out (by omega)]
    exact h s (by omega)
theorem dcell {P : Nat → Int} {i : Nat} (hi : i < 64) : dp P (0 + (8 * (7 - (i : Int) / 8) + (i : Int) % 8).toNat * 2) = dp P (acr i * 2) := by
  rw [show 0 + (8 * (7 - (i : Int) / 8) + (i : Int) % 8).toNat * 2 = acr i * 2 from by unfold acr; omega]

theorem dTurn_run (P : Nat → Int) : WR AM 73 [.agg 133 (ia P)] [] (fun v _ _ => ∃ Q, TurnOf P Q ∧ v = .agg 133 (ia Q)) := by
 refine WR_fn (a := a73) rfl rfl (entryF _) (entry_E (Nat.le_of_ble_eq_true rfl)) (m := 0) rfl ?_
 refine WP_seq ?_
 refine WP_ops ?_
 refine WO_boxA rfl ?_
 refine WO_allocI ?_
 refine WO_nil ?_
 refine WP_seq ?_
 refine WP_ops ?_
 first | refine WO_ldA0 rfl rfl (.tail _ (.head _)) ?_ | refine WO_ldAI rfl rfl (.tail _ (.head _)) ?_
 refine WO_allocI ?_
 refine WO_stA rfl rfl rfl rfl .here ?_
 refine WO_nil ?_
 refine WP_cut (fun f n L => ∃ (Q : Nat → Int), (Turned P Q 64) ∧ (∀ c, 128 ≤ c → Q c = cut 133 P c) ∧ (f 1 = .ptr 0 0 133) ∧ (f 2 = .ptr 1 0 133) ∧ (f 3 = .ptr 2 0 133) ∧ (L = [(2, .sc .var 133 (ia Q)), (1, .sc .var 133 (ia fun _ => 0)), (0, .sc .var 133 (ia P))])) ?_ (fun f nb L hI => ?_)
 ·skip
  refine WP_seq ?_
  refine WP_ops ?_
  refine WO_mv rfl ?_
  refine WO_nil ?_
  refine WP_block ?_
  refine WP_sub (L' := [_, _, _]) (.cons_cons _ (.cons_cons _ (.cons_cons _ .slnil))) ?_
  refine WP_loop (fun m f _ L => ∃ (i : Nat) (Q : Nat → Int), (i ≤ 64) ∧ (m = 64 - i) ∧ (∀ s : Nat, s < i → Q (s * 2) = P (acr s * 2) ∧ Q (s * 2 + 1) = sideT (P (acr s * 2)) (P (acr s * 2 + 1))) ∧ (∀ c, 128 ≤ c → Q c = cut 133 P c) ∧ (f 1 = .ptr 0 0 133) ∧ (f 2 = .ptr 1 0 133) ∧ (f 3 = .ptr 2 0 133) ∧ (f 4 = .s (.int .i64 i)) ∧ (L = [(2, .sc .var 133 (ia Q)), (1, .sc .var 133 (ia fun _ => 0)), (0, .sc .var 133 (ia P))])) (fun m f nb L hI => ?_) (64) ⟨0, ovA (fun _ => 0) 0 133 P, by omega, rfl, fun s h => by omega, fun c _ => rfl, rfl, rfl, rfl, rfl, rfl⟩
  obtain ⟨i, Q, hi, hm, hq, hr, k1, k2, k3, k4, rfl⟩ := hI
  refine WP_know (d := 1) (v := .ptr 0 0 133) k1 ?_
  refine WP_know (d := 2) (v := .ptr 1 0 133) k2 ?_
  refine WP_know (d := 3) (v := .ptr 2 0 133) k3 ?_
  refine WP_know (d := 4) (v := .s (.int .i64 i)) k4 ?_
  refine WP_seq ?_
  refine WP_seq ?_
  refine WP_ops ?_
  refine WO_mv (v := .s (.int _ _)) rfl ?_
  refine WO_bin (r := .bool _) rfl rfl rfl ?_
  refine WO_nil ?_
  refine WP_cond rfl (fun h13 => ?_) (fun h13 => ?_)
  ·try simp only [NM] at h13
   refine WP_skip ?_
   refine WP_seq ?_
   refine WP_block ?_
   refine WP_seq ?_
   refine WP_ops ?_
   refine WO_mv (v := .s (.int _ _)) rfl ?_
   refine WO_quo rfl rfl (by omega) ?_
   refine WO_sub rfl rfl (by omega) ?_
   refine WO_mul rfl rfl (by omega) ?_
   refine WO_mv (v := .s (.int _ _)) rfl ?_
   refine WO_rem rfl rfl (by omega) ?_
   refine WO_add rfl rfl (by omega) ?_
   refine WO_fa (o' := 0) rfl rfl rfl ?_
   refine WO_ixa rfl rfl rfl (by omega) ?_
   first | refine WO_ldA0 rfl rfl (.tail _ (.tail _ (.head _))) ?_ | refine WO_ldAI rfl rfl (.tail _ (.tail _ (.head _))) ?_
   rw [dcell (by omega)]
   refine WO_allocI ?_
   refine WO_stA rfl rfl rfl rfl .here ?_
   refine WO_nil ?_
   refine WP_seq ?_
   refine WP_seq ?_
   refine WP_ops ?_
   first | refine WO_ldA0 rfl rfl (.head _) ?_ | refine WO_ldAI rfl rfl (.head _) ?_
   refine WO_call0 rfl (show RF AM 55 _ (.s (.bool (mayM (P (acr i * 2)) (P (acr i * 2 + 1))))) from RF_of (rMay_run (ovA (fun _ => 0) 0 2 (dp P (acr i * 2))))) rfl rfl rfl ?_
   refine WO_nil ?_
   refine WP_cond rfl (fun h14 => ?_) (fun h14 => ?_)
   ·try simp only [NM] at h14
    refine WP_ops ?_
    refine WO_fa (o' := 1) rfl rfl rfl ?_
    refine WO_ldI (x := P (acr i * 2 + 1)) rfl rfl (.head _) (rfl) ?_
    refine WO_call0 rfl (RF_of (rOther_run _)) rfl rfl rfl ?_
    refine WO_fa (o' := 1) rfl rfl rfl ?_
    refine WO_stI rfl rfl rfl rfl .here ?_
    refine WO_nil ?_
    refine WP_ops ?_
    refine WO_mv (v := .s (.int _ _)) rfl ?_
    first | refine WO_ldA0 rfl rfl (.head _) ?_ | refine WO_ldAI rfl rfl (.head _) ?_
    refine WO_fa (o' := 0) rfl rfl rfl ?_
    refine WO_ixa rfl rfl rfl (by omega) ?_
    refine WO_stA rfl rfl rfl rfl (.there .here) ?_
    refine WO_nil ?_
    refine WP_ops ?_
    refine WO_mv (v := .s (.int _ _)) rfl ?_
    refine WO_add rfl rfl (by omega) ?_
    refine WO_mv (v := .s (.int _ _)) rfl ?_
    refine WO_nil ?_
    refine ⟨64 - (i + 1), _, by omega, (.cons _ (.cons_cons _ (.cons_cons _ (.cons_cons _ .slnil)))), i + 1, _, by omega, rfl, ?_, ?_, rfl, rfl, rfl, rfl, rfl⟩
    · refine dturn_step (by omega) hq rfl ?_
      rw [← side_eq]
      first | (rw [if_pos (by assumption)]; rfl) | (rw [if_neg (Bool.eq_false_iff.1 (by assumption))]; rfl)
    · intro c hc; rw [ovA_out (by omega)]; exact hr c hc
   ·try simp only [NM] at h14
    refine WP_skip ?_
    refine WP_ops ?_
    refine WO_mv (v := .s (.int _ _)) rfl ?_
    first | refine WO_ldA0 rfl rfl (.head _) ?_ | refine WO_ldAI rfl rfl (.head _) ?_
    refine WO_fa (o' := 0) rfl rfl rfl ?_
    refine WO_ixa rfl rfl rfl (by omega) ?_
    refine WO_stA rfl rfl rfl rfl (.there .here) ?_
    refine WO_nil ?_
    refine WP_ops ?_
    refine WO_mv (v := .s (.int _ _)) rfl ?_
    refine WO_add rfl rfl (by omega) ?_
    refine WO_mv (v := .s (.int _ _)) rfl ?_
    refine WO_nil ?_
    refine ⟨64 - (i + 1), _, by omega, (.cons _ (.cons_cons _ (.cons_cons _ (.cons_cons _ .slnil)))), i + 1, _, by omega, rfl, ?_, ?_, rfl, rfl, rfl, rfl, rfl⟩
    · refine dturn_step (by omega) hq rfl ?_
      rw [← side_eq]
      first | (rw [if_pos (by assumption)]; rfl) | (rw [if_neg (Bool.eq_false_iff.1 (by assumption))]; rfl)
    · intro c hc; rw [ovA_out (by omega)]; exact hr c hc
  ·try simp only [NM] at h13
   refine WP_exit ?_
   refine xhere ?_
   obtain rfl : i = 64 := by omega
   refine ⟨_, (.cons_cons _ (.cons_cons _ (.cons_cons _ .slnil))), Q, ?_, hr, rfl, rfl, rfl, rfl⟩
   intro s hs
   have h1 := hq (acr s) (acr_lt hs)
   rw [show acr (acr s) = s from by unfold acr; omega] at h1
   exact h1
 ·skip
  obtain ⟨Q, hT, hr, k1, k2, k3, rfl⟩ := hI
  refine WP_know (d := 1) (v := .ptr 0 0 133) k1 ?_
  refine WP_know (d := 2) (v := .ptr 1 0 133) k2 ?_
  refine WP_know (d := 3) (v := .ptr 2 0 133) k3 ?_
  refine WP_seq ?_
  refine WP_ops ?_
  refine WO_fa (o' := 128) rfl rfl rfl ?_
  refine WO_ldI (x := P 128) rfl rfl (.tail _ (.tail _ (.head _))) (rfl) ?_
  refine WO_call0 rfl (RF_of (rOther_run _)) rfl rfl rfl ?_
  refine WO_fa (o' := 128) rfl rfl rfl ?_
  refine WO_stI rfl rfl rfl rfl .here ?_
  refine WO_nil ?_
  refine WP_cut (fun f n L => ∃ (Q : Nat → Int), (Turned P Q 64) ∧ (Q 128 = otherM (P 128)) ∧ (Q 129 = castT (P 129)) ∧ (∀ c, 130 ≤ c → Q c = cut 133 P c) ∧ (f 1 = .ptr 0 0 133) ∧ (f 2 = .ptr 1 0 133) ∧ (f 3 = .ptr 2 0 133) ∧ (L = [(2, .sc .var 133 (ia Q)), (1, .sc .var 133 (ia fun _ => 0)), (0, .sc .var 133 (ia P))])) ?_ (fun f nb L hI => ?_)
  ·skip
   refine WP_seq ?_
   refine WP_ops ?_
   refine WO_fa (o' := 129) rfl rfl rfl ?_
   refine WO_ldI (x := P 129) rfl rfl (.tail _ (.tail _ (.head _))) (rfl) ?_
   refine WO_bin (r := .bool _) rfl rfl rfl ?_
   refine WO_mv (v := .s (.bool _)) rfl ?_
   refine WO_case (t := 38) rfl (fun h15 => ?_) (fun h15 => ?_)
   ·try simp only [NM] at h15
    refine WO_gt rfl ?_
    refine WO_fa (o' := 129) rfl rfl rfl ?_
    refine WO_gt rfl ?_
    refine WO_ldI (x := P 129) rfl rfl (.tail _ (.tail _ (.head _))) (rfl) ?_
    refine WO_gt rfl ?_
    refine WO_bin (r := .bool _) rfl rfl rfl ?_
    refine WO_pick (v := .s (.bool _)) rfl rfl ?_
    refine WO_nil ?_
    refine WP_cond rfl (fun h16 => ?_) (fun h16 => ?_)
    ·try simp only [NM] at h16
     refine WP_ops ?_
     refine WO_fa (o' := 129) rfl rfl rfl ?_
     refine WO_ldI (x := P 129) rfl rfl (.tail _ (.tail _ (.head _))) (rfl) ?_
     refine WO_rem rfl rfl (by omega) ?_
     refine WO_mul rfl rfl (by omega) ?_
     refine WO_fa (o' := 129) rfl rfl rfl ?_
     refine WO_ldI (x := P 129) rfl rfl (.tail _ (.tail _ (.head _))) (rfl) ?_
     refine WO_quo rfl rfl (by omega) ?_
     refine WO_add rfl rfl (by omega) ?_
     refine WO_fa (o' := 129) rfl rfl rfl ?_
     refine WO_stI rfl rfl rfl rfl .here ?_
     refine WO_nil ?_
     refine ⟨_, (.cons_cons _ (.cons_cons _ (.cons_cons _ .slnil))), _, ?_, ?_, ?_, ?_, rfl, rfl, rfl, rfl⟩
     · exact turned_of (fun c hc => by (repeat rw [ov_out (by omega)]) <;> try rfl) hT
     · rfl
     · first | exact (show _ = castT (P 129) from by rw [castT, if_pos (by omega)]; show P 129 % 4 * 4 + P 129 / 4 = _; omega) | exact (hr 129 (by omega)).trans (if_neg (by omega)).symm
     · intro c hc; (repeat rw [ov_out (by omega)]); exact hr c (by omega)
    ·try simp only [NM] at h16
     refine WP_skip ?_
     refine ⟨_, (.cons_cons _ (.cons_cons _ (.cons_cons _ .slnil))), _, ?_, ?_, ?_, ?_, rfl, rfl, rfl, rfl⟩
     · exact turned_of (fun c hc => by (repeat rw [ov_out (by omega)]) <;> try rfl) hT
     · rfl
     · first | exact (show _ = castT (P 129) from by rw [castT, if_pos (by omega)]; show P 129 % 4 * 4 + P 129 / 4 = _; omega) | exact (hr 129 (by omega)).trans (if_neg (by omega)).symm
     · intro c hc; (repeat rw [ov_out (by omega)]); exact hr c (by omega)
   ·try simp only [NM] at h15
    refine WO_gf rfl rfl ?_
    refine WO_gf rfl rfl ?_
    refine WO_gf rfl rfl ?_
    refine WO_pick (v := .s (.bool _)) rfl rfl ?_
    refine WO_nil ?_
    refine WP_cond rfl (fun h => nomatch h) (fun _ => ?_)
    refine WP_skip ?_
    refine ⟨_, (.cons_cons _ (.cons_cons _ (.cons_cons _ .slnil))), _, ?_, ?_, ?_, ?_, rfl, rfl, rfl, rfl⟩
    · exact turned_of (fun c hc => by (repeat rw [ov_out (by omega)]) <;> try rfl) hT
    · rfl
    · first | exact (show _ = castT (P 129) from by rw [castT, if_pos (by omega)]; show P 129 % 4 * 4 + P 129 / 4 = _; omega) | exact (hr 129 (by omega)).trans (if_neg (by omega)).symm
    · intro c hc; (repeat rw [ov_out (by omega)]); exact hr c (by omega)
  ·skip
   obtain ⟨Q, hT, h128, h129, hr, k1, k2, k3, rfl⟩ := hI
   refine WP_know (d := 1) (v := .ptr 0 0 133) k1 ?_
   refine WP_know (d := 2) (v := .ptr 1 0 133) k2 ?_
   refine WP_know (d := 3) (v := .ptr 2 0 133) k3 ?_
   refine WP_cut (fun f n L => ∃ (Q : Nat → Int), (Turned P Q 64) ∧ (Q 128 = otherM (P 128)) ∧ (Q 129 = castT (P 129)) ∧ (Q 130 = overT (P 130)) ∧ (∀ c, 131 ≤ c → Q c = cut 133 P c) ∧ (f 1 = .ptr 0 0 133) ∧ (f 2 = .ptr 1 0 133) ∧ (f 3 = .ptr 2 0 133) ∧ (L = [(2, .sc .var 133 (ia Q)), (1, .sc .var 133 (ia fun _ => 0)), (0, .sc .var 133 (ia P))])) ?_ (fun f nb L hI => ?_)
   ·skip
    refine WP_seq ?_
    refine WP_ops ?_
    refine WO_fa (o' := 130) rfl rfl rfl ?_
    refine WO_ldI (x := P 130) rfl rfl (.tail _ (.tail _ (.head _))) (rfl) ?_
    refine WO_bin (r := .bool _) rfl rfl rfl ?_
    refine WO_mv (v := .s (.bool _)) rfl ?_
    refine WO_case (t := 55) rfl (fun h17 => ?_) (fun h17 => ?_)
    ·try simp only [NM] at h17
     refine WO_gt rfl ?_
     refine WO_fa (o' := 130) rfl rfl rfl ?_
     refine WO_gt rfl ?_
     refine WO_ldI (x := P 130) rfl rfl (.tail _ (.tail _ (.head _))) (rfl) ?_
     refine WO_gt rfl ?_
     refine WO_bin (r := .bool _) rfl rfl rfl ?_
     refine WO_pick (v := .s (.bool _)) rfl rfl ?_
     refine WO_nil ?_
     refine WP_cond rfl (fun h18 => ?_) (fun h18 => ?_)
     ·try simp only [NM] at h18
      refine WP_ops ?_
      refine WO_fa (o' := 130) rfl rfl rfl ?_
      refine WO_ldI (x := P 130) rfl rfl (.tail _ (.tail _ (.head _))) (rfl) ?_
      refine WO_quo rfl rfl (by omega) ?_
      refine WO_sub rfl rfl (by omega) ?_
      refine WO_mul rfl rfl (by omega) ?_
      refine WO_fa (o' := 130) rfl rfl rfl ?_
      refine WO_ldI (x := P 130) rfl rfl (.tail _ (.tail _ (.head _))) (rfl) ?_
      refine WO_rem rfl rfl (by omega) ?_
      refine WO_add rfl rfl (by omega) ?_
      refine WO_fa (o' := 130) rfl rfl rfl ?_
      refine WO_stI rfl rfl rfl rfl .here ?_
      refine WO_nil ?_
      refine ⟨_, (.cons_cons _ (.cons_cons _ (.cons_cons _ .slnil))), _, ?_, ?_, ?_, ?_, ?_, rfl, rfl, rfl, rfl⟩
      · exact turned_of (fun c hc => by (repeat rw [ov_out (by omega)]) <;> try rfl) hT
      · exact h128
      · exact h129
      · first | exact (show _ = overT (P 130) from by rw [overT, if_pos (show isM (P 130) = true from decide_eq_true (by omega))]; show 8 * (7 - P 130 / 8) + P 130 % 8 = _; unfold acrossM; omega) | exact (hr 130 (by omega)).trans (show _ = overT (P 130) from by rw [overT, if_neg (by rw [isM, decide_eq_false (by omega)]; decide)]; rfl)
      · intro c hc; (repeat rw [ov_out (by omega)]); exact hr c (by omega)
     ·try simp only [NM] at h18
      refine WP_skip ?_
      refine ⟨_, (.cons_cons _ (.cons_cons _ (.cons_cons _ .slnil))), _, ?_, ?_, ?_, ?_, ?_, rfl, rfl, rfl, rfl⟩
      · exact turned_of (fun c hc => by (repeat rw [ov_out (by omega)]) <;> try rfl) hT
      · exact h128
      · exact h129
      · first | exact (show _ = overT (P 130) from by rw [overT, if_pos (show isM (P 130) = true from decide_eq_true (by omega))]; show 8 * (7 - P 130 / 8) + P 130 % 8 = _; unfold acrossM; omega) | exact (hr 130 (by omega)).trans (show _ = overT (P 130) from by rw [overT, if_neg (by rw [isM, decide_eq_false (by omega)]; decide)]; rfl)
      · intro c hc; (repeat rw [ov_out (by omega)]); exact hr c (by omega)
    ·try simp only [NM] at h17
     refine WO_gf rfl rfl ?_
     refine WO_gf rfl rfl ?_
     refine WO_gf rfl rfl ?_
     refine WO_pick (v := .s (.bool _)) rfl rfl ?_
     refine WO_nil ?_
     refine WP_cond rfl (fun h => nomatch h) (fun _ => ?_)
     refine WP_skip ?_
     refine ⟨_, (.cons_cons _ (.cons_cons _ (.cons_cons _ .slnil))), _, ?_, ?_, ?_, ?_, ?_, rfl, rfl, rfl, rfl⟩
     · exact turned_of (fun c hc => by (repeat rw [ov_out (by omega)]) <;> try rfl) hT
     · exact h128
     · exact h129
     · first | exact (show _ = overT (P 130) from by rw [overT, if_pos (show isM (P 130) = true from decide_eq_true (by omega))]; show 8 * (7 - P 130 / 8) + P 130 % 8 = _; unfold acrossM; omega) | exact (hr 130 (by omega)).trans (show _ = overT (P 130) from by rw [overT, if_neg (by rw [isM, decide_eq_false (by omega)]; decide)]; rfl)
     · intro c hc; (repeat rw [ov_out (by omega)]); exact hr c (by omega)
   ·skip
    obtain ⟨Q, hT, h128, h129, h130, hr, k1, k2, k3, rfl⟩ := hI
    refine WP_know (d := 1) (v := .ptr 0 0 133) k1 ?_
    refine WP_know (d := 2) (v := .ptr 1 0 133) k2 ?_
    refine WP_know (d := 3) (v := .ptr 2 0 133) k3 ?_
    refine WP_seq ?_
    refine WP_ops ?_
    first | refine WO_ldA0 rfl rfl (.head _) ?_ | refine WO_ldAI rfl rfl (.head _) ?_
    refine WO_stA rfl rfl rfl rfl (.there .here) ?_
    refine WO_nil ?_
    refine WP_ret ?_
    refine ⟨_, RS_cell rfl rfl (.tail _ (.head _)) (RS_nil), ?_⟩
    refine ⟨_, ⟨?_, ?_, ?_, ?_, ?_, ?_, ?_⟩, rfl⟩
    · exact turned_of (fun c hc => by rw [ovA_at (by omega), Nat.sub_zero]) hT
    · exact h128
    · exact h129
    · exact h130
    · exact hr 131 (by omega)
    · exact hr 132 (by omega)
    · exact fun i hi => ovA_out (by omega)
end Go.Proofs.Ytjldefmcnppdoaa
