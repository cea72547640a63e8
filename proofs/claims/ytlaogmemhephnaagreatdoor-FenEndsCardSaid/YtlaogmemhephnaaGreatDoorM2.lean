/- Texts of this seat, joined. -/
import Derived.Tactics
import Derived.Tactics2
import Derived.Recover
import Derived.Laws.Pointers
import Derived.KernelRfl
import Derived.Defers
import Derived.Test.YtlaogmemhephnaaGreatDoorAm0
import Derived.Test.YtlaogmemhephnaaGreatDoorAm1
import Derived.Test.YtlaogmemhephnaaGreatDoorAm2
import Derived.Test.YtlaogmemhephnaaGreatDoorM0
import Derived.Test.YtlaogmemhephnaaGreatDoorM1
set_option linter.unusedVariables false
set_option linter.unusedSimpArgs false
namespace Go.Proofs.YtlaogmemhephnaaGreatDoor
open Go Go.Am
def upB (k : Nat) : UInt8 := match k with | 1 => 80 | 2 => 78 | 3 => 66 | 4 => 82 | 5 => 81 | _ => 75
def letB (k s : Int) : UInt8 := if s = 1 then upB k.toNat + 32 else upB k.toNat
def letS (k s : Int) : ByteArray := ⟨#[letB k s]⟩
theorem up_of : ∀ k : Fin 6, (⟨#[32, 80, 78, 66, 82, 81, 75]⟩ : ByteArray).extract (k.val + 1) (k.val + 2) = ⟨#[upB (k.val + 1)]⟩ := by decide +kernel
theorem up_of' : ∀ k : Fin 6, (⟨#[80, 78, 66, 82, 81, 75]⟩ : ByteArray).extract k.val (k.val + 1) = ⟨#[upB (k.val + 1)]⟩ := by decide +kernel
theorem low_of' : ∀ k : Fin 6, (⟨#[112, 110, 98, 114, 113, 107]⟩ : ByteArray).extract k.val (k.val + 1) = ⟨#[upB (k.val + 1) + 32]⟩ := by decide +kernel
theorem up_bd : ∀ k : Fin 6, 65 ≤ (upB (k.val + 1)).toNat ∧ (upB (k.val + 1)).toNat ≤ 90 := by decide +kernel
theorem up_at {k : Int} (h : 1 ≤ k ∧ k ≤ 6) : (⟨#[32, 80, 78, 66, 82, 81, 75]⟩ : ByteArray).extract k.toNat (k + 1).toNat = ⟨#[upB k.toNat]⟩ := by
 have := up_of ⟨k.toNat - 1, by omega⟩
 simp only at this
 rw [show k.toNat - 1 + 1 = k.toNat by omega, show k.toNat - 1 + 2 = (k + 1).toNat by omega] at this
 exact this
theorem up_at' {k : Int} (h : 1 ≤ k ∧ k ≤ 6) : (⟨#[80, 78, 66, 82, 81, 75]⟩ : ByteArray).extract (k - 1).toNat k.toNat = ⟨#[upB k.toNat]⟩ := by
 have := up_of' ⟨k.toNat - 1, by omega⟩
 simp only at this
 rw [show k.toNat - 1 + 1 = k.toNat by omega, show k.toNat - 1 = (k - 1).toNat by omega] at this
 exact this
theorem low_at' {k : Int} (h : 1 ≤ k ∧ k ≤ 6) : (⟨#[112, 110, 98, 114, 113, 107]⟩ : ByteArray).extract (k - 1).toNat k.toNat = ⟨#[upB k.toNat + 32]⟩ := by
 have := low_of' ⟨k.toNat - 1, by omega⟩
 simp only at this
 rw [show k.toNat - 1 + 1 = k.toNat by omega, show k.toNat - 1 = (k - 1).toNat by omega] at this
 exact this
theorem low_run {c : UInt8} (h0 : 65 ≤ c.toNat) (h1 : c.toNat ≤ 90) : RF AM 69 [.s (.str ⟨#[c]⟩)] (.s (.str ⟨#[c + 32]⟩)) := by
 refine ⟨[], ?_⟩
 rw [Run_prim (pf := lowPrim) rfl]
 simp only [lowPrim]
 rw [if_pos ⟨rfl, h0, h1⟩]
 rfl
theorem itoa_run {n : Int} (h : -9223372036854775808 ≤ n ∧ n ≤ 9223372036854775807) : RF AM 23 [.s (.int .i64 n)] (.s (.str ⟨(Lib.itoa n).toArray⟩)) := by
 refine ⟨[], ?_⟩
 rw [Run_prim (pf := itoaPrim) rfl]
 simp only [itoaPrim]
 rw [if_pos h]
theorem letter_run (X : Nat → Int) (h : 1 ≤ X 0 ∧ X 0 ≤ 6) : WR AM 40 [.agg 2 (ia X)] [] (fun v _ _ => v = .s (.str (letS (X 0) (X 1)))) := by
 refine WR_fn (a := a40) rfl rfl (entryF _) (entry_E (Nat.le_of_ble_eq_true rfl)) (m := 0) rfl ?_
 refine WP_seq (WP_ops (WO_boxA rfl (WO_mv rfl (WO_nil ?_))))
 refine WP_seq (WP_ops ?_)
 refine WO_fa (o' := 0) rfl rfl rfl ?_
 refine WO_ldI (x := X 0) rfl rfl (.head _) rfl ?_
 refine WO_fa (o' := 0) rfl rfl rfl ?_
 refine WO_ldI (x := X 0) rfl rfl (.head _) rfl ?_
 refine WO_add rfl rfl (by omega) ?_
 refine WO_slS (a := X 0) (b := X 0 + 1) rfl rfl rfl (by show _ ∧ _ ∧ _ ≤ ((7 : Nat) : Int); omega) ?_
 rw [up_at h]
 refine WO_mv rfl (WO_nil ?_)
 refine WP_seq (WP_seq (WP_ops ?_))
 refine WO_fa (o' := 1) rfl rfl rfl ?_
 refine WO_ldI (x := X 1) rfl rfl (.head _) rfl ?_
 refine WO_bin (r := .bool _) rfl rfl rfl (WO_nil ?_)
 have hb := up_bd ⟨(X 0).toNat - 1, by omega⟩
 simp only at hb
 rw [show (X 0).toNat - 1 + 1 = (X 0).toNat by omega] at hb
 refine WP_cond rfl (fun h1 => ?_) (fun h1 => ?_)
 ·simp only [NM] at h1
  refine WP_ops ?_
  refine WO_mv rfl ?_
  refine WO_call0 rfl (low_run hb.1 hb.2) rfl rfl rfl ?_
  refine WO_mv rfl (WO_nil ?_)
  refine WP_seq (WP_ops (WO_mv rfl (WO_mv rfl (WO_nil ?_))))
  refine WP_ret ⟨_, RS_tmp rfl RS_nil, ?_⟩
  show _ = V.s (.str ⟨#[letB (X 0) (X 1)]⟩)
  rw [letB, if_pos h1]; rfl
 ·simp only [NM] at h1
  refine WP_skip ?_
  refine WP_seq (WP_ops (WO_mv rfl (WO_mv rfl (WO_nil ?_))))
  refine WP_ret ⟨_, RS_tmp rfl RS_nil, ?_⟩
  show _ = V.s (.str ⟨#[letB (X 0) (X 1)]⟩)
  rw [letB, if_neg h1]; rfl
def itoaS (n : Nat) : ByteArray := ⟨(Lib.itoa (n : Int)).toArray⟩
def bareB (P : Nat → Int) (s : Nat) : Bool := decide (P (2 * s) = 0 ∧ P (2 * s + 1) = 0)
def flushS (c : ByteArray × Nat) : ByteArray := if c.2 = 0 then c.1 else c.1 ++ itoaS c.2
def rk (P : Nat → Int) (r : Nat) : Nat → ByteArray × Nat
 | 0 => (.empty, 0)
 | f + 1 => if bareB P (8 * r + f) = true then ((rk P r f).1, (rk P r f).2 + 1) else (flushS (rk P r f) ++ letS (P (2 * (8 * r + f))) (P (2 * (8 * r + f) + 1)), 0)
def rankS (P : Nat → Int) (r : Nat) : ByteArray := flushS (rk P r 8)
theorem rk_le (P : Nat → Int) (r : Nat) : ∀ f, (rk P r f).2 ≤ f
 | 0 => Nat.le_refl _
 | f + 1 => by
  unfold rk
  split
  ·have := rk_le P r f; show _ + 1 ≤ _; omega
  ·exact Nat.zero_le _
theorem rk_run (P : Nat → Int) (r f : Nat) : ∀ b, (∀ j, j < b → bareB P (8 * r + (f + j)) = true) → rk P r (f + b) = ((rk P r f).1, (rk P r f).2 + b)
 | 0, _ => rfl
 | b + 1, h => by
  rw [← Nat.add_assoc, rk, if_pos (h b (by omega)), rk_run P r f b (fun j hj => h j (by omega))]
  rfl
theorem itoa_small : ∀ n : Fin 9, (Lib.itoa (n.val : Int)).length = 1 := by decide +kernel
theorem itoaS_size {n : Nat} (h : n ≤ 8) : (itoaS n).size = 1 := by
 have := itoa_small ⟨n, by omega⟩
 simpa [itoaS, ByteArray.size] using this
theorem flush_size (c : ByteArray × Nat) (h : c.2 ≤ 8) : (flushS c).size ≤ c.1.size + 1 := by
 unfold flushS
 split
 ·omega
 ·rw [ByteArray.size_append, itoaS_size h]; exact Nat.le_refl _
theorem rk_size (P : Nat → Int) (r : Nat) : ∀ f, f ≤ 8 → (rk P r f).1.size ≤ 2 * f
 | 0, _ => Nat.le_refl _
 | f + 1, hf => by
  have h1 := rk_size P r f (by omega)
  have h2 := rk_le P r f
  have h3 := flush_size (rk P r f) (by omega)
  unfold rk
  split
  ·show (rk P r f).1.size ≤ _; omega
  ·show (flushS (rk P r f) ++ letS _ _).size ≤ _
   rw [ByteArray.size_append]
   show _ + 1 ≤ _
   omega
theorem rank_size (P : Nat → Int) (r : Nat) : (rankS P r).size ≤ 17 := by
 have h1 := rk_size P r 8 (Nat.le_refl _)
 have h3 := flush_size (rk P r 8) (rk_le P r 8)
 unfold rankS; omega
theorem rank_pos (P : Nat → Int) (r : Nat) : 0 < (rankS P r).size := by
 have key : ∀ f, 0 < f → (0 < (rk P r f).1.size ∨ (rk P r f).2 ≠ 0) := by
  intro f hf
  cases f with
  | zero => omega
  | succ f =>
   unfold rk
   split
   ·exact .inr (by show _ + 1 ≠ 0; omega)
   ·refine .inl ?_
    show 0 < (flushS (rk P r f) ++ letS _ _).size
    rw [ByteArray.size_append]
    show 0 < _ + 1
    omega
 unfold rankS flushS
 split
 ·rename_i h
  rcases key 8 (by omega) with h1 | h1
  ·exact h1
  ·exact absurd h h1
 ·rw [ByteArray.size_append, itoaS_size (rk_le P r 8)]; omega
def Bl (b : Nat) (s : ByteArray) (rest L : HA) : Prop :=
 (s = .empty ∧ L = (b, .vs (.ty 69) [.pnil, .snil]) :: rest) ∨ ∃ k, L = (k, .sc (.gty 5) s.size (strS s)) :: (b, .vs (.ty 69) [.ptr b 0 2, .sl k 0 s.size 1 .whole]) :: rest
theorem WO_bwrite {N : Nat} {f : FE} {n : Nat} {L rest : HA} {K : KN} {Zp : V → KN} {l : List I} {x : O} {xs : List O} {b : Nat} {s t : ByteArray} {d : Nat} (hB : Bl b s rest L) (hf : x.fv N f = .fn 39 []) (ha : xs.map (O.fv N f) = [.ptr b 0 2, .s (.str t)]) (h0 : t.size ≠ 0) (hr : s.size + t.size ≤ 140737488355328)
  (k : ∀ L', Bl b (s ++ t) rest L' → WO AM N l (upd f d (.tup [.s (.int .i64 t.size), .inil])) (n + 1) L' K Zp) : WO AM N (⟨some d, none, .h (.call x xs)⟩ :: l) f n L K Zp := by
 rcases hB with ⟨rfl, rfl⟩ | ⟨j, rfl⟩
 ·refine WO_bldN (own := false) (write_BN false t h0 (by omega)) hf ha rfl rfl .here ?_
  have e : (ByteArray.empty ++ t) = t := by simp
  refine k _ (.inr ⟨n, ?_⟩)
  rw [e]
 ·refine WO_bldW (write_BW s t hr) hf ha rfl rfl (.there .here) (.head _) .here ?_
  exact WO_less (.cons_cons _ (.cons _ (.refl _))) (k _ (.inr ⟨n, rfl⟩))
end Go.Proofs.YtlaogmemhephnaaGreatDoor
set_option linter.unusedVariables false
set_option linter.unusedSimpArgs false
namespace Go.Proofs.YtlaogmemhephnaaGreatDoor
open Go Go.Am
def VP (P : Nat → Int) : Prop := ∀ s : Nat, s < 64 → (P (2 * s) = 0 ∧ P (2 * s + 1) = 0) ∨ (1 ≤ P (2 * s) ∧ P (2 * s) ≤ 6 ∧ (P (2 * s + 1) = 0 ∨ P (2 * s + 1) = 1))
theorem at_sq {r f : Nat} (hr : r < 8) (hf : f < 8) : atM (f : Int) (r : Int) = ((8 * r + f : Nat) : Int) := by
 unfold atM; rw [if_pos (by omega)]; omega
theorem bare_eq {P : Nat → Int} {s : Nat} {o : Nat} (ho : o = 2 * s) : eqI 2 (dp P o) (fun _ => 0) = bareB P s := by
 subst ho
 rw [eq_two]; rfl
theorem flush_run {P : Nat → Int} {r f b : Nat} (h : ∀ j, j < b → bareB P (8 * r + (f + j)) = true) (h0 : (rk P r f).2 = 0) (hb : b ≠ 0) : flushS (rk P r (f + b)) = flushS (rk P r f) ++ itoaS b := by
 rw [rk_run P r f b h]
 unfold flushS
 rw [h0, if_pos rfl, if_neg (by show 0 + b ≠ 0; omega)]
 show _ ++ itoaS (0 + b) = _
 rw [Nat.zero_add]
theorem At_in {r f : Nat} (hr : r < 8) (hf : f < 8) : RF AM 38 [.s (.int .i64 (f : Int)), .s (.int .i64 (r : Int))] (.s (.int .i64 ((8 * r + f : Nat) : Int))) := by
 have := RF_of (At_run (f : Int) (r : Int) (by omega) (by omega))
 rw [at_sq hr hf] at this
 exact this
set_option maxHeartbeats 1000000 in
theorem rank_walk (P : Nat → Int) (r : Nat) (hr : r < 8) (hV : VP P) : WR AM 19 [.agg 133 (ia P), .s (.int .i64 (r : Int))] [] (fun v _ _ => v = .s (.str (rankS P r))) := by
 refine WR_fn (a := a19) rfl rfl (entryF _) (entry_E (Nat.le_of_ble_eq_true rfl)) (m := 0) rfl ?_
 refine WP_seq (WP_ops (WO_boxA rfl (WO_mv rfl (WO_nil ?_))))
 refine WP_seq (WP_ops (WO_alloct (WO_nil ?_)))
 refine WP_cut (fun f n L => f 5 = .ptr 1 0 2 ∧ Bl 1 (rankS P r) [(0, .sc .var 133 (ia P))] L) ?_ ?_
 ·refine WP_seq (WP_ops (WO_mv rfl (WO_nil ?_)))
  refine WP_block ?_
  refine WP_loop (fun m f _ L => ∃ i : Nat, i ≤ 8 ∧ m = 8 - i ∧ ((rk P r i).2 = 0 ∨ i = 8 ∨ bareB P (8 * r + i) = false) ∧ f 1 = .s (.int .i64 (r : Int)) ∧ f 2 = .ptr 0 0 133 ∧ f 5 = .ptr 1 0 2 ∧ f 6 = .s (.int .i64 (i : Int)) ∧ Bl 1 (flushS (rk P r i)) [(0, .sc .var 133 (ia P))] L) (fun m f nb L hI => ?_) 8 ⟨0, by omega, rfl, .inl rfl, rfl, rfl, rfl, rfl, .inl ⟨rfl, rfl⟩⟩
  obtain ⟨i, hi, hm, hp, k1, k2, k5, k6, hB⟩ := hI
  refine WP_know (d := 1) k1 ?_
  refine WP_know (d := 2) k2 ?_
  refine WP_know (d := 5) k5 ?_
  refine WP_know (d := 6) k6 ?_
  have h0L : (0, Blk.sc .var 133 (ia P)) ∈ L := by
   rcases hB with ⟨_, rfl⟩ | ⟨_, rfl⟩
   ·exact .tail _ (.head _)
   ·exact .tail _ (.tail _ (.head _))
  refine WP_seq (WP_seq (WP_ops ?_))
  refine WO_mv (v := .s (.int _ _)) rfl ?_
  refine WO_bin (r := .bool _) rfl rfl rfl (WO_nil ?_)
  refine WP_cond rfl (fun h => ?_) (fun h => ?_)
  case refine_2 =>
   simp only [NM] at h
   obtain rfl : i = 8 := by omega
   exact WP_exit (xhere ⟨_, .refl _, rfl, hB⟩)
  simp only [NM] at h
  have hi8 : i < 8 := by omega
  refine WP_skip ?_
  refine WP_block ?_
  refine WP_seq (WP_ops (WO_mv rfl (WO_nil ?_)))
  refine WP_cut (fun f n L2 => L2 = L ∧ ∃ b : Nat, i + b ≤ 8 ∧ (∀ j, j < b → bareB P (8 * r + (i + j)) = true) ∧ (i + b = 8 ∨ bareB P (8 * r + (i + b)) = false) ∧ f 1 = .s (.int .i64 (r : Int)) ∧ f 2 = .ptr 0 0 133 ∧ f 5 = .ptr 1 0 2 ∧ f 6 = .s (.int .i64 (i : Int)) ∧ f 7 = .s (.int .i64 (b : Int))) ?_ ?_
  ·refine WP_block ?_
   refine WP_loop (fun m f _ L2 => L2 = L ∧ ∃ b : Nat, i + b ≤ 8 ∧ m = 8 - (i + b) ∧ (∀ j, j < b → bareB P (8 * r + (i + j)) = true) ∧ f 1 = .s (.int .i64 (r : Int)) ∧ f 2 = .ptr 0 0 133 ∧ f 5 = .ptr 1 0 2 ∧ f 6 = .s (.int .i64 (i : Int)) ∧ f 7 = .s (.int .i64 (b : Int))) (fun m f nb L2 hI => ?_) (8 - i) ⟨rfl, 0, by omega, rfl, fun j h => by omega, rfl, rfl, rfl, rfl, rfl⟩
   obtain ⟨rfl, b, hib, hm2, hbare, k1, k2, k5, k6, k7⟩ := hI
   refine WP_know (d := 1) k1 ?_
   refine WP_know (d := 2) k2 ?_
   refine WP_know (d := 5) k5 ?_
   refine WP_know (d := 6) k6 ?_
   refine WP_know (d := 7) k7 ?_
   refine WP_seq (WP_seq (WP_ops ?_))
   refine WO_mv (v := .s (.int _ _)) rfl (WO_mv (v := .s (.int _ _)) rfl ?_)
   refine WO_add rfl rfl (by omega) ?_
   by_cases h8 : i + b < 8
   ·refine WO_bin (r := .bool true) rfl rfl (by show some (S.bool (decide _)) = _; rw [decide_eq_true (by omega)]) ?_
    refine WO_mv rfl ?_
    refine WO_gt rfl (WO_mv (v := .s (.int _ _)) rfl ?_)
    refine WO_gt rfl (WO_mv (v := .s (.int _ _)) rfl ?_)
    refine WO_gt rfl (WO_add rfl rfl (by omega) ?_)
    refine WO_gt rfl (WO_mv (v := .s (.int _ _)) rfl ?_)
    refine WO_gt rfl (WO_call0 (av := [.s (.int .i64 ((i + b : Nat) : Int)), .s (.int .i64 (r : Int))]) rfl (At_in hr h8) (by rw [Int.natCast_add]; rfl) rfl rfl ?_)
    refine WO_gt rfl (WO_fa (o' := 0) rfl rfl rfl ?_)
    refine WO_gt rfl (WO_ixa rfl rfl rfl (by omega) ?_)
    refine WO_gt rfl (WO_ldAI rfl rfl h0L ?_)
    refine WO_gt rfl (WO_buildI rfl .nil ?_)
    refine WO_gt rfl (WO_eqaC (b := bareB P (8 * r + (i + b))) rfl rfl (bare_eq (by omega)) ?_)
    refine WO_pick rfl rfl (WO_nil ?_)
    refine WP_cond rfl (fun hb => ?_) (fun hb => ?_)
    ·refine WP_skip ?_
     refine WP_block (WP_ops ?_)
     refine WO_mv (v := .s (.int _ _)) rfl ?_
     refine WO_add rfl rfl (by omega) ?_
     refine WO_mv (v := .s (.int _ _)) rfl (WO_nil ?_)
     refine ⟨8 - (i + (b + 1)), _, by omega, .refl _, rfl, b + 1, by omega, rfl, fun j hj => ?_, rfl, rfl, rfl, rfl, by rw [Int.natCast_add]; rfl⟩
     by_cases e : j = b
     ·subst e; exact hb
     ·exact hbare j (by omega)
    ·exact WP_exit (xhere ⟨_, .refl _, rfl, b, hib, hbare, .inr hb, rfl, rfl, rfl, rfl, rfl⟩)
   ·refine WO_bin (r := .bool false) rfl rfl (by show some (S.bool (decide _)) = _; rw [decide_eq_false (by omega)]) ?_
    refine WO_mv rfl ?_
    refine WO_gf rfl rfl (WO_gf rfl rfl (WO_gf rfl rfl (WO_gf rfl rfl (WO_gf rfl rfl (WO_gf rfl rfl (WO_gf rfl rfl (WO_gf rfl rfl (WO_gf rfl rfl (WO_gf rfl rfl ?_)))))))))
    refine WO_pick rfl rfl (WO_nil ?_)
    refine WP_cond rfl (fun hb => by cases hb) (fun hb => ?_)
    exact WP_exit (xhere ⟨_, .refl _, rfl, b, hib, hbare, .inl (by omega), rfl, rfl, rfl, rfl, rfl⟩)
  rintro f n L2 ⟨rfl, b, hib, hbare, hend, k1, k2, k5, k6, k7⟩
  refine WP_know (d := 1) k1 ?_
  refine WP_know (d := 2) k2 ?_
  refine WP_know (d := 5) k5 ?_
  refine WP_know (d := 6) k6 ?_
  refine WP_know (d := 7) k7 ?_
  have hsz : (flushS (rk P r i)).size ≤ 17 := by
   have h1 := rk_size P r i hi
   have h2 := flush_size (rk P r i) (by have := rk_le P r i; omega)
   omega
  refine WP_seq (WP_seq (WP_ops ?_))
  refine WO_mv (v := .s (.int _ _)) rfl ?_
  refine WO_bin (r := .bool _) rfl rfl rfl (WO_nil ?_)
  refine WP_cond rfl (fun hb => ?_) (fun hb => ?_)
  ·simp only [NM] at hb
   have hb0 : 0 < b := by omega
   have hbi : bareB P (8 * r + i) = true := by have := hbare 0 hb0; simpa using this
   have hr0 : (rk P r i).2 = 0 := by
    rcases hp with h | h | h
    ·exact h
    ·omega
    ·rw [h] at hbi; cases hbi
   refine WP_seq (WP_ops ?_)
   refine WO_mv (v := .s (.int _ _)) rfl ?_
   refine WO_call0 rfl (itoa_run (by omega)) rfl rfl rfl ?_
   refine WO_bwrite (t := itoaS b) hB rfl rfl (by rw [itoaS_size (by omega)]; decide) (by rw [itoaS_size (by omega)]; omega) (fun L' hL' => WO_nil ?_)
   refine WP_seq (WP_ops ?_)
   refine WO_mv (v := .s (.int _ _)) rfl (WO_mv (v := .s (.int _ _)) rfl ?_)
   refine WO_add rfl rfl (by omega) ?_
   refine WO_mv (v := .s (.int _ _)) rfl (WO_nil ?_)
   refine WP_exit (xhere ?_)
   rw [← flush_run hbare hr0 (by omega)] at hL'
   refine ⟨8 - (i + b), L', by omega, .refl _, i + b, by omega, rfl, .inr ?_, rfl, rfl, rfl, by rw [Int.natCast_add]; rfl, hL'⟩
   exact hend
  ·simp only [NM] at hb
   obtain rfl : b = 0 := by omega
   have hnb : bareB P (8 * r + i) = false := by
    rcases hend with h | h
    ·omega
    ·exact h
   have hpc := hV (8 * r + i) (by omega)
   have hpc2 : 1 ≤ P (2 * (8 * r + i)) ∧ P (2 * (8 * r + i)) ≤ 6 := by
    rcases hpc with h | h
    ·rw [show bareB P (8 * r + i) = true from decide_eq_true h] at hnb; cases hnb
    ·exact ⟨h.1, h.2.1⟩
   refine WP_skip ?_
   refine WP_seq (WP_ops ?_)
   refine WO_mv (v := .s (.int _ _)) rfl (WO_mv (v := .s (.int _ _)) rfl ?_)
   refine WO_call0 rfl (At_in hr hi8) rfl rfl rfl ?_
   refine WO_fa (o' := 0) rfl rfl rfl ?_
   refine WO_ixa rfl rfl rfl (by omega) ?_
   refine WO_ldAI rfl rfl h0L ?_
   have ho : 0 + (((8 * r + i : Nat) : Int)).toNat * 2 = 2 * (8 * r + i) := by omega
   rw [ho]
   refine WO_call0 rfl (RF_of (letter_run (dp P (2 * (8 * r + i))) hpc2)) rfl rfl rfl ?_
   refine WO_bwrite (t := letS (P (2 * (8 * r + i))) (P (2 * (8 * r + i) + 1))) hB rfl rfl (by show 1 ≠ 0; decide) (by show _ + 1 ≤ _; omega) (fun L' hL' => WO_nil ?_)
   refine WP_ops ?_
   refine WO_mv (v := .s (.int _ _)) rfl ?_
   refine WO_add rfl rfl (by omega) ?_
   refine WO_mv (v := .s (.int _ _)) rfl (WO_nil ?_)
   have hrk : rk P r (i + 1) = (flushS (rk P r i) ++ letS (P (2 * (8 * r + i))) (P (2 * (8 * r + i) + 1)), 0) := by
    rw [rk, if_neg (by rw [hnb]; decide)]
   refine ⟨8 - (i + 1), L', by omega, .refl _, i + 1, by omega, rfl, .inl (by rw [hrk]), rfl, rfl, rfl, by rw [Int.natCast_add]; rfl, ?_⟩
   rw [hrk]
   exact hL'
 rintro f n L ⟨k5, hB⟩
 refine WP_know (d := 5) k5 ?_
 rcases hB with ⟨he, _⟩ | ⟨k, rfl⟩
 ·have := rank_pos P r
  rw [he] at this
  exact absurd this (by decide)
 refine WP_seq (WP_ops ?_)
 refine WO_bldE (str_BE (rankS P r) (by have := rank_pos P r; omega) (by have := rank_size P r; omega)) rfl rfl rfl rfl (.tail _ (.head _)) .here ?_
 refine WO_mv rfl (WO_nil ?_)
 exact WP_ret ⟨_, RS_tmp rfl RS_nil, rfl⟩
end Go.Proofs.YtlaogmemhephnaaGreatDoor
set_option linter.unusedVariables false
set_option linter.unusedSimpArgs false
namespace Go.Proofs.YtlaogmemhephnaaGreatDoor
open Go Go.Am
theorem add_str {a b : ByteArray} (h : a.size + b.size ≤ 9223372036854775807) : binS .add (.str a) (.str b) = some (.str (a ++ b)) := by
 show binStr .add a b = _
 unfold binStr
 rw [if_neg (by show ¬ ((a.size + b.size : Nat) : Int) > 9223372036854775807; omega)]
theorem flush0 {c : ByteArray × Nat} (h : c.2 = 0) : flushS c = c.1 := if_pos h
theorem flush1 {c : ByteArray × Nat} (h : c.2 ≠ 0) : flushS c = c.1 ++ itoaS c.2 := if_neg h
theorem bare_neq {P : Nat → Int} {s : Nat} {o : Nat} {b : Bool} (ho : o = 2 * s) (hb : bareB P s = b) : (bif true then !(eqI 2 (dp P o) (fun _ => 0)) else eqI 2 (dp P o) (fun _ => 0)) = !b := by
 rw [bare_eq ho, hb]; rfl
set_option maxHeartbeats 1000000 in
theorem drank_walk (P : Nat → Int) (r : Nat) (hr : r < 8) (hV : VP P) : WR AM 33 [.agg 133 (ia P), .s (.int .i64 (r : Int))] [] (fun v _ _ => v = .s (.str (rankS P r))) := by
 refine WR_fn (a := a33) rfl rfl (entryF _) (entry_E (Nat.le_of_ble_eq_true rfl)) (m := 0) rfl ?_
 refine WP_seq (WP_ops (WO_boxA rfl (WO_mv rfl (WO_nil ?_))))
 refine WP_seq (WP_ops (WO_mv rfl (WO_nil ?_)))
 refine WP_seq (WP_ops (WO_mv rfl (WO_nil ?_)))
 refine WP_cut (fun f n L => f 5 = .s (.str (rankS P r)) ∧ L = []) ?_ ?_
 ·refine WP_seq (WP_ops (WO_mv rfl (WO_nil ?_)))
  refine WP_block ?_
  refine WP_loop (fun m f _ L => ∃ i : Nat, i ≤ 8 ∧ m = 9 - i ∧ f 1 = .s (.int .i64 (r : Int)) ∧ f 2 = .ptr 0 0 133 ∧ f 5 = .s (.str (rk P r i).1) ∧ f 6 = .s (.int .i64 ((rk P r i).2 : Int)) ∧ f 7 = .s (.int .i64 (i : Int)) ∧ L = [(0, .sc .var 133 (ia P))]) (fun m f nb L hI => ?_) 9 ⟨0, by omega, rfl, rfl, rfl, rfl, rfl, rfl, rfl⟩
  obtain ⟨i, hi, hm, k1, k2, k5, k6, k7, rfl⟩ := hI
  refine WP_know (d := 1) k1 ?_
  refine WP_know (d := 2) k2 ?_
  refine WP_know (d := 5) k5 ?_
  refine WP_know (d := 6) k6 ?_
  refine WP_know (d := 7) k7 ?_
  have hc1 := rk_size P r i hi
  have hc2 := rk_le P r i
  have hfs := flush_size (rk P r i) (by omega)
  refine WP_seq (WP_seq (WP_ops ?_))
  refine WO_mv (v := .s (.int _ _)) rfl ?_
  refine WO_bin (r := .bool _) rfl rfl rfl (WO_nil ?_)
  refine WP_cond rfl (fun h => ?_) (fun h => ?_)
  case refine_2 => simp only [NM] at h; omega
  refine WP_skip ?_
  by_cases hi8 : i = 8
  ·subst hi8
   refine WP_seq (WP_block (WP_seq (WP_ops ?_)))
   refine WO_mv (v := .s (.int _ _)) rfl ?_
   refine WO_bin (r := .bool false) rfl rfl rfl ?_
   refine WO_mv rfl ?_
   refine WO_gf rfl rfl (WO_gf rfl rfl (WO_gf rfl rfl (WO_gf rfl rfl (WO_gf rfl rfl (WO_gf rfl rfl (WO_gf rfl rfl (WO_gf rfl rfl (WO_gf rfl rfl (WO_gf rfl rfl ?_)))))))))
   refine WO_pick rfl rfl (WO_mv rfl (WO_nil ?_))
   refine WP_cut (fun f n L => f 5 = .s (.str (rankS P r)) ∧ f 7 = .s (.int .i64 8) ∧ L = [(0, .sc .var 133 (ia P))]) ?_ ?_
   ·refine WP_seq (WP_ops ?_)
    refine WO_mv (v := .s (.int _ _)) rfl ?_
    refine WO_bin (r := .bool true) rfl rfl rfl ?_
    refine WO_mv rfl ?_
    refine WO_gf rfl rfl (WO_pick rfl rfl (WO_mv rfl ?_))
    refine WO_gt rfl (WO_mv (v := .s (.int _ _)) rfl ?_)
    refine WO_gt rfl (WO_bin (r := .bool _) rfl rfl rfl ?_)
    refine WO_pick rfl rfl (WO_nil ?_)
    refine WP_cond rfl (fun hb => ?_) (fun hb => ?_)
    ·simp only [NM] at hb
     refine WP_seq (WP_ops ?_)
     refine WO_mv rfl (WO_mv (v := .s (.int _ _)) rfl ?_)
     refine WO_call0 rfl (itoa_run (by omega)) rfl rfl rfl ?_
     refine WO_bin (r := .str (rankS P r)) rfl rfl (by
      have hz := itoaS_size hc2
      refine (add_str (b := itoaS (rk P r 8).2) (by omega)).trans ?_
      rw [rankS, flush1 (by omega)]) ?_
     refine WO_mv rfl (WO_nil ?_)
     refine WP_ops (WO_mv rfl (WO_nil ?_))
     exact ⟨_, .refl _, rfl, rfl, rfl⟩
    ·simp only [NM] at hb
     refine WP_skip ?_
     exact ⟨_, .refl _, by rw [rankS, flush0 (by omega)]; rfl, rfl, rfl⟩
   rintro f n L ⟨k5, k7, rfl⟩
   refine WP_know (d := 5) k5 ?_
   refine WP_know (d := 7) k7 ?_
   refine WP_seq (WP_seq (WP_ops ?_))
   refine WO_mv (v := .s (.int _ _)) rfl ?_
   refine WO_bin (r := .bool true) rfl rfl rfl (WO_nil ?_)
   refine WP_cond rfl (fun _ => ?_) (fun hb => by cases hb)
   exact WP_exit (xthere rfl (xhere ⟨_, List.nil_sublist _, rfl, rfl⟩))
  have hi7 : i < 8 := by omega
  refine WP_seq (WP_block (WP_seq (WP_ops ?_)))
  refine WO_mv (v := .s (.int _ _)) rfl ?_
  refine WO_bin (r := .bool true) rfl rfl (by show some (S.bool (decide _)) = _; rw [decide_eq_true (by omega)]) ?_
  refine WO_mv rfl ?_
  refine WO_gt rfl (WO_mv (v := .s (.int _ _)) rfl ?_)
  refine WO_gt rfl (WO_mul rfl rfl (by omega) ?_)
  refine WO_gt rfl (WO_mv (v := .s (.int _ _)) rfl ?_)
  refine WO_gt rfl (WO_add rfl rfl (by omega) ?_)
  refine WO_gt rfl (WO_rem rfl rfl (by omega) ?_)
  refine WO_gt rfl (WO_fa (o' := 0) rfl rfl rfl ?_)
  refine WO_gt rfl (WO_ixa rfl rfl rfl (by omega) ?_)
  refine WO_gt rfl (WO_ldAI rfl rfl (.head _) ?_)
  refine WO_gt rfl (WO_buildI rfl .nil ?_)
  cases hbr : bareB P (8 * r + i) with
  | true =>
   have hrk : rk P r (i + 1) = ((rk P r i).1, (rk P r i).2 + 1) := by rw [rk, if_pos hbr]
   refine WO_gt rfl (WO_eqaC (b := false) rfl rfl (bare_neq (s := 8 * r + i) (by omega) hbr) ?_)
   refine WO_pick rfl rfl (WO_mv rfl (WO_nil ?_))
   refine WP_seq (WP_seq (WP_ops ?_))
   refine WO_mv (v := .s (.int _ _)) rfl ?_
   refine WO_bin (r := .bool false) rfl rfl (by show some (S.bool (_ == _)) = _; rw [beq_eq_false_iff_ne.2 (by omega)]) ?_
   refine WO_mv rfl ?_
   refine WO_gt rfl (WO_mv rfl ?_)
   refine WO_pick rfl rfl (WO_mv rfl ?_)
   refine WO_gf rfl rfl (WO_gf rfl rfl (WO_pick rfl rfl (WO_nil ?_)))
   refine WP_cond rfl (fun hb => by cases hb) (fun _ => WP_skip ?_)
   refine WP_seq (WP_seq (WP_ops ?_))
   refine WO_mv (v := .s (.int _ _)) rfl ?_
   refine WO_bin (r := .bool false) rfl rfl (by show some (S.bool (_ == _)) = _; rw [beq_eq_false_iff_ne.2 (by omega)]) (WO_nil ?_)
   refine WP_cond rfl (fun hb => by cases hb) (fun _ => WP_skip ?_)
   refine WP_seq (WP_seq (WP_ops ?_))
   refine WO_mv rfl (WO_un rfl rfl (WO_nil ?_))
   refine WP_cond rfl (fun _ => ?_) (fun hb => by cases hb)
   refine WP_seq (WP_ops ?_)
   refine WO_mv (v := .s (.int _ _)) rfl (WO_add rfl rfl (by omega) (WO_mv (v := .s (.int _ _)) rfl (WO_nil ?_)))
   refine WP_exit (xhere ?_)
   refine WP_ops ?_
   refine WO_mv (v := .s (.int _ _)) rfl (WO_add rfl rfl (by omega) (WO_mv (v := .s (.int _ _)) rfl (WO_nil ?_)))
   exact ⟨9 - (i + 1), _, by omega, .refl _, i + 1, by omega, rfl, rfl, rfl, by rw [hrk]; rfl, by rw [hrk, Int.natCast_add]; rfl, by rw [Int.natCast_add]; rfl, rfl⟩
  | false =>
   have hpc2 : 1 ≤ P (2 * (8 * r + i)) ∧ P (2 * (8 * r + i)) ≤ 6 ∧ (P (2 * (8 * r + i) + 1) = 0 ∨ P (2 * (8 * r + i) + 1) = 1) := by
    rcases hV (8 * r + i) (by omega) with h | h
    ·rw [show bareB P (8 * r + i) = true from decide_eq_true h] at hbr; cases hbr
    ·exact h
   have hrk : rk P r (i + 1) = (flushS (rk P r i) ++ letS (P (2 * (8 * r + i))) (P (2 * (8 * r + i) + 1)), 0) := by rw [rk, if_neg (by rw [hbr]; decide)]
   refine WO_gt rfl (WO_eqaC (b := true) rfl rfl (bare_neq (s := 8 * r + i) (by omega) hbr) ?_)
   refine WO_pick rfl rfl (WO_mv rfl (WO_nil ?_))
   refine WP_cut (fun f n L => f 1 = .s (.int .i64 (r : Int)) ∧ f 2 = .ptr 0 0 133 ∧ f 5 = .s (.str (flushS (rk P r i))) ∧ f 6 = .s (.int .i64 0) ∧ f 7 = .s (.int .i64 (i : Int)) ∧ f 8 = .s (.bool true) ∧ L = [(0, .sc .var 133 (ia P))]) ?_ ?_
   ·refine WP_seq (WP_ops ?_)
    refine WO_mv (v := .s (.int _ _)) rfl ?_
    refine WO_bin (r := .bool false) rfl rfl (by show some (S.bool (_ == _)) = _; rw [beq_eq_false_iff_ne.2 (by omega)]) ?_
    refine WO_mv rfl ?_
    refine WO_gt rfl (WO_mv rfl ?_)
    refine WO_pick rfl rfl (WO_mv rfl ?_)
    refine WO_gt rfl (WO_mv (v := .s (.int _ _)) rfl ?_)
    refine WO_gt rfl (WO_bin (r := .bool _) rfl rfl rfl ?_)
    refine WO_pick rfl rfl (WO_nil ?_)
    refine WP_cond rfl (fun hb => ?_) (fun hb => ?_)
    ·simp only [NM] at hb
     refine WP_seq (WP_ops ?_)
     refine WO_mv rfl (WO_mv (v := .s (.int _ _)) rfl ?_)
     refine WO_call0 rfl (itoa_run (by omega)) rfl rfl rfl ?_
     refine WO_bin (r := .str (flushS (rk P r i))) rfl rfl (by
      have hz := itoaS_size (show (rk P r i).2 ≤ 8 by omega)
      refine (add_str (b := itoaS (rk P r i).2) (by omega)).trans ?_
      rw [flush1 (by omega)]) ?_
     refine WO_mv rfl (WO_nil ?_)
     refine WP_ops (WO_mv rfl (WO_nil ?_))
     exact ⟨_, .refl _, rfl, rfl, rfl, rfl, rfl, rfl, rfl⟩
    ·simp only [NM] at hb
     refine WP_skip ?_
     exact ⟨_, .refl _, rfl, rfl, by rw [flush0 (by omega)]; rfl, by rw [show (0 : Int) = ((rk P r i).2 : Int) by omega]; rfl, rfl, rfl, rfl⟩
   rintro f n L ⟨k1, k2, k5, k6, k7, k8, rfl⟩
   refine WP_know (d := 1) k1 ?_
   refine WP_know (d := 2) k2 ?_
   refine WP_know (d := 5) k5 ?_
   refine WP_know (d := 6) k6 ?_
   refine WP_know (d := 7) k7 ?_
   refine WP_know (d := 8) k8 ?_
   refine WP_seq (WP_seq (WP_ops ?_))
   refine WO_mv (v := .s (.int _ _)) rfl ?_
   refine WO_bin (r := .bool false) rfl rfl (by show some (S.bool (_ == _)) = _; rw [beq_eq_false_iff_ne.2 (by omega)]) (WO_nil ?_)
   refine WP_cond rfl (fun hb => by cases hb) (fun _ => WP_skip ?_)
   refine WP_seq (WP_seq (WP_ops ?_))
   refine WO_mv rfl (WO_un rfl rfl (WO_nil ?_))
   refine WP_cond rfl (fun hb => by cases hb) (fun _ => WP_skip ?_)
   refine WP_seq (WP_ops ?_)
   refine WO_mv (v := .s (.int _ _)) rfl (WO_mul rfl rfl (by omega) (WO_mv (v := .s (.int _ _)) rfl (WO_add rfl rfl (by omega) ?_)))
   refine WO_fa (o' := 0) rfl rfl rfl ?_
   refine WO_ixa rfl rfl rfl (by omega) ?_
   refine WO_ldAI rfl rfl (.head _) ?_
   have ho : 0 + (8 * (r : Int) + (i : Int)).toNat * 2 = 2 * (8 * r + i) := by omega
   rw [ho]
   refine WO_allocI (WO_stA rfl rfl rfl rfl .here (WO_nil ?_))
   have e0 : ovA (fun _ => 0) 0 2 (dp P (2 * (8 * r + i))) 0 = P (2 * (8 * r + i)) := rfl
   have e1 : ovA (fun _ => 0) 0 2 (dp P (2 * (8 * r + i))) 1 = P (2 * (8 * r + i) + 1) := rfl
   refine WP_seq (WP_ops ?_)
   refine WO_fa (o' := 1) rfl rfl rfl ?_
   refine WO_ldI (x := P (2 * (8 * r + i) + 1)) rfl rfl (.head _) e1 ?_
   refine WO_bin (r := .bool _) rfl rfl rfl (WO_nil ?_)
   have fin : ∀ (f : FE) (n : Nat) (L : HA), f 1 = .s (.int .i64 (r : Int)) → f 2 = .ptr 0 0 133 → f 5 = .s (.str (flushS (rk P r i) ++ letS (P (2 * (8 * r + i))) (P (2 * (8 * r + i) + 1)))) → f 6 = .s (.int .i64 0) → f 7 = .s (.int .i64 ((i : Int) + 1)) → (∃ X, L = (X, .sc .var 2 (ia (ovA (fun _ => 0) 0 2 (dp P (2 * (8 * r + i)))))) :: [(0, .sc .var 133 (ia P))]) →
     ∃ k L', k < m ∧ List.Sublist L' L ∧ ∃ i : Nat, i ≤ 8 ∧ k = 9 - i ∧ f 1 = .s (.int .i64 (r : Int)) ∧ f 2 = .ptr 0 0 133 ∧ f 5 = .s (.str (rk P r i).1) ∧ f 6 = .s (.int .i64 ((rk P r i).2 : Int)) ∧ f 7 = .s (.int .i64 (i : Int)) ∧ L' = [(0, .sc .var 133 (ia P))] := by
    rintro f n L h1 h2 h5 h6 h7 ⟨X, rfl⟩
    exact ⟨9 - (i + 1), _, by omega, .cons _ (.refl _), i + 1, by omega, rfl, h1, h2, by rw [hrk]; exact h5, by rw [hrk]; exact h6, by rw [Int.natCast_add]; exact h7, rfl⟩
   have hs9 : ∀ t : ByteArray, t.size = 1 → (flushS (rk P r i)).size + t.size ≤ 9223372036854775807 := fun t ht => by omega
   refine WP_cond rfl (fun hb => ?_) (fun hb => ?_)
   ·simp only [NM] at hb
    refine WP_ops ?_
    refine WO_mv rfl ?_
    refine WO_fa (o' := 0) rfl rfl rfl ?_
    refine WO_ldI (x := P (2 * (8 * r + i))) rfl rfl (.head _) e0 ?_
    refine WO_sub rfl rfl (by omega) ?_
    refine WO_fa (o' := 0) rfl rfl rfl ?_
    refine WO_ldI (x := P (2 * (8 * r + i))) rfl rfl (.head _) e0 ?_
    refine WO_slS (a := P (2 * (8 * r + i)) - 1) (b := P (2 * (8 * r + i))) rfl rfl rfl (by show _ ∧ _ ∧ _ ≤ ((6 : Nat) : Int); omega) ?_
    rw [up_at' ⟨hpc2.1, hpc2.2.1⟩]
    refine WO_bin (r := .str (flushS (rk P r i) ++ letS (P (2 * (8 * r + i))) (P (2 * (8 * r + i) + 1)))) rfl rfl ((add_str (hs9 _ rfl)).trans (by rw [letS, letB, if_neg (by omega)])) ?_
    refine WO_mv rfl (WO_nil ?_)
    refine WP_ops ?_
    refine WO_mv (v := .s (.int _ _)) rfl (WO_add rfl rfl (by omega) (WO_mv (v := .s (.int _ _)) rfl (WO_nil ?_)))
    exact fin _ 0 _ rfl rfl rfl rfl rfl ⟨_, rfl⟩
   ·simp only [NM] at hb
    have hb1 : P (2 * (8 * r + i) + 1) = 1 := by
     rcases hpc2.2.2 with h | h
     ·exact absurd h hb
     ·exact h
    refine WP_ops ?_
    refine WO_mv rfl ?_
    refine WO_fa (o' := 0) rfl rfl rfl ?_
    refine WO_ldI (x := P (2 * (8 * r + i))) rfl rfl (.head _) e0 ?_
    refine WO_sub rfl rfl (by omega) ?_
    refine WO_fa (o' := 0) rfl rfl rfl ?_
    refine WO_ldI (x := P (2 * (8 * r + i))) rfl rfl (.head _) e0 ?_
    refine WO_slS (a := P (2 * (8 * r + i)) - 1) (b := P (2 * (8 * r + i))) rfl rfl rfl (by show _ ∧ _ ∧ _ ≤ ((6 : Nat) : Int); omega) ?_
    rw [low_at' ⟨hpc2.1, hpc2.2.1⟩]
    refine WO_bin (r := .str (flushS (rk P r i) ++ letS (P (2 * (8 * r + i))) (P (2 * (8 * r + i) + 1)))) rfl rfl ((add_str (hs9 _ rfl)).trans (by rw [letS, letB, if_pos hb1])) ?_
    refine WO_mv rfl (WO_nil ?_)
    refine WP_ops ?_
    refine WO_mv (v := .s (.int _ _)) rfl (WO_add rfl rfl (by omega) (WO_mv (v := .s (.int _ _)) rfl (WO_nil ?_)))
    exact fin _ 0 _ rfl rfl rfl rfl rfl ⟨_, rfl⟩
 rintro f n L ⟨k5, rfl⟩
 refine WP_know (d := 5) k5 ?_
 refine WP_seq (WP_ops ?_)
 refine WO_mv rfl (WO_mv rfl (WO_nil ?_))
 exact WP_ret ⟨_, RS_tmp rfl RS_nil, rfl⟩
end Go.Proofs.YtlaogmemhephnaaGreatDoor
set_option linter.unusedVariables false
set_option linter.unusedSimpArgs false
namespace Go.Proofs.YtlaogmemhephnaaGreatDoor
open Go Go.Am
def orS (s : ByteArray) : ByteArray := if s.size = 0 then ⟨#[45]⟩ else s
theorem size0 {s : ByteArray} (h : s.size = 0) : s = ⟨#[]⟩ := by
 obtain ⟨⟨l⟩⟩ := s
 match l, h with
 | [], _ => rfl
theorem or_run (s : ByteArray) : RF AM 21 [.s (.str s)] (.s (.str (orS s))) := by
 refine RF_of ?_
 refine WR_fn (a := a21) rfl rfl (entryF _) (entry_E (Nat.le_of_ble_eq_true rfl)) (m := 0) rfl ?_
 refine WP_seq (WP_ops (WO_mv rfl (WO_nil ?_)))
 refine WP_seq (WP_seq (WP_ops ?_))
 refine WO_mv rfl ?_
 refine WO_bin (r := .bool _) rfl rfl rfl (WO_nil ?_)
 refine WP_cond rfl (fun h => ?_) (fun h => ?_)
 ·have := (seql_is h).1 rfl
  subst this
  refine WP_seq (WP_ops (WO_mv rfl (WO_nil ?_)))
  exact WP_ret ⟨_, RS_tmp rfl RS_nil, rfl⟩
 ·have hne : s.size ≠ 0 := fun e => by
   have := (seql_is h).2 (size0 e)
   cases this
  refine WP_skip ?_
  refine WP_seq (WP_ops (WO_mv rfl (WO_mv rfl (WO_nil ?_))))
  refine WP_ret ⟨_, RS_tmp rfl RS_nil, ?_⟩
  show V.s (.str s) = _
  rw [orS, if_neg hne]
def castB (k : Nat) : UInt8 := match k with | 0 => 75 | 1 => 81 | 2 => 107 | _ => 113
def mayF (c : Int) : Nat → ByteArray
 | 0 => .empty
 | k + 1 => if c / 2 ^ k % 2 = 1 then mayF c k ++ ⟨#[castB k]⟩ else mayF c k
theorem may_size (c : Int) : ∀ k, (mayF c k).size ≤ k
 | 0 => Nat.le_refl _
 | k + 1 => by
  have := may_size c k
  unfold mayF
  split
  ·rw [ByteArray.size_append]; show _ + 1 ≤ _; omega
  ·omega
theorem cast_of : ∀ k : Fin 4, (⟨#[75, 81, 107, 113]⟩ : ByteArray).extract k.val (k.val + 1) = ⟨#[castB k.val]⟩ := by decide +kernel
theorem cast_ext {k : Nat} (h : k < 4) : (⟨#[75, 81, 107, 113]⟩ : ByteArray).extract ((k : Int)).toNat ((k : Int) + 1).toNat = ⟨#[castB k]⟩ := by
 have := cast_of ⟨k, h⟩
 rw [show ((k : Int)).toNat = k by omega, show ((k : Int) + 1).toNat = k + 1 by omega]
 exact this
theorem cast_shk {c : Int} (h : 0 ≤ c ∧ c ≤ 15) {k : Nat} (hk : k < 4) : binS .shr (.int .i64 c) (.int .i64 (k : Int)) = some (.int .i64 (c / 2 ^ k)) := by
 match k, hk with
 | 0, _ => exact cast_shr0 h
 | 1, _ => exact cast_shr1 h
 | 2, _ => exact cast_shr2 h
 | 3, _ => exact cast_shr3 h
theorem cast_bd {c : Int} (h : 0 ≤ c ∧ c ≤ 15) {k : Nat} (hk : k < 4) : 0 ≤ c / 2 ^ k ∧ c / 2 ^ k ≤ 15 := by
 match k, hk with
 | 0, _ => show 0 ≤ c / 1 ∧ c / 1 ≤ 15; omega
 | 1, _ => show 0 ≤ c / 2 ∧ c / 2 ≤ 15; omega
 | 2, _ => show 0 ≤ c / 4 ∧ c / 4 ≤ 15; omega
 | 3, _ => show 0 ≤ c / 8 ∧ c / 8 ≤ 15; omega
structure Rt (P : Nat → Int) : Prop where
 vp : VP P
 side : P 128 = 0 ∨ P 128 = 1
 cast : 0 ≤ P 129 ∧ P 129 ≤ 15
 over : P 130 = -1 ∨ (0 ≤ P 130 ∧ P 130 < 64)
 half : 0 ≤ P 131 ∧ P 131 ≤ 1024
 full : 1 ≤ P 132 ∧ P 132 ≤ 16384
theorem rt_of {P : Nat → Int} (h : rightM P = true) : Rt P := by
 unfold rightM at h
 simp only [Bool.and_eq_true] at h
 obtain ⟨⟨⟨h1, h2⟩, h3⟩, h4⟩ := h
 obtain ⟨h1, _, _, h1s⟩ := pieces_is h1
 unfold castlesM at h2
 unfold overOK at h3
 have h2 := of_decide_eq_true h2
 have h3 := of_decide_eq_true h3
 have h4 := of_decide_eq_true h4
 refine ⟨fun s hs => ?_, h1s, h2.1, ?_, ⟨h4.1, h4.2.1⟩, h4.2.2⟩
 ·have e : sqI (s : Int) = 2 * s := by show 0 + (s : Int).toNat * 2 = _; omega
  rcases h1 s hs with h | ⟨h, _⟩
  ·rw [e] at h; exact .inl h
  ·rw [e] at h; exact .inr h
 ·rcases h3 with h | h
  ·exact .inl h
  ·exact .inr h.1
theorem nd_le : ∀ (k u : Nat), 1 ≤ k → u < 10 ^ k → Lib.nDigits u ≤ k
 | 0, _, h, _ => by omega
 | k + 1, u, _, h => by
  by_cases hu : u < 10
  ·rw [Lib.nDigits_small hu]; omega
  ·rw [Lib.nDigits_big hu]
   have hk : 1 ≤ k := by
    rcases Nat.eq_zero_or_pos k with e | e
    ·subst e; simp at h; omega
    ·exact e
   have := nd_le k (u / 10) hk (by rw [Nat.pow_succ] at h; omega)
   omega
theorem itoa_size {n : Int} (h0 : 0 ≤ n) (h1 : n < 100000) : (⟨(Lib.itoa n).toArray⟩ : ByteArray).size ≤ 5 := by
 show (Lib.itoa n).toArray.size ≤ 5
 rw [List.size_toArray, Lib.itoa, if_neg (by omega), Lib.decDigits_length]
 exact nd_le 5 _ (by omega) (by omega)
def rowF (P : Nat → Int) (i : Nat) : ByteArray := rankS P (7 - i)
def sideB (s : Int) : UInt8 := if s = 1 then 98 else 119
def partF (P : Nat → Int) (i : Nat) : ByteArray :=
 match i with
 | 0 => catF (rowF P) ⟨#[47]⟩ 7
 | 1 => ⟨#[sideB (P 128)]⟩
 | 2 => orS (mayF (P 129) 4)
 | 3 => orS (nameS (P 130))
 | 4 => ⟨(Lib.itoa (P 131)).toArray⟩
 | _ => ⟨(Lib.itoa (P 132)).toArray⟩
def showS (P : Nat → Int) : ByteArray := catF (partF P) ⟨#[32]⟩ 5
theorem sum_bd (X : Nat → ByteArray) (c : Nat) : ∀ i, (∀ j, j < i → (X j).size ≤ c) → sumF X i ≤ i * c
 | 0, _ => Nat.zero_le _
 | i + 1, h => by
  have h1 := sum_bd X c i (fun j hj => h j (by omega))
  have h2 := h i (by omega)
  simp only [sumF, Nat.add_mul, Nat.one_mul]
  omega
theorem rows_size (P : Nat → Int) : (catF (rowF P) ⟨#[47]⟩ 7).size ≤ 143 := by
 rw [cat_size]
 have : sumF (rowF P) (7 + 1) ≤ 8 * 17 := sum_bd (rowF P) 17 8 (fun j _ => rank_size P _)
 have e : (⟨#[47]⟩ : ByteArray).size = 1 := rfl
 rw [e]; omega
theorem rows_pos (P : Nat → Int) : 0 < (catF (rowF P) ⟨#[47]⟩ 7).size := by
 rw [cat_size]
 have e : (⟨#[47]⟩ : ByteArray).size = 1 := rfl
 rw [e]; omega
theorem or_size (s : ByteArray) {c : Nat} (h : s.size ≤ c) (hc : 1 ≤ c) : (orS s).size ≤ c := by
 unfold orS
 split
 ·exact hc
 ·exact h
theorem name_size (x : Int) : (nameS x).size ≤ 2 := by
 unfold nameS
 split
 ·exact Nat.le_refl _
 ·exact Nat.zero_le _
theorem show_size {P : Nat → Int} (h : Rt P) : (showS P).size ≤ 200 := by
 have h4 := itoa_size h.half.1 (by have := h.half.2; omega)
 have h5 := itoa_size (n := P 132) (by have := h.full.1; omega) (by have := h.full.2; omega)
 have h0 := rows_size P
 have h2 := or_size _ (may_size (P 129) 4) (by omega)
 have h3 := or_size _ (name_size (P 130)) (by omega)
 rw [showS, cat_size]
 simp only [sumF, partF]
 have e : (⟨#[32]⟩ : ByteArray).size = 1 := rfl
 have e1 : (⟨#[sideB (P 128)]⟩ : ByteArray).size = 1 := rfl
 rw [e, e1]
 omega
theorem show_pos (P : Nat → Int) : 0 < (showS P).size := by
 rw [showS, cat_size]
 have e : (⟨#[32]⟩ : ByteArray).size = 1 := rfl
 rw [e]; omega
theorem side_of : ∀ s : Fin 2, (⟨#[119, 98]⟩ : ByteArray).extract s.val (s.val + 1) = ⟨#[sideB s.val]⟩ := by decide +kernel
theorem side_ext {s : Int} (h : s = 0 ∨ s = 1) : (⟨#[119, 98]⟩ : ByteArray).extract s.toNat (s + 1).toNat = ⟨#[sideB s]⟩ := by
 rcases h with rfl | rfl
 ·exact side_of 0
 ·exact side_of 1
end Go.Proofs.YtlaogmemhephnaaGreatDoor
set_option linter.unusedVariables false
set_option linter.unusedSimpArgs false
namespace Go.Proofs.YtlaogmemhephnaaGreatDoor
open Go Go.Am
def rdG (s : ByteArray) (k : Nat) (P : Nat → Int) : Nat → S
 | 0 => .str s
 | 1 => .int .i64 (k : Int)
 | i + 2 => .int .i64 (P i)
theorem rd_at (s : ByteArray) (k k' : Nat) (P : Nat → Int) (x : Int) (hx : x = (k' : Int)) : over (rdG s k P) 1 1 (fun _ => .int .i64 x) = rdG s k' P := by
 subst hx
 funext i
 match i with
 | 0 => rfl
 | 1 => rfl
 | i + 2 =>
  show (bif Nat.ble 1 (i + 2) && Nat.blt (i + 2) (1 + 1) then _ else _) = _
  have : Nat.blt (i + 2) (1 + 1) = false := Bool.eq_false_iff.2 fun e => by have := Nat.le_of_ble_eq_true e; omega
  rw [this, Bool.and_false]; rfl
theorem rd_cell (s : ByteArray) (k : Nat) (P : Nat → Int) (o : Nat) (x : Int) : over (rdG s k P) (o + 2) 1 (fun _ => .int .i64 x) = rdG s k (ov P o x) := by
 funext i
 match i with
 | 0 =>
  show (bif Nat.ble (o + 2) 0 && _ then _ else _) = _
  rfl
 | 1 =>
  show (bif Nat.ble (o + 2) 1 && _ then _ else _) = _
  have : Nat.ble (o + 2) 1 = false := Bool.eq_false_iff.2 fun e => by have := Nat.le_of_ble_eq_true e; omega
  rw [this]; rfl
 | i + 2 =>
  have e := congrFun (over_one P o x) i
  show (bif Nat.ble (o + 2) (i + 2) && Nat.blt (i + 2) (o + 2 + 1) then _ else S.int .i64 (P i)) = S.int .i64 (ov P o x i)
  by_cases h : i = o
  ·subst h
   have h1 : Nat.ble (i + 2) (i + 2) = true := Nat.ble_eq_true_of_le (Nat.le_refl _)
   have h2 : Nat.blt (i + 2) (i + 2 + 1) = true := Nat.ble_eq_true_of_le (Nat.le_refl _)
   rw [h1, h2]
   show S.int .i64 x = _
   simp [ov]
  ·rw [ov_out h]
   have : (Nat.ble (o + 2) (i + 2) && Nat.blt (i + 2) (o + 2 + 1)) = false := Bool.eq_false_iff.2 fun e => by
    rw [Bool.and_eq_true] at e
    have h1 := Nat.le_of_ble_eq_true e.1
    have h2 := Nat.le_of_ble_eq_true e.2
    omega
   rw [this]; rfl
theorem rd_two (s : ByteArray) (k : Nat) (P : Nat → Int) (o : Nat) (X : Nat → Int) : over (rdG s k P) (o + 2) 2 (ia X) = rdG s k (ovA P o 2 X) := by
 funext i
 match i with
 | 0 =>
  show (bif Nat.ble (o + 2) 0 && _ then _ else _) = _
  rfl
 | 1 =>
  show (bif Nat.ble (o + 2) 1 && _ then _ else _) = _
  have : Nat.ble (o + 2) 1 = false := Bool.eq_false_iff.2 fun e => by have := Nat.le_of_ble_eq_true e; omega
  rw [this]; rfl
 | i + 2 =>
  show (bif Nat.ble (o + 2) (i + 2) && Nat.blt (i + 2) (o + 2 + 2) then S.int .i64 (X (i + 2 - (o + 2))) else S.int .i64 (P i)) = S.int .i64 (ovA P o 2 X i)
  by_cases h : o ≤ i ∧ i < o + 2
  ·rw [ovA_at h]
   have h1 : Nat.ble (o + 2) (i + 2) = true := Nat.ble_eq_true_of_le (by omega)
   have h2 : Nat.blt (i + 2) (o + 2 + 2) = true := Nat.ble_eq_true_of_le (by omega)
   rw [h1, h2, show i + 2 - (o + 2) = i - o by omega]; rfl
  ·rw [ovA_out (by omega)]
   have : (Nat.ble (o + 2) (i + 2) && Nat.blt (i + 2) (o + 2 + 2)) = false := Bool.eq_false_iff.2 fun e => by
    rw [Bool.and_eq_true] at e
    have h1 := Nat.le_of_ble_eq_true e.1
    have h2 := Nat.le_of_ble_eq_true e.2
    omega
   rw [this]; rfl
def chr (s : ByteArray) (k : Nat) : UInt8 := s.data.getD k 0
def hasB (J : ByteArray) (c : UInt8) : Bool := decide (0 ≤ Lib.indexByte J.data.toList c)
theorem has_run (J : ByteArray) (c : UInt8) : RF AM 91 [.s (.str J), .s (.str ⟨#[c]⟩)] (.s (.bool (hasB J c))) := by
 refine ⟨[], ?_⟩
 rw [Run_prim (pf := hasPrim) rfl]
 simp only [hasPrim]
 rw [if_pos (show (⟨#[c]⟩ : ByteArray).size = 1 from rfl)]
 rfl
theorem ext_one {s : ByteArray} {k : Nat} (h : k < s.size) : s.extract ((k : Int)).toNat ((k : Int) + 1).toNat = ⟨#[chr s k]⟩ := by
 rw [show ((k : Int)).toNat = k by omega, show ((k : Int) + 1).toNat = k + 1 by omega]
 apply str_inj
 obtain ⟨⟨l⟩⟩ := s
 have hk : k < l.length := h
 rw [toList_is, toList_is]
 simp only [ByteArray.data_extract, Array.toList_extract, List.extract_eq_take_drop, chr]
 rw [show k + 1 - k = 1 by omega, List.drop_eq_getElem_cons hk]
 simp only [Array.getD_eq_getD_getElem?, List.getElem?_toArray, List.getElem?_eq_getElem hk, Option.getD_some, List.take_succ_cons, List.take_zero]
def Some1 (m : Nat) (c : Cp) (q : Nat) (G : Nat → S) (J : ByteArray) : Prop := RL AM 20 [.sl 0 0 m 1 c, .s (.str ⟨#[]⟩)] [.sc .ro q G] (.s (.str J)) [.sc .ro q G]
def takeC (s : ByteArray) (k : Nat) (J : ByteArray) : Bool := decide (k < s.size) && hasB J (chr s k)
theorem take_yes {md md' : Md} {q : Nat} {m : Nat} {c : Cp} {G : Nat → S} {J : ByteArray} (hmd : md.mut = true) (s : ByteArray) (k : Nat) (P : Nat → Int) (hJ : Some1 m c q G J) (hs : s.size ≤ 1000) (h : takeC s k J = true) :
  WR AM 72 [.ptr 0 0 2, .sl 1 0 m 1 c] [.sc md 135 (rdG s k P), .sc md' q G] (fun v _ L => v = .s (.int .u8 (chr s k).toNat) ∧ (0, Blk.sc md 135 (rdG s (k + 1) P)) ∈ L ∧ (1, Blk.sc md' q G) ∈ L) := by
 obtain ⟨hk, hc⟩ := Bool.and_eq_true_iff.1 h
 have hk := of_decide_eq_true hk
 refine WR_fn (a := a72) rfl rfl (entryF _) (entry_E (Nat.le_of_ble_eq_true rfl)) (m := 2) rfl ?_
 refine WP_seq (WP_ops (WO_mv rfl (WO_nil ?_)))
 refine WP_seq (WP_seq (WP_par ?_))
 refine WO_mv rfl (WO_nilckP rfl (WO_fa (o' := 1) rfl rfl rfl ?_))
 refine WO_ldS rfl rfl (.head _) rfl ?_
 refine WO_mv rfl (WO_nilckP rfl (WO_fa (o' := 0) rfl rfl rfl ?_))
 refine WO_ldS rfl rfl (.head _) rfl ?_
 refine WO_lenS rfl ?_
 refine WO_bin (r := .bool false) rfl rfl (by show some (S.bool (_ == _)) = _; rw [beq_eq_false_iff_ne.2 (by omega)]) ?_
 refine WO_mv rfl ?_
 refine WO_gt rfl (WO_mv rfl ?_)
 refine WO_gt rfl ?_
 refine WO_callqL (av := [.sl 1 0 m 1 c, .s (.str ⟨#[]⟩)]) (rs := [1]) (Bs := [_]) rfl rfl rfl hJ rfl (by simp [V.refsL, V.refs]) (by simp [V.refsL, V.refs]) (by simp [rnL, V.renL, V.ren, pos]) ⟨.tail _ (.head _), rfl, trivial⟩ rfl rfl rfl ?_
 refine WO_gt rfl (WO_mv rfl ?_)
 refine WO_gt rfl (WO_nilckP rfl ?_)
 refine WO_gt rfl (WO_fa (o' := 0) rfl rfl rfl ?_)
 refine WO_gt rfl (WO_ldS rfl rfl (.head _) rfl ?_)
 refine WO_gt rfl (WO_mv rfl ?_)
 refine WO_gt rfl (WO_nilckP rfl ?_)
 refine WO_gt rfl (WO_fa (o' := 1) rfl rfl rfl ?_)
 refine WO_gt rfl (WO_ldS rfl rfl (.head _) rfl ?_)
 refine WO_gt rfl (WO_mv rfl ?_)
 refine WO_gt rfl (WO_nilckP rfl ?_)
 refine WO_gt rfl (WO_fa (o' := 1) rfl rfl rfl ?_)
 refine WO_gt rfl (WO_ldS rfl rfl (.head _) rfl ?_)
 refine WO_gt rfl (WO_add rfl rfl (by omega) ?_)
 refine WO_gt rfl (WO_slS (a := (k : Int)) (b := (k : Int) + 1) rfl rfl rfl (by omega) ?_)
 rw [ext_one hk]
 refine WO_gt rfl (WO_call0 rfl (has_run J (chr s k)) rfl rfl rfl ?_)
 rw [hc]
 refine WO_gt rfl (WO_un rfl rfl ?_)
 refine WO_pick rfl rfl (WO_nil ?_)
 refine WP_cond rfl (fun h => by cases h) (fun _ => WP_skip ?_)
 refine WP_seq (WP_ops ?_)
 refine WO_mv rfl (WO_nilckP rfl (WO_fa (o' := 1) rfl rfl rfl ?_))
 refine WO_ldS rfl rfl (.head _) rfl ?_
 refine WO_add rfl rfl (by omega) ?_
 refine WO_nilckP rfl (WO_fa (o' := 1) rfl rfl rfl ?_)
 refine WO_st rfl rfl (by simp [V.scells]; rfl) rfl hmd (rd_at s k (k + 1) P _ (by omega)) .here (WO_nil ?_)
 refine WP_seq (WP_par ?_)
 refine WO_mv rfl (WO_nilckP rfl (WO_fa (o' := 0) rfl rfl rfl ?_))
 refine WO_ldS rfl rfl (.head _) rfl ?_
 refine WO_mv rfl (WO_nilckP rfl (WO_fa (o' := 1) rfl rfl rfl ?_))
 refine WO_ldS rfl rfl (.head _) rfl ?_
 refine WO_sub rfl rfl (by omega) ?_
 refine WO_ixstr rfl rfl (by omega) ?_
 refine WO_mv rfl (WO_nil ?_)
 refine WP_ret ⟨_, RS_tmp rfl RS_nil, ?_, .head _, .tail _ (.head _)⟩
 show V.s (.int .u8 ((s.data.getD (((k + 1 : Nat) : Int) - 1).toNat 0).toNat : Nat)) = _
 rw [show (((k + 1 : Nat) : Int) - 1).toNat = k by omega]; rfl
theorem take_no {md md' : Md} {q : Nat} {m : Nat} {c : Cp} {G : Nat → S} {J : ByteArray} (s : ByteArray) (k : Nat) (P : Nat → Int) (hJ : Some1 m c q G J) (hs : s.size ≤ 1000) (hk : k ≤ s.size) (h : takeC s k J = false) :
  WR AM 72 [.ptr 0 0 2, .sl 1 0 m 1 c] [.sc md 135 (rdG s k P), .sc md' q G] (fun v _ L => v = .s (.int .u8 0) ∧ (0, Blk.sc md 135 (rdG s k P)) ∈ L ∧ (1, Blk.sc md' q G) ∈ L) := by
 refine WR_fn (a := a72) rfl rfl (entryF _) (entry_E (Nat.le_of_ble_eq_true rfl)) (m := 2) rfl ?_
 refine WP_seq (WP_ops (WO_mv rfl (WO_nil ?_)))
 refine WP_seq (WP_seq (WP_par ?_))
 refine WO_mv rfl (WO_nilckP rfl (WO_fa (o' := 1) rfl rfl rfl ?_))
 refine WO_ldS rfl rfl (.head _) rfl ?_
 refine WO_mv rfl (WO_nilckP rfl (WO_fa (o' := 0) rfl rfl rfl ?_))
 refine WO_ldS rfl rfl (.head _) rfl ?_
 refine WO_lenS rfl ?_
 by_cases hk2 : k < s.size
 ·have hc : hasB J (chr s k) = false := by
   unfold takeC at h
   rw [decide_eq_true hk2, Bool.true_and] at h
   exact h
  refine WO_bin (r := .bool false) rfl rfl (by show some (S.bool (_ == _)) = _; rw [beq_eq_false_iff_ne.2 (by omega)]) ?_
  refine WO_mv rfl ?_
  refine WO_gt rfl (WO_mv rfl ?_)
  refine WO_gt rfl ?_
  refine WO_callqL (av := [.sl 1 0 m 1 c, .s (.str ⟨#[]⟩)]) (rs := [1]) (Bs := [_]) rfl rfl rfl hJ rfl (by simp [V.refsL, V.refs]) (by simp [V.refsL, V.refs]) (by simp [rnL, V.renL, V.ren, pos]) ⟨.tail _ (.head _), rfl, trivial⟩ rfl rfl rfl ?_
  refine WO_gt rfl (WO_mv rfl ?_)
  refine WO_gt rfl (WO_nilckP rfl ?_)
  refine WO_gt rfl (WO_fa (o' := 0) rfl rfl rfl ?_)
  refine WO_gt rfl (WO_ldS rfl rfl (.head _) rfl ?_)
  refine WO_gt rfl (WO_mv rfl ?_)
  refine WO_gt rfl (WO_nilckP rfl ?_)
  refine WO_gt rfl (WO_fa (o' := 1) rfl rfl rfl ?_)
  refine WO_gt rfl (WO_ldS rfl rfl (.head _) rfl ?_)
  refine WO_gt rfl (WO_mv rfl ?_)
  refine WO_gt rfl (WO_nilckP rfl ?_)
  refine WO_gt rfl (WO_fa (o' := 1) rfl rfl rfl ?_)
  refine WO_gt rfl (WO_ldS rfl rfl (.head _) rfl ?_)
  refine WO_gt rfl (WO_add rfl rfl (by omega) ?_)
  refine WO_gt rfl (WO_slS (a := (k : Int)) (b := (k : Int) + 1) rfl rfl rfl (by omega) ?_)
  rw [ext_one hk2]
  refine WO_gt rfl (WO_call0 rfl (has_run J (chr s k)) rfl rfl rfl ?_)
  rw [hc]
  refine WO_gt rfl (WO_un rfl rfl ?_)
  refine WO_pick rfl rfl (WO_nil ?_)
  refine WP_cond rfl (fun _ => ?_) (fun h => by cases h)
  refine WP_seq (WP_ops (WO_mv rfl (WO_nil ?_)))
  exact WP_ret ⟨_, RS_tmp rfl RS_nil, rfl, .head _, .tail _ (.head _)⟩
 ·have e : k = s.size := by omega
  refine WO_bin (r := .bool true) rfl rfl (by show some (S.bool (_ == _)) = _; rw [e, beq_self_eq_true]) ?_
  refine WO_mv rfl ?_
  refine WO_gf rfl rfl (WO_gf rfl rfl (WO_gf rfl rfl (WO_gf rfl rfl (WO_gf rfl rfl (WO_gf rfl rfl (WO_gf rfl rfl (WO_gf rfl rfl (WO_gf rfl rfl (WO_gf rfl rfl (WO_gf rfl rfl (WO_gf rfl rfl (WO_gf rfl rfl (WO_gf rfl rfl (WO_gf rfl rfl (WO_gf rfl rfl (WO_gf rfl rfl (WO_gf rfl rfl ?_)))))))))))))))))
  refine WO_pick rfl rfl (WO_nil ?_)
  refine WP_cond rfl (fun _ => ?_) (fun h => by cases h)
  refine WP_seq (WP_ops (WO_mv rfl (WO_nil ?_)))
  exact WP_ret ⟨_, RS_tmp rfl RS_nil, rfl, .head _, .tail _ (.head _)⟩
end Go.Proofs.YtlaogmemhephnaaGreatDoor
set_option linter.unusedVariables false
set_option linter.unusedSimpArgs false
namespace Go.Proofs.YtlaogmemhephnaaGreatDoor
open Go Go.Am
theorem some_one {q : Nat} {c : Cp} {G : Nat → S} {J : ByteArray} (h : G 0 = .str J) : Some1 1 c q G J :=
 RL_of1 rfl (Join_one (md := .ro) (q := q) (g := G) (c := c) J ⟨#[]⟩ h)
theorem some_two {q k : Nat} {G : Nat → S} {A B : ByteArray} (hA : G 0 = .str A) (hB : G 1 = .str B) (h0 : 0 < B.size) (h1 : A.size + B.size ≤ 1000) (hk : 2 ≤ k) : Some1 2 (.ex k) q G (A ++ B) := by
 have e : catF (fun i => if i = 0 then A else B) ⟨#[]⟩ 1 = A ++ B := by
  show A ++ ByteArray.empty ++ B = A ++ B
  rw [ByteArray.append_empty]
 have hsz : (A ++ B).size = A.size + B.size := ByteArray.size_append
 have := Join_many (md := .ro) (q := q) (g := G) (c := .ex k) (fun i => if i = 0 then A else B) ⟨#[]⟩ 1 (Nat.le_refl _) (by omega) hk (fun i hi => by
  match i, hi with
  | 0, _ => exact hA
  | 1, _ => exact hB) (by rw [e, hsz]; omega) (by rw [e, hsz]; omega)
 rw [e] at this
 exact RL_of1 rfl this
def stk (k : Nat) : V := .iface 49 (.agg 1 (ia (ov (fun _ => 0) 0 (k : Int))))
theorem chr_ne {s : ByteArray} {k : Nat} {J : ByteArray} (h : takeC s k J = true) (h0 : hasB J 0 = false) : (chr s k).toNat ≠ 0 := by
 intro e
 obtain ⟨_, hc⟩ := Bool.and_eq_true_iff.1 h
 have : chr s k = 0 := UInt8.toNat_inj.1 e
 rw [this, h0] at hc
 cases hc
section
variable {md md' : Md} {q : Nat} {m : Nat} {c : Cp} {G : Nat → S} {J : ByteArray}
theorem take_RY (hmd : md.mut = true) (s : ByteArray) (k : Nat) (P : Nat → Int) (hJ : Some1 m c q G J) (hs : s.size ≤ 1000) (h : takeC s k J = true) :
 RL AM 72 [.ptr 0 0 2, .sl 1 0 m 1 c] [.sc md 135 (rdG s k P), .sc md' q G] (.s (.int .u8 (chr s k).toNat)) [.sc md 135 (rdG s (k + 1) P), .sc md' q G] := RL_of2 rfl rfl (take_yes hmd s k P hJ hs h)
theorem take_RN (s : ByteArray) (k : Nat) (P : Nat → Int) (hJ : Some1 m c q G J) (hs : s.size ≤ 1000) (hk : k ≤ s.size) (h : takeC s k J = false) :
 RL AM 72 [.ptr 0 0 2, .sl 1 0 m 1 c] [.sc md 135 (rdG s k P), .sc md' q G] (.s (.int .u8 0)) [.sc md 135 (rdG s k P), .sc md' q G] := RL_of2 rfl rfl (take_no s k P hJ hs hk h)
theorem must_yes (hmd : md.mut = true) (s : ByteArray) (k : Nat) (P : Nat → Int) (hJ : Some1 m c q G J) (hs : s.size ≤ 1000) (h0 : hasB J 0 = false) (h : takeC s k J = true) :
  RL AM 47 [.ptr 0 0 135, .sl 1 0 m 1 c] [.sc md 135 (rdG s k P), .sc md' q G] (.s (.int .u8 (chr s k).toNat)) [.sc md 135 (rdG s (k + 1) P), .sc md' q G] := by
 refine RL_of2 rfl rfl ?_
 refine WR_fn (a := a47) rfl rfl (entryF _) (entry_E (Nat.le_of_ble_eq_true rfl)) (m := 2) rfl ?_
 refine WP_seq (WP_ops (WO_mv rfl (WO_nil ?_)))
 refine WP_seq (WP_ops ?_)
 refine WO_mv rfl (WO_nilckP rfl (WO_fa (o' := 0) rfl rfl rfl (WO_mv rfl ?_)))
 refine WO_callL (av := [.ptr 0 0 2, .sl 1 0 m 1 c]) (rs := [0, 1]) (Bs := [_, _]) rfl rfl rfl (take_RY hmd s k P hJ hs h) (by simp [V.refsL, V.refs, dedup]) (by simp [V.refsL, V.refs]) (by simp [V.refsL, V.refs]) (by simp [rnL, V.renL, V.ren, pos]) ⟨.head _, rfl, .tail _ (.head _), rfl, trivial⟩ rfl rfl (.cons .here (.cons (.there .here) .nil)) ?_
 refine WO_mv rfl (WO_nil ?_)
 refine WP_seq (WP_seq (WP_ops ?_))
 refine WO_mv rfl ?_
 refine WO_bin (r := .bool false) rfl rfl (by show some (S.bool (_ == _)) = _; rw [beq_eq_false_iff_ne.2 (by have := chr_ne h h0; omega)]) (WO_nil ?_)
 refine WP_cond rfl (fun h => by cases h) (fun _ => WP_skip ?_)
 refine WP_seq (WP_ops (WO_mv rfl (WO_mv rfl (WO_nil ?_))))
 exact WP_ret ⟨_, RS_tmp rfl RS_nil, rfl, .head _, .tail _ (.head _)⟩
theorem must_no (s : ByteArray) (k : Nat) (P : Nat → Int) (hJ : Some1 m c q G J) (hs : s.size ≤ 1000) (hk : k ≤ s.size) (h : takeC s k J = false) :
  RL AM 47 [.ptr 0 0 135, .sl 1 0 m 1 c] [.sc md 135 (rdG s k P), .sc md' q G] (.pan (stk k)) [.sc md 135 (rdG s k P), .sc md' q G] := by
 refine RL_of2 rfl rfl ?_
 refine WR_fn (a := a47) rfl rfl (entryF _) (entry_E (Nat.le_of_ble_eq_true rfl)) (m := 2) rfl ?_
 refine WP_seq (WP_ops (WO_mv rfl (WO_nil ?_)))
 refine WP_seq (WP_ops ?_)
 refine WO_mv rfl (WO_nilckP rfl (WO_fa (o' := 0) rfl rfl rfl (WO_mv rfl ?_)))
 refine WO_callL (av := [.ptr 0 0 2, .sl 1 0 m 1 c]) (rs := [0, 1]) (Bs := [_, _]) rfl rfl rfl (take_RN s k P hJ hs hk h) (by simp [V.refsL, V.refs, dedup]) (by simp [V.refsL, V.refs]) (by simp [V.refsL, V.refs]) (by simp [rnL, V.renL, V.ren, pos]) ⟨.head _, rfl, .tail _ (.head _), rfl, trivial⟩ rfl rfl (.cons .here (.cons (.there .here) .nil)) ?_
 refine WO_mv rfl (WO_nil ?_)
 refine WP_seq (WP_seq (WP_ops ?_))
 refine WO_mv rfl ?_
 refine WO_bin (r := .bool true) rfl rfl rfl (WO_nil ?_)
 refine WP_cond rfl (fun _ => ?_) (fun h => by cases h)
 refine WP_ops ?_
 refine WO_mv rfl (WO_nilckP rfl (WO_fa (o' := 0) rfl rfl rfl (WO_fa (o' := 1) rfl rfl rfl ?_)))
 refine WO_ldS rfl rfl (.head _) rfl ?_
 refine WO_buildI rfl (.one rfl .nil) ?_
 refine WO_p (v := stk k) rfl ?_
 exact WO_pnc rfl ⟨rfl, .head _, .tail _ (.head _)⟩
end
end Go.Proofs.YtlaogmemhephnaaGreatDoor
set_option linter.unusedVariables false
set_option linter.unusedSimpArgs false
namespace Go.Proofs.YtlaogmemhephnaaGreatDoor
open Go Go.Am
theorem At_keep {b : Nat} {B B' : Blk} {L L' : HA} (h : At b B B' L L') : ∀ {p : Nat × Blk}, p ∈ L → p.1 ≠ b → p ∈ L' := by
 induction h with
 | here =>
  intro p hp hne
  rcases List.mem_cons.1 hp with e | hp
  ·exact absurd (by rw [e]) hne
  ·exact .tail _ hp
 | there _ ih =>
  intro p hp hne
  rcases List.mem_cons.1 hp with e | hp
  ·rw [e]; exact .head _
  ·exact .tail _ (ih hp hne)
section
variable {N : Nat} {f : FE} {n : Nat} {L L' : HA} {K : KN} {Zp : V → KN} {l : List I} {d : Nat} {x : O} {xs : List O} {a b q m : Nat} {c : Cp} {G : Nat → S} {J s : ByteArray} {k : Nat} {P : Nat → Int} {md : Md}
theorem two_refs {z : Nat} : V.refsL [.ptr b 0 z, .sl a 0 m 1 c] = [b, a] := by simp [V.refsL, V.refs]
theorem two_dedup {z : Nat} (hne : a ≠ b) : dedup (V.refsL [.ptr b 0 z, .sl a 0 m 1 c]) [] = [b, a] := by
 rw [two_refs]; simp [dedup, hne]
theorem two_ren {z : Nat} (hne : a ≠ b) : rnL [b, a] [.ptr b 0 z, .sl a 0 m 1 c] = some [.ptr 0 0 z, .sl 1 0 m 1 c] := by
 have : (b == a) = false := by simpa using Ne.symm hne
 simp [rnL, V.renL, V.ren, pos, this]
theorem WO_takeY (hf : x.fv N f = .fn 72 []) (ha : xs.map (O.fv N f) = [.ptr b 0 2, .sl a 0 m 1 c]) (hne : a ≠ b) (hJ : Some1 m c q G J) (hs : s.size ≤ 1000) (h : takeC s k J = true) (hmd : md.mut = true) (hm : (a, Blk.sc .var q G) ∈ L)
  (hat : At b (.sc md 135 (rdG s k P)) (.sc md 135 (rdG s (k + 1) P)) L L') (kk : WO AM N l (upd f d (.s (.int .u8 (chr s k).toNat))) n L' K Zp) : WO AM N (⟨some d, none, .h (.call x xs)⟩ :: l) f n L K Zp :=
 WO_callL (av := [.ptr b 0 2, .sl a 0 m 1 c]) (rs := [b, a]) (Bs := [_, _]) hf ha rfl (take_RY (md' := .var) hmd s k P hJ hs h) (two_dedup hne) (by rw [two_refs]; simp) (by rw [two_refs]; simp) (two_ren hne) ⟨hat.mem, rfl, hm, rfl, trivial⟩ rfl rfl (.cons hat (.cons (At_self (At_keep hat hm hne)) .nil)) kk
theorem WO_takeN (hf : x.fv N f = .fn 72 []) (ha : xs.map (O.fv N f) = [.ptr b 0 2, .sl a 0 m 1 c]) (hne : a ≠ b) (hJ : Some1 m c q G J) (hs : s.size ≤ 1000) (hk : k ≤ s.size) (h : takeC s k J = false) (hm : (a, Blk.sc .var q G) ∈ L)
  (hb : (b, Blk.sc md 135 (rdG s k P)) ∈ L) (kk : WO AM N l (upd f d (.s (.int .u8 0))) n L K Zp) : WO AM N (⟨some d, none, .h (.call x xs)⟩ :: l) f n L K Zp :=
 WO_callL (av := [.ptr b 0 2, .sl a 0 m 1 c]) (rs := [b, a]) (Bs := [_, _]) hf ha rfl (take_RN (md := md) (md' := .var) s k P hJ hs hk h) (two_dedup hne) (by rw [two_refs]; simp) (by rw [two_refs]; simp) (two_ren hne) ⟨hb, rfl, hm, rfl, trivial⟩ rfl rfl (.cons (At_self hb) (.cons (At_self hm) .nil)) kk
theorem WO_mustY (hf : x.fv N f = .fn 47 []) (ha : xs.map (O.fv N f) = [.ptr b 0 135, .sl a 0 m 1 c]) (hne : a ≠ b) (hJ : Some1 m c q G J) (hs : s.size ≤ 1000) (h0 : hasB J 0 = false) (h : takeC s k J = true) (hmd : md.mut = true) (hm : (a, Blk.sc .var q G) ∈ L)
  (hat : At b (.sc md 135 (rdG s k P)) (.sc md 135 (rdG s (k + 1) P)) L L') (kk : WO AM N l (upd f d (.s (.int .u8 (chr s k).toNat))) n L' K Zp) : WO AM N (⟨some d, none, .h (.call x xs)⟩ :: l) f n L K Zp :=
 WO_callL (av := [.ptr b 0 135, .sl a 0 m 1 c]) (rs := [b, a]) (Bs := [_, _]) hf ha rfl (must_yes (md' := .var) hmd s k P hJ hs h0 h) (two_dedup hne) (by rw [two_refs]; simp) (by rw [two_refs]; simp) (two_ren hne) ⟨hat.mem, rfl, hm, rfl, trivial⟩ rfl rfl (.cons hat (.cons (At_self (At_keep hat hm hne)) .nil)) kk
theorem WO_mustN (hf : x.fv N f = .fn 47 []) (ha : xs.map (O.fv N f) = [.ptr b 0 135, .sl a 0 m 1 c]) (hne : a ≠ b) (hJ : Some1 m c q G J) (hs : s.size ≤ 1000) (hk : k ≤ s.size) (h : takeC s k J = false) (hm : (a, Blk.sc .var q G) ∈ L)
  (hb : (b, Blk.sc md 135 (rdG s k P)) ∈ L) (kk : Zp (stk k) f n L) : WO AM N (⟨some d, none, .h (.call x xs)⟩ :: l) f n L K Zp :=
 WO_callX (av := [.ptr b 0 135, .sl a 0 m 1 c]) (rs := [b, a]) (Bs := [_, _]) hf ha rfl (must_no (md := md) (md' := .var) s k P hJ hs hk h) (two_dedup hne) (by rw [two_refs]; simp) (by rw [two_refs]; simp) (two_ren hne) ⟨hb, rfl, hm, rfl, trivial⟩ rfl rfl (.cons (At_self hb) (.cons (At_self hm) .nil)) kk
end
abbrev digS : ByteArray := ⟨#[48, 49, 50, 51, 52, 53, 54, 55, 56, 57]⟩
theorem dig0 : hasB digS 0 = false := by decide +kernel
theorem dig_bd : ∀ c : Fin 256, hasB digS (UInt8.ofNat c.val) = true → 48 ≤ c.val ∧ c.val ≤ 57 := by decide +kernel
theorem dig_of {c : UInt8} (h : hasB digS c = true) : 48 ≤ c.toNat ∧ c.toNat ≤ 57 := by
 have := dig_bd ⟨c.toNat, c.toNat_lt⟩
 simp only [UInt8.ofNat_toNat] at this
 exact this h
def digV (s : ByteArray) (k : Nat) : Nat := (chr s k).toNat - 48
def numR (s : ByteArray) : Nat → Nat → Nat → Nat × Nat
 | 0, k, v => (k, v)
 | j + 1, k, v => if 0 < v then (if takeC s k digS = true then numR s j (k + 1) (10 * v + digV s k) else (k, v)) else (k, v)
def numberR (s : ByteArray) (k : Nat) : Except Nat (Nat × Nat) := if takeC s k digS = true then .ok (numR s 5 (k + 1) (digV s k)) else .error k
theorem take_lt {s : ByteArray} {k : Nat} {J : ByteArray} (h : takeC s k J = true) : k < s.size := of_decide_eq_true (Bool.and_eq_true_iff.1 h).1
theorem take_has {s : ByteArray} {k : Nat} {J : ByteArray} (h : takeC s k J = true) : hasB J (chr s k) = true := (Bool.and_eq_true_iff.1 h).2
theorem u8_sub {c d : Nat} (h : d ≤ c) (hc : c < 256) : binS .sub (.int .u8 (c : Int)) (.int .u8 (d : Int)) = some (.int .u8 ((c - d : Nat) : Int)) := by
 show some (S.int .u8 (IntKind.u8.wrap ((c : Int) - (d : Int)))) = _
 have : IntKind.u8.wrap ((c : Int) - (d : Int)) = ((c - d : Nat) : Int) := by
  rw [show ((c : Int) - (d : Int)) = ((c - d : Nat) : Int) by omega]
  show (((c - d : Nat) : Int) % 256) = _
  omega
 rw [this]
theorem number_ok (s : ByteArray) (k : Nat) (P : Nat → Int) (hs : s.size ≤ 1000) (h : takeC s k digS = true) :
  RL AM 53 [.ptr 0 0 135] [.sc .var 135 (rdG s k P)] (.s (.int .i64 ((numR s 5 (k + 1) (digV s k)).2 : Int))) [.sc .var 135 (rdG s (numR s 5 (k + 1) (digV s k)).1 P)] := by
 refine RL_of1 rfl ?_
 refine WR_fn (a := a53) rfl rfl (entryF _) (entry_E (Nat.le_of_ble_eq_true rfl)) (m := 1) rfl ?_
 have hd := dig_of (take_has h)
 refine WP_seq (WP_ops (WO_mv rfl (WO_nil ?_)))
 refine WP_seq (WP_ops ?_)
 refine WO_mv rfl ?_
 refine WO_mkslG rfl (.one rfl .nil) ?_
 refine WO_mustY rfl rfl (by decide) (some_one rfl) hs dig0 h rfl (.head _) (.there .here) ?_
 refine WO_bin rfl rfl (u8_sub hd.1 (chr s k).toNat_lt) ?_
 refine WO_conv (a := ((digV s k : Nat) : Int)) rfl (IntWalk.i64_in _ (by unfold digV; omega)) ?_
 refine WO_mv (v := .s (.int _ _)) rfl (WO_nil ?_)
 have hk := take_lt h
 have hv9 : digV s k < 10 := by unfold digV; omega
 refine WP_cut (fun f n L => f 3 = .s (.int .i64 ((numR s 5 (k + 1) (digV s k)).2 : Int)) ∧ L = [(0, .sc .var 135 (rdG s (numR s 5 (k + 1) (digV s k)).1 P))]) ?_ ?_
 ·refine WP_seq (WP_ops (WO_mv rfl (WO_nil ?_)))
  refine WP_block ?_
  refine WP_sub (L' := [_]) (.cons _ (.refl _)) ?_
  refine WP_loop (fun m f nb L => ∃ (j k' v : Nat), 0 < nb ∧ j ≤ 5 ∧ m = j ∧ k' ≤ s.size ∧ v < 10 ^ (6 - j) ∧ numR s j k' v = numR s 5 (k + 1) (digV s k) ∧ f 0 = .ptr 0 0 135 ∧ f 3 = .s (.int .i64 (v : Int)) ∧ f 4 = .s (.int .i64 (5 - (j : Int))) ∧ L = [(0, .sc .var 135 (rdG s k' P))]) (fun m f nb L hI => ?_) 5 ⟨5, k + 1, digV s k, by omega, by omega, rfl, by omega, hv9, rfl, rfl, rfl, rfl, rfl⟩
  obtain ⟨j, k', v, hnb, hj, hm, hk', hv, he, k0, k3, k4, rfl⟩ := hI
  have hv6 : v < 1000000 := Nat.lt_of_lt_of_le hv (Nat.pow_le_pow_right (by omega) (show 6 - j ≤ 6 by omega))
  refine WP_know (d := 0) k0 ?_
  refine WP_know (d := 3) k3 ?_
  refine WP_know (d := 4) k4 ?_
  refine WP_seq (WP_seq (WP_ops ?_))
  refine WO_mv (v := .s (.int _ _)) rfl ?_
  cases j with
  | zero =>
   refine WO_bin (r := .bool false) rfl rfl rfl ?_
   refine WO_mv rfl (WO_gf rfl rfl (WO_gf rfl rfl (WO_pick rfl rfl (WO_nil ?_))))
   refine WP_cond rfl (fun h => by cases h) (fun _ => ?_)
   refine WP_exit (xhere ?_)
   rw [← he]
   exact ⟨_, .refl _, rfl, rfl⟩
  | succ j =>
   refine WO_bin (r := .bool true) rfl rfl (by show some (S.bool (decide _)) = _; rw [decide_eq_true (by omega)]) ?_
   refine WO_mv rfl ?_
   refine WO_gt rfl (WO_mv (v := .s (.int _ _)) rfl ?_)
   refine WO_gt rfl (WO_bin (r := .bool _) rfl rfl rfl ?_)
   refine WO_pick rfl rfl (WO_nil ?_)
   refine WP_cond rfl (fun hp => ?_) (fun hp => ?_)
   case refine_2 =>
    simp only [NM] at hp
    refine WP_exit (xhere ?_)
    have e : numR s (j + 1) k' v = (k', v) := by rw [numR, if_neg (by omega)]
    rw [← he, e]
    exact ⟨_, .refl _, rfl, rfl⟩
   simp only [NM] at hp
   have hp0 : 0 < v := by omega
   refine WP_skip ?_
   refine WP_seq (WP_block (WP_seq (WP_ops ?_)))
   refine WO_mv rfl (WO_nilckP rfl (WO_fa (o' := 0) rfl rfl rfl ?_))
   refine WO_mkslG rfl (.one rfl .nil) ?_
   cases ht : takeC s k' digS with
   | false =>
    refine WO_takeN rfl rfl (by omega) (some_one rfl) hs hk' ht (.head _) (.tail _ (.head _)) ?_
    refine WO_mv rfl (WO_nil ?_)
    refine WP_seq (WP_seq (WP_ops ?_))
    refine WO_mv rfl (WO_bin (r := .bool true) rfl rfl rfl (WO_nil ?_))
    refine WP_cond rfl (fun _ => ?_) (fun h => by cases h)
    refine WP_exit (xthere rfl (xhere ?_))
    have e : numR s (j + 1) k' v = (k', v) := by rw [numR, if_pos hp0, if_neg (by rw [ht]; decide)]
    rw [← he, e]
    exact ⟨_, .cons _ (.refl _), rfl, rfl⟩
   | true =>
    have hd2 := dig_of (take_has ht)
    have hk2 := take_lt ht
    refine WO_takeY rfl rfl (by omega) (some_one rfl) hs ht rfl (.head _) (.there .here) ?_
    refine WO_mv rfl (WO_nil ?_)
    refine WP_seq (WP_seq (WP_ops ?_))
    refine WO_mv rfl (WO_bin (r := .bool false) rfl rfl (by show some (S.bool (_ == _)) = _; rw [beq_eq_false_iff_ne.2 (by have := chr_ne ht dig0; omega)]) (WO_nil ?_))
    refine WP_cond rfl (fun h => by cases h) (fun _ => WP_skip ?_)
    refine WP_ops ?_
    refine WO_mv (v := .s (.int _ _)) rfl (WO_mul rfl rfl (by omega) (WO_mv rfl ?_))
    refine WO_bin rfl rfl (u8_sub hd2.1 (chr s k').toNat_lt) ?_
    refine WO_conv (a := ((digV s k' : Nat) : Int)) rfl (IntWalk.i64_in _ (by unfold digV; omega)) ?_
    refine WO_add rfl rfl (by unfold digV; omega) ?_
    refine WO_mv (v := .s (.int _ _)) rfl (WO_nil ?_)
    refine WP_ops ?_
    refine WO_mv (v := .s (.int _ _)) rfl (WO_add rfl rfl (by omega) (WO_mv (v := .s (.int _ _)) rfl (WO_nil ?_)))
    refine ⟨j, _, by omega, .cons _ (.refl _), j, k' + 1, 10 * v + digV s k', by omega, by omega, rfl, by omega, ?_, ?_, rfl, by rw [show ((10 * v + digV s k' : Nat) : Int) = 10 * (v : Int) + (digV s k' : Int) by omega]; rfl, by rw [show (5 - (j : Int)) = 5 - ((j + 1 : Nat) : Int) + 1 by omega]; rfl, rfl⟩
    ·have hp : 10 ^ (6 - j) = 10 * 10 ^ (6 - (j + 1)) := by
      rw [show 6 - j = (6 - (j + 1)) + 1 by omega, Nat.pow_succ, Nat.mul_comm]
     unfold digV
     rw [hp]; omega
    ·rw [← he]
     show _ = numR s (j + 1) k' v
     rw [numR, if_pos hp0, if_pos ht]
 rintro f n L ⟨k3, rfl⟩
 refine WP_know (d := 3) k3 ?_
 refine WP_seq (WP_ops (WO_mv (v := .s (.int _ _)) rfl (WO_mv (v := .s (.int _ _)) rfl (WO_nil ?_))))
 exact WP_ret ⟨_, RS_tmp (v := .s (.int _ _)) rfl RS_nil, rfl, .head _⟩
theorem number_no (s : ByteArray) (k : Nat) (P : Nat → Int) (hs : s.size ≤ 1000) (hk : k ≤ s.size) (h : takeC s k digS = false) :
  RL AM 53 [.ptr 0 0 135] [.sc .var 135 (rdG s k P)] (.pan (stk k)) [.sc .var 135 (rdG s k P)] := by
 refine RL_of1 rfl ?_
 refine WR_fn (a := a53) rfl rfl (entryF _) (entry_E (Nat.le_of_ble_eq_true rfl)) (m := 1) rfl ?_
 refine WP_seq (WP_ops (WO_mv rfl (WO_nil ?_)))
 refine WP_seq (WP_ops ?_)
 refine WO_mv rfl ?_
 refine WO_mkslG rfl (.one rfl .nil) ?_
 exact WO_mustN rfl rfl (by decide) (some_one rfl) hs hk h (.head _) (.tail _ (.head _)) ⟨rfl, .tail _ (.head _)⟩
end Go.Proofs.YtlaogmemhephnaaGreatDoor
set_option linter.unusedVariables false
set_option linter.unusedSimpArgs false
namespace Go.Proofs.YtlaogmemhephnaaGreatDoor
open Go Go.Am
abbrev filS : ByteArray := ⟨#[97, 98, 99, 100, 101, 102, 103, 104]⟩
abbrev rnkS : ByteArray := ⟨#[49, 50, 51, 52, 53, 54, 55, 56]⟩
abbrev linS : ByteArray := ⟨#[45]⟩
theorem fil0 : hasB filS 0 = false := by decide +kernel
theorem rnk0 : hasB rnkS 0 = false := by decide +kernel
theorem lin0 : hasB linS 0 = false := by decide +kernel
theorem fil_bd : ∀ c : Fin 256, hasB filS (UInt8.ofNat c.val) = true → 97 ≤ c.val ∧ c.val ≤ 104 := by decide +kernel
theorem fil_of {c : UInt8} (h : hasB filS c = true) : 97 ≤ c.toNat ∧ c.toNat ≤ 104 := by
 have := fil_bd ⟨c.toNat, c.toNat_lt⟩
 simp only [UInt8.ofNat_toNat] at this
 exact this h
theorem rnk_bd : ∀ c : Fin 256, hasB rnkS (UInt8.ofNat c.val) = true → 49 ≤ c.val ∧ c.val ≤ 56 := by decide +kernel
theorem rnk_of {c : UInt8} (h : hasB rnkS c = true) : 49 ≤ c.toNat ∧ c.toNat ≤ 56 := by
 have := rnk_bd ⟨c.toNat, c.toNat_lt⟩
 simp only [UInt8.ofNat_toNat] at this
 exact this h
def overR (s : ByteArray) (k : Nat) : Except Nat (Int × Nat) :=
 if takeC s k linS = true then .ok (-1, k + 1)
 else if takeC s k filS = true then (if takeC s (k + 1) rnkS = true then .ok (((8 * ((chr s (k + 1)).toNat - 49) + ((chr s k).toNat - 97) : Nat) : Int), k + 2) else .error (k + 1))
 else .error k
def Does (fid : FuncId) (rest : List V) (s : ByteArray) (k : Nat) (P : Nat → Int) (r : Except Nat ((Nat → Int) × Nat)) : Prop :=
 match r with
 | .ok (P', k') => RL AM fid (.ptr 0 0 135 :: rest) [.sc .var 135 (rdG s k P)] (.tup []) [.sc .var 135 (rdG s k' P')]
 | .error e => ∃ P', RL AM fid (.ptr 0 0 135 :: rest) [.sc .var 135 (rdG s k P)] (.pan (stk e)) [.sc .var 135 (rdG s e P')]
theorem ov_ov (P : Nat → Int) (o : Nat) (x y : Int) : ov (ov P o x) o y = ov P o y := by
 funext i
 unfold ov
 cases Nat.beq i o <;> rfl
theorem over_does (s : ByteArray) (k : Nat) (P : Nat → Int) (hs : s.size ≤ 1000) (hk : k ≤ s.size) : Does 51 [] s k P ((overR s k).map fun r => (ov P 130 r.1, r.2)) := by
 have start : ∀ {K : KR}, WP AM a51.nt a51.body (entryF [.ptr 0 0 135]) 1 (known 0 [.sc .var 135 (rdG s k P)]) (fun f n L => ∃ vs, RS a51.nt f L a51.res vs ∧ K (retV vs) n L) (fun _ _ _ _ => False) (fun f n L => ∃ vs, RS a51.nt f L a51.res vs ∧ K (retV vs) n L) (fun v _ n L => K (.pan v) n L) → WR AM 51 [.ptr 0 0 135] [.sc .var 135 (rdG s k P)] K := fun h =>
  WR_fn (a := a51) rfl rfl (entryF _) (entry_E (Nat.le_of_ble_eq_true rfl)) (m := 1) rfl h
 unfold overR
 cases h1 : takeC s k linS with
 | true =>
  rw [if_pos rfl]
  refine RL_of1 rfl (start ?_)
  refine WP_seq (WP_ops ?_)
  refine WO_mv rfl (WO_nilckP rfl (WO_fa (o' := 2) rfl rfl rfl (WO_fa (o' := 132) rfl rfl rfl ?_)))
  refine WO_st rfl rfl (by simp [V.scells]; rfl) rfl rfl (rd_cell s k P 130 (-1)) .here (WO_nil ?_)
  refine WP_seq (WP_ops ?_)
  refine WO_mv rfl (WO_nilckP rfl (WO_fa (o' := 0) rfl rfl rfl ?_))
  refine WO_mkslG rfl (.one rfl .nil) ?_
  refine WO_takeY rfl rfl (by decide) (some_one rfl) hs h1 rfl (.head _) (.there .here) ?_
  refine WO_bin (r := .bool false) rfl rfl (by show some (S.bool (_ == _)) = _; rw [beq_eq_false_iff_ne.2 (by have := chr_ne h1 lin0; omega)]) (WO_nil ?_)
  refine WP_cond rfl (fun h => by cases h) (fun _ => WP_skip ?_)
  exact ⟨_, RS_nil, rfl, .tail _ (.head _)⟩
 | false =>
  rw [if_neg (by decide)]
  cases h2 : takeC s k filS with
  | false =>
   rw [if_neg (by decide)]
   refine ⟨ov P 130 (-1), RL_of1 rfl (start ?_)⟩
   refine WP_seq (WP_ops ?_)
   refine WO_mv rfl (WO_nilckP rfl (WO_fa (o' := 2) rfl rfl rfl (WO_fa (o' := 132) rfl rfl rfl ?_)))
   refine WO_st rfl rfl (by simp [V.scells]; rfl) rfl rfl (rd_cell s k P 130 (-1)) .here (WO_nil ?_)
   refine WP_seq (WP_ops ?_)
   refine WO_mv rfl (WO_nilckP rfl (WO_fa (o' := 0) rfl rfl rfl ?_))
   refine WO_mkslG rfl (.one rfl .nil) ?_
   refine WO_takeN rfl rfl (by decide) (some_one rfl) hs hk h1 (.head _) (.tail _ (.head _)) ?_
   refine WO_bin (r := .bool true) rfl rfl rfl (WO_nil ?_)
   refine WP_cond rfl (fun _ => ?_) (fun h => by cases h)
   refine WP_seq (WP_ops ?_)
   refine WO_mv rfl ?_
   refine WO_mkslG rfl (.one rfl .nil) ?_
   exact WO_mustN rfl rfl (by decide) (some_one rfl) hs hk h2 (.head _) (.tail _ (.tail _ (.head _))) ⟨rfl, .tail _ (.tail _ (.head _))⟩
  | true =>
   rw [if_pos rfl]
   have hf := fil_of (take_has h2)
   have hk2 := take_lt h2
   cases h3 : takeC s (k + 1) rnkS with
   | false =>
    rw [if_neg (by decide)]
    refine ⟨ov P 130 (-1), RL_of1 rfl (start ?_)⟩
    refine WP_seq (WP_ops ?_)
    refine WO_mv rfl (WO_nilckP rfl (WO_fa (o' := 2) rfl rfl rfl (WO_fa (o' := 132) rfl rfl rfl ?_)))
    refine WO_st rfl rfl (by simp [V.scells]; rfl) rfl rfl (rd_cell s k P 130 (-1)) .here (WO_nil ?_)
    refine WP_seq (WP_ops ?_)
    refine WO_mv rfl (WO_nilckP rfl (WO_fa (o' := 0) rfl rfl rfl ?_))
    refine WO_mkslG rfl (.one rfl .nil) ?_
    refine WO_takeN rfl rfl (by decide) (some_one rfl) hs hk h1 (.head _) (.tail _ (.head _)) ?_
    refine WO_bin (r := .bool true) rfl rfl rfl (WO_nil ?_)
    refine WP_cond rfl (fun _ => ?_) (fun h => by cases h)
    refine WP_seq (WP_ops ?_)
    refine WO_mv rfl ?_
    refine WO_mkslG rfl (.one rfl .nil) ?_
    refine WO_mustY rfl rfl (by decide) (some_one rfl) hs fil0 h2 rfl (.head _) (.there (.there .here)) ?_
    refine WO_mv rfl (WO_nil ?_)
    refine WP_ops ?_
    refine WO_mv rfl (WO_mv rfl ?_)
    refine WO_bin rfl rfl (u8_sub hf.1 (chr s k).toNat_lt) ?_
    refine WO_conv (a := (((chr s k).toNat - 97 : Nat) : Int)) rfl (IntWalk.i64_in _ (by omega)) ?_
    refine WO_mv rfl ?_
    refine WO_mkslG rfl (.one rfl .nil) ?_
    exact WO_mustN rfl rfl (by decide) (some_one rfl) hs (by omega) h3 (.head _) (.tail _ (.tail _ (.tail _ (.head _)))) ⟨rfl, .tail _ (.tail _ (.tail _ (.head _)))⟩
   | true =>
    rw [if_pos rfl]
    have hr := rnk_of (take_has h3)
    refine RL_of1 rfl (start ?_)
    refine WP_seq (WP_ops ?_)
    refine WO_mv rfl (WO_nilckP rfl (WO_fa (o' := 2) rfl rfl rfl (WO_fa (o' := 132) rfl rfl rfl ?_)))
    refine WO_st rfl rfl (by simp [V.scells]; rfl) rfl rfl (rd_cell s k P 130 (-1)) .here (WO_nil ?_)
    refine WP_seq (WP_ops ?_)
    refine WO_mv rfl (WO_nilckP rfl (WO_fa (o' := 0) rfl rfl rfl ?_))
    refine WO_mkslG rfl (.one rfl .nil) ?_
    refine WO_takeN rfl rfl (by decide) (some_one rfl) hs hk h1 (.head _) (.tail _ (.head _)) ?_
    refine WO_bin (r := .bool true) rfl rfl rfl (WO_nil ?_)
    refine WP_cond rfl (fun _ => ?_) (fun h => by cases h)
    refine WP_seq (WP_ops ?_)
    refine WO_mv rfl ?_
    refine WO_mkslG rfl (.one rfl .nil) ?_
    refine WO_mustY rfl rfl (by decide) (some_one rfl) hs fil0 h2 rfl (.head _) (.there (.there .here)) ?_
    refine WO_mv rfl (WO_nil ?_)
    refine WP_ops ?_
    refine WO_mv rfl (WO_mv rfl ?_)
    refine WO_bin rfl rfl (u8_sub hf.1 (chr s k).toNat_lt) ?_
    refine WO_conv (a := (((chr s k).toNat - 97 : Nat) : Int)) rfl (IntWalk.i64_in _ (by omega)) ?_
    refine WO_mv rfl ?_
    refine WO_mkslG rfl (.one rfl .nil) ?_
    refine WO_mustY rfl rfl (by decide) (some_one rfl) hs rnk0 h3 rfl (.head _) (.there (.there (.there .here))) ?_
    refine WO_bin rfl rfl (u8_sub hr.1 (chr s (k + 1)).toNat_lt) ?_
    refine WO_conv (a := (((chr s (k + 1)).toNat - 49 : Nat) : Int)) rfl (IntWalk.i64_in _ (by omega)) ?_
    refine WO_call0 rfl (At_in (f := (chr s k).toNat - 97) (r := (chr s (k + 1)).toNat - 49) (by omega) (by omega)) rfl rfl rfl ?_
    refine WO_nilckP rfl (WO_fa (o' := 2) rfl rfl rfl (WO_fa (o' := 132) rfl rfl rfl ?_))
    refine WO_st rfl rfl (by simp [V.scells]; rfl) rfl rfl (rd_cell s (k + 2) (ov P 130 (-1)) 130 _) (.there (.there (.there .here))) (WO_nil ?_)
    refine ⟨_, RS_nil, rfl, ?_⟩
    rw [ov_ov]
    exact .tail _ (.tail _ (.tail _ (.head _)))
end Go.Proofs.YtlaogmemhephnaaGreatDoor
set_option linter.unusedVariables false
set_option linter.unusedSimpArgs false
namespace Go.Proofs.YtlaogmemhephnaaGreatDoor
open Go Go.Am
abbrev castS : ByteArray := ⟨#[75, 81, 107, 113]⟩
def castL (fr : Nat) : ByteArray := castS.extract fr 4
def ixC (c : UInt8) : Int := Lib.indexByte castS.data.toList c
theorem castL0 : ∀ fr : Fin 5, hasB (castL fr.val) 0 = false := by decide +kernel
theorem ix_bd : ∀ fr : Fin 5, ∀ c : Fin 256, hasB (castL fr.val) (UInt8.ofNat c.val) = true → (fr.val : Int) ≤ ixC (UInt8.ofNat c.val) ∧ ixC (UInt8.ofNat c.val) < 4 := by decide +kernel
theorem ix_of {fr : Nat} (hf : fr ≤ 4) {c : UInt8} (h : hasB (castL fr) c = true) : (fr : Int) ≤ ixC c ∧ ixC c < 4 := by
 have := ix_bd ⟨fr, by omega⟩ ⟨c.toNat, c.toNat_lt⟩
 simp only [UInt8.ofNat_toNat] at this
 exact this h
theorem idx_run (s : ByteArray) (c : UInt8) : RF AM 49 [.s (.str s), .s (.int .u8 (c.toNat : Int))] (.s (.int .i64 (Lib.indexByte s.data.toList c))) := by
 refine ⟨[], ?_⟩
 rw [Run_prim (pf := idxPrim) rfl]
 simp only [idxPrim]
 rw [show ((c.toNat : Int)).toNat.toUInt8 = c by simp]
theorem shl_ix {i : Nat} (h : i < 4) : binS .shl (.int .i64 1) (.int .i64 (i : Int)) = some (.int .i64 (2 ^ i)) := by
 match i, h with
 | 0, _ => rfl
 | 1, _ => rfl
 | 2, _ => rfl
 | 3, _ => rfl
theorem or_ix {C : Int} {i : Nat} (h : i < 4) (h0 : 0 ≤ C) (h1 : C < 2 ^ i) : binS .or (.int .i64 C) (.int .i64 (2 ^ i)) = some (.int .i64 (C + 2 ^ i)) := by
 match i, h with
 | 0, _ =>
  have : C = 0 := by simp at h1; omega
  subst this; rfl
 | 1, _ =>
  have : C = 0 ∨ C = 1 := by simp at h1; omega
  rcases this with rfl | rfl <;> rfl
 | 2, _ =>
  have : C = 0 ∨ C = 1 ∨ C = 2 ∨ C = 3 := by simp at h1; omega
  rcases this with rfl | rfl | rfl | rfl <;> rfl
 | 3, _ =>
  have : C = 0 ∨ C = 1 ∨ C = 2 ∨ C = 3 ∨ C = 4 ∨ C = 5 ∨ C = 6 ∨ C = 7 := by simp at h1; omega
  rcases this with rfl | rfl | rfl | rfl | rfl | rfl | rfl | rfl <;> rfl
def cstR (s : ByteArray) : Nat → Nat → Nat → Int → Int × Nat
 | 0, _, k, C => (C, k)
 | j + 1, fr, k, C => if takeC s k (castL fr) = true then cstR s j ((ixC (chr s k)).toNat + 1) (k + 1) (C + 2 ^ (ixC (chr s k)).toNat) else (C, k)
def castleR (s : ByteArray) (k : Nat) : Except Nat (Int × Nat) :=
 if takeC s k linS = true then .ok (0, k + 1) else if takeC s k (castL 0) = true then .ok (cstR s 5 0 k 0) else .error k
theorem ov_same {P : Nat → Int} {o : Nat} {x : Int} (h : P o = x) : ov P o x = P := by
 funext i
 unfold ov
 cases hb : Nat.beq i o with
 | false => rfl
 | true => rw [Nat.eq_of_beq_eq_true hb, h]; rfl
theorem castle_does (s : ByteArray) (k : Nat) (P : Nat → Int) (hs : s.size ≤ 1000) (hk : k ≤ s.size) (hP : P 129 = 0) : Does 50 [] s k P ((castleR s k).map fun r => (ov P 129 r.1, r.2)) := by
 have start : ∀ {K : KR}, WP AM a50.nt a50.body (entryF [.ptr 0 0 135]) 1 (known 0 [.sc .var 135 (rdG s k P)]) (fun f n L => ∃ vs, RS a50.nt f L a50.res vs ∧ K (retV vs) n L) (fun _ _ _ _ => False) (fun f n L => ∃ vs, RS a50.nt f L a50.res vs ∧ K (retV vs) n L) (fun v _ n L => K (.pan v) n L) → WR AM 50 [.ptr 0 0 135] [.sc .var 135 (rdG s k P)] K := fun h =>
  WR_fn (a := a50) rfl rfl (entryF _) (entry_E (Nat.le_of_ble_eq_true rfl)) (m := 1) rfl h
 unfold castleR
 cases h1 : takeC s k linS with
 | true =>
  rw [if_pos rfl]
  refine RL_of1 rfl (start ?_)
  refine WP_seq (WP_seq (WP_ops ?_))
  refine WO_mv rfl (WO_nilckP rfl (WO_fa (o' := 0) rfl rfl rfl ?_))
  refine WO_mkslG rfl (.one rfl .nil) ?_
  refine WO_takeY rfl rfl (by decide) (some_one rfl) hs h1 rfl (.head _) (.there .here) ?_
  refine WO_bin (r := .bool true) rfl rfl (by show some (S.bool (_ != _)) = _; rw [bne_iff_ne.2 (by have := chr_ne h1 lin0; omega)]) (WO_nil ?_)
  refine WP_cond rfl (fun _ => ?_) (fun h => by cases h)
  refine WP_ret ⟨_, RS_nil, rfl, ?_⟩
  show (0, Blk.sc .var 135 (rdG s (k + 1) (ov P 129 0))) ∈ _
  rw [ov_same hP]
  exact .tail _ (.head _)
 | false =>
  rw [if_neg (by decide)]
  cases h2 : takeC s k (castL 0) with
  | false =>
   rw [if_neg (by decide)]
   refine ⟨P, RL_of1 rfl (start ?_)⟩
   refine WP_seq (WP_seq (WP_ops ?_))
   refine WO_mv rfl (WO_nilckP rfl (WO_fa (o' := 0) rfl rfl rfl ?_))
   refine WO_mkslG rfl (.one rfl .nil) ?_
   refine WO_takeN rfl rfl (by decide) (some_one rfl) hs hk h1 (.head _) (.tail _ (.head _)) ?_
   refine WO_bin (r := .bool false) rfl rfl rfl (WO_nil ?_)
   refine WP_cond rfl (fun h => by cases h) (fun _ => WP_skip ?_)
   refine WP_seq (WP_ops (WO_mv rfl (WO_nil ?_)))
   refine WP_seq (WP_ops (WO_mv rfl (WO_nil ?_)))
   refine WP_block (WP_unroll ?_)
   refine WP_seq (WP_block (WP_seq (WP_par ?_)))
   refine WO_mv rfl (WO_nilckP rfl (WO_fa (o' := 0) rfl rfl rfl ?_))
   refine WO_mv (v := .s (.int _ _)) rfl ?_
   refine WO_slS (a := 0) (b := 4) rfl rfl rfl (by show _ ∧ _ ∧ _ ≤ ((4 : Nat) : Int); omega) ?_
   refine WO_mkslG rfl (.one rfl .nil) ?_
   refine WO_takeN (J := castL 0) rfl rfl (by decide) (some_one rfl) hs hk h2 (.head _) (.tail _ (.tail _ (.head _))) ?_
   refine WO_mv rfl (WO_nil ?_)
   refine WP_seq (WP_seq (WP_ops ?_))
   refine WO_mv rfl ?_
   refine WO_bin (r := .bool true) rfl rfl rfl ?_
   refine WO_mv rfl (WO_gt rfl (WO_mv rfl ?_))
   refine WO_pick rfl rfl (WO_nil ?_)
   refine WP_cond rfl (fun _ => ?_) (fun h => by cases h)
   refine WP_ops ?_
   refine WO_mv rfl (WO_nilckP rfl (WO_fa (o' := 0) rfl rfl rfl (WO_fa (o' := 1) rfl rfl rfl ?_)))
   refine WO_ldS rfl rfl (.tail _ (.tail _ (.head _))) rfl ?_
   refine WO_buildI rfl (.one rfl .nil) ?_
   refine WO_p (v := stk k) rfl ?_
   exact WO_pnc rfl ⟨rfl, .tail _ (.tail _ (.head _))⟩
  | true =>
   rw [if_pos rfl]
   refine RL_of1 rfl (start ?_)
   refine WP_seq (WP_seq (WP_ops ?_))
   refine WO_mv rfl (WO_nilckP rfl (WO_fa (o' := 0) rfl rfl rfl ?_))
   refine WO_mkslG rfl (.one rfl .nil) ?_
   refine WO_takeN rfl rfl (by decide) (some_one rfl) hs hk h1 (.head _) (.tail _ (.head _)) ?_
   refine WO_bin (r := .bool false) rfl rfl rfl (WO_nil ?_)
   refine WP_cond rfl (fun h => by cases h) (fun _ => WP_skip ?_)
   refine WP_seq (WP_ops (WO_mv rfl (WO_nil ?_)))
   refine WP_seq (WP_ops (WO_mv rfl (WO_nil ?_)))
   refine WP_block ?_
   refine WP_sub (L' := [_]) (.cons _ (.refl _)) ?_
   refine WP_loop (fun m f nb L => ∃ (j fr k' : Nat) (C : Int) (first : Bool) (P' : Nat → Int), 0 < nb ∧ m = j ∧ 5 ≤ j + fr ∧ fr ≤ 4 ∧ k' ≤ s.size ∧ 0 ≤ C ∧ C < 2 ^ fr ∧ (first = true → takeC s k' (castL fr) = true) ∧ cstR s j fr k' C = cstR s 5 0 k 0 ∧ P' = ov P 129 C ∧ f 0 = .ptr 0 0 135 ∧ f 2 = .s (.int .i64 (fr : Int)) ∧ f 3 = .s (.bool first) ∧ L = [(0, .sc .var 135 (rdG s k' P'))]) (fun m f nb L hI => ?_) 5 ⟨5, 0, k, 0, true, P, by omega, rfl, by omega, by omega, hk, by omega, by decide, fun _ => h2, rfl, (ov_same hP).symm, rfl, rfl, rfl, rfl⟩
   obtain ⟨j, fr, k', C, first, P', hnb, hm, hjf, hfr, hk', hC0, hC1, hfst, he, hP', k0, k2, k3, rfl⟩ := hI
   refine WP_know (d := 0) k0 ?_
   refine WP_know (d := 2) k2 ?_
   refine WP_know (d := 3) k3 ?_
   obtain ⟨j, rfl⟩ : ∃ i, j = i + 1 := ⟨j - 1, by omega⟩
   have hJ : castS.extract ((fr : Int)).toNat (4 : Int).toNat = castL fr := by rw [show ((fr : Int)).toNat = fr by omega]; rfl
   refine WP_seq (WP_block (WP_seq (WP_par ?_)))
   refine WO_mv rfl (WO_nilckP rfl (WO_fa (o' := 0) rfl rfl rfl ?_))
   refine WO_mv (v := .s (.int _ _)) rfl ?_
   refine WO_slS (a := (fr : Int)) (b := 4) rfl rfl rfl (by show _ ∧ _ ∧ _ ≤ ((4 : Nat) : Int); omega) ?_
   rw [hJ]
   refine WO_mkslG rfl (.one rfl .nil) ?_
   cases ht : takeC s k' (castL fr) with
   | false =>
    have hff : first = false := by
     cases first with
     | false => rfl
     | true => rw [hfst rfl] at ht; cases ht
    subst hff
    refine WO_takeN (J := castL fr) rfl rfl (by omega) (some_one rfl) hs hk' ht (.head _) (.tail _ (.head _)) ?_
    refine WO_mv rfl (WO_nil ?_)
    refine WP_seq (WP_seq (WP_ops ?_))
    refine WO_mv rfl ?_
    refine WO_bin (r := .bool true) rfl rfl rfl ?_
    refine WO_mv rfl (WO_gt rfl (WO_mv rfl ?_))
    refine WO_pick rfl rfl (WO_nil ?_)
    refine WP_cond rfl (fun h => by cases h) (fun _ => WP_skip ?_)
    refine WP_seq (WP_seq (WP_ops ?_))
    refine WO_mv rfl (WO_bin (r := .bool true) rfl rfl rfl (WO_nil ?_))
    refine WP_cond rfl (fun _ => ?_) (fun h => by cases h)
    have e : cstR s (j + 1) fr k' C = (C, k') := by rw [cstR, if_neg (by rw [ht]; decide)]
    refine WP_ret ⟨_, RS_nil, rfl, ?_⟩
    show (0, Blk.sc .var 135 (rdG s (cstR s 5 0 k 0).2 (ov P 129 (cstR s 5 0 k 0).1))) ∈ _
    rw [← he, e, hP']
    exact .tail _ (.head _)
   | true =>
    have hix := ix_of hfr (take_has ht)
    have hk2 := take_lt ht
    obtain ⟨i, hi⟩ : ∃ i : Nat, ixC (chr s k') = i := ⟨(ixC (chr s k')).toNat, by omega⟩
    have hi4 : i < 4 := by omega
    have hCi : C < 2 ^ i := Int.lt_of_lt_of_le hC1 (by
     have : (2 : Nat) ^ fr ≤ 2 ^ i := Nat.pow_le_pow_right (by omega) (by omega)
     exact_mod_cast this)
    have hz := castL0 ⟨fr, by omega⟩
    refine WO_takeY (J := castL fr) rfl rfl (by omega) (some_one rfl) hs ht rfl (.head _) (.there .here) ?_
    refine WO_mv rfl (WO_nil ?_)
    refine WP_seq (WP_seq (WP_ops ?_))
    refine WO_mv rfl ?_
    refine WO_bin (r := .bool false) rfl rfl (by show some (S.bool (_ == _)) = _; rw [beq_eq_false_iff_ne.2 (by have := chr_ne ht hz; omega)]) ?_
    refine WO_mv rfl (WO_gf rfl rfl ?_)
    refine WO_pick rfl rfl (WO_nil ?_)
    refine WP_cond rfl (fun h => by cases h) (fun _ => WP_skip ?_)
    refine WP_seq (WP_seq (WP_ops ?_))
    refine WO_mv rfl (WO_bin (r := .bool false) rfl rfl (by show some (S.bool (_ == _)) = _; rw [beq_eq_false_iff_ne.2 (by have := chr_ne ht hz; omega)]) (WO_nil ?_))
    refine WP_cond rfl (fun h => by cases h) (fun _ => WP_skip ?_)
    refine WP_seq (WP_ops ?_)
    refine WO_mv rfl ?_
    refine WO_call0 (v := .s (.int .i64 (i : Int))) rfl (by rw [← hi]; exact idx_run castS (chr s k')) rfl rfl rfl ?_
    refine WO_mv (v := .s (.int _ _)) rfl (WO_nil ?_)
    refine WP_seq (WP_par ?_)
    refine WO_mv rfl (WO_nilckP rfl (WO_fa (o' := 2) rfl rfl rfl (WO_fa (o' := 131) rfl rfl rfl ?_)))
    refine WO_ldS (x := .int .i64 C) rfl rfl (.tail _ (.head _)) (by rw [hP']; rfl) ?_
    refine WO_mv (v := .s (.int _ _)) rfl ?_
    refine WO_bin rfl rfl (shl_ix hi4) ?_
    refine WO_bin rfl rfl (or_ix hi4 hC0 hCi) ?_
    refine WO_nilckP rfl (WO_fa (o' := 2) rfl rfl rfl (WO_fa (o' := 131) rfl rfl rfl ?_))
    refine WO_st rfl rfl (by simp [V.scells]; rfl) rfl rfl (rd_cell s (k' + 1) P' 129 _) (.there .here) (WO_nil ?_)
    refine WP_ops ?_
    refine WO_mv (v := .s (.int _ _)) rfl (WO_add rfl rfl (by omega) (WO_mv (v := .s (.int _ _)) rfl (WO_nil ?_)))
    refine WP_ops (WO_mv rfl (WO_nil ?_))
    refine ⟨j, _, by omega, .cons _ (.refl _), j, i + 1, k' + 1, C + 2 ^ i, false, ov P' 129 (C + 2 ^ i), by omega, rfl, by omega, by omega, by omega, ?_, ?_, (fun h => by cases h), ?_, by rw [hP', ov_ov], rfl, by rw [Int.natCast_add]; rfl, rfl, rfl⟩
    ·have : (0 : Int) < 2 ^ i := Int.pow_pos (by decide)
     omega
    ·rw [Int.pow_succ]; omega
    ·rw [← he]
     show _ = cstR s (j + 1) fr k' C
     rw [cstR, if_pos ht, hi]; rfl
end Go.Proofs.YtlaogmemhephnaaGreatDoor
set_option linter.unusedVariables false
set_option linter.unusedSimpArgs false
namespace Go.Proofs.YtlaogmemhephnaaGreatDoor
open Go Go.Am
def pX (k s : Int) : Nat → Int := ovA (fun _ => 0) 0 2 (ov (ov (fun _ => 0) 0 k) 1 s)
def entK (i : Nat) : S := .int .u8 ((letB ((i / 2 + 1 : Nat) : Int) ((i % 2 : Nat) : Int)).toNat : Int)
def entV (i : Nat) : V := .agg 2 (ia (pX ((i / 2 + 1 : Nat) : Int) ((i % 2 : Nat) : Int)))
def pcs (n : Nat) : List (S × V) := (List.range n).map fun i => (entK i, entV i)
theorem ent_ne : ∀ i j : Fin 12, i.val ≠ j.val → (entK i.val).eqB (entK j.val) = false := by decide +kernel
theorem mput_new {k : S} {x : V} : ∀ {l : List (S × V)}, (∀ p ∈ l, p.1.eqB k = false) → mput k x l = l ++ [(k, x)]
 | [], _ => rfl
 | (j, v) :: l, h => by
  have h1 := h (j, v) (.head _)
  simp only [mput, h1, cond_false, List.cons_append]
  rw [mput_new fun p hp => h p (.tail _ hp)]
theorem pcs_succ {i : Nat} (h : i < 12) : mput (entK i) (entV i) (pcs i) = pcs (i + 1) := by
 rw [mput_new fun p hp => ?_]
 ·simp [pcs, List.range_succ]
 ·obtain ⟨j, hj, rfl⟩ := List.mem_map.1 hp
  have := List.mem_range.1 hj
  exact ent_ne ⟨j, by omega⟩ ⟨i, h⟩ (by simp; omega)
theorem pcs_fits (i : Nat) (c : Int) : ((pcs i).all (fun p => p.1.fits (.int .u8 c)) && (S.int .u8 c).fits (.int .u8 c)) = true := by
 rw [Bool.and_eq_true]
 refine ⟨List.all_eq_true.2 fun p hp => ?_, rfl⟩
 obtain ⟨j, hj, rfl⟩ := List.mem_map.1 hp
 rfl
theorem pieces_RN : RN AM 45 [] [] (fun b => .map b) (.mp .var (pcs 12)) [] := by
 suffices h : WR AM 45 [] [] (fun v _ L => ∃ b, v = .map b ∧ (b, Blk.mp .var (pcs 12)) ∈ L) by
  obtain ⟨v, σ', n', L', h1, h2, b, rfl, h3⟩ := h
  exact ⟨b, σ', h1, Nat.zero_le _, (h2.2.mem h3).2, trivial⟩
 refine WR_fn (a := a45) rfl rfl (entryF _) (entry_E (Nat.le_of_ble_eq_true rfl)) (m := 0) rfl ?_
 refine WP_seq (WP_ops (WO_mv rfl (WO_nil ?_)))
 refine WP_seq (WP_ops (WO_mkmap (WO_mv rfl (WO_nil ?_))))
 refine WP_cut (fun f n L => f 1 = .map 0 ∧ L = [(0, .mp .var (pcs 12))]) ?_ ?_
 ·refine WP_seq (WP_ops (WO_mv rfl (WO_nil ?_)))
  refine WP_block ?_
  refine WP_loop (fun m f nb L => ∃ k : Nat, k ≤ 6 ∧ m = 7 - k ∧ f 1 = .map 0 ∧ f 2 = .s (.int .i64 ((k + 1 : Nat) : Int)) ∧ L = [(0, .mp .var (pcs (2 * k)))]) (fun m f nb L hI => ?_) 7 ⟨0, by omega, rfl, rfl, rfl, rfl⟩
  obtain ⟨k, hk, hm, k1, k2, rfl⟩ := hI
  refine WP_know (d := 1) k1 ?_
  refine WP_know (d := 2) k2 ?_
  refine WP_seq (WP_seq (WP_ops ?_))
  refine WO_mv (v := .s (.int _ _)) rfl (WO_bin (r := .bool _) rfl rfl rfl (WO_nil ?_))
  refine WP_cond rfl (fun h => ?_) (fun h => ?_)
  case refine_2 =>
   simp only [NM] at h
   obtain rfl : k = 6 := by omega
   exact WP_exit (xhere ⟨_, .refl _, rfl, rfl⟩)
  simp only [NM] at h
  have hk6 : k < 6 := by omega
  refine WP_skip ?_
  refine WP_cut (fun f n L => f 1 = .map 0 ∧ f 2 = .s (.int .i64 ((k + 1 : Nat) : Int)) ∧ L = [(0, .mp .var (pcs (2 * (k + 1))))]) ?_ ?_
  ·refine WP_block (WP_seq (WP_ops (WO_mv rfl (WO_nil ?_))))
   refine WP_block ?_
   refine WP_loop (fun m f nb L => ∃ s : Nat, s ≤ 2 ∧ m = 2 - s ∧ f 1 = .map 0 ∧ f 2 = .s (.int .i64 ((k + 1 : Nat) : Int)) ∧ f 3 = .s (.int .i64 (s : Int)) ∧ L = [(0, .mp .var (pcs (2 * k + s)))]) (fun m f nb L hI => ?_) 2 ⟨0, by omega, rfl, rfl, rfl, rfl, rfl⟩
   obtain ⟨s, hs, hm2, k1, k2, k3, rfl⟩ := hI
   refine WP_know (d := 1) k1 ?_
   refine WP_know (d := 2) k2 ?_
   refine WP_know (d := 3) k3 ?_
   refine WP_seq (WP_seq (WP_ops ?_))
   refine WO_mv (v := .s (.int _ _)) rfl (WO_bin (r := .bool _) rfl rfl rfl (WO_nil ?_))
   refine WP_cond rfl (fun h => ?_) (fun h => ?_)
   case refine_2 =>
    simp only [NM] at h
    obtain rfl : s = 2 := by omega
    exact WP_exit (xhere ⟨_, .refl _, rfl, rfl, by rw [show 2 * (k + 1) = 2 * k + 2 by omega]⟩)
   simp only [NM] at h
   have hs2 : s < 2 := by omega
   refine WP_skip ?_
   refine WP_seq (WP_block (WP_seq (WP_ops ?_)))
   refine WO_mv (v := .s (.int _ _)) rfl (WO_mv (v := .s (.int _ _)) rfl ?_)
   refine WO_buildI rfl (.one rfl (.one rfl .nil)) ?_
   refine WO_allocI (WO_stA rfl rfl rfl rfl .here (WO_nil ?_))
   refine WP_par ?_
   refine WO_mv rfl ?_
   refine WO_ldA0 rfl rfl (.head _) ?_
   refine WO_callq0 rfl (RF_of (letter_run (pX ((k + 1 : Nat) : Int) (s : Int)) (by show 1 ≤ ((k + 1 : Nat) : Int) ∧ ((k + 1 : Nat) : Int) ≤ 6; omega))) rfl rfl rfl ?_
   refine WO_ixstr rfl rfl (by show 0 ≤ 0 ∧ 0 < ((1 : Nat) : Int); omega) ?_
   refine WO_ldA0 rfl rfl (.head _) ?_
   have e1 : (2 * k + s) / 2 = k := by omega
   have e2 : (2 * k + s) % 2 = s := by omega
   have hp := pcs_succ (i := 2 * k + s) (by omega)
   have hK : entK (2 * k + s) = .int .u8 ((letB ((k + 1 : Nat) : Int) (s : Int)).toNat : Int) := by unfold entK; rw [e1, e2]
   have hV : entV (2 * k + s) = .agg 2 (ia (pX ((k + 1 : Nat) : Int) (s : Int))) := by unfold entV; rw [e1, e2]
   rw [hK, hV] at hp
   refine WO_mput (md := .var) (j := .int .u8 ((letB ((k + 1 : Nat) : Int) (s : Int)).toNat : Int)) (x := .agg 2 (ia (pX ((k + 1 : Nat) : Int) (s : Int)))) rfl rfl rfl rfl (pcs_fits _ _) hp (.there .here) (WO_nil ?_)
   refine WP_ops ?_
   refine WO_mv (v := .s (.int _ _)) rfl (WO_add rfl rfl (by omega) (WO_mv (v := .s (.int _ _)) rfl (WO_nil ?_)))
   exact ⟨2 - (s + 1), _, by omega, .cons _ (.refl _), s + 1, by omega, rfl, rfl, rfl, by rw [Int.natCast_add]; rfl, by rw [Nat.add_assoc]⟩
  rintro f n L ⟨k1, k2, rfl⟩
  refine WP_know (d := 1) k1 ?_
  refine WP_know (d := 2) k2 ?_
  refine WP_ops ?_
  refine WO_mv (v := .s (.int _ _)) rfl (WO_add rfl rfl (by omega) (WO_mv (v := .s (.int _ _)) rfl (WO_nil ?_)))
  exact ⟨7 - (k + 1), _, by omega, .refl _, k + 1, by omega, rfl, rfl, by rw [show ((k + 1 + 1 : Nat) : Int) = ((k + 1 : Nat) : Int) + 1 by omega]; rfl, rfl⟩
 rintro f n L ⟨k1, rfl⟩
 refine WP_know (d := 1) k1 ?_
 refine WP_seq (WP_ops (WO_mv rfl (WO_mv rfl (WO_nil ?_))))
 exact WP_ret ⟨_, RS_tmp rfl RS_nil, 0, rfl, .head _⟩
end Go.Proofs.YtlaogmemhephnaaGreatDoor
set_option linter.unusedVariables false
set_option linter.unusedSimpArgs false
namespace Go.Am
open Go
section
variable {A : AP} {N : Nat} {f : FE} {n : Nat} {L : HA} {K : KN} {Zp : V → KN} {l : List I} {d : Nat}
theorem WO_mgetOk {z : Z} {m k : O} {b : Nat} {j : S} {md : Md} {ps : List (S × V)} {r : Option V} {x : V} (hm : m.fv N f = .map b) (hk : k.fv N f = .s j) (hat : (b, Blk.mp md ps) ∈ L) (hall : ps.all (fun p => p.1.fits j) = true) (hr : mfind j ps = r) (hx : (match r with | some v => V.tup [v, .s (.bool true)] | none => .tup [z.v, .s (.bool false)]) = x)
  (kk : WO A N l (upd f d x) n L K Zp) : WO A N (⟨some d, none, .h (.mget z true m k)⟩ :: l) f n L K Zp :=
 WO_h (v := x) (fun σ h => ⟨σ, by
  simp only [heapV, ev_E, hm, hk, (h.2.mem hat).2, hall, cond_true, hr]
  subst hx
  cases r <;> rfl, h⟩) kk
end
end Go.Am
namespace Go.Proofs.YtlaogmemhephnaaGreatDoor
open Go Go.Am
def pcI (c : UInt8) : Option Nat := (List.range 12).find? fun i => (entK i).eqB (.int .u8 (c.toNat : Int))
theorem mfind_map (j : S) : ∀ (l : List Nat), mfind j (l.map fun i => (entK i, entV i)) = (l.find? fun i => (entK i).eqB j).map entV
 | [] => rfl
 | i :: l => by
  simp only [List.map_cons, mfind, List.find?_cons]
  cases (entK i).eqB j
  ·simp only [cond_false]; exact mfind_map j l
  ·rfl
theorem mfind_pcs (c : UInt8) : mfind (.int .u8 (c.toNat : Int)) (pcs 12) = (pcI c).map entV := mfind_map _ _
abbrev ltrS : ByteArray := ⟨#[80, 78, 66, 82, 81, 75, 112, 110, 98, 114, 113, 107]⟩
def rowL (free : Bool) (f : Nat) : ByteArray := (if free = true then digS.extract 1 (9 - f) else ⟨#[]⟩) ++ ltrS
theorem row_bd : ∀ (f : Fin 8) (free : Bool) (c : Fin 256), hasB (rowL free f.val) (UInt8.ofNat c.val) = true → (pcI (UInt8.ofNat c.val)).isSome = true ∨ (pcI (UInt8.ofNat c.val) = none ∧ 49 ≤ c.val ∧ c.val + f.val ≤ 56) := by decide +kernel
theorem row0 : ∀ (f : Fin 8) (free : Bool), hasB (rowL free f.val) 0 = false := by decide +kernel
theorem row_of {f : Nat} (hf : f < 8) {free : Bool} {c : UInt8} (h : hasB (rowL free f) c = true) : (∃ i, pcI c = some i) ∨ (pcI c = none ∧ 49 ≤ c.toNat ∧ c.toNat + f ≤ 56) := by
 have := row_bd ⟨f, hf⟩ free ⟨c.toNat, c.toNat_lt⟩
 simp only [UInt8.ofNat_toNat] at this
 rcases this h with h | h
 ·exact .inl (Option.isSome_iff_exists.1 h)
 ·exact .inr h
theorem pcI_lt {c : UInt8} {i : Nat} (h : pcI c = some i) : i < 12 := by
 have := List.mem_of_find?_eq_some h
 exact List.mem_range.1 this
def rowR (s : ByteArray) (r : Nat) : Nat → Nat → Bool → Nat → (Nat → Int) → Except Nat ((Nat → Int) × Nat)
 | 0, _, _, k, P => .ok (P, k)
 | j + 1, f, free, k, P => if f < 8 then (if takeC s k (rowL free f) = true then (match pcI (chr s k) with
  | some i => rowR s r j (f + 1) true (k + 1) (ovA P (2 * (8 * r + f)) 2 (pX ((i / 2 + 1 : Nat) : Int) ((i % 2 : Nat) : Int)))
  | none => rowR s r j (f + ((chr s k).toNat - 48)) false (k + 1) P) else .error k) else .ok (P, k)
def DoesM (fid : FuncId) (x : V) (s : ByteArray) (k : Nat) (P : Nat → Int) (r : Except Nat ((Nat → Int) × Nat)) : Prop :=
 match r with
 | .ok (P', k') => RL AM fid [.ptr 0 0 135, x, .map 1] [.sc .var 135 (rdG s k P), .mp .var (pcs 12)] (.tup []) [.sc .var 135 (rdG s k' P'), .mp .var (pcs 12)]
 | .error e => ∃ P', RL AM fid [.ptr 0 0 135, x, .map 1] [.sc .var 135 (rdG s k P), .mp .var (pcs 12)] (.pan (stk e)) [.sc .var 135 (rdG s e P'), .mp .var (pcs 12)]
theorem ovA_two {P X Y : Nat → Int} {o : Nat} (h0 : X 0 = Y 0) (h1 : X 1 = Y 1) : ovA P o 2 X = ovA P o 2 Y := by
 funext i
 by_cases h : o ≤ i ∧ i < o + 2
 ·rw [ovA_at h, ovA_at h]
  have : i - o = 0 ∨ i - o = 1 := by omega
  rcases this with e | e <;> rw [e] <;> assumption
 ·rw [ovA_out (by omega), ovA_out (by omega)]
theorem pcs_loose : (Blk.mp .var (pcs 12)).loose = true := rfl
theorem row_walk (s : ByteArray) (r : Nat) (hr : r < 8) (k : Nat) (P : Nat → Int) (hs : s.size ≤ 1000) (hk : k ≤ s.size) :
  WR AM 46 [.ptr 0 0 135, .s (.int .i64 (r : Int)), .map 1] [.sc .var 135 (rdG s k P), .mp .var (pcs 12)] (fun v _ L => (1, Blk.mp .var (pcs 12)) ∈ L ∧ match rowR s r 9 0 true k P with
   | .ok (P', k') => v = .tup [] ∧ (0, Blk.sc .var 135 (rdG s k' P')) ∈ L
   | .error e => v = .pan (stk e) ∧ ∃ P', (0, Blk.sc .var 135 (rdG s e P')) ∈ L) := by
 refine WR_fn (a := a46) rfl rfl (entryF _) (entry_E (Nat.le_of_ble_eq_true rfl)) (m := 2) rfl ?_
 refine WP_seq (WP_ops (WO_mv rfl (WO_nil ?_)))
 refine WP_seq (WP_ops (WO_mv rfl (WO_nil ?_)))
 refine WP_block ?_
 refine WP_loop (fun m f nb L => ∃ (j fl k' : Nat) (free : Bool) (P' : Nat → Int), 1 < nb ∧ m = j ∧ 9 ≤ j + fl ∧ fl ≤ 8 ∧ k' ≤ s.size ∧ rowR s r j fl free k' P' = rowR s r 9 0 true k P ∧ f 0 = .ptr 0 0 135 ∧ f 1 = .s (.int .i64 (r : Int)) ∧ f 2 = .map 1 ∧ f 6 = .s (.bool free) ∧ f 7 = .s (.int .i64 (fl : Int)) ∧ L = [(0, .sc .var 135 (rdG s k' P')), (1, .mp .var (pcs 12))]) (fun m f nb L hI => ?_) 9 ⟨9, 0, k, true, P, by omega, rfl, by omega, by omega, hk, rfl, rfl, rfl, rfl, rfl, rfl, rfl⟩
 obtain ⟨j, fl, k', free, P', hnb, hm, hjf, hfl, hk', he, k0, k1, k2, k6, k7, rfl⟩ := hI
 obtain ⟨j, rfl⟩ : ∃ i, j = i + 1 := ⟨j - 1, by omega⟩
 refine WP_know (d := 0) k0 ?_
 refine WP_know (d := 1) k1 ?_
 refine WP_know (d := 2) k2 ?_
 refine WP_know (d := 6) k6 ?_
 refine WP_know (d := 7) k7 ?_
 rw [rowR] at he
 refine WP_seq (WP_seq (WP_ops ?_))
 refine WO_mv (v := .s (.int _ _)) rfl (WO_bin (r := .bool _) rfl rfl rfl (WO_nil ?_))
 refine WP_cond rfl (fun h => ?_) (fun h => ?_)
 case refine_2 =>
  simp only [NM] at h
  rw [if_neg (by omega)] at he
  refine WP_exit (xhere ?_)
  refine ⟨_, RS_nil, ?_⟩
  rw [← he]
  exact ⟨.tail _ (.head _), rfl, .head _⟩
 simp only [NM] at h
 have hf8 : fl < 8 := by omega
 rw [if_pos hf8] at he
 refine WP_skip ?_
 refine WP_block ?_
 refine WP_seq (WP_ops (WO_mv rfl (WO_nil ?_)))
 refine WP_cut (fun f n L => 1 < n ∧ f 0 = .ptr 0 0 135 ∧ f 1 = .s (.int .i64 (r : Int)) ∧ f 2 = .map 1 ∧ f 6 = .s (.bool free) ∧ f 7 = .s (.int .i64 (fl : Int)) ∧ f 8 = .s (.str (if free = true then digS.extract 1 (9 - fl) else ⟨#[]⟩)) ∧ L = [(0, .sc .var 135 (rdG s k' P')), (1, .mp .var (pcs 12))]) ?_ ?_
 ·refine WP_seq (WP_ops (WO_mv rfl (WO_nil ?_)))
  refine WP_cond rfl (fun hfr => ?_) (fun hfr => ?_)
  ·refine WP_ops ?_
   refine WO_mv (v := .s (.int _ _)) rfl (WO_sub rfl rfl (by omega) ?_)
   refine WO_slS (a := 1) (b := 9 - (fl : Int)) rfl rfl rfl (by show _ ∧ _ ∧ _ ≤ ((10 : Nat) : Int); omega) ?_
   rw [show (1 : Int).toNat = 1 from rfl, show (9 - (fl : Int)).toNat = 9 - fl by omega]
   refine WO_mv rfl (WO_nil ?_)
   exact ⟨_, .refl _, hnb, rfl, rfl, rfl, rfl, rfl, by rw [if_pos hfr]; rfl, rfl⟩
  ·refine WP_skip ⟨_, .refl _, hnb, rfl, rfl, rfl, rfl, rfl, by rw [if_neg (by rw [hfr]; decide)]; rfl, rfl⟩
 clear k0 k1 k2 k6 k7
 rintro f n L ⟨hn, k0, k1, k2, k6, k7, k8, rfl⟩
 refine WP_know (d := 0) k0 ?_
 refine WP_know (d := 1) k1 ?_
 refine WP_know (d := 2) k2 ?_
 refine WP_know (d := 6) k6 ?_
 refine WP_know (d := 7) k7 ?_
 refine WP_know (d := 8) k8 ?_
 have hrow : ∀ G : Nat → S, G 0 = .str (if free = true then digS.extract 1 (9 - fl) else ⟨#[]⟩) → G 1 = .str ltrS → Some1 2 (.ex 2) 2 G (rowL free fl) := fun G h0 h1 => by
  refine some_two h0 h1 (by decide) ?_ (Nat.le_refl _)
  have : ∀ b : Bool, (if b = true then digS.extract 1 (9 - fl) else (⟨#[]⟩ : ByteArray)).size ≤ 10 := fun b => by
   cases b
   ·rw [if_neg (by decide)]; decide
   ·show (digS.extract 1 (9 - fl)).size ≤ 10
    rw [ByteArray.size_extract]
    show min (9 - fl) 10 - 1 ≤ 10
    omega
  have := this free
  show _ + 12 ≤ 1000
  omega
 have hz := row0 ⟨fl, hf8⟩ free
 refine WP_seq (WP_ops ?_)
 refine WO_mv rfl (WO_mv rfl ?_)
 refine WO_mkslG rfl (.one rfl (.one rfl .nil)) ?_
 cases ht : takeC s k' (rowL free fl) with
 | false =>
  rw [if_neg (by rw [ht]; decide)] at he
  refine WO_mustN (J := rowL free fl) rfl rfl (by omega) (hrow _ rfl rfl) hs hk' ht (.head _) (.tail _ (.head _)) ?_
  show _ ∧ _
  rw [← he]
  exact ⟨.tail _ (.tail _ (.head _)), rfl, P', .tail _ (.head _)⟩
 | true =>
  rw [if_pos ht] at he
  have hk2 := take_lt ht
  refine WO_mustY (J := rowL free fl) rfl rfl (by omega) (hrow _ rfl rfl) hs hz ht rfl (.head _) (.there .here) ?_
  refine WO_mv rfl (WO_nil ?_)
  refine WP_seq (WP_ops ?_)
  refine WO_mv rfl (WO_mv rfl ?_)
  have hall : (pcs 12).all (fun p => p.1.fits (.int .u8 ((chr s k').toNat : Int))) = true := (Bool.and_eq_true_iff.1 (pcs_fits 12 _)).1
  rcases row_of hf8 (take_has ht) with ⟨i, hi⟩ | ⟨hi, hd1, hd2⟩
  ·have hm := mfind_pcs (chr s k')
   rw [hi] at hm he
   refine WO_mgetOk rfl rfl (.tail _ (.tail _ (.head _))) hall hm rfl ?_
   refine WO_mv rfl (WO_ext rfl rfl (WO_ext rfl rfl ?_))
   refine WO_allocI (WO_stA rfl rfl rfl rfl .here (WO_mv rfl (WO_nil ?_)))
   refine WP_seq (WP_seq (WP_ops (WO_mv rfl (WO_nil ?_))))
   refine WP_cond rfl (fun _ => ?_) (fun h => by cases h)
   refine WP_seq (WP_par ?_)
   refine WO_mv rfl (WO_mv (v := .s (.int _ _)) rfl (WO_mv (v := .s (.int _ _)) rfl ?_))
   refine WO_callq0 rfl (At_in hr hf8) rfl rfl rfl ?_
   refine WO_ldA0 rfl rfl (.head _) ?_
   refine WO_nilckP rfl (WO_fa (o' := 2) rfl rfl rfl (WO_fa (o' := 2) rfl rfl rfl ?_))
   refine WO_ixa rfl rfl rfl (by omega) ?_
   rw [show 2 + ((8 * r + fl : Nat) : Int).toNat * 2 = 2 * (8 * r + fl) + 2 by omega]
   refine WO_st (h := ia (ovA (fun _ => 0) 0 2 (pX ((i / 2 + 1 : Nat) : Int) ((i % 2 : Nat) : Int)))) rfl rfl (by simp [V.scells]; rfl) rfl rfl (rd_two s (k' + 1) P' (2 * (8 * r + fl)) _) (.there (.there .here)) (WO_nil ?_)
   refine WP_ops ?_
   refine WO_mv (v := .s (.int _ _)) rfl (WO_add rfl rfl (by omega) (WO_mv (v := .s (.int _ _)) rfl (WO_nil ?_)))
   refine WP_ops (WO_mv rfl (WO_mv rfl (WO_nil ?_)))
   refine ⟨j, _, by omega, .cons _ (.cons _ (.refl _)), j, fl + 1, k' + 1, true, _, by omega, rfl, by omega, by omega, by omega, he, rfl, rfl, rfl, rfl, by rw [Int.natCast_add]; rfl, ?_⟩
   have e : ovA P' (2 * (8 * r + fl)) 2 (ovA (fun _ => 0) 0 2 (pX ((i / 2 + 1 : Nat) : Int) ((i % 2 : Nat) : Int))) = ovA P' (2 * (8 * r + fl)) 2 (pX ((i / 2 + 1 : Nat) : Int) ((i % 2 : Nat) : Int)) := ovA_two rfl rfl
   rw [e]
  ·have hm := mfind_pcs (chr s k')
   rw [hi] at hm he
   refine WO_mgetOk rfl rfl (.tail _ (.tail _ (.head _))) hall hm rfl ?_
   refine WO_mv rfl (WO_ext rfl rfl (WO_ext rfl rfl ?_))
   refine WO_allocI ?_
   refine WO_st rfl rfl (by simp [V.scells, Z.v]; rfl) rfl rfl rfl .here (WO_mv rfl (WO_nil ?_))
   refine WP_seq (WP_seq (WP_ops (WO_mv rfl (WO_nil ?_))))
   refine WP_cond rfl (fun h => by cases h) (fun _ => ?_)
   refine WP_ops ?_
   refine WO_mv (v := .s (.int _ _)) rfl (WO_mv rfl ?_)
   refine WO_bin rfl rfl (u8_sub (d := 48) (by omega) (chr s k').toNat_lt) ?_
   refine WO_conv (a := (((chr s k').toNat - 48 : Nat) : Int)) rfl (IntWalk.i64_in _ (by omega)) ?_
   refine WO_add rfl rfl (by omega) (WO_mv (v := .s (.int _ _)) rfl (WO_nil ?_))
   refine WP_ops (WO_mv rfl (WO_mv rfl (WO_nil ?_)))
   exact ⟨j, _, by omega, .cons _ (.cons _ (.refl _)), j, fl + ((chr s k').toNat - 48), k' + 1, false, P', by omega, rfl, by omega, by omega, by omega, he, rfl, rfl, rfl, rfl, by rw [Int.natCast_add]; rfl, rfl⟩
end Go.Proofs.YtlaogmemhephnaaGreatDoor
set_option linter.unusedVariables false
set_option linter.unusedSimpArgs false
namespace Go.Proofs.YtlaogmemhephnaaGreatDoor
open Go Go.Am
theorem ld_box {run : Runner} {d : Nat} {e : Env} {σ : Heap} (h0 : e.getD 0 .undef = .ptr 0 0 1) (hb : σ[0]? = some (.vs .var [.ptr 1 0 135])) : Reads run ⟨some d, none, .h (.load false 1 (.t 0))⟩ d (.ptr 1 0 135) e σ := by
 unfold Reads
 have he : (O.t 0).ev e = .ptr 0 0 1 := h0
 simp only [stepI, insV, heapV, he, if_pos (Nat.le_refl 1), rdV, hb, cond_false, putT]
 rfl
theorem get_set {e : Env} {d : Nat} {x v : V} (hd : d ≠ 0) (h : e.getD 0 .undef = v) : (e.set d x).getD 0 .undef = v := by
 rw [List.getD_eq_getElem?_getD] at h ⊢
 rw [List.getElem?_set_ne hd]
 exact h
theorem get_set2 {e : Env} {d i : Nat} {x v : V} (hd : d ≠ i) (h : e.getD i .undef = v) : (e.set d x).getD i .undef = v := by
 rw [List.getD_eq_getElem?_getD] at h ⊢
 rw [List.getElem?_set_ne hd]
 exact h
theorem get_same {e : Env} {d : Nat} {x : V} (hd : d < e.length) : (e.set d x).getD d .undef = x := by
 rw [List.getD_eq_getElem?_getD, List.getElem?_set_self hd]; rfl
abbrev boxL (s : ByteArray) (k : Nat) (P : Nat → Int) : HA := [(0, .vs .var [.ptr 1 0 135]), (1, .sc .var 135 (rdG s k P))]
theorem num_step (s : ByteArray) (k : Nat) (P : Nat → Int) (hs : s.size ≤ 1000) (hk : k ≤ s.size) {n : Nat} {σ : Heap} (h : Hp σ n (boxL s k P)) {e : Env} (he : e.getD 2 .undef = .ptr 1 0 135) :
  (∃ v σ2, stepI (Run AM) ⟨some 3, none, .h (.call (.k (.fn 53 [])) [(.t 2)])⟩ e σ = some (e.set 3 v, σ2) ∧ σ2[0]? = some (.vs .var [.ptr 1 0 135])) ∨
  (stepI (Run AM) ⟨some 3, none, .h (.call (.k (.fn 53 [])) [(.t 2)])⟩ e σ = none ∧ ∃ r, panI (Run AM) ⟨some 3, none, .h (.call (.k (.fn 53 [])) [(.t 2)])⟩ e σ = r ∧ r = callPan (Run AM) (.fn 53 []) [.ptr 1 0 135] σ) := by
 have hv : (O.t 2).ev e = .ptr 1 0 135 := he
 have hf : (O.k (.fn 53 [])).ev e = .fn 53 [] := rfl
 have hB : lss (boxL s k P) [1] [.sc .var 135 (rdG s k P)] := ⟨.tail _ (.head _), rfl, trivial⟩
 cases ht : takeC s k digS with
 | true =>
  obtain ⟨σ2, h1, h2⟩ := callL_ex (fv := .fn 53 []) (args := [.ptr 1 0 135]) (av := [.ptr 1 0 135]) (rs := [1]) rfl (number_ok s k P hs ht) rfl (Nat.le_of_ble_eq_true rfl) (fun _ h => h) rfl hB rfl rfl (.cons (.there .here) .nil) h
  refine .inl ⟨.s (.int .i64 ((numR s 5 (k + 1) (digV s k)).2 : Int)), σ2, ?_, (h2.2.mem (.head _)).2⟩
  simp only [stepI, insV, heapV, List.map_cons, List.map_nil, hv, hf, h1, putT]
  rfl
 | false =>
  obtain ⟨h1, σ2, h2, h3⟩ := callX_ex (fv := .fn 53 []) (args := [.ptr 1 0 135]) (av := [.ptr 1 0 135]) (rs := [1]) rfl (number_no s k P hs hk ht) rfl (Nat.le_of_ble_eq_true rfl) (fun _ h => h) rfl hB rfl rfl (.cons (.there .here) .nil) h
  refine .inr ⟨?_, _, rfl, ?_⟩
  ·simp only [stepI, insV, heapV, List.map_cons, List.map_nil, hv, hf, h1]
   rfl
  ·simp only [panI, guardOK, cond_true, List.map_cons, List.map_nil, hv, hf]
theorem num_orders (s : ByteArray) (k : Nat) (P : Nat → Int) (hs : s.size ≤ 1000) (hk : k ≤ s.size) {n : Nat} {σ : Heap} (h : Hp σ n (boxL s k P)) {e : Env} (h0 : e.getD 0 .undef = .ptr 0 0 1) (hl : 3 < e.length) (r : List I) :
  let a : I := ⟨some 1, none, .h (.load false 1 (.t 0))⟩
  let b : I := ⟨some 2, none, .h (.load false 1 (.t 0))⟩
  let c : I := ⟨some 3, none, .h (.call (.k (.fn 53 [])) [(.t 2)])⟩
  sameR (opsX (Run AM) (b :: a :: c :: r) e σ) (opsX (Run AM) (a :: b :: c :: r) e σ) ∧ sameR (opsX (Run AM) (b :: c :: a :: r) e σ) (opsX (Run AM) (a :: b :: c :: r) e σ) := by
 intro a b c
 have hb := (h.2.mem (.head _)).2
 have s1 : sameR (opsX (Run AM) (b :: a :: c :: r) e σ) (opsX (Run AM) (a :: b :: c :: r) e σ) :=
  opsX_swap (ld_box h0 hb) (.inl ⟨2, .ptr 1 0 135, σ, by decide, ld_box (get_set (by decide) h0) hb, ld_box h0 hb, ld_box (get_set (by decide) h0) hb⟩)
 refine ⟨s1, sameR_trans (opsX_cons fun e' σ' hst => ?_) s1⟩
 have hst2 := ld_box (run := Run AM) (d := 2) h0 hb
 rw [show stepI (Run AM) b e σ = some (e.set 2 (.ptr 1 0 135), σ) from hst2] at hst
 injection hst with hst
 injection hst with e1 e2
 subst e1; subst e2
 have g0 : (e.set 2 (.ptr 1 0 135)).getD 0 .undef = .ptr 0 0 1 := get_set (by decide) h0
 have g2 : (e.set 2 (.ptr 1 0 135)).getD 2 .undef = .ptr 1 0 135 := get_same (by omega)
 have g2' : ((e.set 2 (.ptr 1 0 135)).set 1 (.ptr 1 0 135)).getD 2 .undef = .ptr 1 0 135 := get_set2 (by decide) g2
 refine opsX_swap (ld_box g0 hb) ?_
 rcases num_step s k P hs hk h g2 with ⟨v, σ2, h1, h2⟩ | ⟨h1, r1, h2, h3⟩
 ·rcases num_step s k P hs hk h g2' with ⟨v', σ2', h1', h2'⟩ | ⟨h1', _⟩
  ·have : v' = v ∧ σ2' = σ2 := by
    have q1 : (O.t 2).ev (e.set 2 (.ptr 1 0 135)) = .ptr 1 0 135 := g2
    have q2 : (O.t 2).ev ((e.set 2 (.ptr 1 0 135)).set 1 (.ptr 1 0 135)) = .ptr 1 0 135 := g2'
    have hf : ∀ e : Env, (O.k (.fn 53 [])).ev e = .fn 53 [] := fun _ => rfl
    simp only [stepI, insV, heapV, List.map_cons, List.map_nil, q1, hf, putT] at h1
    simp only [stepI, insV, heapV, List.map_cons, List.map_nil, q2, hf, putT] at h1'
    cases hc : callWith (Run AM) false (.fn 53 []) [.ptr 1 0 135] σ with
    | none => rw [hc] at h1; cases h1
    | some w =>
     rw [hc] at h1 h1'
     simp only [Option.map_some, Option.some.injEq, Prod.mk.injEq] at h1 h1'
     have l3 : ∀ x : V, ((e.set 2 (.ptr 1 0 135)).set 3 x)[3]? = some x := fun x => List.getElem?_set_self (by simpa using hl)
     have l3' : ∀ x : V, (((e.set 2 (.ptr 1 0 135)).set 1 (.ptr 1 0 135)).set 3 x)[3]? = some x := fun x => List.getElem?_set_self (by simpa using hl)
     have a1 := congrArg (·[3]?) h1.1
     have a2 := congrArg (·[3]?) h1'.1
     simp only [l3, l3', Option.some.injEq] at a1 a2
     exact ⟨a2.symm.trans a1, h1'.2.symm.trans h1.2⟩
   obtain ⟨rfl, rfl⟩ := this
   exact .inl ⟨3, _, _, by decide, h1', h1, ld_box (get_set (by decide) g0) h2⟩
  ·exfalso
   have q1 : (O.t 2).ev (e.set 2 (.ptr 1 0 135)) = .ptr 1 0 135 := g2
   have q2 : (O.t 2).ev ((e.set 2 (.ptr 1 0 135)).set 1 (.ptr 1 0 135)) = .ptr 1 0 135 := g2'
   have hf : ∀ e : Env, (O.k (.fn 53 [])).ev e = .fn 53 [] := fun _ => rfl
   simp only [stepI, insV, heapV, List.map_cons, List.map_nil, q1, hf, putT] at h1
   simp only [stepI, insV, heapV, List.map_cons, List.map_nil, q2, hf, putT] at h1'
   cases hc : callWith (Run AM) false (.fn 53 []) [.ptr 1 0 135] σ with
   | none => rw [hc] at h1; cases h1
   | some w => rw [hc] at h1'; cases h1'
 ·rcases num_step s k P hs hk h g2' with ⟨v', σ2', h1', h2'⟩ | ⟨h1', r1', h2', h3'⟩
  ·exfalso
   have q1 : (O.t 2).ev (e.set 2 (.ptr 1 0 135)) = .ptr 1 0 135 := g2
   have q2 : (O.t 2).ev ((e.set 2 (.ptr 1 0 135)).set 1 (.ptr 1 0 135)) = .ptr 1 0 135 := g2'
   have hf : ∀ e : Env, (O.k (.fn 53 [])).ev e = .fn 53 [] := fun _ => rfl
   simp only [stepI, insV, heapV, List.map_cons, List.map_nil, q1, hf, putT] at h1
   simp only [stepI, insV, heapV, List.map_cons, List.map_nil, q2, hf, putT] at h1'
   cases hc : callWith (Run AM) false (.fn 53 []) [.ptr 1 0 135] σ with
   | none => rw [hc] at h1'; cases h1'
   | some w => rw [hc] at h1; cases h1
  ·exact .inr ⟨h1', h1, by rw [h2, h2', h3, h3']⟩
theorem half_ok (s : ByteArray) (k : Nat) (P : Nat → Int) (hs : s.size ≤ 1000) (hk : k ≤ s.size) (ht : takeC s k digS = true) :
  BX AM 52 135 .var 135 (rdG s k P) (.tup []) (rdG s (numR s 5 (k + 1) (digV s k)).1 (ov P 131 ((numR s 5 (k + 1) (digV s k)).2 : Int))) := by
 suffices h : WR AM 52 [.ptr 0 0 1] [.vs .var [.ptr 1 0 135], .sc .var 135 (rdG s k P)] (fun v _ L => v = .tup [] ∧ (0, Blk.vs .var [.ptr 1 0 135]) ∈ L ∧ (1, Blk.sc .var 135 (rdG s (numR s 5 (k + 1) (digV s k)).1 (ov P 131 ((numR s 5 (k + 1) (digV s k)).2 : Int)))) ∈ L) by
  obtain ⟨v, σ', n', L', h1, h2, rfl, h3, h4⟩ := h
  exact ⟨σ', h1, (h2.2.mem h3).2, (h2.2.mem h4).2⟩
 refine WR_fn (a := a52) rfl rfl (entryF _) (entry_E (Nat.le_of_ble_eq_true rfl)) (m := 2) rfl ?_
 refine WP_parcS ?_ (fun σ hσ p hp => ?_)
 ·refine WO_ldV rfl rfl (.head _) rfl ?_
  refine WO_ldV rfl rfl (.head _) rfl ?_
  refine WO_callL (av := [.ptr 1 0 135]) (rs := [1]) (Bs := [_]) rfl rfl rfl (number_ok s k P hs ht) rfl (Nat.le_of_ble_eq_true rfl) (fun _ h => h) rfl ⟨.tail _ (.head _), rfl, trivial⟩ rfl rfl (.cons (.there .here) .nil) ?_
  refine WO_nilckP rfl (WO_fa (o' := 2) rfl rfl rfl (WO_fa (o' := 133) rfl rfl rfl ?_))
  refine WO_st rfl rfl (by simp [V.scells]; rfl) rfl rfl (rd_cell s _ P 131 _) (.there .here) (WO_nil ?_)
  exact ⟨_, RS_nil, rfl, .head _, .tail _ (.head _)⟩
 ·have hsw := num_orders s k P hs hk hσ (e := E a52.nt (entryF [.ptr 0 0 1])) rfl (by decide)
  simp only [List.mem_cons, List.not_mem_nil, or_false] at hp
  rcases hp with rfl | rfl | rfl
  ·exact sameR_refl _
  ·exact (hsw _).1
  ·exact (hsw _).2
theorem half_no (s : ByteArray) (k : Nat) (P : Nat → Int) (hs : s.size ≤ 1000) (hk : k ≤ s.size) (ht : takeC s k digS = false) :
  BX AM 52 135 .var 135 (rdG s k P) (.pan (stk k)) (rdG s k P) := by
 suffices h : WR AM 52 [.ptr 0 0 1] [.vs .var [.ptr 1 0 135], .sc .var 135 (rdG s k P)] (fun v _ L => v = .pan (stk k) ∧ (0, Blk.vs .var [.ptr 1 0 135]) ∈ L ∧ (1, Blk.sc .var 135 (rdG s k P)) ∈ L) by
  obtain ⟨v, σ', n', L', h1, h2, rfl, h3, h4⟩ := h
  exact ⟨σ', h1, (h2.2.mem h3).2, (h2.2.mem h4).2⟩
 refine WR_fn (a := a52) rfl rfl (entryF _) (entry_E (Nat.le_of_ble_eq_true rfl)) (m := 2) rfl ?_
 refine WP_parcS ?_ (fun σ hσ p hp => ?_)
 ·refine WO_ldV rfl rfl (.head _) rfl ?_
  refine WO_ldV rfl rfl (.head _) rfl ?_
  refine WO_callX (av := [.ptr 1 0 135]) (rs := [1]) (Bs := [_]) rfl rfl rfl (number_no s k P hs hk ht) rfl (Nat.le_of_ble_eq_true rfl) (fun _ h => h) rfl ⟨.tail _ (.head _), rfl, trivial⟩ rfl rfl (.cons (.there .here) .nil) ?_
  exact ⟨rfl, .head _, .tail _ (.head _)⟩
 ·have hsw := num_orders s k P hs hk hσ (e := E a52.nt (entryF [.ptr 0 0 1])) rfl (by decide)
  simp only [List.mem_cons, List.not_mem_nil, or_false] at hp
  rcases hp with rfl | rfl | rfl
  ·exact sameR_refl _
  ·exact (hsw _).1
  ·exact (hsw _).2
theorem full_ok (s : ByteArray) (k : Nat) (P : Nat → Int) (hs : s.size ≤ 1000) (hk : k ≤ s.size) (ht : takeC s k digS = true) :
  BX AM 54 135 .var 135 (rdG s k P) (.tup []) (rdG s (numR s 5 (k + 1) (digV s k)).1 (ov P 132 ((numR s 5 (k + 1) (digV s k)).2 : Int))) := by
 suffices h : WR AM 54 [.ptr 0 0 1] [.vs .var [.ptr 1 0 135], .sc .var 135 (rdG s k P)] (fun v _ L => v = .tup [] ∧ (0, Blk.vs .var [.ptr 1 0 135]) ∈ L ∧ (1, Blk.sc .var 135 (rdG s (numR s 5 (k + 1) (digV s k)).1 (ov P 132 ((numR s 5 (k + 1) (digV s k)).2 : Int)))) ∈ L) by
  obtain ⟨v, σ', n', L', h1, h2, rfl, h3, h4⟩ := h
  exact ⟨σ', h1, (h2.2.mem h3).2, (h2.2.mem h4).2⟩
 refine WR_fn (a := a54) rfl rfl (entryF _) (entry_E (Nat.le_of_ble_eq_true rfl)) (m := 2) rfl ?_
 refine WP_parcS ?_ (fun σ hσ p hp => ?_)
 ·refine WO_ldV rfl rfl (.head _) rfl ?_
  refine WO_ldV rfl rfl (.head _) rfl ?_
  refine WO_callL (av := [.ptr 1 0 135]) (rs := [1]) (Bs := [_]) rfl rfl rfl (number_ok s k P hs ht) rfl (Nat.le_of_ble_eq_true rfl) (fun _ h => h) rfl ⟨.tail _ (.head _), rfl, trivial⟩ rfl rfl (.cons (.there .here) .nil) ?_
  refine WO_nilckP rfl (WO_fa (o' := 2) rfl rfl rfl (WO_fa (o' := 134) rfl rfl rfl ?_))
  refine WO_st rfl rfl (by simp [V.scells]; rfl) rfl rfl (rd_cell s _ P 132 _) (.there .here) (WO_nil ?_)
  exact ⟨_, RS_nil, rfl, .head _, .tail _ (.head _)⟩
 ·have hsw := num_orders s k P hs hk hσ (e := E a54.nt (entryF [.ptr 0 0 1])) rfl (by decide)
  simp only [List.mem_cons, List.not_mem_nil, or_false] at hp
  rcases hp with rfl | rfl | rfl
  ·exact sameR_refl _
  ·exact (hsw _).1
  ·exact (hsw _).2
theorem full_no (s : ByteArray) (k : Nat) (P : Nat → Int) (hs : s.size ≤ 1000) (hk : k ≤ s.size) (ht : takeC s k digS = false) :
  BX AM 54 135 .var 135 (rdG s k P) (.pan (stk k)) (rdG s k P) := by
 suffices h : WR AM 54 [.ptr 0 0 1] [.vs .var [.ptr 1 0 135], .sc .var 135 (rdG s k P)] (fun v _ L => v = .pan (stk k) ∧ (0, Blk.vs .var [.ptr 1 0 135]) ∈ L ∧ (1, Blk.sc .var 135 (rdG s k P)) ∈ L) by
  obtain ⟨v, σ', n', L', h1, h2, rfl, h3, h4⟩ := h
  exact ⟨σ', h1, (h2.2.mem h3).2, (h2.2.mem h4).2⟩
 refine WR_fn (a := a54) rfl rfl (entryF _) (entry_E (Nat.le_of_ble_eq_true rfl)) (m := 2) rfl ?_
 refine WP_parcS ?_ (fun σ hσ p hp => ?_)
 ·refine WO_ldV rfl rfl (.head _) rfl ?_
  refine WO_ldV rfl rfl (.head _) rfl ?_
  refine WO_callX (av := [.ptr 1 0 135]) (rs := [1]) (Bs := [_]) rfl rfl rfl (number_no s k P hs hk ht) rfl (Nat.le_of_ble_eq_true rfl) (fun _ h => h) rfl ⟨.tail _ (.head _), rfl, trivial⟩ rfl rfl (.cons (.there .here) .nil) ?_
  exact ⟨rfl, .head _, .tail _ (.head _)⟩
 ·have hsw := num_orders s k P hs hk hσ (e := E a54.nt (entryF [.ptr 0 0 1])) rfl (by decide)
  simp only [List.mem_cons, List.not_mem_nil, or_false] at hp
  rcases hp with rfl | rfl | rfl
  ·exact sameR_refl _
  ·exact (hsw _).1
  ·exact (hsw _).2
end Go.Proofs.YtlaogmemhephnaaGreatDoor
set_option linter.unusedVariables false
set_option linter.unusedSimpArgs false
namespace Go.Proofs.YtlaogmemhephnaaGreatDoor
open Go Go.Am
abbrev wbS : ByteArray := ⟨#[119, 98]⟩
theorem wb0 : hasB wbS 0 = false := by decide +kernel
def wbI (c : UInt8) : Int := Lib.indexByte wbS.data.toList c
theorem side_ok (s : ByteArray) (k : Nat) (P : Nat → Int) (hs : s.size ≤ 1000) (hk : k ≤ s.size) (ht : takeC s k wbS = true)
  (hord : ∀ σ, Hp σ 2 (boxL s k P) → ∀ p ∈ (match a48.body with | .parc ps _ => ps | _ => []), sameR (opsX (Run AM) (pickL (match a48.body with | .parc _ l => l | _ => []) p) (E a48.nt (entryF [.ptr 0 0 1])) σ) (opsX (Run AM) (match a48.body with | .parc _ l => l | _ => []) (E a48.nt (entryF [.ptr 0 0 1])) σ)) :
  BX AM 48 135 .var 135 (rdG s k P) (.tup []) (rdG s (k + 1) (ov P 128 (wbI (chr s k)))) := by
 suffices h : WR AM 48 [.ptr 0 0 1] [.vs .var [.ptr 1 0 135], .sc .var 135 (rdG s k P)] (fun v _ L => v = .tup [] ∧ (0, Blk.vs .var [.ptr 1 0 135]) ∈ L ∧ (1, Blk.sc .var 135 (rdG s (k + 1) (ov P 128 (wbI (chr s k))))) ∈ L) by
  obtain ⟨v, σ', n', L', h1, h2, rfl, h3, h4⟩ := h
  exact ⟨σ', h1, (h2.2.mem h3).2, (h2.2.mem h4).2⟩
 refine WR_fn (a := a48) rfl rfl (entryF _) (entry_E (Nat.le_of_ble_eq_true rfl)) (m := 2) rfl ?_
 refine WP_parcS ?_ (fun σ hσ p hp => hord σ hσ p hp)
 refine WO_ldV rfl rfl (.head _) rfl ?_
 refine WO_ldV rfl rfl (.head _) rfl ?_
 refine WO_mkslG rfl (.one rfl .nil) ?_
 refine WO_mustY rfl rfl (by decide) (some_one rfl) hs wb0 ht rfl (.head _) (.there (.there .here)) ?_
 refine WO_call0 rfl (idx_run wbS (chr s k)) rfl rfl rfl ?_
 refine WO_nilckP rfl (WO_fa (o' := 2) rfl rfl rfl (WO_fa (o' := 130) rfl rfl rfl ?_))
 refine WO_st rfl rfl (by simp [V.scells]; rfl) rfl rfl (rd_cell s _ P 128 _) (.there (.there .here)) (WO_nil ?_)
 exact ⟨_, RS_nil, rfl, .tail _ (.head _), .tail _ (.tail _ (.head _))⟩
theorem side_no (s : ByteArray) (k : Nat) (P : Nat → Int) (hs : s.size ≤ 1000) (hk : k ≤ s.size) (ht : takeC s k wbS = false)
  (hord : ∀ σ, Hp σ 2 (boxL s k P) → ∀ p ∈ (match a48.body with | .parc ps _ => ps | _ => []), sameR (opsX (Run AM) (pickL (match a48.body with | .parc _ l => l | _ => []) p) (E a48.nt (entryF [.ptr 0 0 1])) σ) (opsX (Run AM) (match a48.body with | .parc _ l => l | _ => []) (E a48.nt (entryF [.ptr 0 0 1])) σ)) :
  BX AM 48 135 .var 135 (rdG s k P) (.pan (stk k)) (rdG s k P) := by
 suffices h : WR AM 48 [.ptr 0 0 1] [.vs .var [.ptr 1 0 135], .sc .var 135 (rdG s k P)] (fun v _ L => v = .pan (stk k) ∧ (0, Blk.vs .var [.ptr 1 0 135]) ∈ L ∧ (1, Blk.sc .var 135 (rdG s k P)) ∈ L) by
  obtain ⟨v, σ', n', L', h1, h2, rfl, h3, h4⟩ := h
  exact ⟨σ', h1, (h2.2.mem h3).2, (h2.2.mem h4).2⟩
 refine WR_fn (a := a48) rfl rfl (entryF _) (entry_E (Nat.le_of_ble_eq_true rfl)) (m := 2) rfl ?_
 refine WP_parcS ?_ (fun σ hσ p hp => hord σ hσ p hp)
 refine WO_ldV rfl rfl (.head _) rfl ?_
 refine WO_ldV rfl rfl (.head _) rfl ?_
 refine WO_mkslG rfl (.one rfl .nil) ?_
 exact WO_mustN rfl rfl (by decide) (some_one rfl) hs hk ht (.head _) (.tail _ (.tail _ (.head _))) ⟨rfl, .tail _ (.head _), .tail _ (.tail _ (.head _))⟩
end Go.Proofs.YtlaogmemhephnaaGreatDoor
set_option linter.unusedVariables false
set_option linter.unusedSimpArgs false
namespace Go.Proofs.YtlaogmemhephnaaGreatDoor
open Go Go.Am
abbrev oA : I := ⟨some 1, none, .h (.load false 1 (.t 0))⟩
abbrev oB : I := ⟨some 2, none, .h (.load false 1 (.t 0))⟩
abbrev oM : I := ⟨some 3, none, .h (.mksl 1 1 (.one (.s (.str ⟨#[]⟩))) [(0, (.k (.s (.str ⟨#[119, 98]⟩))))])⟩
abbrev oC : I := ⟨some 4, none, .h (.call (.k (.fn 47 [])) [(.t 2), (.t 3)])⟩
abbrev oD : I := ⟨some 5, none, .h (.call (.k (.fn 49 [])) [(.k (.s (.str ⟨#[119, 98]⟩))), (.t 4)])⟩
def BoxIn (e : Env) (σ : Heap) : Prop := e.getD 0 .undef = .ptr 0 0 1 ∧ σ[0]? = some (.vs .var [.ptr 1 0 135])
theorem BoxIn.rdA {run : Runner} {e : Env} {σ : Heap} (h : BoxIn e σ) : Reads run oA 1 (.ptr 1 0 135) e σ := ld_box h.1 h.2
theorem BoxIn.rdB {run : Runner} {e : Env} {σ : Heap} (h : BoxIn e σ) : Reads run oB 2 (.ptr 1 0 135) e σ := ld_box h.1 h.2
theorem step_M {run : Runner} {e : Env} {σ : Heap} {e1 : Env} {σ1 : Heap} (h : BoxIn e σ) (hs : stepI run oM e σ = some (e1, σ1)) : BoxIn e1 σ1 := by
 simp only [stepI, insV, heapV, Option.map_eq_some_iff] at hs
 obtain ⟨r, ⟨B, hB, rfl⟩, hs⟩ := hs
 injection hs with q1 q2
 subst q1; subst q2
 refine ⟨get_set (by decide) h.1, ?_⟩
 rw [List.getElem?_append_left (lt_of h.2)]
 exact h.2
theorem step_B {run : Runner} {e : Env} {σ : Heap} {e1 : Env} {σ1 : Heap} (h : BoxIn e σ) (hs : stepI run oB e σ = some (e1, σ1)) : BoxIn e1 σ1 := by
 rw [show stepI run oB e σ = some (e.set 2 (.ptr 1 0 135), σ) from h.rdB] at hs
 injection hs with hs
 injection hs with q1 q2
 subst q1; subst q2
 exact ⟨get_set (by decide) h.1, h.2⟩
theorem step_A {run : Runner} {e : Env} {σ : Heap} {e1 : Env} {σ1 : Heap} (h : BoxIn e σ) (hs : stepI run oA e σ = some (e1, σ1)) : BoxIn e1 σ1 := by
 rw [show stepI run oA e σ = some (e.set 1 (.ptr 1 0 135), σ) from h.rdA] at hs
 injection hs with hs
 injection hs with q1 q2
 subst q1; subst q2
 exact ⟨get_set (by decide) h.1, h.2⟩
def Ready (s : ByteArray) (k : Nat) (P : Nat → Int) (e : Env) (σ : Heap) : Prop :=
 ∃ (n : Nat) (G : Nat → S), n ≠ 0 ∧ n ≠ 1 ∧ G 0 = .str wbS ∧ e.getD 0 .undef = .ptr 0 0 1 ∧ e.getD 2 .undef = .ptr 1 0 135 ∧ e.getD 3 .undef = .sl n 0 1 1 (.ex 1) ∧ Hp σ (n + 1) [(n, .sc .var 1 G), (0, .vs .var [.ptr 1 0 135]), (1, .sc .var 135 (rdG s k P))]
theorem Ready.box {s : ByteArray} {k : Nat} {P : Nat → Int} {e : Env} {σ : Heap} (h : Ready s k P e σ) : BoxIn e σ := by
 obtain ⟨n, G, _, _, _, h0, _, _, hp⟩ := h
 exact ⟨h0, (hp.2.mem (.tail _ (.head _))).2⟩
theorem step_C {s : ByteArray} {k : Nat} {P : Nat → Int} (hs : s.size ≤ 1000) (hk : k ≤ s.size) {e : Env} {σ : Heap} {e1 : Env} {σ1 : Heap} (h : Ready s k P e σ) (hst : stepI (Run AM) oC e σ = some (e1, σ1)) : BoxIn e1 σ1 ∧ (4 < e.length → ∃ c : UInt8, e1.getD 4 .undef = .s (.int .u8 (c.toNat : Int))) := by
 obtain ⟨n, G, hn0, hn1, hG, h0, h2, h3, hp⟩ := h
 have v2 : (O.t 2).ev e = .ptr 1 0 135 := h2
 have v3 : (O.t 3).ev e = .sl n 0 1 1 (.ex 1) := h3
 have hf : (O.k (.fn 47 [])).ev e = .fn 47 [] := rfl
 have hB : lss [(n, .sc .var 1 G), (0, .vs .var [.ptr 1 0 135]), (1, .sc .var 135 (rdG s k P))] [1, n] [.sc .var 135 (rdG s k P), .sc .var 1 G] := ⟨.tail _ (.tail _ (.head _)), rfl, .head _, rfl, trivial⟩
 cases ht : takeC s k wbS with
 | true =>
  obtain ⟨σ2, q1, q2⟩ := callL_ex (fv := .fn 47 []) (args := [.ptr 1 0 135, .sl n 0 1 1 (.ex 1)]) (av := [.ptr 1 0 135, .sl n 0 1 1 (.ex 1)]) (rs := [1, n]) rfl (must_yes (md' := .var) (q := 1) (G := G) rfl s k P (some_one hG) hs wb0 ht) (two_dedup hn1) (by rw [two_refs]; simp) (by rw [two_refs]; simp) (two_ren hn1) hB rfl rfl (.cons (.there (.there .here)) (.cons .here .nil)) hp
  simp only [stepI, insV, heapV, List.map_cons, List.map_nil, v2, v3, hf, q1, putT, Option.map_some, Option.some.injEq, Prod.mk.injEq] at hst
  obtain ⟨rfl, rfl⟩ := hst
  exact ⟨⟨get_set (by decide) h0, (q2.2.mem (.tail _ (.head _))).2⟩, fun hl => ⟨chr s k, get_same hl⟩⟩
 | false =>
  obtain ⟨q1, _⟩ := callX_ex (fv := .fn 47 []) (args := [.ptr 1 0 135, .sl n 0 1 1 (.ex 1)]) (av := [.ptr 1 0 135, .sl n 0 1 1 (.ex 1)]) (rs := [1, n]) rfl (must_no (md := .var) (md' := .var) (q := 1) (G := G) s k P (some_one hG) hs hk ht) (two_dedup hn1) (by rw [two_refs]; simp) (by rw [two_refs]; simp) (two_ren hn1) hB rfl rfl (.cons (.there (.there .here)) (.cons .here .nil)) hp
  simp only [stepI, insV, heapV, List.map_cons, List.map_nil, v2, v3, hf, q1] at hst
  cases hst
theorem step_D {e : Env} {σ : Heap} {e1 : Env} {σ1 : Heap} (h : BoxIn e σ) {c : UInt8} (h4 : e.getD 4 .undef = .s (.int .u8 (c.toNat : Int))) (hst : stepI (Run AM) oD e σ = some (e1, σ1)) : BoxIn e1 σ1 := by
 have v4 : (O.t 4).ev e = .s (.int .u8 (c.toNat : Int)) := h4
 have hf : (O.k (.fn 49 [])).ev e = .fn 49 [] := rfl
 have hk : (O.k (.s (.str ⟨#[119, 98]⟩))).ev e = .s (.str ⟨#[119, 98]⟩) := rfl
 obtain ⟨σ2, hr⟩ := idx_run wbS c
 have hc := call_flat (A := AM) (q := false) (fid := 49) (av := [.s (.str wbS), .s (.int .u8 (c.toNat : Int))]) (v := .s (.int .i64 (wbI c))) rfl rfl hr σ
 simp only [stepI, insV, heapV, List.map_cons, List.map_nil, v4, hk, hf, putT] at hst
 rw [hc] at hst
 simp only [Option.map_some, Option.some.injEq, Prod.mk.injEq] at hst
 obtain ⟨rfl, rfl⟩ := hst
 exact ⟨get_set (by decide) h.1, h.2⟩
abbrev gM : Nat → S := over (fun _ => .str ⟨#[]⟩) 0 1 (fun _ => .str wbS)
theorem M_eq {run : Runner} {e : Env} {σ : Heap} : stepI run oM e σ = some (e.set 3 (.sl σ.length 0 1 1 (.ex 1)), σ ++ [.sc .var 1 gM]) := rfl
theorem ready_of {s : ByteArray} {k : Nat} {P : Nat → Int} {σ : Heap} (hσ : Hp σ 2 (boxL s k P)) {e : Env} (h0 : e.getD 0 .undef = .ptr 0 0 1) (h2 : e.getD 2 .undef = .ptr 1 0 135) (h3 : e.getD 3 .undef = .sl σ.length 0 1 1 (.ex 1)) : Ready s k P e (σ ++ [.sc .var 1 gM]) :=
 ⟨2, gM, by decide, by decide, rfl, h0, h2, by rw [h3, hσ.1], hσ.new _⟩
theorem side_orders {s : ByteArray} {k : Nat} {P : Nat → Int} (hs : s.size ≤ 1000) (hk : k ≤ s.size) {σ : Heap} (hσ : Hp σ 2 (boxL s k P)) {e : Env} (hb : e.getD 0 .undef = .ptr 0 0 1) (hl : 5 < e.length) (r : List I) :
  let M0 := opsX (Run AM) (oA :: oB :: oM :: oC :: oD :: r) e σ
  sameR (opsX (Run AM) (oA :: oM :: oB :: oC :: oD :: r) e σ) M0 ∧ sameR (opsX (Run AM) (oB :: oA :: oM :: oC :: oD :: r) e σ) M0 ∧ sameR (opsX (Run AM) (oB :: oM :: oA :: oC :: oD :: r) e σ) M0 ∧
  sameR (opsX (Run AM) (oB :: oM :: oC :: oA :: oD :: r) e σ) M0 ∧ sameR (opsX (Run AM) (oB :: oM :: oC :: oD :: oA :: r) e σ) M0 ∧ sameR (opsX (Run AM) (oM :: oA :: oB :: oC :: oD :: r) e σ) M0 ∧
  sameR (opsX (Run AM) (oM :: oB :: oA :: oC :: oD :: r) e σ) M0 ∧ sameR (opsX (Run AM) (oM :: oB :: oC :: oA :: oD :: r) e σ) M0 ∧ sameR (opsX (Run AM) (oM :: oB :: oC :: oD :: oA :: r) e σ) M0 := by
 intro M0
 have hB : BoxIn e σ := ⟨hb, (hσ.2.mem (.head _)).2⟩
 have pM : ∀ {e : Env} {σ : Heap} (l : List I), BoxIn e σ → sameR (opsX (Run AM) (oM :: oA :: l) e σ) (opsX (Run AM) (oA :: oM :: l) e σ) := fun l h => move_past (Moves_mksl (by decide)) h.rdA (fun e1 σ1 hs => (step_M h hs).rdA)
 have pMB : ∀ {e : Env} {σ : Heap} (l : List I), BoxIn e σ → sameR (opsX (Run AM) (oM :: oB :: l) e σ) (opsX (Run AM) (oB :: oM :: l) e σ) := fun l h => move_past (Moves_mksl (by decide)) h.rdB (fun e1 σ1 hs => (step_M h hs).rdB)
 have pB : ∀ {e : Env} {σ : Heap} (l : List I), BoxIn e σ → sameR (opsX (Run AM) (oB :: oA :: l) e σ) (opsX (Run AM) (oA :: oB :: l) e σ) := fun l h => move_past (Moves_load (by decide) rfl) h.rdA (fun e1 σ1 hs => (step_B h hs).rdA)
 have pC : ∀ {e : Env} {σ : Heap} (l : List I), Ready s k P e σ → sameR (opsX (Run AM) (oC :: oA :: l) e σ) (opsX (Run AM) (oA :: oC :: l) e σ) := fun l h => move_past (Moves_call (by decide) rfl rfl) h.box.rdA (fun e1 σ1 hst => (step_C hs hk h hst).1.rdA)
 have s1 := opsX_cons (b := oA) (fun e1 σ1 hst => pMB (oC :: oD :: r) (step_A hB hst))
 have s2 := pB (oM :: oC :: oD :: r) hB
 have s3 := sameR_trans (opsX_cons (b := oB) (fun e1 σ1 hst => pM (oC :: oD :: r) (step_B hB hst))) s2
 have rBM : ∀ e1 σ1, stepI (Run AM) oB e σ = some (e1, σ1) → ∀ e2 σ2, stepI (Run AM) oM e1 σ1 = some (e2, σ2) → Ready s k P e2 σ2 ∧ 5 < e2.length := by
  intro e1 σ1 h1 e2 σ2 h2
  rw [show stepI (Run AM) oB e σ = some (e.set 2 (.ptr 1 0 135), σ) from hB.rdB] at h1
  injection h1 with h1; injection h1 with q1 q2; subst q1; subst q2
  rw [M_eq] at h2
  injection h2 with h2; injection h2 with q1 q2; subst q1; subst q2
  exact ⟨ready_of hσ (get_set (by decide) (get_set (by decide) hb)) (get_set2 (by decide) (get_same (by omega))) (get_same (by simpa using (by omega : 3 < e.length))), by simpa using hl⟩
 have rMB : ∀ e1 σ1, stepI (Run AM) oM e σ = some (e1, σ1) → ∀ e2 σ2, stepI (Run AM) oB e1 σ1 = some (e2, σ2) → Ready s k P e2 σ2 ∧ 5 < e2.length := by
  intro e1 σ1 h1 e2 σ2 h2
  have hB1 := step_M hB h1
  rw [show stepI (Run AM) oB e1 σ1 = some (e1.set 2 (.ptr 1 0 135), σ1) from hB1.rdB] at h2
  injection h2 with h2; injection h2 with q1 q2; subst q1; subst q2
  rw [M_eq] at h1
  injection h1 with h1; injection h1 with q1 q2; subst q1; subst q2
  exact ⟨ready_of hσ (get_set (by decide) (get_set (by decide) hb)) (get_same (by simpa using (by omega : 2 < e.length))) (get_set2 (by decide) (get_same (by omega))), by simpa using hl⟩
 have pD : ∀ {e : Env} {σ : Heap}, Ready s k P e σ → 5 < e.length → sameR (opsX (Run AM) (oC :: oD :: oA :: r) e σ) (opsX (Run AM) (oC :: oA :: oD :: r) e σ) := fun h hl => opsX_cons fun e1 σ1 hst => by
  obtain ⟨hb1, hc⟩ := step_C hs hk h hst
  obtain ⟨c, h4⟩ := hc (by omega)
  exact move_past (Moves_call (by decide) rfl rfl) hb1.rdA (fun e2 σ2 hst2 => (step_D hb1 h4 hst2).rdA)
 have s4 := sameR_trans (opsX_cons (b := oB) (fun e1 σ1 h1 => opsX_cons (b := oM) (fun e2 σ2 h2 => pC (oD :: r) (rBM e1 σ1 h1 e2 σ2 h2).1))) s3
 have s5 := sameR_trans (opsX_cons (b := oB) (fun e1 σ1 h1 => opsX_cons (b := oM) (fun e2 σ2 h2 => pD (rBM e1 σ1 h1 e2 σ2 h2).1 (rBM e1 σ1 h1 e2 σ2 h2).2))) s4
 have s6 := sameR_trans (pM (oB :: oC :: oD :: r) hB) s1
 have s7 := sameR_trans (opsX_cons (b := oM) (fun e1 σ1 h1 => pB (oC :: oD :: r) (step_M hB h1))) s6
 have s8 := sameR_trans (opsX_cons (b := oM) (fun e1 σ1 h1 => opsX_cons (b := oB) (fun e2 σ2 h2 => pC (oD :: r) (rMB e1 σ1 h1 e2 σ2 h2).1))) s7
 have s9 := sameR_trans (opsX_cons (b := oM) (fun e1 σ1 h1 => opsX_cons (b := oB) (fun e2 σ2 h2 => pD (rMB e1 σ1 h1 e2 σ2 h2).1 (rMB e1 σ1 h1 e2 σ2 h2).2))) s8
 exact ⟨s1, s2, s3, s4, s5, s6, s7, s8, s9⟩
end Go.Proofs.YtlaogmemhephnaaGreatDoor
set_option linter.unusedVariables false
set_option linter.unusedSimpArgs false
namespace Go.Proofs.YtlaogmemhephnaaGreatDoor
open Go Go.Am
theorem side_hord {s : ByteArray} {k : Nat} {P : Nat → Int} (hs : s.size ≤ 1000) (hk : k ≤ s.size) : ∀ σ, Hp σ 2 (boxL s k P) → ∀ p ∈ (match a48.body with | .parc ps _ => ps | _ => []), sameR (opsX (Run AM) (pickL (match a48.body with | .parc _ l => l | _ => []) p) (E a48.nt (entryF [.ptr 0 0 1])) σ) (opsX (Run AM) (match a48.body with | .parc _ l => l | _ => []) (E a48.nt (entryF [.ptr 0 0 1])) σ) := by
 intro σ hσ p hp
 have hsw := side_orders hs hk hσ (e := E a48.nt (entryF [.ptr 0 0 1])) rfl (by decide)
 simp only [a48, List.mem_cons, List.not_mem_nil, or_false] at hp
 rcases hp with rfl | rfl | rfl | rfl | rfl | rfl | rfl | rfl | rfl | rfl
 ·exact sameR_refl _
 ·exact (hsw _).1
 ·exact (hsw _).2.1
 ·exact (hsw _).2.2.1
 ·exact (hsw _).2.2.2.1
 ·exact (hsw _).2.2.2.2.1
 ·exact (hsw _).2.2.2.2.2.1
 ·exact (hsw _).2.2.2.2.2.2.1
 ·exact (hsw _).2.2.2.2.2.2.2.1
 ·exact (hsw _).2.2.2.2.2.2.2.2
theorem side_okW (s : ByteArray) (k : Nat) (P : Nat → Int) (hs : s.size ≤ 1000) (hk : k ≤ s.size) (ht : takeC s k wbS = true) : BX AM 48 135 .var 135 (rdG s k P) (.tup []) (rdG s (k + 1) (ov P 128 (wbI (chr s k)))) := side_ok s k P hs hk ht (side_hord hs hk)
theorem side_noW (s : ByteArray) (k : Nat) (P : Nat → Int) (hs : s.size ≤ 1000) (hk : k ≤ s.size) (ht : takeC s k wbS = false) : BX AM 48 135 .var 135 (rdG s k P) (.pan (stk k)) (rdG s k P) := side_no s k P hs hk ht (side_hord hs hk)
end Go.Proofs.YtlaogmemhephnaaGreatDoor
set_option linter.unusedVariables false
set_option linter.unusedSimpArgs false
namespace Go.Proofs.YtlaogmemhephnaaGreatDoor
open Go Go.Am
abbrev slaS : ByteArray := ⟨#[47]⟩
abbrev spcS : ByteArray := ⟨#[32]⟩
theorem sla0 : hasB slaS 0 = false := by decide +kernel
theorem spc0 : hasB spcS 0 = false := by decide +kernel
def rksR (s : ByteArray) : Nat → Nat → (Nat → Int) → Except Nat ((Nat → Int) × Nat)
 | 0, k, P => .ok (P, k)
 | j + 1, k, P => match rowR s j 9 0 true k P with
  | .error e => .error e
  | .ok (P', k') => if 0 < j then (if takeC s k' slaS = true then rksR s j (k' + 1) P' else .error k') else .ok (P', k')
def spR (s : ByteArray) (k : Nat) (f : Nat → Except Nat ((Nat → Int) × Nat)) : Except Nat ((Nat → Int) × Nat) := if takeC s k spcS = true then f (k + 1) else .error k
def sideR (s : ByteArray) (P : Nat → Int) (k : Nat) : Except Nat ((Nat → Int) × Nat) := if takeC s k wbS = true then .ok (ov P 128 (wbI (chr s k)), k + 1) else .error k
def castP (s : ByteArray) (P : Nat → Int) (k : Nat) : Except Nat ((Nat → Int) × Nat) := (castleR s k).map fun r => (ov P 129 r.1, r.2)
def overP (s : ByteArray) (P : Nat → Int) (k : Nat) : Except Nat ((Nat → Int) × Nat) := (overR s k).map fun r => (ov P 130 r.1, r.2)
def numP (s : ByteArray) (c : Nat) (P : Nat → Int) (k : Nat) : Except Nat ((Nat → Int) × Nat) := (numberR s k).map fun r => (ov P c (r.2 : Int), r.1)
def innR (s : ByteArray) (i : Nat) (P : Nat → Int) (k : Nat) : Except Nat ((Nat → Int) × Nat) :=
 match i with
 | 0 => sideR s P k
 | 1 => castP s P k
 | 2 => overP s P k
 | 3 => numP s 131 P k
 | _ => numP s 132 P k
def partR (s : ByteArray) (i k : Nat) (P : Nat → Int) : Except Nat ((Nat → Int) × Nat) := spR s k (innR s i P)
def partsR (s : ByteArray) : Nat → Nat → Nat → (Nat → Int) → Except Nat ((Nat → Int) × Nat)
 | 0, _, k, P => .ok (P, k)
 | j + 1, i, k, P => match partR s i k P with
  | .error e => .error e
  | .ok (P', k') => partsR s j (i + 1) k' P'
def allR (s : ByteArray) : Except Nat (Nat → Int) :=
 match rksR s 8 0 (fun _ => 0) with
 | .error e => .error e
 | .ok (P, k) => match partsR s 5 0 k P with
  | .error e => .error e
  | .ok (P, k) => if k < s.size then .error k else .ok P
end Go.Proofs.YtlaogmemhephnaaGreatDoor
set_option linter.unusedVariables false
set_option linter.unusedSimpArgs false
namespace Go.Proofs.YtlaogmemhephnaaGreatDoor
open Go Go.Am
theorem row_keep {s : ByteArray} {r : Nat} (hr : r < 8) : ∀ j f free k P P' k', k ≤ s.size → rowR s r j f free k P = .ok (P', k') → k' ≤ s.size ∧ ∀ i, 128 ≤ i → P' i = P i
 | 0, f, free, k, P, P', k', hk, h => by
  simp only [rowR, Except.ok.injEq, Prod.mk.injEq] at h
  obtain ⟨rfl, rfl⟩ := h
  exact ⟨hk, fun _ _ => rfl⟩
 | j + 1, f, free, k, P, P', k', hk, h => by
  rw [rowR] at h
  split at h
  ·rename_i hf
   split at h
   ·rename_i ht
    have hlt := take_lt ht
    split at h
    ·obtain ⟨h1, h2⟩ := row_keep hr j _ _ _ _ _ _ (by omega) h
     refine ⟨h1, fun i hi => ?_⟩
     rw [h2 i hi, ovA_out (by omega)]
    ·exact row_keep hr j _ _ _ _ _ _ (by omega) h
   ·cases h
  ·simp only [Except.ok.injEq, Prod.mk.injEq] at h
   obtain ⟨rfl, rfl⟩ := h
   exact ⟨hk, fun _ _ => rfl⟩
theorem rks_keep {s : ByteArray} : ∀ j k P P' k', j ≤ 8 → k ≤ s.size → rksR s j k P = .ok (P', k') → k' ≤ s.size ∧ ∀ i, 128 ≤ i → P' i = P i
 | 0, k, P, P', k', _, hk, h => by
  simp only [rksR, Except.ok.injEq, Prod.mk.injEq] at h
  obtain ⟨rfl, rfl⟩ := h
  exact ⟨hk, fun _ _ => rfl⟩
 | j + 1, k, P, P', k', hj, hk, h => by
  rw [rksR] at h
  split at h
  ·cases h
  ·rename_i P1 k1 h1
   obtain ⟨a1, a2⟩ := row_keep (show j < 8 by omega) _ _ _ _ _ _ _ hk h1
   split at h
   ·split at h
    ·rename_i ht
     have hlt := take_lt ht
     obtain ⟨b1, b2⟩ := rks_keep j _ _ _ _ (by omega) (by omega) h
     exact ⟨b1, fun i hi => (b2 i hi).trans (a2 i hi)⟩
    ·cases h
   ·simp only [Except.ok.injEq, Prod.mk.injEq] at h
    obtain ⟨rfl, rfl⟩ := h
    exact ⟨a1, a2⟩
theorem numR_keep {s : ByteArray} : ∀ j k v, k ≤ s.size → (numR s j k v).1 ≤ s.size ∧ k ≤ (numR s j k v).1
 | 0, k, v, hk => ⟨hk, Nat.le_refl _⟩
 | j + 1, k, v, hk => by
  unfold numR
  split
  ·split
   ·rename_i ht
    have hlt := take_lt ht
    have := numR_keep (s := s) j (k + 1) (10 * v + digV s k) hlt
    exact ⟨this.1, by omega⟩
   ·exact ⟨hk, Nat.le_refl _⟩
  ·exact ⟨hk, Nat.le_refl _⟩
theorem cstR_keep {s : ByteArray} : ∀ j fr k C, k ≤ s.size → (cstR s j fr k C).2 ≤ s.size ∧ k ≤ (cstR s j fr k C).2
 | 0, fr, k, C, hk => ⟨hk, Nat.le_refl _⟩
 | j + 1, fr, k, C, hk => by
  unfold cstR
  split
  ·rename_i ht
   have hlt := take_lt ht
   have := cstR_keep (s := s) j ((ixC (chr s k)).toNat + 1) (k + 1) (C + 2 ^ (ixC (chr s k)).toNat) hlt
   exact ⟨this.1, by omega⟩
  ·exact ⟨hk, Nat.le_refl _⟩
theorem numP_keep {s : ByteArray} {c k : Nat} {P P' : Nat → Int} {k' : Nat} (h : numP s c P k = .ok (P', k')) : k' ≤ s.size ∧ k < k' ∧ ∃ v : Nat, P' = ov P c (v : Int) := by
 unfold numP numberR at h
 cases ht : takeC s k digS with
 | true =>
  have hlt := take_lt ht
  rw [if_pos ht] at h
  simp only [Except.map, Except.ok.injEq, Prod.mk.injEq] at h
  obtain ⟨rfl, rfl⟩ := h
  have := numR_keep (s := s) 5 (k + 1) (digV s k) hlt
  exact ⟨this.1, by omega, _, rfl⟩
 | false =>
  rw [if_neg (by rw [ht]; decide)] at h
  cases h
theorem inn_keep2 {s : ByteArray} {i k : Nat} {P P' : Nat → Int} {k' : Nat} (h : innR s i P k = .ok (P', k')) : k' ≤ s.size ∧ k < k' ∧ ∃ x : Int, P' = ov P (128 + min i 4) x := by
 match i with
 | 0 =>
  have h : sideR s P k = _ := h
  unfold sideR at h
  split at h
  ·rename_i ht
   have hlt := take_lt ht
   simp only [Except.ok.injEq, Prod.mk.injEq] at h
   obtain ⟨rfl, rfl⟩ := h
   exact ⟨hlt, by omega, _, rfl⟩
  ·cases h
 | 1 =>
  have h : castP s P k = _ := h
  unfold castP castleR at h
  split at h
  ·rename_i ht
   have hlt := take_lt ht
   simp only [Except.map, Except.ok.injEq, Prod.mk.injEq] at h
   obtain ⟨rfl, rfl⟩ := h
   exact ⟨hlt, by omega, _, rfl⟩
  ·split at h
   ·rename_i ht
    have hlt := take_lt ht
    simp only [Except.map, Except.ok.injEq, Prod.mk.injEq] at h
    obtain ⟨rfl, rfl⟩ := h
    have h2 := cstR_keep (s := s) 4 ((ixC (chr s k)).toNat + 1) (k + 1) (0 + 2 ^ (ixC (chr s k)).toNat) hlt
    rw [cstR, if_pos ht]
    exact ⟨h2.1, by omega, _, rfl⟩
   ·cases h
 | 2 =>
  have h : overP s P k = _ := h
  unfold overP overR at h
  split at h
  ·rename_i ht
   have hlt := take_lt ht
   simp only [Except.map, Except.ok.injEq, Prod.mk.injEq] at h
   obtain ⟨rfl, rfl⟩ := h
   exact ⟨hlt, by omega, _, rfl⟩
  ·split at h
   ·split at h
    ·rename_i ht
     have hlt := take_lt ht
     simp only [Except.map, Except.ok.injEq, Prod.mk.injEq] at h
     obtain ⟨rfl, rfl⟩ := h
     exact ⟨hlt, by omega, _, rfl⟩
    ·cases h
   ·cases h
 | 3 =>
  obtain ⟨h1, h2, v, h3⟩ := numP_keep (show numP s 131 P k = _ from h)
  exact ⟨h1, h2, _, h3⟩
 | i + 4 =>
  obtain ⟨h1, h2, v, h3⟩ := numP_keep (show numP s 132 P k = _ from h)
  rw [show 128 + min (i + 4) 4 = 132 by omega]
  exact ⟨h1, h2, _, h3⟩
theorem inn_keep {s : ByteArray} {i k : Nat} {P P' : Nat → Int} {k' : Nat} (hk : k ≤ s.size) (h : innR s i P k = .ok (P', k')) : k' ≤ s.size ∧ (i ≠ 1 → P' 129 = P 129) := by
 obtain ⟨h1, _, x, rfl⟩ := inn_keep2 h
 exact ⟨h1, fun hi => ov_out (by omega)⟩
end Go.Proofs.YtlaogmemhephnaaGreatDoor
set_option linter.unusedVariables false
set_option linter.unusedSimpArgs false
namespace Go.Proofs.YtlaogmemhephnaaGreatDoor
open Go Go.Am
def showV (P : Nat → Int) : V := if rightM P = true then .tup [.s (.str (showS P)), .s (.int .i64 0)] else .tup [.s (.str ⟨#[]⟩), .s (.int .i64 2)]
theorem rank_ex {P : Nat → Int} (h : VP P) {r : Nat} (hr : r < 8) : RF AM 19 [.agg 133 (ia P), .s (.int .i64 (r : Int))] (.s (.str (rankS P r))) := RF_of (rank_walk P r hr h)
theorem drank_ex {P : Nat → Int} (h : VP P) {r : Nat} (hr : r < 8) : RF AM 33 [.agg 133 (ia P), .s (.int .i64 (r : Int))] (.s (.str (rankS P r))) := RF_of (drank_walk P r hr h)
set_option maxHeartbeats 1000000 in
theorem Show_walk (P : Nat → Int) : WR AM 10 [.agg 133 (ia P)] [] (fun v _ _ => v = showV P) := by
 refine WR_fn (a := a10) rfl rfl (entryF _) (entry_E (Nat.le_of_ble_eq_true rfl)) (m := 0) rfl ?_
 refine WP_seq (WP_ops (WO_boxA rfl (WO_mv rfl (WO_mv rfl (WO_nil ?_)))))
 refine WP_seq (WP_seq (WP_ops ?_))
 refine WO_ldA0 rfl rfl (.head _) ?_
 refine WO_call0 rfl (RF_of (Right_run P)) rfl rfl rfl ?_
 refine WO_un rfl rfl (WO_nil ?_)
 refine WP_cond rfl (fun h => ?_) (fun h => ?_)
 ·refine WP_seq (WP_ops (WO_mv rfl (WO_mv rfl (WO_nil ?_))))
  refine WP_ret ⟨_, RS_tmp rfl (RS_tmp rfl RS_nil), ?_⟩
  have hr : rightM P = false := by simpa using h
  rw [showV, if_neg (by rw [hr]; decide)]; rfl
 have hr : rightM P = true := by simpa using h
 have hR := rt_of hr
 refine WP_skip ?_
 refine WP_seq (WP_ops (WO_mv rfl (WO_nil ?_)))
 refine WP_cut (fun f n L => f 1 = .ptr 0 0 133 ∧ ∃ b g, f 4 = .sl b 0 8 1 .whole ∧ (∀ i, i < 8 → g i = .str (rowF P i)) ∧ L = [(b, .sc .grow (8 * 1) g), (0, .sc .var 133 (ia P))]) ?_ ?_
 ·refine WP_seq (WP_ops (WO_mv rfl (WO_nil ?_)))
  refine WP_block ?_
  refine WP_loop (fun m f _ L => ∃ j : Nat, j ≤ 8 ∧ m = 9 - j ∧ f 1 = .ptr 0 0 133 ∧ f 5 = .s (.int .i64 (7 - (j : Int))) ∧ ((j = 0 ∧ f 4 = .snil ∧ L = [(0, .sc .var 133 (ia P))]) ∨ (0 < j ∧ ∃ b g, f 4 = .sl b 0 j 1 .whole ∧ (∀ i, i < j → g i = .str (rowF P i)) ∧ L = [(b, .sc .grow (j * 1) g), (0, .sc .var 133 (ia P))]))) (fun m f nb L hI => ?_) 9 ⟨0, by omega, rfl, rfl, rfl, .inl ⟨rfl, rfl, rfl⟩⟩
  obtain ⟨j, hj, hm, k1, k5, hc⟩ := hI
  refine WP_know (d := 1) k1 ?_
  refine WP_know (d := 5) k5 ?_
  refine WP_seq (WP_seq (WP_ops ?_))
  refine WO_mv (v := .s (.int _ _)) rfl ?_
  refine WO_bin (r := .bool _) rfl rfl rfl (WO_nil ?_)
  refine WP_cond rfl (fun h => ?_) (fun h => ?_)
  case refine_2 =>
   simp only [NM] at h
   obtain rfl : j = 8 := by omega
   rcases hc with ⟨e, _⟩ | ⟨_, b, g, k4, hg, rfl⟩
   ·omega
   exact WP_exit (xhere ⟨_, .refl _, rfl, b, g, k4, hg, rfl⟩)
  simp only [NM] at h
  have hj8 : j < 8 := by omega
  have e7 : (7 - (j : Int)) = ((7 - j : Nat) : Int) := by omega
  refine WP_skip ?_
  rcases hc with ⟨rfl, k4, rfl⟩ | ⟨hj0, b, g, k4, hg, rfl⟩
  ·refine WP_know (d := 4) k4 ?_
   refine WP_seq (WP_block (WP_ops ?_))
   refine WO_mv rfl ?_
   refine WO_ldA0 rfl rfl (.head _) ?_
   refine WO_mv (v := .s (.int _ _)) rfl ?_
   refine WO_call0 (av := [.agg 133 (ia P), .s (.int .i64 ((7 : Nat) : Int))]) rfl (rank_ex hR.vp (by omega)) rfl rfl rfl ?_
   refine WO_mkslG rfl (.one rfl .nil) ?_
   refine WO_appNilS rfl rfl (.head _) (by omega) rfl ?_
   refine WO_mv rfl (WO_nil ?_)
   refine WP_ops ?_
   refine WO_mv (v := .s (.int _ _)) rfl (WO_sub rfl rfl (by omega) (WO_mv (v := .s (.int _ _)) rfl (WO_nil ?_)))
   refine ⟨8, _, by omega, .cons_cons _ (.cons _ (.refl _)), 1, by omega, rfl, rfl, rfl, .inr ⟨by omega, _, _, rfl, fun i hi => ?_, rfl⟩⟩
   obtain rfl : i = 0 := by omega
   rfl
  ·refine WP_know (d := 4) k4 ?_
   refine WP_seq (WP_block (WP_ops ?_))
   refine WO_mv rfl ?_
   refine WO_ldA0 rfl rfl (.tail _ (.head _)) ?_
   refine WO_mv (v := .s (.int _ _)) rfl ?_
   refine WO_call0 (av := [.agg 133 (ia P), .s (.int .i64 ((7 - j : Nat) : Int))]) rfl (rank_ex hR.vp (by omega)) (by rw [← e7]; rfl) rfl rfl ?_
   refine WO_mkslG rfl (.one rfl .nil) ?_
   refine WO_appWS rfl rfl (.head _) (.there .here) (by simp [roomy]; omega) ?_
   refine WO_mv rfl (WO_nil ?_)
   refine WP_ops ?_
   refine WO_mv (v := .s (.int _ _)) rfl (WO_sub rfl rfl (by omega) (WO_mv (v := .s (.int _ _)) rfl (WO_nil ?_)))
   refine ⟨9 - (j + 1), _, by omega, .cons_cons _ (.cons _ (.cons _ (.refl _))), j + 1, by omega, rfl, rfl, by rw [show (7 - ((j + 1 : Nat) : Int)) = 7 - (j : Int) - 1 by omega]; rfl, .inr ⟨by omega, _, _, rfl, fun i hi => ?_, by rw [show (j + 1) * 1 = j * 1 + 1 * 1 by omega]⟩⟩
   by_cases e : i < j
   ·show (bif Nat.blt i (j * 1) then g (0 + i) else _) = _
    rw [show Nat.blt i (j * 1) = true from Nat.ble_eq_true_of_le (by omega), cond_true, Nat.zero_add]
    exact hg i e
   ·obtain rfl : i = j := by omega
    show (bif Nat.blt i (i * 1) then _ else over (fun _ => S.str ⟨#[]⟩) (0 * 1) 1 (fun _ => S.str (rankS P (7 - i))) (0 + (i - i * 1))) = _
    rw [show Nat.blt i (i * 1) = false from Bool.eq_false_iff.2 fun q => by have := Nat.le_of_ble_eq_true q; omega, cond_false, show 0 + (i - i * 1) = 0 by omega]
    rfl
 rintro f n L ⟨k1, b, g, k4, hg, rfl⟩
 refine WP_know (d := 1) k1 ?_
 refine WP_know (d := 4) k4 ?_
 refine WP_seq (WP_ops (WO_mv rfl (WO_nil ?_)))
 refine WP_cut (fun f n L => f 1 = .ptr 0 0 133 ∧ f 4 = .sl b 0 8 1 .whole ∧ f 6 = .s (.str (mayF (P 129) 4)) ∧ L = [(b, .sc .grow (8 * 1) g), (0, .sc .var 133 (ia P))]) ?_ ?_
 ·refine WP_seq (WP_ops (WO_rng rfl (WO_nil ?_)))
  refine WP_block ?_
  refine WP_loop (fun m f _ L => ∃ k : Nat, ∃ q : Nat, k ≤ 4 ∧ m = 4 - k ∧ f 1 = .ptr 0 0 133 ∧ f 4 = .sl b 0 8 1 .whole ∧ f 6 = .s (.str (mayF (P 129) k)) ∧ f 21 = .ptr q 0 0 ∧ L = [(q, .sit ⟨#[75, 81, 107, 113]⟩ k), (b, .sc .grow (8 * 1) g), (0, .sc .var 133 (ia P))]) (fun m f nb L hI => ?_) 4 ⟨0, _, by omega, rfl, rfl, rfl, rfl, rfl, rfl⟩
  obtain ⟨k, q, hk, hm, k1, k4, k6, k21, rfl⟩ := hI
  refine WP_know (d := 1) k1 ?_
  refine WP_know (d := 4) k4 ?_
  refine WP_know (d := 6) k6 ?_
  refine WP_know (d := 21) k21 ?_
  by_cases hk4 : k < 4
  ·have hms := may_size (P 129) k
   have hbit : ∀ k : Fin 4, ((⟨#[75, 81, 107, 113]⟩ : ByteArray).data.getD k.val 0).toNat < 128 := by decide
   refine WP_seq (WP_ops ?_)
   refine WO_nxtT rfl hk4 (hbit ⟨k, hk4⟩) .here ?_
   refine WO_ext rfl rfl (WO_nil ?_)
   refine WP_seq ?_
   refine WP_cond rfl (fun _ => WP_skip ?_) (fun h => by cases h)
   refine WP_block (WP_seq (WP_ops ?_))
   refine WO_ext rfl rfl (WO_mv rfl (WO_nil ?_))
   refine WP_seq (WP_ops ?_)
   refine WO_fa (o' := 129) rfl rfl rfl ?_
   refine WO_ldI (x := P 129) rfl rfl (.tail _ (.tail _ (.head _))) rfl ?_
   refine WO_mv (v := .s (.int _ _)) rfl ?_
   refine WO_bin rfl rfl (cast_shk hR.cast hk4) ?_
   refine WO_bin rfl rfl (cast_and1 (cast_bd hR.cast hk4)) ?_
   refine WO_bin (r := .bool _) rfl rfl rfl (WO_nil ?_)
   refine WP_cond rfl (fun h => ?_) (fun h => ?_)
   ·simp only [NM] at h
    refine WP_ops ?_
    refine WO_mv rfl (WO_mv (v := .s (.int _ _)) rfl (WO_mv (v := .s (.int _ _)) rfl ?_))
    refine WO_add rfl rfl (by omega) ?_
    refine WO_slS (a := (k : Int)) (b := (k : Int) + 1) rfl rfl rfl (by show _ ∧ _ ∧ _ ≤ ((4 : Nat) : Int); omega) ?_
    rw [cast_ext hk4]
    refine WO_bin (r := .str (mayF (P 129) (k + 1))) rfl rfl ((add_str (by show _ + 1 ≤ _; omega)).trans (by rw [mayF, if_pos h])) ?_
    refine WO_mv rfl (WO_nil ?_)
    exact ⟨4 - (k + 1), _, by omega, .refl _, k + 1, q, by omega, rfl, rfl, rfl, rfl, rfl, rfl⟩
   ·simp only [NM] at h
    refine WP_skip ?_
    exact ⟨4 - (k + 1), _, by omega, .refl _, k + 1, q, by omega, rfl, rfl, rfl, by rw [mayF, if_neg h]; rfl, rfl, rfl⟩
  ·obtain rfl : k = 4 := by omega
   refine WP_seq (WP_ops ?_)
   refine WO_nxtF rfl (Nat.le_refl _) (.head _) ?_
   refine WO_ext rfl rfl (WO_nil ?_)
   refine WP_seq ?_
   refine WP_cond rfl (fun h => by cases h) (fun _ => ?_)
   exact WP_exit (xhere ⟨_, .cons _ (.refl _), rfl, rfl, rfl, rfl⟩)
 rintro f n L ⟨k1, k4, k6, rfl⟩
 refine WP_know (d := 1) k1 ?_
 refine WP_know (d := 4) k4 ?_
 refine WP_know (d := 6) k6 ?_
 have hs := show_size hR
 have hs0 := show_pos P
 have hrs := rows_size P
 have hr0 := rows_pos P
 refine WP_seq (WP_par ?_)
 refine WO_mv rfl ?_
 refine WO_callqL (av := [.sl b 0 8 1 .whole, .s (.str ⟨#[47]⟩)]) (rs := [b]) (Bs := [_]) rfl rfl rfl (RL_of1 rfl (Join_many (md := .ro) (q := 8 * 1) (g := g) (c := .whole) (rowF P) ⟨#[47]⟩ 7 (by omega) (by omega) trivial (fun i hi => hg i (by omega)) hr0 (by omega))) rfl (by simp [V.refsL, V.refs]) (by simp [V.refsL, V.refs]) (by simp [rnL, V.renL, V.ren, pos]) ⟨.head _, rfl, trivial⟩ rfl rfl rfl ?_
 refine WO_fa (o' := 128) rfl rfl rfl ?_
 refine WO_ldI (x := P 128) rfl rfl (.tail _ (.head _)) rfl ?_
 refine WO_fa (o' := 128) rfl rfl rfl ?_
 refine WO_ldI (x := P 128) rfl rfl (.tail _ (.head _)) rfl ?_
 have hside := hR.side
 refine WO_add rfl rfl (by omega) ?_
 refine WO_slS (a := P 128) (b := P 128 + 1) rfl rfl rfl (by show _ ∧ _ ∧ _ ≤ ((2 : Nat) : Int); omega) ?_
 rw [side_ext hside]
 refine WO_mv rfl ?_
 refine WO_callq0 rfl (or_run _) rfl rfl rfl ?_
 refine WO_fa (o' := 130) rfl rfl rfl ?_
 refine WO_ldI (x := P 130) rfl rfl (.tail _ (.head _)) rfl ?_
 refine WO_callq0 rfl (Name_run (P 130)) rfl rfl rfl ?_
 refine WO_callq0 rfl (or_run _) rfl rfl rfl ?_
 refine WO_fa (o' := 131) rfl rfl rfl ?_
 refine WO_ldI (x := P 131) rfl rfl (.tail _ (.head _)) rfl ?_
 have hh := hR.half
 have hf := hR.full
 refine WO_callq0 rfl (itoa_run (by omega)) rfl rfl rfl ?_
 refine WO_fa (o' := 132) rfl rfl rfl ?_
 refine WO_ldI (x := P 132) rfl rfl (.tail _ (.head _)) rfl ?_
 refine WO_callq0 rfl (itoa_run (by omega)) rfl rfl rfl ?_
 refine WO_mkslG rfl (.one rfl (.one rfl (.one rfl (.one rfl (.one rfl (.one rfl .nil)))))) ?_
 refine WO_callL (av := [.sl n 0 6 1 (.ex 6), .s (.str ⟨#[32]⟩)]) (rs := [n]) (Bs := [_]) rfl rfl rfl (RL_of1 rfl (Join_many (md := .var) (q := 6) (c := .ex 6) (partF P) ⟨#[32]⟩ 5 (by omega) (by omega) (Nat.le_refl _) (fun i hi => ?_) hs0 (by show (showS P).size ≤ _; omega))) rfl (by simp [V.refsL, V.refs]) (by simp [V.refsL, V.refs]) (by simp [rnL, V.renL, V.ren, pos]) ⟨.head _, rfl, trivial⟩ rfl rfl (.cons .here .nil) ?_
 ·match i, hi with
  | 0, _ => rfl
  | 1, _ => rfl
  | 2, _ => rfl
  | 3, _ => rfl
  | 4, _ => rfl
  | 5, _ => rfl
 refine WO_mv rfl (WO_mv rfl (WO_nil ?_))
 refine WP_ret ⟨_, RS_tmp rfl (RS_tmp rfl RS_nil), ?_⟩
 rw [showV, if_pos hr]; rfl
end Go.Proofs.YtlaogmemhephnaaGreatDoor
set_option linter.unusedVariables false
set_option linter.unusedSimpArgs false
namespace Go.Proofs.YtlaogmemhephnaaGreatDoor
open Go Go.Am
def accF (P : Nat → Int) : Nat → ByteArray
 | 0 => .empty
 | j + 1 => if j < 7 then accF P j ++ rankS P (7 - j) ++ ⟨#[47]⟩ else accF P j ++ rankS P (7 - j)
theorem acc_size (P : Nat → Int) : ∀ j, (accF P j).size ≤ 18 * j
 | 0 => Nat.le_refl _
 | j + 1 => by
  have h1 := acc_size P j
  have h2 := rank_size P (7 - j)
  have e : (⟨#[47]⟩ : ByteArray).size = 1 := rfl
  unfold accF
  split
  ·rw [ByteArray.size_append, ByteArray.size_append, e]; omega
  ·rw [ByteArray.size_append]; omega
theorem empty_app (s : ByteArray) : ByteArray.empty ++ s = s := by simp
theorem acc_cat (P : Nat → Int) : ∀ j, j < 7 → accF P (j + 1) = catF (rowF P) ⟨#[47]⟩ j ++ ⟨#[47]⟩
 | 0, _ => by
  rw [accF, if_pos (by omega), accF, empty_app]; rfl
 | j + 1, h => by
  rw [accF, if_pos (by omega), acc_cat P j (by omega), catF]; rfl
theorem acc_all (P : Nat → Int) : accF P 8 = catF (rowF P) ⟨#[47]⟩ 7 := by
 rw [accF, if_neg (by omega), acc_cat P 6 (by omega), catF]; rfl
theorem may0 : ∀ k, mayF 0 k = .empty
 | 0 => rfl
 | k + 1 => by
  rw [mayF, if_neg (by simp), may0 k]
theorem may_pos {c : Int} (h : 0 ≤ c ∧ c ≤ 15) (h0 : c ≠ 0) : (mayF c 4).size ≠ 0 := by
 have : ∀ c : Fin 16, c.val ≠ 0 → (mayF (c.val : Int) 4).size ≠ 0 := by decide +kernel
 have := this ⟨c.toNat, by omega⟩ (by simp; omega)
 simp only [Int.toNat_of_nonneg h.1] at this
 exact this
def dashS (c : Int) : ByteArray := if c = 0 then ⟨#[45]⟩ else .empty
theorem dash_may {c : Int} (h : 0 ≤ c ∧ c ≤ 15) : dashS c ++ mayF c 4 = orS (mayF c 4) := by
 unfold dashS orS
 by_cases e : c = 0
 ·subst e
  rw [if_pos rfl, may0, if_pos (show ByteArray.empty.size = 0 from rfl)]; simp
 ·rw [if_neg e, if_neg (may_pos h e), empty_app]
theorem name_or {x : Int} (h : x = -1 ∨ (0 ≤ x ∧ x < 64)) : orS (nameS x) = if 0 ≤ x then nameS x else ⟨#[45]⟩ := by
 unfold orS
 rcases h with rfl | h
 ·rw [if_neg (show ¬ (0 : Int) ≤ -1 by omega), if_pos (show (nameS (-1)).size = 0 from rfl)]
 ·rw [if_pos h.1, if_neg]
  rw [name_in h]
  show (2 : Nat) ≠ 0
  decide
theorem side_at : ∀ s : Fin 2, (match s.val with | 0 => (⟨#[32, 119, 32]⟩ : ByteArray) | _ => ⟨#[32, 98, 32]⟩) = ⟨#[32]⟩ ++ ⟨#[sideB s.val]⟩ ++ ⟨#[32]⟩ := by decide +kernel
theorem show_flat (P : Nat → Int) (h : Rt P) : accF P 8 ++ (if P 128 = 1 then ⟨#[32, 98, 32]⟩ else ⟨#[32, 119, 32]⟩) ++ dashS (P 129) ++ mayF (P 129) 4 ++ ⟨#[32]⟩ ++ (if 0 ≤ P 130 then nameS (P 130) else ⟨#[45]⟩) ++ ⟨#[32]⟩ ++ ⟨(Lib.itoa (P 131)).toArray⟩ ++ ⟨#[32]⟩ ++ ⟨(Lib.itoa (P 132)).toArray⟩ = showS P := by
 have hs : (if P 128 = 1 then (⟨#[32, 98, 32]⟩ : ByteArray) else ⟨#[32, 119, 32]⟩) = ⟨#[32]⟩ ++ ⟨#[sideB (P 128)]⟩ ++ ⟨#[32]⟩ := by
  rcases h.side with e | e
  ·rw [e, if_neg (by omega)]; exact side_at 0
  ·rw [e, if_pos rfl]; exact side_at 1
 rw [hs, acc_all, ← name_or h.over]
 have hd := dash_may h.cast
 simp only [showS, catF, partF, ByteArray.append_assoc]
 rw [← ByteArray.append_assoc (a := dashS (P 129)), hd]
set_option maxHeartbeats 1000000 in
theorem dShow_walk (P : Nat → Int) : WR AM 17 [.agg 133 (ia P)] [] (fun v _ _ => v = showV P) := by
 refine WR_fn (a := a17) rfl rfl (entryF _) (entry_E (Nat.le_of_ble_eq_true rfl)) (m := 0) rfl ?_
 refine WP_seq (WP_ops (WO_boxA rfl (WO_mv rfl (WO_mv rfl (WO_nil ?_)))))
 refine WP_seq (WP_seq (WP_ops ?_))
 refine WO_ldA0 rfl rfl (.head _) ?_
 refine WO_call0 rfl (RF_of (rRight_run P)) rfl rfl rfl ?_
 refine WO_un rfl rfl (WO_nil ?_)
 refine WP_cond rfl (fun h => ?_) (fun h => ?_)
 ·refine WP_seq (WP_ops (WO_mv rfl (WO_mv rfl (WO_nil ?_))))
  refine WP_ret ⟨_, RS_tmp rfl (RS_tmp rfl RS_nil), ?_⟩
  have hr : rightM P = false := by simpa using h
  rw [showV, if_neg (by rw [hr]; decide)]; rfl
 have hr : rightM P = true := by simpa using h
 have hR := rt_of hr
 have hside := hR.side
 refine WP_skip ?_
 refine WP_seq (WP_ops (WO_mv rfl (WO_nil ?_)))
 refine WP_cut (fun f n L => f 1 = .ptr 0 0 133 ∧ f 4 = .s (.str (accF P 8)) ∧ L = [(0, .sc .var 133 (ia P))]) ?_ ?_
 ·refine WP_seq (WP_ops (WO_mv rfl (WO_nil ?_)))
  refine WP_block ?_
  refine WP_loop (fun m f _ L => ∃ j : Nat, j ≤ 8 ∧ m = 9 - j ∧ f 1 = .ptr 0 0 133 ∧ f 5 = .s (.int .i64 (7 - (j : Int))) ∧ f 4 = .s (.str (accF P j)) ∧ L = [(0, .sc .var 133 (ia P))]) (fun m f nb L hI => ?_) 9 ⟨0, by omega, rfl, rfl, rfl, rfl, rfl⟩
  obtain ⟨j, hj, hm, k1, k5, k4, rfl⟩ := hI
  refine WP_know (d := 1) k1 ?_
  refine WP_know (d := 5) k5 ?_
  refine WP_know (d := 4) k4 ?_
  refine WP_seq (WP_seq (WP_ops ?_))
  refine WO_mv (v := .s (.int _ _)) rfl ?_
  refine WO_bin (r := .bool _) rfl rfl rfl (WO_nil ?_)
  refine WP_cond rfl (fun h => ?_) (fun h => ?_)
  case refine_2 =>
   simp only [NM] at h
   obtain rfl : j = 8 := by omega
   exact WP_exit (xhere ⟨_, .refl _, rfl, rfl, rfl⟩)
  simp only [NM] at h
  have hj8 : j < 8 := by omega
  have e7 : (7 - (j : Int)) = ((7 - j : Nat) : Int) := by omega
  have ha := acc_size P j
  have hk := rank_size P (7 - j)
  refine WP_skip ?_
  refine WP_seq (WP_block (WP_seq (WP_ops ?_)))
  refine WO_mv rfl ?_
  refine WO_ldA0 rfl rfl (.head _) ?_
  refine WO_mv (v := .s (.int _ _)) rfl ?_
  refine WO_call0 (av := [.agg 133 (ia P), .s (.int .i64 ((7 - j : Nat) : Int))]) rfl (drank_ex hR.vp (by omega)) (by rw [← e7]; rfl) rfl rfl ?_
  refine WO_bin rfl rfl (add_str (by omega)) ?_
  refine WO_mv rfl (WO_nil ?_)
  refine WP_seq (WP_ops ?_)
  refine WO_mv (v := .s (.int _ _)) rfl ?_
  refine WO_bin (r := .bool _) rfl rfl rfl (WO_nil ?_)
  have es : (⟨#[47]⟩ : ByteArray).size = 1 := rfl
  refine WP_cond rfl (fun h => ?_) (fun h => ?_)
  ·simp only [NM] at h
   refine WP_ops ?_
   refine WO_mv rfl ?_
   refine WO_bin rfl rfl (add_str (by rw [ByteArray.size_append, es]; omega)) ?_
   refine WO_mv rfl (WO_nil ?_)
   refine WP_ops ?_
   refine WO_mv (v := .s (.int _ _)) rfl (WO_sub rfl rfl (by omega) (WO_mv (v := .s (.int _ _)) rfl (WO_nil ?_)))
   exact ⟨9 - (j + 1), _, by omega, .refl _, j + 1, by omega, rfl, rfl, by rw [show (7 - ((j + 1 : Nat) : Int)) = 7 - (j : Int) - 1 by omega]; rfl, by rw [accF, if_pos (by omega)]; rfl, rfl⟩
  ·simp only [NM] at h
   refine WP_skip ?_
   refine WP_ops ?_
   refine WO_mv (v := .s (.int _ _)) rfl (WO_sub rfl rfl (by omega) (WO_mv (v := .s (.int _ _)) rfl (WO_nil ?_)))
   exact ⟨9 - (j + 1), _, by omega, .refl _, j + 1, by omega, rfl, rfl, by rw [show (7 - ((j + 1 : Nat) : Int)) = 7 - (j : Int) - 1 by omega]; rfl, by rw [accF, if_neg (by omega)]; rfl, rfl⟩
 rintro f n L ⟨k1, k4, rfl⟩
 refine WP_know (d := 1) k1 ?_
 refine WP_know (d := 4) k4 ?_
 have ha := acc_size P 8
 have hs3 : ∀ b : Bool, (if b = true then (⟨#[32, 98, 32]⟩ : ByteArray) else ⟨#[32, 119, 32]⟩).size = 3 := by decide
 have hs3' : (if P 128 = 1 then (⟨#[32, 98, 32]⟩ : ByteArray) else ⟨#[32, 119, 32]⟩).size = 3 := by
  rcases hside with e | e <;> rw [e] <;> rfl
 refine WP_seq (WP_ops ?_)
 refine WO_mv rfl ?_
 refine WO_mkslG rfl (.one rfl (.one rfl .nil)) ?_
 refine WO_fa (o' := 128) rfl rfl rfl ?_
 refine WO_ldI (x := P 128) rfl rfl (.tail _ (.head _)) rfl ?_
 refine WO_ixs rfl rfl (by omega) ?_
 refine WO_ldS (x := .str (if P 128 = 1 then ⟨#[32, 98, 32]⟩ else ⟨#[32, 119, 32]⟩)) rfl rfl (.head _) (by rcases hside with e | e <;> rw [e] <;> rfl) ?_
 refine WO_bin rfl rfl (add_str (by rw [hs3']; omega)) ?_
 refine WO_mv rfl (WO_nil ?_)
 refine WP_cut (fun f n L => f 1 = .ptr 0 0 133 ∧ f 4 = .s (.str (accF P 8 ++ (if P 128 = 1 then ⟨#[32, 98, 32]⟩ else ⟨#[32, 119, 32]⟩) ++ dashS (P 129))) ∧ L = [(0, .sc .var 133 (ia P))]) ?_ ?_
 ·refine WP_seq (WP_ops ?_)
  refine WO_fa (o' := 129) rfl rfl rfl ?_
  refine WO_ldI (x := P 129) rfl rfl (.tail _ (.head _)) rfl ?_
  refine WO_bin (r := .bool _) rfl rfl rfl (WO_nil ?_)
  refine WP_cond rfl (fun h => ?_) (fun h => ?_)
  ·simp only [NM] at h
   refine WP_ops ?_
   refine WO_mv rfl ?_
   refine WO_bin rfl rfl (add_str (by rw [ByteArray.size_append, hs3']; show _ + 1 ≤ _; omega)) ?_
   refine WO_mv rfl (WO_nil ?_)
   exact ⟨_, .cons _ (.refl _), rfl, by rw [dashS, if_pos h]; rfl, rfl⟩
  ·simp only [NM] at h
   refine WP_skip ?_
   exact ⟨_, .cons _ (.refl _), rfl, by rw [dashS, if_neg h]; simp; rfl, rfl⟩
 rintro f n L ⟨k1, k4, rfl⟩
 refine WP_know (d := 1) k1 ?_
 refine WP_know (d := 4) k4 ?_
 generalize hA : accF P 8 ++ (if P 128 = 1 then ⟨#[32, 98, 32]⟩ else ⟨#[32, 119, 32]⟩) ++ dashS (P 129) = A1
 have hA1 : A1.size ≤ 150 := by
  rw [← hA, ByteArray.size_append, ByteArray.size_append, hs3']
  have : (dashS (P 129)).size ≤ 1 := by unfold dashS; split <;> decide
  omega
 refine WP_cut (fun f n L => f 1 = .ptr 0 0 133 ∧ f 4 = .s (.str (A1 ++ mayF (P 129) 4)) ∧ L = [(0, .sc .var 133 (ia P))]) ?_ ?_
 ·refine WP_seq (WP_ops (WO_mv rfl (WO_nil ?_)))
  refine WP_block ?_
  refine WP_loop (fun m f _ L => ∃ k : Nat, k ≤ 4 ∧ m = 4 - k ∧ f 1 = .ptr 0 0 133 ∧ f 4 = .s (.str (A1 ++ mayF (P 129) k)) ∧ f 6 = .s (.int .i64 (k : Int)) ∧ L = [(0, .sc .var 133 (ia P))]) (fun m f nb L hI => ?_) 4 ⟨0, by omega, rfl, rfl, by simp [mayF]; rfl, rfl, rfl⟩
  obtain ⟨k, hk, hm, k1, k4, k6, rfl⟩ := hI
  refine WP_know (d := 1) k1 ?_
  refine WP_know (d := 4) k4 ?_
  refine WP_know (d := 6) k6 ?_
  have hms := may_size (P 129) k
  refine WP_seq (WP_seq (WP_ops ?_))
  refine WO_mv (v := .s (.int _ _)) rfl ?_
  refine WO_bin (r := .bool _) rfl rfl rfl (WO_nil ?_)
  refine WP_cond rfl (fun h => ?_) (fun h => ?_)
  case refine_2 =>
   simp only [NM] at h
   obtain rfl : k = 4 := by omega
   exact WP_exit (xhere ⟨_, .refl _, rfl, rfl, rfl⟩)
  simp only [NM] at h
  have hk4 : k < 4 := by omega
  have hbd := cast_bd hR.cast hk4
  refine WP_skip ?_
  refine WP_seq (WP_block (WP_seq (WP_ops ?_)))
  refine WO_fa (o' := 129) rfl rfl rfl ?_
  refine WO_ldI (x := P 129) rfl rfl (.head _) rfl ?_
  refine WO_mv (v := .s (.int _ _)) rfl ?_
  refine WO_bin rfl rfl (cast_shk hR.cast hk4) ?_
  refine WO_rem rfl rfl (by omega) ?_
  refine WO_bin (r := .bool _) rfl rfl rfl (WO_nil ?_)
  refine WP_cond rfl (fun h => ?_) (fun h => ?_)
  ·simp only [NM] at h
   refine WP_ops ?_
   refine WO_mv rfl (WO_mv (v := .s (.int _ _)) rfl (WO_mv (v := .s (.int _ _)) rfl ?_))
   refine WO_add rfl rfl (by omega) ?_
   refine WO_slS (a := (k : Int)) (b := (k : Int) + 1) rfl rfl rfl (by show _ ∧ _ ∧ _ ≤ ((4 : Nat) : Int); omega) ?_
   rw [cast_ext hk4]
   refine WO_bin (r := .str (A1 ++ mayF (P 129) (k + 1))) rfl rfl ((add_str (by rw [ByteArray.size_append]; show _ + 1 ≤ _; omega)).trans (by rw [mayF, if_pos h, ByteArray.append_assoc])) ?_
   refine WO_mv rfl (WO_nil ?_)
   refine WP_ops ?_
   refine WO_mv (v := .s (.int _ _)) rfl (WO_add rfl rfl (by omega) (WO_mv (v := .s (.int _ _)) rfl (WO_nil ?_)))
   exact ⟨4 - (k + 1), _, by omega, .refl _, k + 1, by omega, rfl, rfl, rfl, by rw [Int.natCast_add]; rfl, rfl⟩
  ·simp only [NM] at h
   refine WP_skip ?_
   refine WP_ops ?_
   refine WO_mv (v := .s (.int _ _)) rfl (WO_add rfl rfl (by omega) (WO_mv (v := .s (.int _ _)) rfl (WO_nil ?_)))
   exact ⟨4 - (k + 1), _, by omega, .refl _, k + 1, by omega, rfl, rfl, by rw [mayF, if_neg h]; rfl, by rw [Int.natCast_add]; rfl, rfl⟩
 rintro f n L ⟨k1, k4, rfl⟩
 refine WP_know (d := 1) k1 ?_
 refine WP_know (d := 4) k4 ?_
 have hms := may_size (P 129) 4
 refine WP_seq (WP_ops (WO_mv rfl (WO_nil ?_)))
 refine WP_cut (fun f n L => f 1 = .ptr 0 0 133 ∧ f 4 = .s (.str (A1 ++ mayF (P 129) 4)) ∧ f 7 = .s (.str (if 0 ≤ P 130 then nameS (P 130) else ⟨#[45]⟩)) ∧ L = [(0, .sc .var 133 (ia P))]) ?_ ?_
 ·refine WP_seq (WP_ops ?_)
  refine WO_fa (o' := 130) rfl rfl rfl ?_
  refine WO_ldI (x := P 130) rfl rfl (.head _) rfl ?_
  refine WO_bin (r := .bool _) rfl rfl rfl (WO_nil ?_)
  refine WP_cond rfl (fun h => ?_) (fun h => ?_)
  ·simp only [NM] at h
   refine WP_ops ?_
   refine WO_fa (o' := 130) rfl rfl rfl ?_
   refine WO_ldI (x := P 130) rfl rfl (.head _) rfl ?_
   refine WO_call0 rfl (RF_of (dName_run (P 130))) rfl rfl rfl ?_
   refine WO_mv rfl (WO_nil ?_)
   exact ⟨_, .refl _, rfl, rfl, by rw [if_pos h]; rfl, rfl⟩
  ·simp only [NM] at h
   refine WP_skip ?_
   exact ⟨_, .refl _, rfl, rfl, by rw [if_neg (by omega)]; rfl, rfl⟩
 rintro f n L ⟨k1, k4, k7, rfl⟩
 refine WP_know (d := 1) k1 ?_
 refine WP_know (d := 4) k4 ?_
 refine WP_know (d := 7) k7 ?_
 have hh := hR.half
 have hf := hR.full
 have h4 := itoa_size hR.half.1 (by omega)
 have h5 := itoa_size (n := P 132) (by omega) (by omega)
 have hn : (if 0 ≤ P 130 then nameS (P 130) else (⟨#[45]⟩ : ByteArray)).size ≤ 2 := by
  split
  ·exact name_size _
  ·decide
 have e1 : (⟨#[32]⟩ : ByteArray).size = 1 := rfl
 generalize hN : (if 0 ≤ P 130 then nameS (P 130) else (⟨#[45]⟩ : ByteArray)) = Nm at hn
 refine WP_seq (WP_par ?_)
 refine WO_mv rfl ?_
 refine WO_bin rfl rfl (add_str (by simp only [ByteArray.size_append, e1]; omega)) ?_
 refine WO_mv rfl ?_
 refine WO_bin rfl rfl (add_str (by simp only [ByteArray.size_append, e1]; omega)) ?_
 refine WO_bin rfl rfl (add_str (by simp only [ByteArray.size_append, e1]; omega)) ?_
 refine WO_fa (o' := 131) rfl rfl rfl ?_
 refine WO_ldI (x := P 131) rfl rfl (.head _) rfl ?_
 refine WO_callq0 rfl (itoa_run (by omega)) rfl rfl rfl ?_
 refine WO_bin rfl rfl (add_str (by simp only [ByteArray.size_append, e1]; omega)) ?_
 refine WO_bin rfl rfl (add_str (by simp only [ByteArray.size_append, e1]; omega)) ?_
 refine WO_fa (o' := 132) rfl rfl rfl ?_
 refine WO_ldI (x := P 132) rfl rfl (.head _) rfl ?_
 refine WO_call0 rfl (itoa_run (by omega)) rfl rfl rfl ?_
 refine WO_bin rfl rfl (add_str (by simp only [ByteArray.size_append, e1]; omega)) ?_
 refine WO_mv rfl (WO_mv rfl (WO_nil ?_))
 refine WP_ret ⟨_, RS_tmp rfl (RS_tmp rfl RS_nil), ?_⟩
 rw [showV, if_pos hr, ← show_flat P hR, hA, hN]; rfl
end Go.Proofs.YtlaogmemhephnaaGreatDoor
set_option linter.unusedVariables false
set_option linter.unusedSimpArgs false
namespace Go.Proofs.YtlaogmemhephnaaGreatDoor
open Go Go.Am
def sfx (s : ByteArray) (k : Nat) : List UInt8 := s.data.toList.drop k
def hdNot (J : ByteArray) : List UInt8 → Prop
 | [] => True
 | c :: _ => hasB J c = false
def flL (b : Nat) : List UInt8 := if b = 0 then [] else [UInt8.ofNat (48 + b)]
def tlN (P : Nat → Int) (r : Nat) : Nat → Nat → List UInt8
 | 0, b => flL b
 | n + 1, b => if bareB P (8 * r + (8 - (n + 1))) = true then tlN P r n (b + 1) else flL b ++ letB (P (2 * (8 * r + (8 - (n + 1))))) (P (2 * (8 * r + (8 - (n + 1))) + 1)) :: tlN P r n 0
def setR (Q P : Nat → Int) (r f : Nat) : Nat → Int := fun i => if 2 * (8 * r + f) ≤ i ∧ i < 2 * (8 * r + 8) then P i else Q i
def rowsT (P : Nat → Int) : Nat → List UInt8
 | 0 => []
 | j + 1 => tlN P j 8 0 ++ (if 0 < j then 47 :: rowsT P j else [])
def setL (Q P : Nat → Int) (j : Nat) : Nat → Int := fun i => if i < 16 * j then P i else Q i
end Go.Proofs.YtlaogmemhephnaaGreatDoor
set_option linter.unusedVariables false
set_option linter.unusedSimpArgs false
namespace Go.Proofs.YtlaogmemhephnaaGreatDoor
open Go Go.Am
def valF (v : Nat) (ds : List UInt8) : Nat := ds.foldl (fun v c => 10 * v + (c.toNat - 48)) v
def castN (c : Nat) : List Nat := [0, 1, 2, 3].filter fun m => decide (c / 2 ^ m % 2 = 1)
def castX (c : Nat) : List UInt8 := if c = 0 then [45] else (castN c).map castB
def overX (x : Int) : List UInt8 := if x = -1 then [45] else [UInt8.ofNat (97 + x.toNat % 8), UInt8.ofNat (49 + x.toNat / 8)]
def textL (P : Nat → Int) : List UInt8 := rowsT P 8 ++ 32 :: sideB (P 128) :: 32 :: (castX (P 129).toNat ++ 32 :: (overX (P 130) ++ 32 :: (Lib.decDigits (P 131).toNat ++ 32 :: Lib.decDigits (P 132).toNat)))
end Go.Proofs.YtlaogmemhephnaaGreatDoor
set_option linter.unusedVariables false
set_option linter.unusedSimpArgs false
namespace Go.Proofs.YtlaogmemhephnaaGreatDoor
open Go Go.Am
def okS (P : Nat → Int) (s : Nat) : Prop := (P (2 * s) = 0 ∧ P (2 * s + 1) = 0) ∨ (1 ≤ P (2 * s) ∧ P (2 * s) ≤ 6 ∧ (P (2 * s + 1) = 0 ∨ P (2 * s + 1) = 1))
structure Read (P : Nat → Int) : Prop where
 vp : VP P
 side : P 128 = 0 ∨ P 128 = 1
 cast : 0 ≤ P 129 ∧ P 129 ≤ 15
 over : P 130 = -1 ∨ (0 ≤ P 130 ∧ P 130 < 64)
 half : 0 ≤ P 131
 full : 0 ≤ P 132
 out : ∀ i, 133 ≤ i → P i = 0
end Go.Proofs.YtlaogmemhephnaaGreatDoor
set_option linter.unusedVariables false
set_option linter.unusedSimpArgs false
namespace Go.Proofs.YtlaogmemhephnaaGreatDoor
open Go Go.Am
theorem One_map : One fun b => .map b := ⟨fun _ => by simp [V.refs], fun _ _ => by simp [V.ren]⟩
theorem row_RLok {s : ByteArray} {r : Nat} (hr : r < 8) {k : Nat} {P P' : Nat → Int} {k' : Nat} (hs : s.size ≤ 1000) (hk : k ≤ s.size) (h : rowR s r 9 0 true k P = .ok (P', k')) :
  RL AM 46 [.ptr 0 0 135, .s (.int .i64 (r : Int)), .map 1] [.sc .var 135 (rdG s k P), .mp .var (pcs 12)] (.tup []) [.sc .var 135 (rdG s k' P'), .mp .var (pcs 12)] := by
 obtain ⟨v, σ', n', L', h1, h2, h3, h4⟩ := row_walk s r hr k P hs hk
 rw [h] at h4
 obtain ⟨rfl, h4⟩ := h4
 exact ⟨σ', h1, (h2.2.mem h4).2, rfl, (h2.2.mem h3).2, rfl, trivial⟩
theorem row_RLno {s : ByteArray} {r : Nat} (hr : r < 8) {k : Nat} {P : Nat → Int} {e : Nat} (hs : s.size ≤ 1000) (hk : k ≤ s.size) (h : rowR s r 9 0 true k P = .error e) :
  ∃ P', RL AM 46 [.ptr 0 0 135, .s (.int .i64 (r : Int)), .map 1] [.sc .var 135 (rdG s k P), .mp .var (pcs 12)] (.pan (stk e)) [.sc .var 135 (rdG s e P'), .mp .var (pcs 12)] := by
 obtain ⟨v, σ', n', L', h1, h2, h3, h4⟩ := row_walk s r hr k P hs hk
 rw [h] at h4
 obtain ⟨rfl, P', h4⟩ := h4
 exact ⟨P', σ', h1, (h2.2.mem h4).2, rfl, (h2.2.mem h3).2, rfl, trivial⟩
end Go.Proofs.YtlaogmemhephnaaGreatDoor
set_option linter.unusedVariables false
set_option linter.unusedSimpArgs false
namespace Go.Proofs.YtlaogmemhephnaaGreatDoor
open Go Go.Am
def AllK (s : ByteArray) : KR := fun v _ L => match allR s with
 | .ok P' => v = .tup [] ∧ ∃ k, (0, Blk.sc .var 135 (rdG s k P')) ∈ L
 | .error e => v = .pan (stk e) ∧ ∃ k P', (0, Blk.sc .var 135 (rdG s k P')) ∈ L
theorem all_err {s : ByteArray} {e : Nat} (h : rksR s 8 0 (fun _ => 0) = .error e) : allR s = .error e := by
 unfold allR
 rw [h]
theorem all_err2 {s : ByteArray} {e k : Nat} {P : Nat → Int} (h : rksR s 8 0 (fun _ => 0) = .ok (P, k)) (h2 : partsR s 5 0 k P = .error e) : allR s = .error e := by
 unfold allR
 rw [h]
 simp only [h2]
theorem all_ok2 {s : ByteArray} {k k' : Nat} {P P' : Nat → Int} (h : rksR s 8 0 (fun _ => 0) = .ok (P, k)) (h2 : partsR s 5 0 k P = .ok (P', k')) : allR s = if k' < s.size then .error k' else .ok P' := by
 unfold allR
 rw [h]
 simp only [h2]
abbrev partsV : List V := [.fn 48 [.ptr 1 0 1], .bm 50 (.ptr 0 0 135), .bm 51 (.ptr 0 0 135), .fn 52 [.ptr 1 0 1], .fn 54 [.ptr 1 0 1]]
theorem numP_ok {s : ByteArray} {c k : Nat} {P : Nat → Int} (h : takeC s k digS = true) : numP s c P k = .ok (ov P c ((numR s 5 (k + 1) (digV s k)).2 : Int), (numR s 5 (k + 1) (digV s k)).1) := by
 unfold numP numberR
 rw [if_pos h]; rfl
theorem numP_no {s : ByteArray} {c k : Nat} {P : Nat → Int} (h : takeC s k digS = false) : numP s c P k = .error k := by
 unfold numP numberR
 rw [if_neg (by rw [h]; decide)]; rfl
section
variable {N : Nat} {f : FE} {n : Nat} {L : HA} {K : KN} {Zp : V → KN} {l : List I} {d : Nat} {x : O} {s : ByteArray} {k : Nat} {P : Nat → Int}
theorem WO_bound {fid : FuncId} {r : Except Nat ((Nat → Int) × Nat)} (hd : Does fid [] s k P r) (hf : x.fv N f = .bm fid (.ptr 0 0 135)) {L' : Blk → HA} (hat : ∀ B, At 0 (.sc .var 135 (rdG s k P)) B L (L' B))
  (kok : ∀ P' k', r = .ok (P', k') → WO AM N l (upd f d (.tup [])) n (L' (.sc .var 135 (rdG s k' P'))) K Zp) (kno : ∀ e P', r = .error e → Zp (stk e) f n (L' (.sc .var 135 (rdG s e P')))) : WO AM N (⟨some d, none, .h (.call x [])⟩ :: l) f n L K Zp := by
 cases r with
 | ok w =>
  obtain ⟨P', k'⟩ := w
  exact WO_callL (fv := .bm fid (.ptr 0 0 135)) (args := []) (av := [.ptr 0 0 135]) (rs := [0]) (Bs := [_]) hf rfl rfl hd rfl (Nat.le_of_ble_eq_true rfl) (fun _ h => h) rfl ⟨(hat .dead).mem, rfl, trivial⟩ rfl rfl (.cons (hat _) .nil) (kok P' k' rfl)
 | error e =>
  obtain ⟨P', hd⟩ := hd
  exact WO_callX (fv := .bm fid (.ptr 0 0 135)) (args := []) (av := [.ptr 0 0 135]) (rs := [0]) (Bs := [_]) hf rfl rfl hd rfl (Nat.le_of_ble_eq_true rfl) (fun _ h => h) rfl ⟨(hat .dead).mem, rfl, trivial⟩ rfl rfl (.cons (hat _) .nil) (kno e P' rfl)
theorem WO_part {i : Nat} (hi : i < 5) (hf : some (x.fv N f) = partsV[i]?) (hs : s.size ≤ 1000) (hk : k ≤ s.size) (hP : i = 1 → P 129 = 0) (hb : (1, Blk.vs .var [.ptr 0 0 135]) ∈ L) {L' : Blk → HA} (hat : ∀ B, At 0 (.sc .var 135 (rdG s k P)) B L (L' B))
  (kok : ∀ P' k', innR s i P k = .ok (P', k') → WO AM N l (upd f d (.tup [])) n (L' (.sc .var 135 (rdG s k' P'))) K Zp) (kno : ∀ e P', innR s i P k = .error e → Zp (stk e) f n (L' (.sc .var 135 (rdG s e P')))) : WO AM N (⟨some d, none, .h (.call x [])⟩ :: l) f n L K Zp := by
 match i, hi with
 | 0, _ =>
  have hf : x.fv N f = _ := Option.some.inj hf
  cases ht : takeC s k wbS with
  | true => exact WO_callBox (side_okW s k P hs hk ht) hf rfl hb (hat _) (kok _ _ (by show sideR s P k = _; unfold sideR; rw [if_pos ht]))
  | false => exact WO_callBoxX (side_noW s k P hs hk ht) hf rfl hb (hat _) (kno k P (by show sideR s P k = _; unfold sideR; rw [if_neg (by rw [ht]; decide)]))
 | 1, _ => exact WO_bound (castle_does s k P hs hk (hP rfl)) (Option.some.inj hf) hat kok kno
 | 2, _ => exact WO_bound (over_does s k P hs hk) (Option.some.inj hf) hat kok kno
 | 3, _ =>
  have hf : x.fv N f = _ := Option.some.inj hf
  cases ht : takeC s k digS with
  | true => exact WO_callBox (half_ok s k P hs hk ht) hf rfl hb (hat _) (kok _ _ (numP_ok ht))
  | false => exact WO_callBoxX (half_no s k P hs hk ht) hf rfl hb (hat _) (kno k P (numP_no ht))
 | 4, _ =>
  have hf : x.fv N f = _ := Option.some.inj hf
  cases ht : takeC s k digS with
  | true => exact WO_callBox (full_ok s k P hs hk ht) hf rfl hb (hat _) (kok _ _ (numP_ok ht))
  | false => exact WO_callBoxX (full_no s k P hs hk ht) hf rfl hb (hat _) (kno k P (numP_no ht))
end
theorem all_walk (s : ByteArray) (hs : s.size ≤ 1000) : WR AM 25 [.ptr 0 0 135] [.sc .var 135 (rdG s 0 (fun _ => 0))] (AllK s) := by
 refine WR_fn (a := a25) rfl rfl (entryF _) (entry_E (Nat.le_of_ble_eq_true rfl)) (m := 1) rfl ?_
 refine WP_seq (WP_ops (WO_boxV rfl rfl (WO_nil ?_)))
 refine WP_seq (WP_ops (WO_callN0 One_map pcs_loose rfl pieces_RN (WO_mv rfl (WO_nil ?_))))
 refine WP_cut (fun f n L => ∃ k P, 2 < n ∧ rksR s 8 0 (fun _ => 0) = .ok (P, k) ∧ k ≤ s.size ∧ f 1 = .ptr 1 0 1 ∧ L = [(2, .mp .var (pcs 12)), (1, .vs .var [.ptr 0 0 135]), (0, .sc .var 135 (rdG s k P))]) ?_ ?_
 ·refine WP_seq (WP_ops (WO_mv rfl (WO_nil ?_)))
  refine WP_block ?_
  refine WP_loop (fun m f n L => ∃ (j k : Nat) (P : Nat → Int), 2 < n ∧ m = j ∧ j ≤ 8 ∧ k ≤ s.size ∧ rksR s j k P = rksR s 8 0 (fun _ => 0) ∧ f 1 = .ptr 1 0 1 ∧ f 2 = .map 2 ∧ f 3 = .s (.int .i64 ((j : Int) - 1)) ∧ L = [(2, .mp .var (pcs 12)), (1, .vs .var [.ptr 0 0 135]), (0, .sc .var 135 (rdG s k P))]) (fun m f n L hI => ?_) 8 ⟨8, 0, _, by omega, rfl, by omega, by omega, rfl, rfl, rfl, rfl, rfl⟩
  obtain ⟨j, k, P, hn, hm, hj, hk, he, k1, k2, k3, rfl⟩ := hI
  cases j with
  | zero =>
   refine WP_know (d := 1) k1 ?_
   refine WP_know (d := 3) k3 ?_
   refine WP_seq (WP_seq (WP_ops ?_))
   refine WO_mv (v := .s (.int _ _)) rfl (WO_bin (r := .bool false) rfl rfl rfl (WO_nil ?_))
   refine WP_cond rfl (fun h => by cases h) (fun _ => ?_)
   refine WP_exit (xhere ?_)
   exact ⟨_, .refl _, k, P, hn, he.symm, hk, rfl, rfl⟩
  | succ j =>
  have ej : (((j + 1 : Nat) : Int) - 1) = (j : Int) := by omega
  rw [ej] at k3
  refine WP_know (d := 1) k1 ?_
  refine WP_know (d := 2) k2 ?_
  refine WP_know (d := 3) k3 ?_
  refine WP_seq (WP_seq (WP_ops ?_))
  refine WO_mv (v := .s (.int _ _)) rfl (WO_bin (r := .bool true) rfl rfl (by show some (S.bool (decide _)) = _; rw [decide_eq_true (by omega)]) (WO_nil ?_))
  refine WP_cond rfl (fun _ => ?_) (fun h => by cases h)
  rw [rksR] at he
  refine WP_skip ?_
  refine WP_seq (WP_block (WP_seq (WP_ops ?_)))
  refine WO_ldV rfl rfl (.tail _ (.head _)) rfl ?_
  refine WO_mv (v := .s (.int _ _)) rfl (WO_mv rfl ?_)
  cases hrow : rowR s j 9 0 true k P with
  | error e =>
   rw [hrow] at he
   obtain ⟨P', hrl⟩ := row_RLno (show j < 8 by omega) hs hk hrow
   refine WO_callX (av := [.ptr 0 0 135, .s (.int .i64 (j : Int)), .map 2]) (rs := [0, 2]) (Bs := [_, _]) rfl rfl rfl hrl rfl (Nat.le_of_ble_eq_true rfl) (fun _ h => h) rfl ⟨.tail _ (.tail _ (.head _)), rfl, .head _, pcs_loose, trivial⟩ rfl rfl (.cons (.there (.there .here)) (.cons .here .nil)) ?_
   show AllK s _ _ _
   unfold AllK
   rw [all_err he.symm]
   exact ⟨rfl, _, _, .tail _ (.tail _ (.head _))⟩
  | ok rr =>
   obtain ⟨P', k'⟩ := rr
   rw [hrow] at he
   simp only at he
   obtain ⟨hk', _⟩ := row_keep (show j < 8 by omega) _ _ _ _ _ _ _ hk hrow
   refine WO_callL (av := [.ptr 0 0 135, .s (.int .i64 (j : Int)), .map 2]) (rs := [0, 2]) (Bs := [_, _]) rfl rfl rfl (row_RLok (show j < 8 by omega) hs hk hrow) rfl (Nat.le_of_ble_eq_true rfl) (fun _ h => h) rfl ⟨.tail _ (.tail _ (.head _)), rfl, .head _, pcs_loose, trivial⟩ rfl rfl (.cons (.there (.there .here)) (.cons .here .nil)) (WO_nil ?_)
   refine WP_seq (WP_ops ?_)
   refine WO_mv (v := .s (.int _ _)) rfl (WO_bin (r := .bool _) rfl rfl rfl (WO_nil ?_))
   refine WP_cond rfl (fun h => ?_) (fun h => ?_)
   ·simp only [NM] at h
    rw [if_pos (by omega)] at he
    refine WP_ops ?_
    refine WO_ldV rfl rfl (.tail _ (.head _)) rfl ?_
    refine WO_mkslG rfl (.one rfl .nil) ?_
    cases ht : takeC s k' slaS with
    | false =>
     rw [if_neg (by rw [ht]; decide)] at he
     refine WO_mustN (J := slaS) rfl rfl (by omega) (some_one rfl) hs hk' ht (.head _) (.tail _ (.tail _ (.tail _ (.head _)))) ?_
     show AllK s _ _ _
     unfold AllK
     rw [all_err he.symm]
     exact ⟨rfl, _, _, .tail _ (.tail _ (.tail _ (.head _)))⟩
    | true =>
     rw [if_pos ht] at he
     have hlt := take_lt ht
     refine WO_mustY (J := slaS) rfl rfl (by omega) (some_one rfl) hs sla0 ht rfl (.head _) (.there (.there (.there .here))) (WO_nil ?_)
     refine WP_ops ?_
     refine WO_mv (v := .s (.int _ _)) rfl (WO_sub rfl rfl (by omega) (WO_mv (v := .s (.int _ _)) rfl (WO_nil ?_)))
     exact ⟨j, _, by omega, .cons _ (.refl _), j, k' + 1, P', by omega, rfl, by omega, by omega, he, rfl, rfl, rfl, rfl⟩
   ·simp only [NM] at h
    rw [if_neg (by omega)] at he
    obtain rfl : j = 0 := by omega
    refine WP_skip ?_
    refine WP_ops ?_
    refine WO_mv (v := .s (.int _ _)) rfl (WO_sub rfl rfl (by omega) (WO_mv (v := .s (.int _ _)) rfl (WO_nil ?_)))
    exact ⟨0, _, by omega, .refl _, 0, k', P', by omega, rfl, by omega, by omega, he, rfl, rfl, rfl, rfl⟩
 rintro f n L ⟨k0, P0, hn, hrk, hk0, g1, rfl⟩
 have hP0 : P0 129 = 0 := (rks_keep _ _ _ _ _ (Nat.le_refl 8) (Nat.zero_le _) hrk).2 129 (by omega)
 refine WP_know (d := 1) g1 ?_
 refine WP_seq (WP_ops ?_)
 refine WO_mkfn rfl (WO_ldV rfl rfl (.tail _ (.head _)) rfl ?_)
 refine WO_p (v := .bm _ (.ptr 0 0 135)) rfl ?_
 refine WO_ldV rfl rfl (.tail _ (.head _)) rfl ?_
 refine WO_p (v := .bm _ (.ptr 0 0 135)) rfl ?_
 refine WO_mkfn rfl (WO_mkfn rfl ?_)
 refine WO_build (v := .aggv partsV) rfl ?_
 refine WO_alloctV rfl ?_
 refine WO_stVA (c := partsV) rfl rfl rfl rfl rfl rfl rfl rfl .here (WO_nil ?_)
 refine WP_cut (fun f n L => ∃ k P, 2 < n ∧ partsR s 5 0 k0 P0 = .ok (P, k) ∧ k ≤ s.size ∧ f 1 = .ptr 1 0 1 ∧ L = [(1, .vs .var [.ptr 0 0 135]), (0, .sc .var 135 (rdG s k P))]) ?_ ?_
 ·refine WP_seq (WP_ops ?_)
  refine WO_ldVA rfl rfl (.head _) rfl rfl (WO_mv (v := .s (.int _ _)) rfl (WO_nil ?_))
  refine WP_block ?_
  refine WP_sub (L' := [_, _]) (.cons _ (.cons _ (.cons_cons _ (.cons_cons _ (.refl _))))) ?_
  refine WP_loop (fun m f n L => ∃ (i k : Nat) (P : Nat → Int), 2 < n ∧ i ≤ 5 ∧ m = 5 - i ∧ k ≤ s.size ∧ (i ≤ 1 → P 129 = 0) ∧ partsR s (5 - i) i k P = partsR s 5 0 k0 P0 ∧ f 1 = .ptr 1 0 1 ∧ f 29 = .aggv partsV ∧ f 30 = .s (.int .i64 (i : Int)) ∧ L = [(1, .vs .var [.ptr 0 0 135]), (0, .sc .var 135 (rdG s k P))]) (fun m f n L hI => ?_) 5 ⟨0, k0, P0, by omega, by omega, rfl, hk0, fun _ => hP0, rfl, rfl, rfl, rfl, rfl⟩
  obtain ⟨i, k, P, hn, hi, hm, hk, hP, he, k1, k29, k30, rfl⟩ := hI
  refine WP_know (d := 1) k1 ?_
  refine WP_know (d := 29) k29 ?_
  refine WP_know (d := 30) k30 ?_
  refine WP_seq (WP_ops ?_)
  by_cases h5 : i = 5
  ·subst h5
   refine WO_bin (r := .bool false) rfl rfl rfl (WO_nil ?_)
   refine WP_seq (WP_cond rfl (fun h => by cases h) (fun _ => WP_exit (xhere ?_)))
   exact ⟨_, .refl _, k, P, hn, he.symm, hk, rfl, rfl⟩
  refine WO_bin (r := .bool true) rfl rfl (by show some (S.bool (decide _)) = _; rw [decide_eq_true (by omega)]) (WO_nil ?_)
  refine WP_seq (WP_cond rfl (fun _ => WP_skip ?_) (fun h => by cases h))
  refine WP_seq (WP_block (WP_seq (WP_ops ?_)))
  have hi5 : i < 5 := by omega
  obtain ⟨pv, hpv⟩ : ∃ pv, partsV[i]? = some pv := ⟨_, List.getElem?_eq_getElem (show i < partsV.length from hi5)⟩
  refine WO_ixV rfl rfl rfl (by omega) (by rw [show ((i : Int)).toNat * 1 = i by omega]; exact hpv) ?_
  refine WO_mv rfl (WO_nil ?_)
  refine WP_seq (WP_ops ?_)
  refine WO_ldV rfl rfl (.head _) rfl ?_
  refine WO_mkslG rfl (.one rfl .nil) ?_
  obtain ⟨j, hj⟩ : ∃ j, 5 - i = j + 1 := ⟨4 - i, by omega⟩
  rw [hj, partsR, partR] at he
  cases ht : takeC s k spcS with
  | false =>
   unfold spR at he
   rw [if_neg (by rw [ht]; decide)] at he
   refine WO_mustN (J := spcS) rfl rfl (by omega) (some_one rfl) hs hk ht (.head _) (.tail _ (.tail _ (.head _))) ?_
   show AllK s _ _ _
   unfold AllK
   rw [all_err2 hrk he.symm]
   exact ⟨rfl, _, _, .tail _ (.tail _ (.head _))⟩
  | true =>
   have hlt := take_lt ht
   unfold spR at he
   rw [if_pos ht] at he
   refine WO_mustY (J := spcS) rfl rfl (by omega) (some_one rfl) hs spc0 ht rfl (.head _) (.there (.there .here)) (WO_nil ?_)
   refine WP_ops (WO_mv rfl ?_)
   refine WO_part (i := i) (P := P) (k := k + 1) (L' := fun B => [_, _, (0, B)]) hi5 hpv.symm hs hlt (fun h => hP (by omega)) (.tail _ (.head _)) (fun B => .there (.there .here)) (fun P' k' hr => ?_) (fun e P' hr => ?_)
   ·rw [hr] at he
    simp only at he
    obtain ⟨hk', hP'⟩ := inn_keep hlt hr
    refine WO_nil ?_
    refine WP_ops (WO_add rfl rfl (by omega) (WO_mv (v := .s (.int _ _)) rfl (WO_nil ?_)))
    exact ⟨5 - (i + 1), _, by omega, .cons _ (.refl _), i + 1, k', P', by omega, by omega, rfl, hk', fun h => (hP' (by omega)).trans (hP (by omega)), by rw [show 5 - (i + 1) = j by omega]; exact he, rfl, rfl, by rw [show ((i + 1 : Nat) : Int) = (i : Int) + 1 by omega]; rfl, rfl⟩
   ·rw [hr] at he
    show AllK s _ _ _
    unfold AllK
    rw [all_err2 hrk he.symm]
    exact ⟨rfl, _, _, .tail _ (.tail _ (.head _))⟩
 rintro f n L ⟨k, P, hn, hp, hk, g1, rfl⟩
 have hall := all_ok2 hrk hp
 refine WP_know (d := 1) g1 ?_
 refine WP_seq (WP_par ?_)
 refine WO_ldV rfl rfl (.head _) rfl ?_
 refine WO_nilckP rfl (WO_fa (o' := 0) rfl rfl rfl (WO_fa (o' := 1) rfl rfl rfl ?_))
 refine WO_ldS rfl rfl (.tail _ (.head _)) rfl ?_
 refine WO_ldV rfl rfl (.head _) rfl ?_
 refine WO_nilckP rfl (WO_fa (o' := 0) rfl rfl rfl (WO_fa (o' := 0) rfl rfl rfl ?_))
 refine WO_ldS rfl rfl (.tail _ (.head _)) rfl ?_
 refine WO_lenS rfl (WO_bin (r := .bool _) rfl rfl rfl (WO_nil ?_))
 refine WP_cond rfl (fun h => ?_) (fun h => ?_)
 ·simp only [NM] at h
  rw [if_pos (by omega)] at hall
  refine WP_ops ?_
  refine WO_ldV rfl rfl (.head _) rfl ?_
  refine WO_nilckP rfl (WO_fa (o' := 0) rfl rfl rfl (WO_fa (o' := 1) rfl rfl rfl ?_))
  refine WO_ldS rfl rfl (.tail _ (.head _)) rfl ?_
  refine WO_buildI rfl (.one rfl .nil) ?_
  refine WO_p (v := stk k) rfl ?_
  refine WO_pnc rfl ?_
  show AllK s _ _ _
  unfold AllK
  rw [hall]
  exact ⟨rfl, _, _, .tail _ (.head _)⟩
 ·simp only [NM] at h
  rw [if_neg (by omega)] at hall
  refine WP_skip ?_
  refine ⟨_, RS_nil, ?_⟩
  unfold AllK
  rw [hall]
  exact ⟨rfl, _, .tail _ (.head _)⟩
end Go.Proofs.YtlaogmemhephnaaGreatDoor
set_option linter.unusedVariables false
set_option linter.unusedSimpArgs false
namespace Go.Proofs.YtlaogmemhephnaaGreatDoor
open Go Go.Am
def cL : Code → Code
 | .seq a _ => a
 | c => c
def cR : Code → Code
 | .seq _ b => b
 | c => c
def cOps : Code → Array Oper
 | .region _ ops _ => ops
 | _ => #[]
def cThen : Code → Code
 | .cond _ a _ => a
 | c => c
noncomputable abbrev dB : Code := Tryz.f24.body.getD .skip
noncomputable abbrev dZ : Code := cR (cR (cThen (cR (cR dB))))
def dL : List I := [⟨some 17, none, .p (.build (.ints 133) [])⟩,
 ⟨some 18, none, .p (.fa 0 1 (.t 4))⟩,
 ⟨some 19, none, .h (.load false 1 (.t 18))⟩,
 ⟨none, none, .h (.store 133 (.t 0) (.t 17))⟩,
 ⟨none, none, .h (.store 1 (.t 1) (.t 19))⟩,
 ⟨none, none, .h (.store 1 (.t 2) (.k (.s (.int .i64 13))))⟩]
theorem dC : compL Tryz.prog (cOps dZ).toList (cOps dZ).toList = some dL := by kernel_rfl
theorem dO : ordersF (cOps dZ) (cOps dZ).size (Array.replicate (cOps dZ).size false) = [[0, 1, 2, 3, 4, 5], [0, 1, 3, 2, 4, 5], [0, 3, 1, 2, 4, 5], [1, 0, 2, 3, 4, 5], [1, 0, 3, 2, 4, 5], [1, 2, 0, 3, 4, 5]] := by kernel_rfl
abbrev zro : Nat → S := ia fun _ => 0
abbrev onI (x : Int) : Nat → S := fun _ => .int .i64 x
abbrev dH (k : Int) : Heap := [.sc .var 133 zro, .sc .var 1 (onI 0), .sc .var 1 (onI 0), .sc .var 1 (onI k)]
abbrev dE : Env := [.ptr 0 0 133, .ptr 1 0 1, .ptr 2 0 1, .undef, .ptr 3 0 1, .undef, .undef, .undef, .undef, .undef, .undef, .undef, .undef, .undef, .undef, .undef, .undef, .undef, .undef, .undef]
theorem over_self (n : Nat) (g : Nat → S) : over g 0 n g = g := by
 funext i
 unfold over
 cases (Nat.ble 0 i && Nat.blt i (0 + n)) <;> rfl
theorem d_run (k : Int) (p : List Nat) (hp : p ∈ [[0, 1, 2, 3, 4, 5], [0, 1, 3, 2, 4, 5], [0, 3, 1, 2, 4, 5], [1, 0, 2, 3, 4, 5], [1, 0, 3, 2, 4, 5], [1, 2, 0, 3, 4, 5]]) :
  opsX (Run AM) (pickL dL p) dE (dH k) = some (.normal, [.ptr 0 0 133, .ptr 1 0 1, .ptr 2 0 1, .undef, .ptr 3 0 1, .undef, .undef, .undef, .undef, .undef, .undef, .undef, .undef, .undef, .undef, .undef, .undef, .agg 133 zro, .ptr 3 0 1, .s (.int .i64 k)],
   [.sc .var 133 (over zro 0 133 zro), .sc .var 1 (over (onI 0) 0 1 (onI k)), .sc .var 1 (over (onI 0) 0 1 (onI 13)), .sc .var 1 (onI k)]) := by
 simp only [List.mem_cons, List.not_mem_nil, or_false] at hp
 rcases hp with rfl | rfl | rfl | rfl | rfl | rfl <;> rfl
end Go.Proofs.YtlaogmemhephnaaGreatDoor
set_option linter.unusedVariables false
set_option linter.unusedSimpArgs false
namespace Go.Proofs.YtlaogmemhephnaaGreatDoor
open Go Go.Am
theorem catch_idle (p q r : Value) (w : World) :
  CallsD Tryz.prog 24 #[p, q, r] .returning w fun e u' w' => e = .returned (.tuple #[]) ∧ u' = .returning ∧ w' = w := by
 refine callsD_of_wpS Tryz.func24 rfl fun c₀ cs hu => ?_
 apply wpS_seq
 apply wpS_region
 simp [wpOpsS, go_sem, recoverD, hu, Tryz.ntmps24, Exit.thenS]
 apply wpS_seq
 apply wpS_region
 simp [wpOpsS, go_sem, Exit.thenS]
 refine wpS_cond (t := false) (by simp [Act.eval, Array.replicate]) ?_
 simp only [Bool.false_eq_true, if_false]
 refine wpS_of_wp (wp_skip ?_)
 cases c₀
 simp_all [bodyPostS, results, Tryz.results24]
theorem assert_stuck (v : Value) (w : World) : (Instr.typeAssert (.iface 49 v) 20 49 true).run Tryz.prog w = .ok (.tuple #[v, .bool true]) w := by
 simp [Instr.typeAssert, go_sem, Tryz.underlying49]
abbrev dH3 : Heap := [.sc .var 133 zro, .sc .var 1 (onI 0), .sc .var 1 (onI 0)]
abbrev dT (k : Int) : Heap := [.sc .var 133 (over zro 0 133 zro), .sc .var 1 (over (onI 0) 0 1 (onI k)), .sc .var 1 (over (onI 0) 0 1 (onI 13)), .sc .var 1 (onI k)]
theorem dEnv {ι : Inj} {A : Array Value} {p q r z : Value} (hs : A.size = 20) (g0 : A[0]? = some p) (g1 : A[1]? = some q) (g2 : A[2]? = some r) (g4 : A[4]? = some z) (h0 : VR ι (.ptr 0 0 133) p) (h1 : VR ι (.ptr 1 0 1) q) (h2 : VR ι (.ptr 2 0 1) r) (h4 : VR ι (.ptr 3 0 1) z) : EnvR ι dE A := by
 obtain ⟨l⟩ := A
 refine VRL.of_at (by simpa using hs.symm) fun i x v hx hv => ?_
 simp at g0 g1 g2 g4
 match i with
 | 0 => rw [g0] at hv; cases hx; cases hv; exact h0
 | 1 => rw [g1] at hv; cases hx; cases hv; exact h1
 | 2 => rw [g2] at hv; cases hx; cases hv; exact h2
 | 3 => cases hx; trivial
 | 4 => rw [g4] at hv; cases hx; cases hv; exact h4
 | i + 5 =>
  have hx : (List.replicate 15 V.undef)[i]? = some x := hx
  rw [List.getElem?_replicate] at hx
  split at hx
  ·injection hx with hx; subst hx; trivial
  ·cases hx
set_option maxHeartbeats 1000000 in
set_option maxRecDepth 100000 in
theorem catch_pan [Tabs] {ι : Inj} {W : World} (hR : RelW ι dH3 W) (hD : Dom ι dH3) {p q r : Value} (h0 : VR ι (.ptr 0 0 133) p) (h1 : VR ι (.ptr 1 0 1) q) (h2 : VR ι (.ptr 2 0 1) r) (k : Int) (older : List PanicEntry) :
  CallsD Tryz.prog 24 #[p, q, r] (.panicking ({ v := .iface 49 (.agg #[.int .i64 k]), recovered := false } :: older)) W fun e u' w' => e = .returned (.tuple #[]) ∧ u' = .panicking ({ v := .iface 49 (.agg #[.int .i64 k]), recovered := true } :: older) ∧ ∃ ι', Post ι dH3 W ι' (dT k) w' := by
 refine callsD_of_wpS Tryz.func24 rfl fun c₀ cs hu => ?_
 apply wpS_seq
 apply wpS_region
 simp [wpOpsS, go_sem, recoverD, hu, Tryz.ntmps24, Exit.thenS]
 apply wpS_seq
 apply wpS_region
 simp [wpOpsS, go_sem, Exit.thenS]
 refine wpS_cond (t := true) (by simp [Act.eval, Array.replicate]) ?_
 simp only [if_true]
 apply wpS_seq
 apply wpS_region
 have hta := fun v w => assert_stuck v w
 simp [wpOpsS, go_sem, Exit.thenS, hta]
 apply wpS_seq
 apply wpS_seq
 apply wpS_region
 simp [wpOpsS, go_sem, Exit.thenS]
 refine wpS_cond (t := false) (by simp [Act.eval, Array.replicate]) ?_
 simp only [Bool.false_eq_true, if_false]
 refine wpS_of_wp (wp_skip ?_)
 simp only [Exit.thenS]
 have hn : ι dH3.length = none := by
  cases q : ι dH3.length with
  | none => rfl
  | some x => exact absurd (hD _ _ q) (Nat.lt_irrefl _)
 have q2 := alloc_q hR hn (.cells #[.int .i64 k] 49) (.sc .var 1 (onI k)) ⟨W.heap.size, 0, 1, 0, 1⟩ rfl ⟨rfl, fun i hi => by
  obtain rfl : i = 0 := by omega
  rw [Lib.cell_of_heap (heap_alloc_at W _)]; rfl, fun _ => ⟨rfl, Nat.le_refl _, _, _, heap_alloc_at W _, rfl, trivial⟩⟩
 have hD2 := q2.post.dom hD
 have hx : exec (Run AM) 0 (.parc (ordersF (cOps dZ) (cOps dZ).size (Array.replicate (cOps dZ).size false)) dL) dE (dH k) = some (.normal, [.ptr 0 0 133, .ptr 1 0 1, .ptr 2 0 1, .undef, .ptr 3 0 1, .undef, .undef, .undef, .undef, .undef, .undef, .undef, .undef, .undef, .undef, .undef, .undef, .agg 133 zro, .ptr 3 0 1, .s (.int .i64 k)], dT k) := by
  rw [dO]
  have hl : opsX (Run AM) dL dE (dH k) = _ := d_run k [0, 1, 2, 3, 4, 5] (.head _)
  simp only [exec]
  rw [if_pos fun p hp => by rw [d_run k p hp, hl]; exact sameR_refl _, hl]
 refine wpS_of_wp (parc_sound runOK (by kernel_rfl) dC (ι := ι.put dH3.length ⟨W.heap.size, 0, 1, 0, 1⟩) (e := dE) (σ := dH k) ?_ q2.rel hD2 hx _ ?_)
 ·have e4 : VR (ι.put dH3.length ⟨W.heap.size, 0, 1, 0, 1⟩) (.ptr 3 0 1) (.pointer (some { block := W.heap.size, off := 0 })) := ⟨_, Inj.put_same _ _ _, Nat.le_refl _, rfl⟩
  exact dEnv (by simp) (by simp) (by simp) (by simp) (by simp) (h0.ext q2.ext _ _) (h1.ext q2.ext _ _) (h2.ext q2.ext _ _) e4
 ·rintro a' W' ι' y rfl hE hP hd
  exact ⟨hd, _, rfl, _, by simp [results, Tryz.results24], rfl, rfl, ι', q2.post.trans hD hP⟩
end Go.Proofs.YtlaogmemhephnaaGreatDoor
set_option linter.unusedVariables false
set_option linter.unusedSimpArgs false
namespace Go.Proofs.YtlaogmemhephnaaGreatDoor
open Go Go.Am Go.RowKit
def parseR (s : ByteArray) : (Nat → Int) × Int × Int :=
 if 128 < s.size then (fun _ => 0, 0, 3) else match allR s with
  | .error e => (fun _ => 0, (e : Int), 13)
  | .ok P => if rightM P = true then (P, 0, 0) else (fun _ => 0, 0, 2)
def tup3 (r : (Nat → Int) × Int × Int) : V := .tup [.agg 133 (ia r.1), .s (.int .i64 r.2.1), .s (.int .i64 r.2.2)]
abbrev parseV (s : ByteArray) : V := tup3 (parseR s)
noncomputable abbrev pB : Code := Tryz.f11.body.getD .skip
abbrev qL : AC → AC
 | .seq a _ => a
 | c => c
abbrev qR : AC → AC
 | .seq _ b => b
 | c => c
abbrev qOps : AC → List I
 | .ops l => l
 | _ => []
abbrev qB : AC := a11.body
theorem pcA : compC Tryz.prog false (cL pB) = some (qL qB) := by kernel_rfl
theorem pcB : compC Tryz.prog false (cL (cR pB)) = some (qL (qR qB)) := by kernel_rfl
theorem pc4 : compC Tryz.prog false (cL (cR (cR (cR pB)))) = some (qL (qR (qR (qR qB)))) := by kernel_rfl
theorem pc5 : compL Tryz.prog (cOps (cL (cR (cR (cR (cR pB)))))).toList (cOps (cL (cR (cR (cR (cR pB)))))).toList = some (qOps (qL (qR (qR (qR (qR qB)))))) := by kernel_rfl
theorem pc6 : compC Tryz.prog false (cR (cR (cR (cR (cR pB))))) = some (qR (qR (qR (qR (qR qB))))) := by kernel_rfl
theorem pcR : compR Tryz.prog Tryz.f11.results.toList = some [.cell 2 true 133, .cell 3 false 1, .cell 4 false 1] := by kernel_rfl
theorem wp_WP [Tabs] {c : Code} {ac : AC} {pc : Bool} (hc : compC Tryz.prog pc c = some ac) {N : Nat} {f : FE} {n : Nat} {L : HA} {σ : Heap} {K : KN} {X : Nat → KN} {R : KN} {Zp : V → KN} (hw : WP AM N ac f n L K X R Zp) (hp : Hp σ n L) {ι : Inj} {W : World} {a : Act} (hE : EnvR ι (E N f) a.tmps) (hR : RelW ι σ W) (hD : Dom ι σ) {Q : Exit → Act → World → Prop}
  (hQ : ∀ x y f' σ' n' L' a' W' ι', outK x f' n' L' K X R Zp → ExR ι' x y → Hp σ' n' L' → ((∀ v, x ≠ .panic v) → EnvR ι' (E N f') a'.tmps) → Post ι σ W ι' σ' W' → a'.defers = a.defers → Q y a' W') : c.wp Tryz.prog Q a W := by
 obtain ⟨x, f', σ', n', L', h1, h2, h3⟩ := hw σ hp
 obtain ⟨m, hm⟩ := Exec_to h1
 exact exec_sound (runF_ok fnsOK primsOK (by kernel_rfl) m) (by kernel_rfl) c ac hc m ι σ W _ a x _ σ' hE hR hD hm Q (fun a' W' ι' y hy hE' hP hd => hQ x y f' σ' n' L' a' W' ι' h3 hy h2 hE' hP hd)
abbrev res3 (P : Nat → Int) (k e : Int) : HA := [(2, .sc .var 1 (onI e)), (1, .sc .var 1 (onI k)), (0, .sc .var 133 (ia P))]
def At3 (f : FE) : Prop := f 2 = .ptr 0 0 133 ∧ f 3 = .ptr 1 0 1 ∧ f 4 = .ptr 2 0 1
theorem walkA (s : ByteArray) : WP AM 28 (qL qB) (entryF [.s (.str s)]) 0 [] (fun f n L => f 0 = .s (.str s) ∧ At3 f ∧ n = 3 ∧ L = res3 (fun _ => 0) 0 0) (fun _ _ _ _ => False) (fun _ _ _ => False) (fun _ _ _ _ => False) :=
 WP_ops (WO_allocI (WO_allocS (WO_allocS (WO_nil ⟨rfl, ⟨rfl, rfl, rfl⟩, rfl, rfl⟩))))
def Told (L : HA) (r : (Nat → Int) × Int × Int) : Prop :=
 ∃ g0 g1 g2, (0, Blk.sc .var 133 g0) ∈ L ∧ (1, Blk.sc .var 1 g1) ∈ L ∧ (2, Blk.sc .var 1 g2) ∈ L ∧ (∀ i, i < 133 → g0 i = .int .i64 (r.1 i)) ∧ g1 0 = .int .i64 r.2.1 ∧ g2 0 = .int .i64 r.2.2
theorem zeros_in {i : Nat} (hi : i < 133) (P : Nat → Int) (Q : Nat → Int) (h : Q i = P i) : ia (ovA (fun _ => 0) 0 133 Q) i = .int .i64 (P i) := by
 show S.int .i64 (ovA _ 0 133 Q i) = _
 rw [ovA_at (by omega), ← h]; rfl
theorem walkB (s : ByteArray) (f : FE) (h0 : f 0 = .s (.str s)) (h3 : At3 f) : WP AM 28 (qL (qR qB)) f 3 (res3 (fun _ => 0) 0 0) (fun f n L => s.size ≤ 128 ∧ f 0 = .s (.str s) ∧ At3 f ∧ n = 3 ∧ L = res3 (fun _ => 0) 0 0) (fun _ _ _ _ => False) (fun f n L => At3 f ∧ Told L (parseR s)) (fun _ _ _ _ => False) := by
 obtain ⟨g2, g3, g4⟩ := h3
 refine WP_know (d := 0) h0 (WP_know (d := 2) g2 (WP_know (d := 3) g3 (WP_know (d := 4) g4 ?_)))
 refine WP_seq (WP_ops (WO_mv rfl (WO_lenS rfl (WO_bin (r := .bool _) rfl rfl rfl (WO_nil ?_)))))
 refine WP_cond rfl (fun h => ?_) (fun h => ?_)
 ·simp only [NM] at h
  refine WP_seq (WP_ops ?_)
  refine WO_ldAI rfl rfl (.tail _ (.tail _ (.head _))) ?_
  refine WO_stA rfl rfl rfl rfl (.there (.there .here)) ?_
  refine WO_st1 rfl rfl rfl rfl (.there .here) ?_
  refine WO_st1 rfl rfl rfl rfl .here (WO_nil ?_)
  refine WP_ret ⟨⟨rfl, rfl, rfl⟩, _, _, _, .tail _ (.tail _ (.head _)), .tail _ (.head _), .head _, ?_⟩
  unfold parseR
  rw [if_pos (by omega)]
  exact ⟨fun i hi => zeros_in hi (fun _ => 0) _ rfl, rfl, rfl⟩
 ·simp only [NM] at h
  exact WP_skip ⟨by omega, rfl, ⟨rfl, rfl, rfl⟩, rfl, rfl⟩
theorem rd_lc (s : ByteArray) : lc (.str s :: .int .i64 0 :: List.replicate 133 (.int .i64 0)) = rdG s 0 (fun _ => 0) := by
 funext i
 match i with
 | 0 => rfl
 | 1 => rfl
 | i + 2 =>
  rw [lc_getD]
  show ((List.replicate 133 (S.int .i64 0))[i]?).getD S.zero = S.int .i64 0
  rw [List.getElem?_replicate]
  split <;> rfl
set_option maxRecDepth 100000 in
theorem walk4 (s : ByteArray) (f : FE) (h0 : f 0 = .s (.str s)) (h3 : At3 f) : WP AM 28 (qL (qR (qR (qR qB)))) f 3 (res3 (fun _ => 0) 0 0) (fun f n L => At3 f ∧ f 5 = .ptr 3 0 135 ∧ n = 4 ∧ L = (3, .sc .var 135 (rdG s 0 (fun _ => 0))) :: res3 (fun _ => 0) 0 0) (fun _ _ _ _ => False) (fun _ _ _ => False) (fun _ _ _ _ => False) := by
 obtain ⟨g2, g3, g4⟩ := h3
 refine WP_know (d := 0) h0 (WP_know (d := 2) g2 (WP_know (d := 3) g3 (WP_know (d := 4) g4 ?_)))
 refine WP_ops (WO_mv rfl ?_)
 refine WO_buildL (m := 2) (zs := [.str s, .int .i64 0]) rfl rfl (.part rfl rfl rfl rfl (.part rfl rfl rfl rfl .nil)) ?_
 refine WO_buildL (m := 135) (zs := .str s :: .int .i64 0 :: List.replicate 133 (.int .i64 0)) rfl rfl (.part rfl rfl rfl rfl .nil) ?_
 refine WO_boxA rfl (WO_mv rfl (WO_nil ?_))
 exact ⟨⟨rfl, rfl, rfl⟩, rfl, rfl, by rw [rd_lc]⟩
theorem walk5 (s : ByteArray) (hs : s.size ≤ 1000) (f : FE) (h5 : f 5 = .ptr 3 0 135) (h3 : At3 f) : WO AM 28 (qOps (qL (qR (qR (qR (qR qB)))))) f 4 ((3, .sc .var 135 (rdG s 0 (fun _ => 0))) :: res3 (fun _ => 0) 0 0)
  (fun f n L => ∃ P k, allR s = .ok P ∧ At3 f ∧ f 5 = .ptr 3 0 135 ∧ L = (3, .sc .var 135 (rdG s k P)) :: res3 (fun _ => 0) 0 0) (fun v f n L => ∃ e, allR s = .error e ∧ v = stk e ∧ At3 f ∧ ∃ G, L = (3, .sc .var 135 G) :: res3 (fun _ => 0) 0 0) := by
 obtain ⟨g2, g3, g4⟩ := h3
 refine WO_know (d := 2) g2 (WO_know (d := 3) g3 (WO_know (d := 4) g4 (WO_know (d := 5) h5 ?_)))
 refine WO_mv rfl ?_
 obtain ⟨v, σ', n', L', h1, h2, h4⟩ := all_walk s hs
 unfold AllK at h4
 cases hr : allR s with
 | ok P =>
  rw [hr] at h4
  obtain ⟨rfl, k, h4⟩ := h4
  exact WO_callL (av := [.ptr 3 0 135]) (rs := [3]) (Bs := [_]) (Bs' := [.sc .var 135 (rdG s k P)]) rfl rfl rfl ⟨σ', h1, (h2.2.mem h4).2, rfl, trivial⟩ rfl (Nat.le_of_ble_eq_true rfl) (fun _ h => h) rfl ⟨.head _, rfl, trivial⟩ rfl rfl (.cons .here .nil) (WO_nil ⟨P, k, rfl, ⟨rfl, rfl, rfl⟩, rfl, rfl⟩)
 | error e =>
  rw [hr] at h4
  obtain ⟨rfl, k, P', h4⟩ := h4
  exact WO_callX (av := [.ptr 3 0 135]) (rs := [3]) (Bs := [_]) (Bs' := [.sc .var 135 (rdG s k P')]) rfl rfl rfl ⟨σ', h1, (h2.2.mem h4).2, rfl, trivial⟩ rfl (Nat.le_of_ble_eq_true rfl) (fun _ h => h) rfl ⟨.head _, rfl, trivial⟩ rfl rfl (.cons .here .nil) ⟨e, rfl, rfl, ⟨rfl, rfl, rfl⟩, _, rfl⟩
theorem walk6 (s : ByteArray) (hs : s.size ≤ 128) (P : Nat → Int) (k n : Nat) (hP : allR s = .ok P) (f : FE) (h5 : f 5 = .ptr 3 0 135) (h3 : At3 f) : WP AM 28 (qR (qR (qR (qR (qR qB))))) f n ((3, .sc .var 135 (rdG s k P)) :: res3 (fun _ => 0) 0 0) (fun _ _ _ => False) (fun _ _ _ _ => False) (fun f n L => At3 f ∧ Told L (parseR s)) (fun _ _ _ _ => False) := by
 obtain ⟨g2, g3, g4⟩ := h3
 have hp : parseR s = if rightM P = true then (P, 0, 0) else (fun _ => 0, 0, 2) := by
  unfold parseR
  rw [if_neg (by omega), hP]
 have hrd : (fun i => rdG s k P (2 + i)) = ia P := by
  funext i
  rw [Nat.add_comm]; rfl
 refine WP_know (d := 2) g2 (WP_know (d := 3) g3 (WP_know (d := 4) g4 (WP_know (d := 5) h5 ?_)))
 refine WP_seq (WP_seq (WP_ops ?_))
 refine WO_mv rfl (WO_nilckP rfl (WO_fa (o' := 2) rfl rfl rfl ?_))
 refine WO_ldA rfl rfl (.head _) hrd ?_
 refine WO_call0 rfl (RF_of (Right_run P)) rfl rfl rfl ?_
 refine WO_un rfl rfl (WO_nil ?_)
 refine WP_cond rfl (fun h => ?_) (fun h => ?_)
 ·simp only [Bool.not_eq_true'] at h
  rw [if_neg (by rw [h]; decide)] at hp
  refine WP_seq (WP_ops ?_)
  refine WO_ldAI rfl rfl (.tail _ (.tail _ (.tail _ (.head _)))) ?_
  refine WO_stA rfl rfl rfl rfl (.there (.there (.there .here))) ?_
  refine WO_st1 rfl rfl rfl rfl (.there (.there .here)) ?_
  refine WO_st1 rfl rfl rfl rfl (.there .here) (WO_nil ?_)
  refine WP_ret ⟨⟨rfl, rfl, rfl⟩, _, _, _, .tail _ (.tail _ (.tail _ (.head _))), .tail _ (.tail _ (.head _)), .tail _ (.head _), ?_⟩
  rw [hp]
  exact ⟨fun i hi => zeros_in hi (fun _ => 0) _ rfl, rfl, rfl⟩
 ·simp only [Bool.not_eq_false'] at h
  rw [if_pos h] at hp
  refine WP_skip ?_
  refine WP_seq (WP_ops ?_)
  refine WO_mv rfl (WO_nilckP rfl (WO_fa (o' := 2) rfl rfl rfl ?_))
  refine WO_ldA rfl rfl (.head _) hrd ?_
  refine WO_stA rfl rfl rfl rfl (.there (.there (.there .here))) ?_
  refine WO_st1 rfl rfl rfl rfl (.there (.there .here)) ?_
  refine WO_st1 rfl rfl rfl rfl (.there .here) (WO_nil ?_)
  refine WP_ret ⟨⟨rfl, rfl, rfl⟩, _, _, _, .tail _ (.tail _ (.tail _ (.head _))), .tail _ (.tail _ (.head _)), .tail _ (.head _), ?_⟩
  rw [hp]
  exact ⟨fun i hi => zeros_in hi P _ rfl, rfl, rfl⟩
end Go.Proofs.YtlaogmemhephnaaGreatDoor
set_option linter.unusedVariables false
set_option linter.unusedSimpArgs false
namespace Go.Proofs.YtlaogmemhephnaaGreatDoor
open Go Go.Am Go.RowKit
abbrev no0 : Inj := fun _ => none
theorem rel0 [Bas] {ι : Inj} {σ : Heap} {W : World} (hR : RelW ι σ W) : RelW no0 [] W :=
 ⟨fun _ _ h => by simp [no0] at h, fun _ _ _ h => by simp [no0] at h, fun _ _ _ _ h => by simp [no0] at h, fun _ _ h => by simp [no0] at h, hR.bsz, hR.bas⟩
abbrev eR : Env := [.undef, .undef, .ptr 0 0 133, .ptr 1 0 1, .ptr 2 0 1, .undef, .undef, .undef, .undef, .undef, .undef, .undef, .undef, .undef, .undef, .undef, .undef, .undef, .undef, .undef, .undef, .undef, .undef, .undef, .undef, .undef, .undef, .undef]
theorem rEnv {ι : Inj} {A : Array Value} {p q r : Value} (hs : A.size = 28) (g2 : A[2]? = some p) (g3 : A[3]? = some q) (g4 : A[4]? = some r) (h2 : VR ι (.ptr 0 0 133) p) (h3 : VR ι (.ptr 1 0 1) q) (h4 : VR ι (.ptr 2 0 1) r) : EnvR ι eR A := by
 obtain ⟨l⟩ := A
 refine VRL.of_at (by simpa using hs.symm) fun i x v hx hv => ?_
 simp at g2 g3 g4
 match i with
 | 0 => cases hx; trivial
 | 1 => cases hx; trivial
 | 2 => rw [g2] at hv; cases hx; cases hv; exact h2
 | 3 => rw [g3] at hv; cases hx; cases hv; exact h3
 | 4 => rw [g4] at hv; cases hx; cases hv; exact h4
 | i + 5 =>
  have hx : (List.replicate 23 V.undef)[i]? = some x := hx
  rw [List.getElem?_replicate] at hx
  split at hx
  ·injection hx with hx; subst hx; trivial
  ·cases hx
theorem three {ι : Inj} {f : FE} {A : Array Value} (hE : EnvR ι (E 28 f) A) (h3 : At3 f) : A.size = 28 ∧ ∃ p q r, A[2]? = some p ∧ A[3]? = some q ∧ A[4]? = some r ∧ VR ι (.ptr 0 0 133) p ∧ VR ι (.ptr 1 0 1) q ∧ VR ι (.ptr 2 0 1) r := by
 obtain ⟨l⟩ := A
 have hl := VRL.length hE
 obtain ⟨g2, g3, g4⟩ := h3
 obtain ⟨p, hp, rp⟩ := VRL.at hE 2 (f 2) rfl
 obtain ⟨q, hq, rq⟩ := VRL.at hE 3 (f 3) rfl
 obtain ⟨r, hr, rr⟩ := VRL.at hE 4 (f 4) rfl
 rw [g2] at rp; rw [g3] at rq; rw [g4] at rr
 refine ⟨?_, p, q, r, by simpa using hp, by simpa using hq, by simpa using hr, rp, rq, rr⟩
 simpa [E] using hl.symm
theorem tup3_R {ι ι' : Inj} {g0 g1 g2 : Nat → S} {r : (Nat → Int) × Int × Int} {v : Value} (h : VR ι (.tup [.agg 133 (fun i => g0 (0 + i)), .s (g1 0), .s (g2 0)]) v) (h0 : ∀ i, i < 133 → g0 i = .int .i64 (r.1 i)) (h1 : g1 0 = .int .i64 r.2.1) (h2 : g2 0 = .int .i64 r.2.2) : VR ι' (tup3 r) v := by
 rw [h1, h2] at h
 unfold tup3
 simp only [VR, VRL] at h ⊢
 obtain ⟨cs, rfl, v0, r0, rfl, ⟨c0, rfl, hz, hc⟩, h⟩ := h
 refine ⟨_, rfl, _, _, rfl, ⟨c0, rfl, hz, fun i hi => ?_⟩, h⟩
 rw [hc i hi, Nat.zero_add, h0 i hi]
def PEnd (s : ByteArray) (W : World) (e : Ending) (W' : World) : Prop := (∃ v, e = .returned v ∧ ∀ ι, VR ι (parseV s) v) ∧ Below W.heap.size W W'
theorem leaves_nil [Bas] {s : ByteArray} {W W1 : World} {ι : Inj} {f : FE} {σ : Heap} {n : Nat} {L : HA} {A : Array Value} (hE : EnvR ι (E 28 f) A) (h3 : At3 f) (hp : Hp σ n L) (hR : RelW ι σ W1) (ht : Told L (parseR s)) (hb : Below W.heap.size W W1) : Leaves Tryz.prog Tryz.f11 A (PEnd s W) [] .returning W1 := by
 obtain ⟨g0, g1, g2, m0, m1, m2, t0, t1, t2⟩ := ht
 obtain ⟨e2, e3, e4⟩ := h3
 have hx : resOf (E 28 f) σ [.cell 2 true 133, .cell 3 false 1, .cell 4 false 1] = some (.tup [.agg 133 (fun i => g0 (0 + i)), .s (g1 0), .s (g2 0)]) := by
  have hrs : RS 28 f L [.cell 2 true 133, .cell 3 false 1, .cell 4 false 1] [.agg 133 (fun i => g0 (0 + i)), .s (g1 0), .s (g2 0)] :=
   ⟨⟨_, _, _, _, _, _, e2, Nat.le_refl _, m0, rfl⟩, ⟨_, _, _, _, _, _, e3, Nat.le_refl _, m1, rfl⟩, ⟨_, _, _, _, _, _, e4, Nat.le_refl _, m2, rfl⟩, trivial⟩
  unfold resOf
  rw [resL_RS hp hrs]
 obtain ⟨v, hv, hrun⟩ := results_sound (a := ⟨A, []⟩) hE hR pcR hx
 exact ⟨v, hrun, ⟨v, rfl, fun ι' => tup3_R hv t0 t1 t2⟩, hb⟩
theorem post_no [Bas] {W W' : World} {ι' : Inj} {σ' : Heap} (h : Post no0 [] W ι' σ' W') : Below W.heap.size W W' :=
 ⟨h.same.os, h.same.tape, h.same.output, h.same.size, fun c hc => h.frame c hc (fun b p hb => by simp [no0] at hb)⟩
theorem leaves_pan [Tabs] {s : ByteArray} {k : Nat} {W W1 : World} {ι : Inj} {f : FE} {σ : Heap} {n : Nat} {A : Array Value} {G : Nat → S} {u : Value} {dv : Array Value} (hE : EnvR ι (E 28 f) A) (h3 : At3 f) (hp : Hp σ n ((3, .sc .var 135 G) :: res3 (fun _ => 0) 0 0)) (hP : Post no0 [] W ι σ W1) (hu : VR ι (stk k) u) (hr : parseR s = (fun _ => 0, (k : Int), 13))
  (hd : ∃ p q r, dv = #[p, q, r] ∧ A[2]? = some p ∧ A[3]? = some q ∧ A[4]? = some r) : Leaves Tryz.prog Tryz.f11 A (PEnd s W) [{ target := .fn (.func 24) dv, args := #[] }] (.panicking (chain1 u)) W1 := by
 obtain ⟨hs, p, q, r, a2, a3, a4, r2, r3, r4⟩ := three hE h3
 obtain ⟨p', q', r', rfl, b2, b3, b4⟩ := hd
 rw [a2] at b2; rw [a3] at b3; rw [a4] at b4
 cases b2; cases b3; cases b4
 have hk : u = .iface 49 (.agg #[.int .i64 (k : Int)]) := by
  unfold stk at hu
  simp only [VR] at hu
  obtain ⟨w, rfl, cs, rfl, hz, hc⟩ := hu
  have := hc 0 (by omega)
  obtain ⟨l⟩ := cs
  match l, hz with
  | [x], _ =>
   simp at this
   rw [this]; rfl
 subst hk
 have hpk : pickB false (pos · [0, 1, 2]) σ [0, 1, 2] = some dH3 := by
  have m0 := (hp.2.mem (show (0, Blk.sc .var 133 (ia fun _ => 0)) ∈ _ from .tail _ (.tail _ (.tail _ (.head _))))).2
  have m1 := (hp.2.mem (show (1, Blk.sc .var 1 (onI 0)) ∈ _ from .tail _ (.tail _ (.head _)))).2
  have m2 := (hp.2.mem (show (2, Blk.sc .var 1 (onI 0)) ∈ _ from .tail _ (.head _))).2
  simp only [pickB, m0, m1, m2, Option.bind_some, Blk.ren, lower, cond_false]
 obtain ⟨sR, sD, _, _⟩ := subInj_rel hP.rel hpk rfl
 refine leaves_cons (f := 24) (args := #[p, q, r]) (by simp) (by simp [go_sem]) ?_
 refine (catch_pan (ι := subInj ι [0, 1, 2]) sR sD r2 r3 r4 (k : Int) []).mono ?_
 rintro e u' W2 ⟨rfl, rfl, ι2, hP2⟩
 have s2 := VR.ext hP2.ext _ _ (show VR (subInj ι [0, 1, 2]) (.ptr 0 0 133) p from r2)
 have s3 := VR.ext hP2.ext _ _ (show VR (subInj ι [0, 1, 2]) (.ptr 1 0 1) q from r3)
 have s4 := VR.ext hP2.ext _ _ (show VR (subInj ι [0, 1, 2]) (.ptr 2 0 1) r from r4)
 have hb1 := post_no hP
 have hb : Below W.heap.size W W2 := by
  refine ⟨hP2.same.os.trans hb1.os, hP2.same.tape.trans hb1.tape, hP2.same.output.trans hb1.output, Nat.le_trans hb1.size hP2.same.size, fun c hc => ?_⟩
  rw [← hb1.block c hc]
  refine hP2.frame c (Nat.lt_of_lt_of_le hc hb1.size) fun b x hbx _ he => ?_
  obtain ⟨b', hb'⟩ : ∃ b', ι b' = some x := by
   simp only [subInj] at hbx
   cases hq : ([0, 1, 2] : List Nat)[b]? with
   | none => rw [hq] at hbx; cases hbx
   | some j => rw [hq] at hbx; exact ⟨j, hbx⟩
  rcases (hP.fresh b' x hb' rfl).2 with h | ⟨_, _, h, _⟩
  ·omega
  ·simp [no0] at h
 have hx : resOf eR (dT k) [.cell 2 true 133, .cell 3 false 1, .cell 4 false 1] = some (.tup [.agg 133 (fun i => over zro 0 133 zro (0 + i)), .s (over (onI 0) 0 1 (onI k) 0), .s (over (onI 0) 0 1 (onI 13) 0)]) := rfl
 obtain ⟨v, hv, hrun⟩ := results_sound (a := ⟨A, []⟩) (rEnv hs a2 a3 a4 s2 s3 s4) hP2.rel pcR hx
 have hfin : Leaves Tryz.prog Tryz.f11 A (PEnd s W) [] .returning W2 := by
  refine ⟨v, hrun, ⟨v, rfl, fun ι' => ?_⟩, hb⟩
  refine tup3_R hv (fun i hi => ?_) ?_ ?_
  ·rw [hr]
   show over zro 0 133 zro i = _
   rw [over_self]
  ·rw [hr]; rfl
  ·rw [hr]; rfl
 exact hfin
end Go.Proofs.YtlaogmemhephnaaGreatDoor
set_option linter.unusedVariables false
set_option linter.unusedSimpArgs false
namespace Go.Proofs.YtlaogmemhephnaaGreatDoor
open Go Go.Am Go.RowKit
theorem getD_some {A : Array Value} {i : Nat} {x : Value} (h : A[i]? = some x) : A.getD i Go.undef = x := by
 rw [Array.getD_eq_getD_getElem?, h]; rfl
theorem p_body : Tryz.f11.body = some pB := rfl
theorem p_env (s : ByteArray) : EnvR no0 (E 28 (entryF [.s (.str s)])) (#[Value.string s] ++ Array.replicate 27 Go.undef) := by
 have := VRL.append (show VRL no0 [V.s (.str s)] [Value.string s] from ⟨_, _, rfl, rfl, rfl⟩) (VRL.undefs (ι := no0) 27)
 unfold EnvR
 rw [Array.toList_append, Array.toList_replicate]
 exact this
noncomputable abbrev pLay : Code := cL (cR (cR pB))
theorem lay_by {A : Array Value} (hsz : A.size = 28) {W : World} {p q r : Value} {Q : Exit → Act → World → Prop} (g2 : A[2]? = some p) (g3 : A[3]? = some q) (g4 : A[4]? = some r)
  (h : Q .normal ((Act.mk A [{ target := .fn (.func 24) #[p, q, r], args := #[] }]).put (some 10) (.func (.func 24) #[] #[p, q, r])) W) : pLay.wp Tryz.prog Q ⟨A, []⟩ W := by
 have hmf : ∀ (fn : Fn) (first cap : Array Value) (w : World), (Instr.makeFunc fn first cap).run Tryz.prog w = .ok (.func fn first cap) w := fun _ _ _ _ => rfl
 have e2 := getD_some g2
 have e3 := getD_some g3
 have e4 := getD_some g4
 show Code.wp _ (.region _ _ false) _ _ _
 apply wp_region
 simp [wpOps, go_sem, hmf, e2, e3, e4, hsz]
 refine .inl (.inl ?_)
 simpa only [Act.put] using h
theorem ptr_one {ι : Inj} {b o z : Nat} {u v : Value} (h : VR ι (.ptr b o z) u) (k : VR ι (.ptr b o z) v) : u = v := by
 simp only [VR] at h k
 obtain ⟨p, hp, _, rfl⟩ := h
 obtain ⟨q, hq, _, rfl⟩ := k
 rw [hp] at hq
 cases hq
 rfl
theorem parse_core [Tabs] {W : World} {s : ByteArray} {cA cB c4 c6 : Code} {id : Nat} {ops : Array Oper} (hA : compC Tryz.prog false cA = some (qL qB)) (hB : compC Tryz.prog false cB = some (qL (qR qB))) (h4 : compC Tryz.prog false c4 = some (qL (qR (qR (qR qB))))) (h5 : compL Tryz.prog ops.toList ops.toList = some (qOps (qL (qR (qR (qR (qR qB)))))))
  (h6 : compC Tryz.prog false c6 = some (qR (qR (qR (qR (qR qB)))))) (hRn : RelW no0 [] W) : (Code.seq cA (.seq cB (.seq pLay (.seq c4 (.seq (.region id ops false) c6))))).wp Tryz.prog (bodyPostD Tryz.prog Tryz.f11 (PEnd s W)) { tmps := #[Value.string s] ++ Array.replicate 27 Go.undef, defers := [] } W := by
 have hDn : Dom no0 [] := fun _ _ h => by simp [no0] at h
 refine wp_seq ?_
 refine wp_WP hA (walkA s) (σ := []) ⟨rfl, trivial⟩ (a := { tmps := #[Value.string s] ++ Array.replicate 27 Go.undef, defers := [] }) (p_env s) hRn hDn ?_
 intro x y f1 σ1 n1 L1 a1 W1 ι1 ho hy hp1 hE1 hP1 hd1
 cases x with
 | exit j => exact ho.elim
 | ret => exact ho.elim
 | panic v => exact ho.elim
 | normal =>
 obtain rfl : y = .normal := hy
 have hE1 := hE1 (fun _ h => by cases h)
 obtain ⟨k0, k3, rfl, rfl⟩ := ho
 have hD1 := hP1.dom hDn
 refine wp_seq ?_
 refine wp_WP hB (walkB s f1 k0 k3) hp1 hE1 hP1.rel hD1 ?_
 intro x y f2 σ2 n2 L2 a2 W2 ι2 ho hy hp2 hE2 hP2 hd2
 have hP2 := hP1.trans hDn hP2
 have hD2 := hP2.dom hDn
 have hd : a2.defers = [] := hd2.trans hd1
 cases x with
 | exit j => exact ho.elim
 | panic v => exact ho.elim
 | ret =>
  obtain rfl : y = .ret := hy
  have hE2 := hE2 (fun _ h => by cases h)
  obtain ⟨k3, ht⟩ := ho
  show Leaves _ _ _ _ a2.defers .returning W2
  rw [hd]
  exact leaves_nil hE2 k3 hp2 hP2.rel ht (post_no hP2)
 | normal =>
 obtain rfl : y = .normal := hy
 have hE2 := hE2 (fun _ h => by cases h)
 obtain ⟨hs, k0, k3, rfl, rfl⟩ := ho
 obtain ⟨hsz, p, q, r, g2, g3, g4, r2, r3, r4⟩ := three hE2 k3
 obtain ⟨A2, ds2⟩ := a2
 obtain rfl : ds2 = [] := hd
 refine wp_seq ?_
 refine lay_by hsz g2 g3 g4 ?_
 have hE3 : EnvR ι2 (E 28 (upd f2 10 .undef)) ((Act.mk A2 [{ target := .fn (.func 24) #[p, q, r], args := #[] }]).put (some 10) (.func (.func 24) #[] #[p, q, r])).tmps := by
  have := EnvR.put (a := Act.mk A2 [{ target := .fn (.func 24) #[p, q, r], args := #[] }]) hE2 (some 10) (x := .undef) (v := .func (.func 24) #[] #[p, q, r]) trivial
  rw [put_E] at this
  exact this
 have k3 : At3 (upd f2 10 .undef) := k3
 refine wp_seq ?_
 refine wp_WP h4 (walk4 s (upd f2 10 .undef) k0 k3) hp2 hE3 hP2.rel hD2 ?_
 intro x y f4 σ4 n4 L4 a4 W4 ι4 ho hy hp4 hE4 hP4 hd4
 cases x with
 | exit j => exact ho.elim
 | panic v => exact ho.elim
 | ret => exact ho.elim
 | normal =>
 obtain rfl : y = .normal := hy
 have hE4 := hE4 (fun _ h => by cases h)
 obtain ⟨k4, k5, rfl, rfl⟩ := ho
 have hP4x := hP4
 have hP4 := hP2.trans hDn hP4
 have hD4 := hP4.dom hDn
 obtain ⟨A4, ds4⟩ := a4
 obtain rfl : ds4 = [{ target := .fn (.func 24) #[p, q, r], args := #[] }] := hd4
 have hx24 := hP4x.ext
 obtain ⟨x, f5, σ5, n5, L5, hx, hp5, ho⟩ := walk5 s (by omega) f4 k5 k4 σ4 hp4
 refine wp_seq ?_
 refine wp_region_list (seqX_sound runOK h5 hE4 hP4.rel hD4 hx ?_)
 intro a5 W5 ι5 y hy hE5 hP5 hd5
 have hx45 := hP5.ext
 have hP5 := hP4.trans hDn hP5
 have hD5 := hP5.dom hDn
 obtain ⟨A5, ds5⟩ := a5
 obtain rfl : ds5 = [{ target := .fn (.func 24) #[p, q, r], args := #[] }] := hd5
 have r2 := (r2.ext hx24 _ _).ext hx45 _ _
 have r3 := (r3.ext hx24 _ _).ext hx45 _ _
 have r4 := (r4.ext hx24 _ _).ext hx45 _ _
 cases x with
 | exit j => exact ho.elim
 | ret => exact ho.elim
 | panic v =>
  obtain ⟨u, rfl, hu⟩ := hy
  obtain ⟨e, hr, rfl, k4, G, rfl⟩ := ho
  obtain ⟨_, p', q', r', a2, a3, a4, b2, b3, b4⟩ := three hE5 k4
  have hpr : parseR s = (fun _ => 0, (e : Int), 13) := by
   unfold parseR
   rw [if_neg (by omega), hr]
  show Leaves _ _ A5 _ _ (.panicking (chain1 u)) W5
  exact leaves_pan hE5 k4 hp5 hP5 hu hpr ⟨p, q, r, rfl, by rw [a2, ptr_one b2 r2], by rw [a3, ptr_one b3 r3], by rw [a4, ptr_one b4 r4]⟩
 | normal =>
 obtain rfl : y = .normal := hy
 obtain ⟨P, k, hr, k4, k5, rfl⟩ := ho
 refine wp_WP h6 (walk6 s hs P k n5 hr f5 k5 k4) hp5 hE5 hP5.rel hD5 ?_
 intro x y f6 σ6 n6 L6 a6 W6 ι6 ho hy hp6 hE6 hP6 hd6
 have hP6 := hP5.trans hDn hP6
 cases x with
 | exit j => exact ho.elim
 | panic v => exact ho.elim
 | normal => exact ho.elim
 | ret =>
  obtain rfl : y = .ret := hy
  have hE6 := hE6 (fun _ h => by cases h)
  obtain ⟨k6, ht⟩ := ho
  show Leaves _ _ a6.tmps _ a6.defers .returning W6
  rw [hd6]
  refine leaves_cons (f := 24) (args := #[p, q, r]) (by simp) (by simp [go_sem]) ?_
  refine (catch_idle p q r W6).mono ?_
  rintro e u' W7 ⟨rfl, rfl, rfl⟩
  exact leaves_nil hE6 k6 hp6 hP6.rel ht (post_no hP6)
theorem parse_calls [Tabs] {ι : Inj} {σ : Heap} {W : World} (hR : RelW ι σ W) (s : ByteArray) : Calls Tryz.prog 11 #[.string s] W (PEnd s W) :=
 calls_of_wp_defers Tryz.func11 p_body (parse_core pcA pcB pc4 pc5 pc6 (rel0 hR))
end Go.Proofs.YtlaogmemhephnaaGreatDoor
set_option linter.unusedVariables false
set_option linter.unusedSimpArgs false
namespace Go.Proofs.YtlaogmemhephnaaGreatDoor
open Go Go.Am
def parsePrim : List V → Heap → Option (V × Heap)
 | [.s (.str s)], σ => some (parseV s, σ)
 | _, _ => none
def primF2 (f : FuncId) : Option (List V → Heap → Option (V × Heap)) := bif Nat.beq f 11 then some parsePrim else primF f
def AM2 : AP := { fns := AM.fns, prims := primF2 }
theorem parse_new : primF 11 = none ∧ lookF 11 fnsL = none := ⟨rfl, rfl⟩
theorem le2 : LeR (Run AM) (Run AM2) := Run_ext (fun _ _ h => h)
 (fun f pf h => by
  show (bif Nat.beq f _ then some parsePrim else primF f) = some pf
  cases hb : Nat.beq f 11 with
  | true =>
   have := Nat.eq_of_beq_eq_true hb
   subst this
   have h : primF 11 = some pf := h
   rw [parse_new.1] at h; cases h
  | false => exact h)
 (fun f a h ha => by
  show (bif Nat.beq f _ then some parsePrim else primF f) = none
  cases hb : Nat.beq f 11 with
  | true =>
   have := Nat.eq_of_beq_eq_true hb
   subst this
   have ha : lookF 11 fnsL = some a := ha
   rw [parse_new.2] at ha; cases ha
  | false => exact h)
theorem RF2 {f : FuncId} {av : List V} {v : V} (h : RF AM f av v) : RF AM2 f av v := by
 obtain ⟨σ, h⟩ := h
 exact ⟨σ, le2 _ _ _ _ h⟩
theorem primsOK2 [Tabs] : PrimsOK Tryz.prog AM2 := by
 intro f pf hpf args σ v σ' h
 have hb : primF2 f = some pf := hpf
 unfold primF2 at hb
 cases h0 : Nat.beq f 11 with
 | true =>
  rw [h0] at hb; injection hb with hb; subst hb
  obtain rfl := Nat.eq_of_beq_eq_true h0
  refine ⟨⟨_, Tryz.func11, by kernel_rfl, by decide⟩, fun ι W av hR _ hv => ?_⟩
  unfold parsePrim at h
  split at h
  ·rename_i s
   injection h with h
   injection h with h1 h2
   subst h1; subst h2
   simp only [VRL, VR, S.val] at hv
   obtain ⟨_, _, rfl, rfl, rfl⟩ := hv
   refine (parse_calls hR s).mono ?_
   rintro e W' ⟨⟨v, rfl, hv⟩, hbl⟩
   exact ⟨ι, v, rfl, hv ι, post_below hR hbl⟩
  ·cases h
 | false => rw [h0, cond_false] at hb; exact primsOK f pf hb args σ v σ' h
theorem parse_run (s : ByteArray) : RF AM2 11 [.s (.str s)] (parseV s) := ⟨[], by rw [Run_prim (pf := parsePrim) rfl]; rfl⟩
def showR (P : Nat → Int) : ByteArray × Int := if rightM P = true then (showS P, 0) else (⟨#[]⟩, 2)
abbrev tup2 (r : ByteArray × Int) : V := .tup [.s (.str r.1), .s (.int .i64 r.2)]
theorem showV_is (P : Nat → Int) : showV P = tup2 (showR P) := by
 unfold showV showR
 split <;> rfl
theorem show_run (P : Nat → Int) : RF AM2 10 [.agg 133 (ia P)] (tup2 (showR P)) := by
 have := RF_of (Show_walk P)
 rw [showV_is] at this
 exact RF2 this
theorem dshow_run (P : Nat → Int) : RF AM2 17 [.agg 133 (ia P)] (tup2 (showR P)) := by
 have := RF_of (dShow_walk P)
 rw [showV_is] at this
 exact RF2 this
def backK (i : Nat) : Int := bif Nat.beq i 0 || Nat.beq i 7 then 4 else bif Nat.beq i 1 || Nat.beq i 6 then 2 else bif Nat.beq i 2 || Nat.beq i 5 then 3 else bif Nat.beq i 3 then 5 else 6
def startF (i : Nat) : Int :=
 bif Nat.blt i 128 then
  (bif Nat.blt i 16 then (bif Nat.beq (i % 2) 0 then backK (i / 2) else 0)
  else bif Nat.blt i 32 then (bif Nat.beq (i % 2) 0 then 1 else 0)
  else bif Nat.blt i 96 then 0
  else bif Nat.blt i 112 then 1
  else (bif Nat.beq (i % 2) 0 then backK ((i - 112) / 2) else 1))
 else bif Nat.beq i 129 then 15 else bif Nat.beq i 130 then -1 else bif Nat.beq i 132 then 1 else 0
def emptyF (i : Nat) : Int := bif Nat.beq i 130 then -1 else bif Nat.beq i 132 then 1 else 0
theorem blt_no {i m : Nat} (h : m ≤ i) : Nat.blt i m = false := Bool.eq_false_iff.2 fun e => by have : i + 1 ≤ m := Nat.le_of_ble_eq_true e; omega
theorem beq_no {i m : Nat} (h : i ≠ m) : Nat.beq i m = false := Bool.eq_false_iff.2 fun e => h (Nat.eq_of_beq_eq_true e)
theorem startF_hi (i : Nat) (h : 133 ≤ i) : startF i = 0 := by
 unfold startF
 rw [blt_no (show 128 ≤ i by omega), cond_false, beq_no (show i ≠ 129 by omega), beq_no (show i ≠ 130 by omega), beq_no (show i ≠ 132 by omega)]
 rfl
theorem emptyF_hi (i : Nat) (h : 133 ≤ i) : emptyF i = 0 := by
 unfold emptyF
 rw [beq_no (by omega), beq_no (by omega)]
 rfl
theorem ovA_is {P Q R : Nat → Int} {m : Nat} (h : ∀ i, i < m → Q i = R i) (h2 : ∀ i, m ≤ i → P i = R i) : ovA P 0 m Q = R := by
 funext i
 by_cases hi : i < m
 ·rw [ovA_at (by omega)]; exact h i hi
 ·rw [ovA_out (by omega)]; exact h2 i (by omega)
abbrev beginS : ByteArray := ⟨#[114, 110, 98, 113, 107, 98, 110, 114, 47, 112, 112, 112, 112, 112, 112, 112, 112, 47, 56, 47, 56, 47, 56, 47, 56, 47, 80, 80, 80, 80, 80, 80, 80, 80, 47, 82, 78, 66, 81, 75, 66, 78, 82, 32, 119, 32, 75, 81, 107, 113, 32, 45, 32, 48, 32, 49]⟩
def parse_begin : Bool := eqI 133 (parseR beginS).1 startF && decide ((parseR beginS).2.1 = 0) && decide ((parseR beginS).2.2 = 0)
theorem parse_begin_is : parse_begin = true := by decide +kernel
theorem show_begin : (showR startF).1.data.toList = beginS.data.toList ∧ (showR startF).2 = 0 := by decide +kernel
end Go.Proofs.YtlaogmemhephnaaGreatDoor
