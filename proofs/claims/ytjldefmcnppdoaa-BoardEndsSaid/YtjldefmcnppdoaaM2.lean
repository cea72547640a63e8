/- Texts of this seat, joined. -/
import Derived.Test.YtjldefmcnppdoaaAmProg
import Derived.KernelRfl
import Derived.Test.YtjldefmcnppdoaaAmRange
import Derived.Test.YtjldefmcnppdoaaChecked
import Derived.Lib.Strings
import Derived.Lib.Slices
import Derived.Lib.Walk
import Derived.Lib.Bytealg
import Derived.Test.YtjldefmcnppdoaaM0
import Derived.Test.YtjldefmcnppdoaaM1
/- The walks of squares: ways, rings, lists that are alike. -/
namespace Go.Proofs.Ytjldefmcnppdoaa
open Go Go.Am
set_option linter.unusedSimpArgs false
set_option linter.unusedVariables false
/-- The squares of a way, one behind the other, and -1 behind the last. -/
def rayF (s f r : Int) : Nat → Int
  | 0 => stepM s f r
  | k + 1 => stepM (rayF s f r k) f r
/-- So many steps are left at most. -/
def muM (s f r : Int) : Nat := if s < 0 then 0 else if 0 < f then (8 - s % 8).toNat else if f < 0 then (s % 8 + 1).toNat else if 0 < r then (8 - s / 8).toNat else (s / 8 + 1).toNat
/-- A way of n squares. -/
structure RayOf (s f r : Int) (n : Nat) : Prop where
  on : ∀ j : Nat, j < n → rayF s f r j ≠ -1
  off : rayF s f r n = -1
theorem RayOf.uniq {s f r : Int} {n m : Nat} (h : RayOf s f r n) (k : RayOf s f r m) : n = m := by
  by_cases a : n < m
  · exact absurd h.off (k.on n a)
  · by_cases b : m < n
    · exact absurd k.off (h.on m b)
    · omega
theorem neq_same {a b : Int} (h : a = b) : binS .neq (.int .i64 a) (.int .i64 b) = some (.bool false) := by
  subst h
  show (if IntKind.i64 = IntKind.i64 then some (S.bool (a != a)) else none) = _
  simp
theorem SameInts_run {md md2 : Md} {q q2 : Nat} {c c2 : Cp} (F G : Nat → Int) (n : Nat) (hn : n ≤ 1000000) (hFG : ∀ j : Nat, j < n → F j = G j) : WR AM 49 [.sl 0 0 n 1 c, .sl 1 0 n 1 c2] [.sc md q (ia F), .sc md2 q2 (ia G)] (fun v _ L => v = .s (.bool true) ∧ (0, Blk.sc md q (ia F)) ∈ L ∧ (1, Blk.sc md2 q2 (ia G)) ∈ L) := by
 refine WR_fn (a := a49) rfl rfl (entryF _) (entry_E (Nat.le_of_ble_eq_true rfl)) (m := 2) rfl ?_
 refine WP_seq ?_
 refine WP_ops ?_
 refine WO_mv rfl ?_
 refine WO_nil ?_
 refine WP_seq ?_
 refine WP_seq ?_
 refine WP_ops ?_
 refine WO_mv (v := .sl _ _ _ _ _) rfl ?_
 refine WO_len rfl ?_
 refine WO_mv (v := .sl _ _ _ _ _) rfl ?_
 refine WO_len rfl ?_
 refine WO_bin (r := .bool _) rfl rfl rfl ?_
 refine WO_nil ?_
 refine WP_cond rfl (fun h13 => ?_) (fun h13 => ?_)
 ·try simp only [NM] at h13
  exfalso; first | omega | (simp at h13)
 ·try simp only [NM] at h13
  refine WP_skip ?_
  refine WP_seq ?_
  refine WP_seq ?_
  refine WP_ops ?_
  refine WO_mv rfl ?_
  refine WO_nil ?_
  refine WP_block ?_
  refine WP_sub (L' := [_, _]) (.cons_cons _ (.cons_cons _ .slnil)) ?_
  refine WP_loop (fun m f _ L => ∃ (i : Nat), (i ≤ n) ∧ (m = n - i) ∧ (f 0 = .sl 0 0 n 1 c) ∧ (f 1 = .sl 1 0 n 1 c2) ∧ (f 5 = .s (.int .i64 i)) ∧ (L = [(0, .sc md q (ia F)), (1, .sc md2 q2 (ia G))])) (fun m f nb L hI => ?_) (n) ⟨0, by omega, rfl, rfl, rfl, rfl, rfl⟩
  obtain ⟨i, hi, hm, k0, k1, k5, rfl⟩ := hI
  refine WP_know (d := 0) (v := .sl 0 0 n 1 c) k0 ?_
  refine WP_know (d := 1) (v := .sl 1 0 n 1 c2) k1 ?_
  refine WP_know (d := 5) (v := .s (.int .i64 i)) k5 ?_
  refine WP_seq ?_
  refine WP_seq ?_
  refine WP_ops ?_
  refine WO_mv (v := .s (.int _ _)) rfl ?_
  refine WO_mv (v := .sl _ _ _ _ _) rfl ?_
  refine WO_len rfl ?_
  refine WO_bin (r := .bool _) rfl rfl rfl ?_
  refine WO_nil ?_
  refine WP_cond rfl (fun h14 => ?_) (fun h14 => ?_)
  ·try simp only [NM] at h14
   refine WP_skip ?_
   refine WP_seq ?_
   refine WP_block ?_
   refine WP_seq ?_
   refine WP_ops ?_
   refine WO_mv (v := .sl _ _ _ _ _) rfl ?_
   refine WO_mv (v := .s (.int _ _)) rfl ?_
   refine WO_ixs rfl rfl (by omega) ?_
   refine WO_ldI (x := F i) rfl rfl (.head _) (congrArg F (by omega)) ?_
   refine WO_mv (v := .sl _ _ _ _ _) rfl ?_
   refine WO_mv (v := .s (.int _ _)) rfl ?_
   refine WO_ixs rfl rfl (by omega) ?_
   refine WO_ldI (x := G i) rfl rfl (.tail _ (.head _)) (congrArg G (by omega)) ?_
   refine WO_bin rfl rfl (neq_same (hFG i (by omega))) ?_
   refine WO_nil ?_
   refine WP_cond rfl (fun h => nomatch h) (fun _ => ?_)
   refine WP_skip ?_
   refine WP_ops ?_
   refine WO_mv (v := .s (.int _ _)) rfl ?_
   refine WO_add rfl rfl (by omega) ?_
   refine WO_mv (v := .s (.int _ _)) rfl ?_
   refine WO_nil ?_
   exact ⟨n - (i + 1), _, by omega, (.cons_cons _ (.cons_cons _ .slnil)), i + 1, by omega, rfl, rfl, rfl, rfl, rfl⟩
  ·try simp only [NM] at h14
   refine WP_exit ?_
   refine xhere ?_
   refine WP_seq ?_
   refine WP_ops ?_
   refine WO_mv rfl ?_
   refine WO_nil ?_
   refine WP_ret ?_
   refine ⟨_, RS_tmp (v := .s (.bool _)) rfl (RS_nil), ?_⟩
   exact ⟨rfl, (.head _), (.tail _ (.head _))⟩
theorem SameInts_nil  : WR AM 49 [.snil, .snil] [] (fun v _ L => v = .s (.bool true)) := by
 refine WR_fn (a := a49) rfl rfl (entryF _) (entry_E (Nat.le_of_ble_eq_true rfl)) (m := 0) rfl ?_
 refine WP_seq ?_
 refine WP_ops ?_
 refine WO_mv rfl ?_
 refine WO_nil ?_
 refine WP_seq ?_
 refine WP_seq ?_
 refine WP_ops ?_
 refine WO_mv (v := .snil) rfl ?_
 refine WO_lenN rfl ?_
 refine WO_mv (v := .snil) rfl ?_
 refine WO_lenN rfl ?_
 refine WO_bin (r := .bool _) rfl rfl rfl ?_
 refine WO_nil ?_
 refine WP_cond rfl (fun h15 => ?_) (fun h15 => ?_)
 ·try simp only [NM] at h15
  exfalso; first | omega | (simp at h15)
 ·try simp only [NM] at h15
  refine WP_skip ?_
  refine WP_seq ?_
  refine WP_seq ?_
  refine WP_ops ?_
  refine WO_mv rfl ?_
  refine WO_nil ?_
  refine WP_block ?_
  refine WP_loop (fun m f _ L => f 0 = .snil ∧ f 5 = .s (.int .i64 0) ∧ L = []) (fun m f nb L hI => ?_) 0 ⟨rfl, rfl, rfl⟩
  obtain ⟨k0, k5, rfl⟩ := hI
  refine WP_know (d := 0) (v := .snil) k0 ?_
  refine WP_know (d := 5) (v := .s (.int .i64 0)) k5 ?_
  refine WP_seq ?_
  refine WP_seq ?_
  refine WP_ops ?_
  refine WO_mv (v := .s (.int _ _)) rfl ?_
  refine WO_mv (v := .snil) rfl ?_
  refine WO_lenN rfl ?_
  refine WO_bin (r := .bool _) rfl rfl rfl ?_
  refine WO_nil ?_
  refine WP_cond rfl (fun h16 => ?_) (fun h16 => ?_)
  ·try simp only [NM] at h16
   exfalso; first | omega | (simp at h16)
  ·try simp only [NM] at h16
   refine WP_exit ?_
   refine xhere ?_
   refine WP_seq ?_
   refine WP_ops ?_
   refine WO_mv rfl ?_
   refine WO_nil ?_
   refine WP_ret ?_
   refine ⟨_, RS_tmp (v := .s (.bool _)) rfl (RS_nil), ?_⟩
   rfl
/-- The squares at n steps. -/
def ringM (s : Int) (K : Nat → Int) : Nat → Nat × (Nat → Int)
  | 0 => (0, fun _ => 0)
  | i + 1 => if stepM s (dp K (0 + (i : Int).toNat * 2) 0) (dp K (0 + (i : Int).toNat * 2) 1) = -1 then ringM s K i else ((ringM s K i).1 + 1, fun j => if j < (ringM s K i).1 then (ringM s K i).2 j else stepM s (dp K (0 + (i : Int).toNat * 2) 0) (dp K (0 + (i : Int).toNat * 2) 1))
end Go.Proofs.Ytjldefmcnppdoaa
/- What the kernel tells of a run. -/
namespace Go.Proofs.Ytjldefmcnppdoaa
open Go Go.Am
/-- Is the answer this bool? -/
def ansB (b : Bool) : Option (V × Heap) → Bool
  | some (.s (.bool t), _) => t == b
  | _ => false
theorem RF_ans {A : AP} {m : Nat} {fid : FuncId} {xs : List V} {b : Bool} (h : ansB b (runF A m fid xs []) = true) : RF A fid xs (.s (.bool b)) := by
  cases hr : runF A m fid xs [] with
  | none => rw [hr] at h; cases h
  | some r =>
    obtain ⟨v, σ⟩ := r
    rw [hr] at h
    cases v with
    | s x =>
      cases x with
      | bool t =>
        simp only [ansB] at h
        have := eq_of_beq h
        subst this
        exact ⟨σ, Run_of hr⟩
      | _ => cases h
    | _ => cases h
end Go.Proofs.Ytjldefmcnppdoaa
/- What holds of closed calls of the chapter board, told by the kernel. -/
namespace Go.Proofs.Ytjldefmcnppdoaa
open Go Go.Am
theorem boAwake_run : RF AM 54 [] (.s (.bool true)) := RF_ans (m := 100) (by kernel_rfl)
end Go.Proofs.Ytjldefmcnppdoaa
/- The walk of BoardTells. -/
namespace Go.Proofs.Ytjldefmcnppdoaa
open Go Go.Am
set_option linter.unusedSimpArgs false
set_option linter.unusedVariables false
theorem Lent_ex {md : Md} {q : Nat} {c : Cp} (K : Nat → Int) (nn : Nat) (hnn : nn ≤ 1000) : ∃ G : Nat → Int, (∀ j : Nat, j < nn → G j = K j) ∧ (∀ j : Nat, j < 12 → G (nn + j) = 1000003 * (1 + 7) + (j : Int)) ∧ RN AM 69 [.sl 0 0 nn 1 c] [.sc md q (ia K)] (fun b => .sl b 0 nn 1 (.ex (nn + 12))) (.sc .var (nn + 12) (ia G)) [.sc md q (ia K)] := by
  obtain ⟨v, σ', n', L', h1, h2, b, G, rfl, hb, hm, h0, hG, hM⟩ := Lent_walk (md := md) (q := q) (c := c) K nn hnn
  exact ⟨G, hG, hM, b, σ', h1, hb, (h2.2.mem hm).2, (h2.2.mem h0).2, ⟨_, _, _, rfl⟩, trivial⟩
theorem Lent_exN  : ∃ G : Nat → Int, (∀ j : Nat, j < 0 → G j = (fun _ => 0) j) ∧ (∀ j : Nat, j < 12 → G (0 + j) = 1000003 * (1 + 7) + (j : Int)) ∧ RN AM 69 [.snil] [] (fun b => .sl b 0 0 1 (.ex (0 + 12))) (.sc .var (0 + 12) (ia G)) [] := by
  obtain ⟨v, σ', n', L', h1, h2, b, G, rfl, hm, hG, hM⟩ := Lent_walkN 
  exact ⟨G, hG, hM, b, σ', h1, Nat.zero_le _, (h2.2.mem hm).2, trivial⟩
theorem eqI_t1 {n : Nat} {P Q : Nat → Int} (h : ∀ i, i < n → P i = Q i) : (bif false then !(eqI n P Q) else eqI n P Q) = true := by
  rw [eqI_iff.2 h]; rfl
theorem sq_uniq {P Q R : Nat → Int} (h : Turned P Q 64) (k : Turned P R 64) : ∀ i, i < 128 → Q i = R i := by
  intro i hi
  have hl := acr_lt (s := i / 2) (by omega)
  have h1 := h (acr (i / 2)) hl
  have k1 := k (acr (i / 2)) hl
  rw [show acr (acr (i / 2)) = i / 2 from by unfold acr; omega] at h1 k1
  by_cases e : i % 2 = 0
  · rw [show i = i / 2 * 2 by omega, h1.1, k1.1]
  · rw [show i = i / 2 * 2 + 1 by omega, h1.2, k1.2]
theorem turn_uniq {P Q R : Nat → Int} (h : TurnOf P Q) (k : TurnOf P R) : ∀ i, i < 133 → Q i = R i := by
  intro i hi
  by_cases a : i < 128
  · exact sq_uniq h.sq k.sq i a
  · have : i = 128 ∨ i = 129 ∨ i = 130 ∨ i = 131 ∨ i = 132 := by omega
    rcases this with rfl | rfl | rfl | rfl | rfl
    · rw [h.side, k.side]
    · rw [h.castle, k.castle]
    · rw [h.over, k.over]
    · rw [h.half, k.half]
    · rw [h.full, k.full]
theorem Turns_ex (P : Nat → Int) : ∃ Q R, TurnOf P Q ∧ TurnOf P R ∧ RF AM 53 [.agg 133 (ia P)] (.agg 133 (ia Q)) ∧ RF AM 73 [.agg 133 (ia P)] (.agg 133 (ia R)) := by
  obtain ⟨v, σ, _, _, h, _, Q, hQ, rfl⟩ := Turn_run P
  obtain ⟨v2, σ2, _, _, h2, _, R, hR, rfl⟩ := dTurn_run P
  exact ⟨Q, R, hQ, hR, ⟨σ, h⟩, ⟨σ2, h2⟩⟩

theorem BoardTells_run {md : Md} {q : Nat} {c : Cp} (P X : Nat → Int) (K : Nat → Int) (nn : Nat) : WR AM 15 [.agg 133 (ia P), .agg 2 (ia X), .sl 0 0 nn 1 c] [.sc md q (ia K)] (fun v _ L => v = .s (.bool true) ∧ (0, Blk.sc md q (ia K)) ∈ L) := by
 refine WR_fn (a := a15) rfl rfl (entryF _) (entry_E (Nat.le_of_ble_eq_true rfl)) (m := 1) rfl ?_
 refine WP_seq ?_
 refine WP_ops ?_
 refine WO_boxA rfl ?_
 refine WO_boxA rfl ?_
 refine WO_mv rfl ?_
 refine WO_nil ?_
 refine WP_seq ?_
 refine WP_seq ?_
 refine WP_ops ?_
 refine WO_mv (v := .sl _ _ _ _ _) rfl ?_
 refine WO_len rfl ?_
 refine WO_bin (r := .bool _) rfl rfl rfl ?_
 refine WO_nil ?_
 refine WP_cond rfl (fun h1 => ?_) (fun h1 => ?_)
 ·try simp only [NM] at h1
  refine WP_seq ?_
  refine WP_ops ?_
  refine WO_call0 rfl (boAwake_run) rfl rfl rfl ?_
  refine WO_mv (v := .s (.bool _)) rfl ?_
  refine WO_nil ?_
  refine WP_ret ?_
  refine ⟨_, RS_tmp (v := .s (.bool _)) rfl (RS_nil), ?_⟩
  exact ⟨rfl, (.tail _ (.tail _ (.head _)))⟩
 ·try simp only [NM] at h1
  refine WP_skip ?_
  refine WP_seq ?_
  refine WP_ops ?_
  refine WO_mv (v := .sl _ _ _ _ _) rfl ?_
  obtain ⟨G, hG, hM, hLn⟩ := Lent_ex (md := md) (q := q) (c := c) K nn (by omega)
  refine WO_callN (mk := fun b => .sl b 0 nn 1 (.ex (nn + 12))) (rs := [0]) (Bs := [_]) One_sl rfl hLn rfl rfl (Nat.le_of_ble_eq_true rfl) (fun _ h => h) rfl ⟨(.tail _ (.tail _ (.head _))), ⟨_, _, _, rfl⟩, trivial⟩ rfl rfl (.cons (At_self (.tail _ (.tail _ (.head _)))) .nil) ?_
  refine WO_mv (v := .sl _ _ _ _ _) rfl ?_
  refine WO_nil ?_
  refine WP_seq ?_
  refine WP_ops ?_
  first | refine WO_ldA0 rfl rfl (.tail _ (.tail _ (.head _))) ?_ | refine WO_ldAI rfl rfl (.tail _ (.tail _ (.head _))) ?_
  first | refine WO_ldA0 rfl rfl (.tail _ (.head _)) ?_ | refine WO_ldAI rfl rfl (.tail _ (.head _)) ?_
  refine WO_mv (v := .sl _ _ _ _ _) rfl ?_
  refine WO_call (rs := [3]) (Bs := [_]) rfl (RB_of1 (Put_walk (md := .var) (q := nn + 12) (c := .ex (nn + 12)) P X G nn (by omega))) rfl rfl (Nat.le_of_ble_eq_true rfl) (fun _ h => h) rfl ⟨(.head _), ⟨_, _, _, rfl⟩, trivial⟩ rfl rfl rfl (.cons .here .nil) ?_
  refine WO_mv (v := .tup _) rfl ?_
  refine WO_ext (v := .agg _ _) rfl rfl ?_
  refine WO_ext (v := .s (.int _ _)) rfl rfl ?_
  refine WO_allocI ?_
  refine WO_stA rfl rfl rfl rfl .here ?_
  refine WO_mv (v := .s (.int _ _)) rfl ?_
  refine WO_nil ?_
  refine WP_seq ?_
  refine WP_ops ?_
  first | refine WO_ldA0 rfl rfl (.tail _ (.tail _ (.tail _ (.head _)))) ?_ | refine WO_ldAI rfl rfl (.tail _ (.tail _ (.tail _ (.head _)))) ?_
  first | refine WO_ldA0 rfl rfl (.tail _ (.tail _ (.head _))) ?_ | refine WO_ldAI rfl rfl (.tail _ (.tail _ (.head _))) ?_
  refine WO_mv (v := .sl _ _ _ _ _) rfl ?_
  refine WO_call (rs := [0]) (Bs := [_]) rfl (RB_of1 (dPut_walk P X K nn (by omega))) rfl rfl (Nat.le_of_ble_eq_true rfl) (fun _ h => h) rfl ⟨(.tail _ (.tail _ (.tail _ (.tail _ (.head _))))), ⟨_, _, _, rfl⟩, trivial⟩ rfl rfl rfl (.cons (.there (.there (.there (.there .here)))) .nil) ?_
  refine WO_mv (v := .tup _) rfl ?_
  refine WO_ext (v := .agg _ _) rfl rfl ?_
  refine WO_ext (v := .s (.int _ _)) rfl rfl ?_
  refine WO_allocI ?_
  refine WO_stA rfl rfl rfl rfl .here ?_
  refine WO_mv (v := .s (.int _ _)) rfl ?_
  refine WO_nil ?_
  refine WP_seq ?_
  refine WP_ops ?_
  first | refine WO_ldA0 rfl rfl (.tail _ (.head _)) ?_ | refine WO_ldAI rfl rfl (.tail _ (.head _)) ?_
  first | refine WO_ldA0 rfl rfl (.head _) ?_ | refine WO_ldAI rfl rfl (.head _) ?_
  refine WO_eqaC rfl rfl (eqI_t1 (fun i hi => by rw [putQ_same hG])) ?_
  refine WO_mv (v := .s (.bool _)) rfl ?_
  refine WO_gt rfl ?_
  refine WO_mv (v := .s (.int _ _)) rfl ?_
  refine WO_gt rfl ?_
  refine WO_mv (v := .s (.int _ _)) rfl ?_
  refine WO_gt rfl ?_
  refine WO_bin rfl rfl (eql_eq (putE_same hG)) ?_
  refine WO_pick (v := .s (.bool _)) rfl rfl ?_
  refine WO_mv (v := .s (.bool _)) rfl ?_
  refine WO_gt rfl ?_
  refine WO_mv (v := .sl _ _ _ _ _) rfl ?_
  refine WO_gt rfl ?_
  refine WO_mv (v := .sl _ _ _ _ _) rfl ?_
  refine WO_gt rfl ?_
  refine WO_call (rs := [3, 0]) (Bs := [_, _]) rfl (RB_of2 (Kept_walk K G nn (by omega) hG hM)) rfl rfl (Nat.le_of_ble_eq_true rfl) (fun _ h => h) rfl ⟨(.tail _ (.tail _ (.head _))), ⟨_, _, _, rfl⟩, ⟨(.tail _ (.tail _ (.tail _ (.tail _ (.tail _ (.head _)))))), ⟨_, _, _, rfl⟩, trivial⟩⟩ rfl rfl rfl (.cons (.there (.there .here)) (.cons (.there (.there (.there (.there (.there .here))))) .nil)) ?_
  refine WO_pick (v := .s (.bool _)) rfl rfl ?_
  refine WO_mv (v := .s (.bool _)) rfl ?_
  refine WO_gt rfl ?_
  first | refine WO_ldA0 rfl rfl (.tail _ (.tail _ (.tail _ (.tail _ (.head _))))) ?_ | refine WO_ldAI rfl rfl (.tail _ (.tail _ (.tail _ (.tail _ (.head _))))) ?_
  refine WO_gt rfl ?_
  refine WO_callq0 rfl (RF_of (Right_run P)) rfl rfl rfl ?_
  refine WO_gt rfl ?_
  first | refine WO_ldA0 rfl rfl (.tail _ (.tail _ (.tail _ (.tail _ (.head _))))) ?_ | refine WO_ldAI rfl rfl (.tail _ (.tail _ (.tail _ (.tail _ (.head _))))) ?_
  refine WO_gt rfl ?_
  refine WO_call0 rfl (RF_of (rRight_run P)) rfl rfl rfl ?_
  refine WO_gt rfl ?_
  refine WO_eqbT rfl rfl (rfl) ?_
  refine WO_pick (v := .s (.bool _)) rfl rfl ?_
  refine WO_mv (v := .s (.bool _)) rfl ?_
  refine WO_gt rfl ?_
  first | refine WO_ldA0 rfl rfl (.tail _ (.tail _ (.tail _ (.tail _ (.head _))))) ?_ | refine WO_ldAI rfl rfl (.tail _ (.tail _ (.tail _ (.tail _ (.head _))))) ?_
  refine WO_gt rfl ?_
  obtain ⟨Q, Q2, hTQ, hTR, hE1, hE2⟩ := Turns_ex P
  refine WO_callq0 rfl (hE1) rfl rfl rfl ?_
  refine WO_gt rfl ?_
  first | refine WO_ldA0 rfl rfl (.tail _ (.tail _ (.tail _ (.tail _ (.head _))))) ?_ | refine WO_ldAI rfl rfl (.tail _ (.tail _ (.tail _ (.tail _ (.head _))))) ?_
  refine WO_gt rfl ?_
  refine WO_call0 rfl (hE2) rfl rfl rfl ?_
  refine WO_gt rfl ?_
  refine WO_eqaC rfl rfl (eqI_t1 (turn_uniq hTQ hTR)) ?_
  refine WO_pick (v := .s (.bool _)) rfl rfl ?_
  refine WO_mv (v := .s (.bool _)) rfl ?_
  refine WO_gt rfl ?_
  first | refine WO_ldA0 rfl rfl (.tail _ (.tail _ (.tail _ (.tail _ (.head _))))) ?_ | refine WO_ldAI rfl rfl (.tail _ (.tail _ (.tail _ (.tail _ (.head _))))) ?_
  refine WO_gt rfl ?_
  first | refine WO_ldA0 rfl rfl (.tail _ (.tail _ (.tail _ (.head _)))) ?_ | refine WO_ldAI rfl rfl (.tail _ (.tail _ (.tail _ (.head _)))) ?_
  refine WO_gt rfl ?_
  rcases Find_ex P X with ⟨hc63, hT63⟩ | ⟨hc63, q63, F63, hF63, hT63⟩
  ·skip
   refine WO_callq0 rfl (hT63) rfl rfl rfl ?_
   refine WO_gt rfl ?_
   first | refine WO_ldA0 rfl rfl (.tail _ (.tail _ (.tail _ (.tail _ (.head _))))) ?_ | refine WO_ldAI rfl rfl (.tail _ (.tail _ (.tail _ (.tail _ (.head _))))) ?_
   refine WO_gt rfl ?_
   first | refine WO_ldA0 rfl rfl (.tail _ (.tail _ (.tail _ (.head _)))) ?_ | refine WO_ldAI rfl rfl (.tail _ (.tail _ (.tail _ (.head _)))) ?_
   refine WO_gt rfl ?_
   rcases dFind_ex P X with ⟨hc66, hT66⟩ | ⟨hc66, q66, F66, hF66, hT66⟩
   ·skip
    refine WO_call0 rfl (hT66) rfl rfl rfl ?_
    refine WO_gt rfl ?_
    refine WO_call0 rfl (RF_of SameInts_nil) rfl rfl rfl ?_
    refine WO_pick (v := .s (.bool _)) rfl rfl ?_
    refine WO_mv (v := .s (.bool _)) rfl ?_
    refine WO_nil ?_
    refine WP_seq ?_
    refine WP_ops ?_
    refine WO_mv (v := .s (.bool _)) rfl ?_
    refine WO_mv (v := .s (.bool _)) rfl ?_
    refine WO_gt rfl ?_
    first | refine WO_ldA0 rfl rfl (.tail _ (.tail _ (.tail _ (.tail _ (.head _))))) ?_ | refine WO_ldAI rfl rfl (.tail _ (.tail _ (.tail _ (.tail _ (.head _))))) ?_
    refine WO_gt rfl ?_
    refine WO_fa (o' := 128) rfl rfl rfl ?_
    refine WO_gt rfl ?_
    refine WO_ldI (x := P 128) rfl rfl (.tail _ (.tail _ (.tail _ (.tail _ (.head _))))) (rfl) ?_
    refine WO_gt rfl ?_
    obtain ⟨x1, _, hk1, hk2⟩ := King_both P (P 128)
    refine WO_callq0 rfl (hk1) rfl rfl rfl ?_
    refine WO_gt rfl ?_
    first | refine WO_ldA0 rfl rfl (.tail _ (.tail _ (.tail _ (.tail _ (.head _))))) ?_ | refine WO_ldAI rfl rfl (.tail _ (.tail _ (.tail _ (.tail _ (.head _))))) ?_
    refine WO_gt rfl ?_
    refine WO_fa (o' := 128) rfl rfl rfl ?_
    refine WO_gt rfl ?_
    refine WO_ldI (x := P 128) rfl rfl (.tail _ (.tail _ (.tail _ (.tail _ (.head _))))) (rfl) ?_
    refine WO_gt rfl ?_
    refine WO_call0 rfl (hk2) rfl rfl rfl ?_
    refine WO_gt rfl ?_
    refine WO_bin rfl rfl (eql_eq rfl) ?_
    refine WO_pick (v := .s (.bool _)) rfl rfl ?_
    refine WO_mv (v := .s (.bool _)) rfl ?_
    refine WO_gt rfl ?_
    first | refine WO_ldA0 rfl rfl (.tail _ (.tail _ (.tail _ (.tail _ (.head _))))) ?_ | refine WO_ldAI rfl rfl (.tail _ (.tail _ (.tail _ (.tail _ (.head _))))) ?_
    refine WO_gt rfl ?_
    refine WO_fa (o' := 128) rfl rfl rfl ?_
    refine WO_gt rfl ?_
    refine WO_ldI (x := P 128) rfl rfl (.tail _ (.tail _ (.tail _ (.tail _ (.head _))))) (rfl) ?_
    refine WO_gt rfl ?_
    refine WO_callq0 rfl (RF_of (Other_run _)) rfl rfl rfl ?_
    refine WO_gt rfl ?_
    obtain ⟨x2, _, hk3, hk4⟩ := King_both P (otherM (P 128))
    refine WO_callq0 rfl (hk3) rfl rfl rfl ?_
    refine WO_gt rfl ?_
    first | refine WO_ldA0 rfl rfl (.tail _ (.tail _ (.tail _ (.tail _ (.head _))))) ?_ | refine WO_ldAI rfl rfl (.tail _ (.tail _ (.tail _ (.tail _ (.head _))))) ?_
    refine WO_gt rfl ?_
    refine WO_fa (o' := 128) rfl rfl rfl ?_
    refine WO_gt rfl ?_
    refine WO_ldI (x := P 128) rfl rfl (.tail _ (.tail _ (.tail _ (.tail _ (.head _))))) (rfl) ?_
    refine WO_gt rfl ?_
    refine WO_callq0 rfl (RF_of (rOther_run _)) rfl rfl rfl ?_
    refine WO_gt rfl ?_
    refine WO_call0 rfl (hk4) rfl rfl rfl ?_
    refine WO_gt rfl ?_
    refine WO_bin rfl rfl (eql_eq rfl) ?_
    refine WO_pick (v := .s (.bool _)) rfl rfl ?_
    refine WO_mv (v := .s (.bool _)) rfl ?_
    refine WO_gt rfl ?_
    refine WO_call0 rfl (boAwake_run) rfl rfl rfl ?_
    refine WO_pick (v := .s (.bool _)) rfl rfl ?_
    refine WO_mv (v := .s (.bool _)) rfl ?_
    refine WO_nil ?_
    refine WP_ret ?_
    refine ⟨_, RS_tmp (v := .s (.bool _)) rfl (RS_nil), ?_⟩
    exact ⟨rfl, (.tail _ (.tail _ (.tail _ (.tail _ (.tail _ (.head _))))))⟩
   ·skip
    exfalso; omega
  ·skip
   refine WO_callqN (mk := fun b => .sl b 0 (lstM (stB P X) 64).1 1 .whole) (rs := []) (Bs := []) One_sl rfl hT63 rfl rfl (Nat.le_of_ble_eq_true rfl) (fun _ h => h) rfl trivial rfl rfl ?_
   refine WO_gt rfl ?_
   first | refine WO_ldA0 rfl rfl (.tail _ (.tail _ (.tail _ (.tail _ (.tail _ (.head _)))))) ?_ | refine WO_ldAI rfl rfl (.tail _ (.tail _ (.tail _ (.tail _ (.tail _ (.head _)))))) ?_
   refine WO_gt rfl ?_
   first | refine WO_ldA0 rfl rfl (.tail _ (.tail _ (.tail _ (.tail _ (.head _))))) ?_ | refine WO_ldAI rfl rfl (.tail _ (.tail _ (.tail _ (.tail _ (.head _))))) ?_
   refine WO_gt rfl ?_
   rcases dFind_ex P X with ⟨hc66, hT66⟩ | ⟨hc66, q66, F66, hF66, hT66⟩
   ·skip
    exfalso; omega
   ·skip
    refine WO_callN (mk := fun b => .sl b 0 (lstM (stB P X) 64).1 1 .whole) (rs := []) (Bs := []) One_sl rfl hT66 rfl rfl (Nat.le_of_ble_eq_true rfl) (fun _ h => h) rfl trivial rfl rfl .nil ?_
    refine WO_gt rfl ?_
    refine WO_call (rs := [6, 7]) (Bs := [_, _]) rfl (RB_of2 (SameInts_run (md := .grow) (md2 := .grow) (c := .whole) (c2 := .whole) F63 F66 (lstM (stB P X) 64).1 (by have := lstM_le (stB P X) 64; omega) (fun j hj => (hF63 j hj).trans (hF66 j hj).symm))) rfl rfl (Nat.le_of_ble_eq_true rfl) (fun _ h => h) rfl ⟨(.tail _ (.head _)), ⟨_, _, _, rfl⟩, ⟨(.head _), ⟨_, _, _, rfl⟩, trivial⟩⟩ rfl rfl rfl (.cons (.there .here) (.cons .here .nil)) ?_
    refine WO_pick (v := .s (.bool _)) rfl rfl ?_
    refine WO_mv (v := .s (.bool _)) rfl ?_
    refine WO_nil ?_
    refine WP_seq ?_
    refine WP_ops ?_
    refine WO_mv (v := .s (.bool _)) rfl ?_
    refine WO_mv (v := .s (.bool _)) rfl ?_
    refine WO_gt rfl ?_
    first | refine WO_ldA0 rfl rfl (.tail _ (.tail _ (.tail _ (.tail _ (.tail _ (.tail _ (.head _))))))) ?_ | refine WO_ldAI rfl rfl (.tail _ (.tail _ (.tail _ (.tail _ (.tail _ (.tail _ (.head _))))))) ?_
    refine WO_gt rfl ?_
    refine WO_fa (o' := 128) rfl rfl rfl ?_
    refine WO_gt rfl ?_
    refine WO_ldI (x := P 128) rfl rfl (.tail _ (.tail _ (.tail _ (.tail _ (.tail _ (.tail _ (.head _))))))) (rfl) ?_
    refine WO_gt rfl ?_
    obtain ⟨x1, _, hk1, hk2⟩ := King_both P (P 128)
    refine WO_callq0 rfl (hk1) rfl rfl rfl ?_
    refine WO_gt rfl ?_
    first | refine WO_ldA0 rfl rfl (.tail _ (.tail _ (.tail _ (.tail _ (.tail _ (.tail _ (.head _))))))) ?_ | refine WO_ldAI rfl rfl (.tail _ (.tail _ (.tail _ (.tail _ (.tail _ (.tail _ (.head _))))))) ?_
    refine WO_gt rfl ?_
    refine WO_fa (o' := 128) rfl rfl rfl ?_
    refine WO_gt rfl ?_
    refine WO_ldI (x := P 128) rfl rfl (.tail _ (.tail _ (.tail _ (.tail _ (.tail _ (.tail _ (.head _))))))) (rfl) ?_
    refine WO_gt rfl ?_
    refine WO_call0 rfl (hk2) rfl rfl rfl ?_
    refine WO_gt rfl ?_
    refine WO_bin rfl rfl (eql_eq rfl) ?_
    refine WO_pick (v := .s (.bool _)) rfl rfl ?_
    refine WO_mv (v := .s (.bool _)) rfl ?_
    refine WO_gt rfl ?_
    first | refine WO_ldA0 rfl rfl (.tail _ (.tail _ (.tail _ (.tail _ (.tail _ (.tail _ (.head _))))))) ?_ | refine WO_ldAI rfl rfl (.tail _ (.tail _ (.tail _ (.tail _ (.tail _ (.tail _ (.head _))))))) ?_
    refine WO_gt rfl ?_
    refine WO_fa (o' := 128) rfl rfl rfl ?_
    refine WO_gt rfl ?_
    refine WO_ldI (x := P 128) rfl rfl (.tail _ (.tail _ (.tail _ (.tail _ (.tail _ (.tail _ (.head _))))))) (rfl) ?_
    refine WO_gt rfl ?_
    refine WO_callq0 rfl (RF_of (Other_run _)) rfl rfl rfl ?_
    refine WO_gt rfl ?_
    obtain ⟨x2, _, hk3, hk4⟩ := King_both P (otherM (P 128))
    refine WO_callq0 rfl (hk3) rfl rfl rfl ?_
    refine WO_gt rfl ?_
    first | refine WO_ldA0 rfl rfl (.tail _ (.tail _ (.tail _ (.tail _ (.tail _ (.tail _ (.head _))))))) ?_ | refine WO_ldAI rfl rfl (.tail _ (.tail _ (.tail _ (.tail _ (.tail _ (.tail _ (.head _))))))) ?_
    refine WO_gt rfl ?_
    refine WO_fa (o' := 128) rfl rfl rfl ?_
    refine WO_gt rfl ?_
    refine WO_ldI (x := P 128) rfl rfl (.tail _ (.tail _ (.tail _ (.tail _ (.tail _ (.tail _ (.head _))))))) (rfl) ?_
    refine WO_gt rfl ?_
    refine WO_callq0 rfl (RF_of (rOther_run _)) rfl rfl rfl ?_
    refine WO_gt rfl ?_
    refine WO_call0 rfl (hk4) rfl rfl rfl ?_
    refine WO_gt rfl ?_
    refine WO_bin rfl rfl (eql_eq rfl) ?_
    refine WO_pick (v := .s (.bool _)) rfl rfl ?_
    refine WO_mv (v := .s (.bool _)) rfl ?_
    refine WO_gt rfl ?_
    refine WO_call0 rfl (boAwake_run) rfl rfl rfl ?_
    refine WO_pick (v := .s (.bool _)) rfl rfl ?_
    refine WO_mv (v := .s (.bool _)) rfl ?_
    refine WO_nil ?_
    refine WP_ret ?_
    refine ⟨_, RS_tmp (v := .s (.bool _)) rfl (RS_nil), ?_⟩
    exact ⟨rfl, (.tail _ (.tail _ (.tail _ (.tail _ (.tail _ (.tail _ (.tail _ (.head _))))))))⟩
theorem BoardTells_runN (P X : Nat → Int) : WR AM 15 [.agg 133 (ia P), .agg 2 (ia X), .snil] [] (fun v _ L => v = .s (.bool true)) := by
 refine WR_fn (a := a15) rfl rfl (entryF _) (entry_E (Nat.le_of_ble_eq_true rfl)) (m := 0) rfl ?_
 refine WP_seq ?_
 refine WP_ops ?_
 refine WO_boxA rfl ?_
 refine WO_boxA rfl ?_
 refine WO_mv rfl ?_
 refine WO_nil ?_
 refine WP_seq ?_
 refine WP_seq ?_
 refine WP_ops ?_
 refine WO_mv (v := .snil) rfl ?_
 refine WO_lenN rfl ?_
 refine WO_bin (r := .bool _) rfl rfl rfl ?_
 refine WO_nil ?_
 refine WP_cond rfl (fun h2 => ?_) (fun h2 => ?_)
 ·try simp only [NM] at h2
  exfalso; first | omega | (simp at h2)
 ·try simp only [NM] at h2
  refine WP_skip ?_
  refine WP_seq ?_
  refine WP_ops ?_
  refine WO_mv (v := .snil) rfl ?_
  obtain ⟨G, hG, hM, hLn⟩ := Lent_exN 
  refine WO_callN (mk := fun b => .sl b 0 0 1 (.ex (0 + 12))) (rs := []) (Bs := []) One_sl rfl hLn rfl rfl (Nat.le_of_ble_eq_true rfl) (fun _ h => h) rfl trivial rfl rfl .nil ?_
  refine WO_mv (v := .sl _ _ _ _ _) rfl ?_
  refine WO_nil ?_
  refine WP_seq ?_
  refine WP_ops ?_
  first | refine WO_ldA0 rfl rfl (.tail _ (.tail _ (.head _))) ?_ | refine WO_ldAI rfl rfl (.tail _ (.tail _ (.head _))) ?_
  first | refine WO_ldA0 rfl rfl (.tail _ (.head _)) ?_ | refine WO_ldAI rfl rfl (.tail _ (.head _)) ?_
  refine WO_mv (v := .sl _ _ _ _ _) rfl ?_
  refine WO_call (rs := [2]) (Bs := [_]) rfl (RB_of1 (Put_walk (md := .var) (q := 0 + 12) (c := .ex (0 + 12)) P X G 0 (by omega))) rfl rfl (Nat.le_of_ble_eq_true rfl) (fun _ h => h) rfl ⟨(.head _), ⟨_, _, _, rfl⟩, trivial⟩ rfl rfl rfl (.cons .here .nil) ?_
  refine WO_mv (v := .tup _) rfl ?_
  refine WO_ext (v := .agg _ _) rfl rfl ?_
  refine WO_ext (v := .s (.int _ _)) rfl rfl ?_
  refine WO_allocI ?_
  refine WO_stA rfl rfl rfl rfl .here ?_
  refine WO_mv (v := .s (.int _ _)) rfl ?_
  refine WO_nil ?_
  refine WP_seq ?_
  refine WP_ops ?_
  first | refine WO_ldA0 rfl rfl (.tail _ (.tail _ (.tail _ (.head _)))) ?_ | refine WO_ldAI rfl rfl (.tail _ (.tail _ (.tail _ (.head _)))) ?_
  first | refine WO_ldA0 rfl rfl (.tail _ (.tail _ (.head _))) ?_ | refine WO_ldAI rfl rfl (.tail _ (.tail _ (.head _))) ?_
  refine WO_mv (v := .snil) rfl ?_
  refine WO_call0 rfl (RF_of (dPut_walkN P X)) rfl rfl rfl ?_
  refine WO_mv (v := .tup _) rfl ?_
  refine WO_ext (v := .agg _ _) rfl rfl ?_
  refine WO_ext (v := .s (.int _ _)) rfl rfl ?_
  refine WO_allocI ?_
  refine WO_stA rfl rfl rfl rfl .here ?_
  refine WO_mv (v := .s (.int _ _)) rfl ?_
  refine WO_nil ?_
  refine WP_seq ?_
  refine WP_ops ?_
  first | refine WO_ldA0 rfl rfl (.tail _ (.head _)) ?_ | refine WO_ldAI rfl rfl (.tail _ (.head _)) ?_
  first | refine WO_ldA0 rfl rfl (.head _) ?_ | refine WO_ldAI rfl rfl (.head _) ?_
  refine WO_eqaC rfl rfl (eqI_t1 (fun i hi => by rw [putQ_same (K := fun _ => 0) hG])) ?_
  refine WO_mv (v := .s (.bool _)) rfl ?_
  refine WO_gt rfl ?_
  refine WO_mv (v := .s (.int _ _)) rfl ?_
  refine WO_gt rfl ?_
  refine WO_mv (v := .s (.int _ _)) rfl ?_
  refine WO_gt rfl ?_
  refine WO_bin rfl rfl (eql_eq (putE_same hG)) ?_
  refine WO_pick (v := .s (.bool _)) rfl rfl ?_
  refine WO_mv (v := .s (.bool _)) rfl ?_
  refine WO_gt rfl ?_
  refine WO_mv (v := .sl _ _ _ _ _) rfl ?_
  refine WO_gt rfl ?_
  refine WO_mv (v := .snil) rfl ?_
  refine WO_gt rfl ?_
  refine WO_call (rs := [2]) (Bs := [_]) rfl (RB_of1 (Kept_walkN G hM)) rfl rfl (Nat.le_of_ble_eq_true rfl) (fun _ h => h) rfl ⟨(.tail _ (.tail _ (.head _))), ⟨_, _, _, rfl⟩, trivial⟩ rfl rfl rfl (.cons (.there (.there .here)) .nil) ?_
  refine WO_pick (v := .s (.bool _)) rfl rfl ?_
  refine WO_mv (v := .s (.bool _)) rfl ?_
  refine WO_gt rfl ?_
  first | refine WO_ldA0 rfl rfl (.tail _ (.tail _ (.tail _ (.tail _ (.head _))))) ?_ | refine WO_ldAI rfl rfl (.tail _ (.tail _ (.tail _ (.tail _ (.head _))))) ?_
  refine WO_gt rfl ?_
  refine WO_callq0 rfl (RF_of (Right_run P)) rfl rfl rfl ?_
  refine WO_gt rfl ?_
  first | refine WO_ldA0 rfl rfl (.tail _ (.tail _ (.tail _ (.tail _ (.head _))))) ?_ | refine WO_ldAI rfl rfl (.tail _ (.tail _ (.tail _ (.tail _ (.head _))))) ?_
  refine WO_gt rfl ?_
  refine WO_call0 rfl (RF_of (rRight_run P)) rfl rfl rfl ?_
  refine WO_gt rfl ?_
  refine WO_eqbT rfl rfl (rfl) ?_
  refine WO_pick (v := .s (.bool _)) rfl rfl ?_
  refine WO_mv (v := .s (.bool _)) rfl ?_
  refine WO_gt rfl ?_
  first | refine WO_ldA0 rfl rfl (.tail _ (.tail _ (.tail _ (.tail _ (.head _))))) ?_ | refine WO_ldAI rfl rfl (.tail _ (.tail _ (.tail _ (.tail _ (.head _))))) ?_
  refine WO_gt rfl ?_
  obtain ⟨Q, Q2, hTQ, hTR, hE1, hE2⟩ := Turns_ex P
  refine WO_callq0 rfl (hE1) rfl rfl rfl ?_
  refine WO_gt rfl ?_
  first | refine WO_ldA0 rfl rfl (.tail _ (.tail _ (.tail _ (.tail _ (.head _))))) ?_ | refine WO_ldAI rfl rfl (.tail _ (.tail _ (.tail _ (.tail _ (.head _))))) ?_
  refine WO_gt rfl ?_
  refine WO_call0 rfl (hE2) rfl rfl rfl ?_
  refine WO_gt rfl ?_
  refine WO_eqaC rfl rfl (eqI_t1 (turn_uniq hTQ hTR)) ?_
  refine WO_pick (v := .s (.bool _)) rfl rfl ?_
  refine WO_mv (v := .s (.bool _)) rfl ?_
  refine WO_gt rfl ?_
  first | refine WO_ldA0 rfl rfl (.tail _ (.tail _ (.tail _ (.tail _ (.head _))))) ?_ | refine WO_ldAI rfl rfl (.tail _ (.tail _ (.tail _ (.tail _ (.head _))))) ?_
  refine WO_gt rfl ?_
  first | refine WO_ldA0 rfl rfl (.tail _ (.tail _ (.tail _ (.head _)))) ?_ | refine WO_ldAI rfl rfl (.tail _ (.tail _ (.tail _ (.head _)))) ?_
  refine WO_gt rfl ?_
  rcases Find_ex P X with ⟨hc63, hT63⟩ | ⟨hc63, q63, F63, hF63, hT63⟩
  ·skip
   refine WO_callq0 rfl (hT63) rfl rfl rfl ?_
   refine WO_gt rfl ?_
   first | refine WO_ldA0 rfl rfl (.tail _ (.tail _ (.tail _ (.tail _ (.head _))))) ?_ | refine WO_ldAI rfl rfl (.tail _ (.tail _ (.tail _ (.tail _ (.head _))))) ?_
   refine WO_gt rfl ?_
   first | refine WO_ldA0 rfl rfl (.tail _ (.tail _ (.tail _ (.head _)))) ?_ | refine WO_ldAI rfl rfl (.tail _ (.tail _ (.tail _ (.head _)))) ?_
   refine WO_gt rfl ?_
   rcases dFind_ex P X with ⟨hc66, hT66⟩ | ⟨hc66, q66, F66, hF66, hT66⟩
   ·skip
    refine WO_call0 rfl (hT66) rfl rfl rfl ?_
    refine WO_gt rfl ?_
    refine WO_call0 rfl (RF_of SameInts_nil) rfl rfl rfl ?_
    refine WO_pick (v := .s (.bool _)) rfl rfl ?_
    refine WO_mv (v := .s (.bool _)) rfl ?_
    refine WO_nil ?_
    refine WP_seq ?_
    refine WP_ops ?_
    refine WO_mv (v := .s (.bool _)) rfl ?_
    refine WO_mv (v := .s (.bool _)) rfl ?_
    refine WO_gt rfl ?_
    first | refine WO_ldA0 rfl rfl (.tail _ (.tail _ (.tail _ (.tail _ (.head _))))) ?_ | refine WO_ldAI rfl rfl (.tail _ (.tail _ (.tail _ (.tail _ (.head _))))) ?_
    refine WO_gt rfl ?_
    refine WO_fa (o' := 128) rfl rfl rfl ?_
    refine WO_gt rfl ?_
    refine WO_ldI (x := P 128) rfl rfl (.tail _ (.tail _ (.tail _ (.tail _ (.head _))))) (rfl) ?_
    refine WO_gt rfl ?_
    obtain ⟨x1, _, hk1, hk2⟩ := King_both P (P 128)
    refine WO_callq0 rfl (hk1) rfl rfl rfl ?_
    refine WO_gt rfl ?_
    first | refine WO_ldA0 rfl rfl (.tail _ (.tail _ (.tail _ (.tail _ (.head _))))) ?_ | refine WO_ldAI rfl rfl (.tail _ (.tail _ (.tail _ (.tail _ (.head _))))) ?_
    refine WO_gt rfl ?_
    refine WO_fa (o' := 128) rfl rfl rfl ?_
    refine WO_gt rfl ?_
    refine WO_ldI (x := P 128) rfl rfl (.tail _ (.tail _ (.tail _ (.tail _ (.head _))))) (rfl) ?_
    refine WO_gt rfl ?_
    refine WO_call0 rfl (hk2) rfl rfl rfl ?_
    refine WO_gt rfl ?_
    refine WO_bin rfl rfl (eql_eq rfl) ?_
    refine WO_pick (v := .s (.bool _)) rfl rfl ?_
    refine WO_mv (v := .s (.bool _)) rfl ?_
    refine WO_gt rfl ?_
    first | refine WO_ldA0 rfl rfl (.tail _ (.tail _ (.tail _ (.tail _ (.head _))))) ?_ | refine WO_ldAI rfl rfl (.tail _ (.tail _ (.tail _ (.tail _ (.head _))))) ?_
    refine WO_gt rfl ?_
    refine WO_fa (o' := 128) rfl rfl rfl ?_
    refine WO_gt rfl ?_
    refine WO_ldI (x := P 128) rfl rfl (.tail _ (.tail _ (.tail _ (.tail _ (.head _))))) (rfl) ?_
    refine WO_gt rfl ?_
    refine WO_callq0 rfl (RF_of (Other_run _)) rfl rfl rfl ?_
    refine WO_gt rfl ?_
    obtain ⟨x2, _, hk3, hk4⟩ := King_both P (otherM (P 128))
    refine WO_callq0 rfl (hk3) rfl rfl rfl ?_
    refine WO_gt rfl ?_
    first | refine WO_ldA0 rfl rfl (.tail _ (.tail _ (.tail _ (.tail _ (.head _))))) ?_ | refine WO_ldAI rfl rfl (.tail _ (.tail _ (.tail _ (.tail _ (.head _))))) ?_
    refine WO_gt rfl ?_
    refine WO_fa (o' := 128) rfl rfl rfl ?_
    refine WO_gt rfl ?_
    refine WO_ldI (x := P 128) rfl rfl (.tail _ (.tail _ (.tail _ (.tail _ (.head _))))) (rfl) ?_
    refine WO_gt rfl ?_
    refine WO_callq0 rfl (RF_of (rOther_run _)) rfl rfl rfl ?_
    refine WO_gt rfl ?_
    refine WO_call0 rfl (hk4) rfl rfl rfl ?_
    refine WO_gt rfl ?_
    refine WO_bin rfl rfl (eql_eq rfl) ?_
    refine WO_pick (v := .s (.bool _)) rfl rfl ?_
    refine WO_mv (v := .s (.bool _)) rfl ?_
    refine WO_gt rfl ?_
    refine WO_call0 rfl (boAwake_run) rfl rfl rfl ?_
    refine WO_pick (v := .s (.bool _)) rfl rfl ?_
    refine WO_mv (v := .s (.bool _)) rfl ?_
    refine WO_nil ?_
    refine WP_ret ?_
    refine ⟨_, RS_tmp (v := .s (.bool _)) rfl (RS_nil), ?_⟩
    rfl
   ·skip
    exfalso; omega
  ·skip
   refine WO_callqN (mk := fun b => .sl b 0 (lstM (stB P X) 64).1 1 .whole) (rs := []) (Bs := []) One_sl rfl hT63 rfl rfl (Nat.le_of_ble_eq_true rfl) (fun _ h => h) rfl trivial rfl rfl ?_
   refine WO_gt rfl ?_
   first | refine WO_ldA0 rfl rfl (.tail _ (.tail _ (.tail _ (.tail _ (.tail _ (.head _)))))) ?_ | refine WO_ldAI rfl rfl (.tail _ (.tail _ (.tail _ (.tail _ (.tail _ (.head _)))))) ?_
   refine WO_gt rfl ?_
   first | refine WO_ldA0 rfl rfl (.tail _ (.tail _ (.tail _ (.tail _ (.head _))))) ?_ | refine WO_ldAI rfl rfl (.tail _ (.tail _ (.tail _ (.tail _ (.head _))))) ?_
   refine WO_gt rfl ?_
   rcases dFind_ex P X with ⟨hc66, hT66⟩ | ⟨hc66, q66, F66, hF66, hT66⟩
   ·skip
    exfalso; omega
   ·skip
    refine WO_callN (mk := fun b => .sl b 0 (lstM (stB P X) 64).1 1 .whole) (rs := []) (Bs := []) One_sl rfl hT66 rfl rfl (Nat.le_of_ble_eq_true rfl) (fun _ h => h) rfl trivial rfl rfl .nil ?_
    refine WO_gt rfl ?_
    refine WO_call (rs := [5, 6]) (Bs := [_, _]) rfl (RB_of2 (SameInts_run (md := .grow) (md2 := .grow) (c := .whole) (c2 := .whole) F63 F66 (lstM (stB P X) 64).1 (by have := lstM_le (stB P X) 64; omega) (fun j hj => (hF63 j hj).trans (hF66 j hj).symm))) rfl rfl (Nat.le_of_ble_eq_true rfl) (fun _ h => h) rfl ⟨(.tail _ (.head _)), ⟨_, _, _, rfl⟩, ⟨(.head _), ⟨_, _, _, rfl⟩, trivial⟩⟩ rfl rfl rfl (.cons (.there .here) (.cons .here .nil)) ?_
    refine WO_pick (v := .s (.bool _)) rfl rfl ?_
    refine WO_mv (v := .s (.bool _)) rfl ?_
    refine WO_nil ?_
    refine WP_seq ?_
    refine WP_ops ?_
    refine WO_mv (v := .s (.bool _)) rfl ?_
    refine WO_mv (v := .s (.bool _)) rfl ?_
    refine WO_gt rfl ?_
    first | refine WO_ldA0 rfl rfl (.tail _ (.tail _ (.tail _ (.tail _ (.tail _ (.tail _ (.head _))))))) ?_ | refine WO_ldAI rfl rfl (.tail _ (.tail _ (.tail _ (.tail _ (.tail _ (.tail _ (.head _))))))) ?_
    refine WO_gt rfl ?_
    refine WO_fa (o' := 128) rfl rfl rfl ?_
    refine WO_gt rfl ?_
    refine WO_ldI (x := P 128) rfl rfl (.tail _ (.tail _ (.tail _ (.tail _ (.tail _ (.tail _ (.head _))))))) (rfl) ?_
    refine WO_gt rfl ?_
    obtain ⟨x1, _, hk1, hk2⟩ := King_both P (P 128)
    refine WO_callq0 rfl (hk1) rfl rfl rfl ?_
    refine WO_gt rfl ?_
    first | refine WO_ldA0 rfl rfl (.tail _ (.tail _ (.tail _ (.tail _ (.tail _ (.tail _ (.head _))))))) ?_ | refine WO_ldAI rfl rfl (.tail _ (.tail _ (.tail _ (.tail _ (.tail _ (.tail _ (.head _))))))) ?_
    refine WO_gt rfl ?_
    refine WO_fa (o' := 128) rfl rfl rfl ?_
    refine WO_gt rfl ?_
    refine WO_ldI (x := P 128) rfl rfl (.tail _ (.tail _ (.tail _ (.tail _ (.tail _ (.tail _ (.head _))))))) (rfl) ?_
    refine WO_gt rfl ?_
    refine WO_call0 rfl (hk2) rfl rfl rfl ?_
    refine WO_gt rfl ?_
    refine WO_bin rfl rfl (eql_eq rfl) ?_
    refine WO_pick (v := .s (.bool _)) rfl rfl ?_
    refine WO_mv (v := .s (.bool _)) rfl ?_
    refine WO_gt rfl ?_
    first | refine WO_ldA0 rfl rfl (.tail _ (.tail _ (.tail _ (.tail _ (.tail _ (.tail _ (.head _))))))) ?_ | refine WO_ldAI rfl rfl (.tail _ (.tail _ (.tail _ (.tail _ (.tail _ (.tail _ (.head _))))))) ?_
    refine WO_gt rfl ?_
    refine WO_fa (o' := 128) rfl rfl rfl ?_
    refine WO_gt rfl ?_
    refine WO_ldI (x := P 128) rfl rfl (.tail _ (.tail _ (.tail _ (.tail _ (.tail _ (.tail _ (.head _))))))) (rfl) ?_
    refine WO_gt rfl ?_
    refine WO_callq0 rfl (RF_of (Other_run _)) rfl rfl rfl ?_
    refine WO_gt rfl ?_
    obtain ⟨x2, _, hk3, hk4⟩ := King_both P (otherM (P 128))
    refine WO_callq0 rfl (hk3) rfl rfl rfl ?_
    refine WO_gt rfl ?_
    first | refine WO_ldA0 rfl rfl (.tail _ (.tail _ (.tail _ (.tail _ (.tail _ (.tail _ (.head _))))))) ?_ | refine WO_ldAI rfl rfl (.tail _ (.tail _ (.tail _ (.tail _ (.tail _ (.tail _ (.head _))))))) ?_
    refine WO_gt rfl ?_
    refine WO_fa (o' := 128) rfl rfl rfl ?_
    refine WO_gt rfl ?_
    refine WO_ldI (x := P 128) rfl rfl (.tail _ (.tail _ (.tail _ (.tail _ (.tail _ (.tail _ (.head _))))))) (rfl) ?_
    refine WO_gt rfl ?_
    refine WO_callq0 rfl (RF_of (rOther_run _)) rfl rfl rfl ?_
    refine WO_gt rfl ?_
    refine WO_call0 rfl (hk4) rfl rfl rfl ?_
    refine WO_gt rfl ?_
    refine WO_bin rfl rfl (eql_eq rfl) ?_
    refine WO_pick (v := .s (.bool _)) rfl rfl ?_
    refine WO_mv (v := .s (.bool _)) rfl ?_
    refine WO_gt rfl ?_
    refine WO_call0 rfl (boAwake_run) rfl rfl rfl ?_
    refine WO_pick (v := .s (.bool _)) rfl rfl ?_
    refine WO_mv (v := .s (.bool _)) rfl ?_
    refine WO_nil ?_
    refine WP_ret ?_
    refine ⟨_, RS_tmp (v := .s (.bool _)) rfl (RS_nil), ?_⟩
    rfl
end Go.Proofs.Ytjldefmcnppdoaa
/- board.Start: its parts, as the machine has them. -/
namespace Go.Proofs.Ytjldefmcnppdoaa
open Go Go.Am
set_option linter.unusedSimpArgs false
set_option linter.unusedVariables false
/-- The machine without a word on board.Start. -/
def AM0 : AP := { fns := AM.fns, prims := fun f => bif Nat.beq f 85 then some idxPrim else none }
def emptyF (i : Nat) : Int := bif Nat.beq i 130 then -1 else bif Nat.beq i 132 then 1 else 0
/-- The position when the files below j are laid, and of file j the ranks in S. -/
def curF (j : Nat) (S : Nat → Bool) (i : Nat) : Int := if i < 128 ∧ ((i / 2) % 8 < j ∨ ((i / 2) % 8 = j ∧ S (i / 16) = true)) then startF i else emptyF i
theorem ovA_whole {P Q : Nat → Int} {m : Nat} (h : ∀ i, m ≤ i → P i = Q i) : ovA P 0 m Q = Q := by
  funext i
  unfold ovA
  cases hb : Nat.blt i (0 + m) with
  | true => rw [show Nat.ble 0 i = true from Nat.ble_eq_true_of_le (Nat.zero_le i)]; simp
  | false =>
    simp only [Bool.and_false, cond_false]
    refine h i (Nat.le_of_not_lt fun hi => ?_)
    rw [show Nat.blt i (0 + m) = true from Nat.ble_eq_true_of_le (by omega)] at hb
    cases hb
theorem emptyF_hi (i : Nat) (h : 133 ≤ i) : emptyF i = 0 := by
  unfold emptyF
  rw [show Nat.beq i 130 = false from Bool.eq_false_iff.2 fun e => by have := Nat.eq_of_beq_eq_true e; omega, show Nat.beq i 132 = false from Bool.eq_false_iff.2 fun e => by have := Nat.eq_of_beq_eq_true e; omega]
  rfl

theorem within_run0 (P : Nat → Int) (ha : -9223372036854775808 ≤ P 0 ∧ P 0 ≤ 9223372036854775807) (hb : -9223372036854775808 ≤ P 1 ∧ P 1 ≤ 9223372036854775807) : WR AM0 86 [.agg 2 (ia P)] [] (fun v _ _ => v = .s (.bool (decide (0 ≤ P 0 ∧ P 0 < 8 ∧ 0 ≤ P 1 ∧ P 1 < 8)))) := by
 refine WR_fn (a := a86) rfl rfl (entryF _) (entry_E (Nat.le_of_ble_eq_true rfl)) (m := 0) rfl ?_
 refine WP_seq ?_
 refine WP_ops ?_
 refine WO_boxA rfl ?_
 refine WO_mv rfl ?_
 refine WO_nil ?_
 refine WP_seq ?_
 refine WP_ops ?_
 refine WO_fa (o' := 0) rfl rfl rfl ?_
 refine WO_ldI rfl rfl (.head _) rfl ?_
 refine WO_convW rfl ?_
 refine WO_bin (r := .bool _) rfl rfl rfl ?_
 refine WO_mv (v := .s (.bool _)) rfl ?_
 refine WO_case (t := 7) rfl (fun h1 => ?_) (fun h1 => ?_)
 ·try simp only [NM] at h1
  refine WO_gt rfl ?_
  refine WO_fa (o' := 1) rfl rfl rfl ?_
  refine WO_gt rfl ?_
  refine WO_ldI rfl rfl (.head _) rfl ?_
  refine WO_gt rfl ?_
  refine WO_convW rfl ?_
  refine WO_gt rfl ?_
  refine WO_bin (r := .bool _) rfl rfl rfl ?_
  refine WO_pick (v := .s (.bool _)) rfl rfl ?_
  refine WO_mv (v := .s (.bool _)) rfl ?_
  refine WO_nil ?_
  refine WP_ret ?_
  refine ⟨_, RS_tmp (v := .s (.bool _)) rfl (RS_nil), ?_⟩
  refine congrArg (fun b => V.s (S.bool b)) ?_
  have e0 := u64_lt8 ha
  have e1 := u64_lt8 hb
  rw [Bool.eq_iff_iff]
  simp only [decide_eq_true_eq, Bool.false_eq_true, false_iff]
  omega
 ·try simp only [NM] at h1
  refine WO_gf rfl rfl ?_
  refine WO_gf rfl rfl ?_
  refine WO_gf rfl rfl ?_
  refine WO_gf rfl rfl ?_
  refine WO_pick (v := .s (.bool _)) rfl rfl ?_
  refine WO_mv (v := .s (.bool _)) rfl ?_
  refine WO_nil ?_
  refine WP_ret ?_
  refine ⟨_, RS_tmp (v := .s (.bool _)) rfl (RS_nil), ?_⟩
  refine congrArg (fun b => V.s (S.bool b)) ?_
  have e0 := u64_lt8 ha
  have e1 := u64_lt8 hb
  rw [Bool.eq_iff_iff]
  simp only [decide_eq_true_eq, Bool.false_eq_true, false_iff]
  omega
theorem number_run0 (P : Nat → Int) (ha : -9223372036854775808 ≤ P 0 ∧ P 0 ≤ 9223372036854775807) (hb : -9223372036854775808 ≤ P 1 ∧ P 1 ≤ 9223372036854775807) : WR AM0 84 [.agg 2 (ia P)] [] (fun v _ _ => v = .s (.int .i64 (atM (P 0) (P 1)))) := by
 refine WR_fn (a := a84) rfl rfl (entryF _) (entry_E (Nat.le_of_ble_eq_true rfl)) (m := 0) rfl ?_
 refine WP_seq ?_
 refine WP_ops ?_
 refine WO_boxA rfl ?_
 refine WO_mv rfl ?_
 refine WO_nil ?_
 refine WP_seq ?_
 refine WP_seq ?_
 refine WP_ops ?_
 first | refine WO_ldA0 rfl rfl (.head _) ?_ | refine WO_ldAI rfl rfl (.head _) ?_
 refine WO_call0 rfl (RF_of (within_run0 _ ha hb)) rfl rfl rfl ?_
 refine WO_un (r := .bool _) rfl rfl ?_
 refine WO_nil ?_
 refine WP_cond rfl (fun h2 => ?_) (fun h2 => ?_)
 ·try simp only [NM] at h2
  refine WP_seq ?_
  refine WP_ops ?_
  refine WO_mv rfl ?_
  refine WO_nil ?_
  refine WP_ret ?_
  refine ⟨_, RS_tmp (v := .s (.int _ _)) rfl (RS_nil), ?_⟩
  refine congrArg (fun b => V.s (S.int .i64 b)) ?_
  unfold atM
  split <;> omega
 ·try simp only [NM] at h2
  refine WP_skip ?_
  refine WP_seq ?_
  refine WP_ops ?_
  refine WO_fa (o' := 1) rfl rfl rfl ?_
  refine WO_ldI rfl rfl (.head _) rfl ?_
  refine WO_mul rfl rfl (by omega) ?_
  refine WO_fa (o' := 0) rfl rfl rfl ?_
  refine WO_ldI rfl rfl (.head _) rfl ?_
  refine WO_add rfl rfl (by omega) ?_
  refine WO_mv (v := .s (.int _ _)) rfl ?_
  refine WO_nil ?_
  refine WP_ret ?_
  refine ⟨_, RS_tmp (v := .s (.int _ _)) rfl (RS_nil), ?_⟩
  refine congrArg (fun b => V.s (S.int .i64 b)) ?_
  unfold atM
  split <;> omega
theorem At_run0 (a b : Int) (ha : -9223372036854775808 ≤ a ∧ a ≤ 9223372036854775807) (hb : -9223372036854775808 ≤ b ∧ b ≤ 9223372036854775807) : WR AM0 36 [.s (.int .i64 a), .s (.int .i64 b)] [] (fun v _ _ => v = .s (.int .i64 (atM a b))) := by
 refine WR_fn (a := a36) rfl rfl (entryF _) (entry_E (Nat.le_of_ble_eq_true rfl)) (m := 0) rfl ?_
 refine WP_seq ?_
 refine WP_ops ?_
 refine WO_mv rfl ?_
 refine WO_nil ?_
 refine WP_seq ?_
 refine WP_ops ?_
 refine WO_mv (v := .s (.int _ _)) rfl ?_
 refine WO_mv (v := .s (.int _ _)) rfl ?_
 refine WO_buildI rfl (.one rfl (.one rfl .nil)) ?_
 refine WO_call0 rfl (RF_of (number_run0 _ ha hb)) rfl rfl rfl ?_
 refine WO_mv (v := .s (.int _ _)) rfl ?_
 refine WO_nil ?_
 refine WP_ret ?_
 refine ⟨_, RS_tmp (v := .s (.int _ _)) rfl (RS_nil), ?_⟩
 rfl
theorem At_in0 (a b : Nat) (ha : a < 8) (hb : b < 8) : RF AM0 36 [.s (.int .i64 (a : Int)), .s (.int .i64 (b : Int))] (.s (.int .i64 ((8 * b + a : Nat) : Int))) := by
  have h := RF_of (At_run0 (a : Int) (b : Int) (by omega) (by omega))
  rw [show atM (a : Int) (b : Int) = ((8 * b + a : Nat) : Int) by unfold atM; split <;> omega] at h
  exact h

theorem Empty_run0  : WR AM0 78 [] [] (fun v _ _ => v = .agg 133 (ia emptyF)) := by
 refine WR_fn (a := a78) rfl rfl (entryF _) (entry_E (Nat.le_of_ble_eq_true rfl)) (m := 0) rfl ?_
 refine WP_seq ?_
 refine WP_ops ?_
 refine WO_allocI ?_
 refine WO_nil ?_
 refine WP_seq ?_
 refine WP_ops ?_
 refine WO_buildI rfl (.one rfl (.one rfl .nil)) ?_
 refine WO_stA rfl rfl rfl rfl .here ?_
 refine WO_nil ?_
 refine WP_ret ?_
 refine ⟨_, RS_cell rfl rfl (.head _) (RS_nil), ?_⟩
 refine congrArg (fun P => V.agg 133 (ia P)) ?_
 have e : (ov (ov (fun _ => 0) 130 (-1)) 132 1) = emptyF := by
  funext i
  unfold emptyF ov
  cases h1 : Nat.beq i 130 with
  | true => rw [Nat.eq_of_beq_eq_true h1]; rfl
  | false => cases Nat.beq i 132 <;> rfl
 first | exact e | (rw [e]; exact ovA_whole fun i hi => (emptyF_hi i hi).symm)
theorem st_r0  (f : FE)   : WP AM0 35 (.ops [⟨some 0, none, .h (.alloc (.ints 133))⟩]) f 0 [] (fun f n L => f 0 = .ptr 0 0 133 ∧ n = 1 ∧ L = [(0, .sc .var 133 (ia fun _ => 0))]) (fun _ _ _ _ => False) (fun _ _ _ => False) := by
 refine WP_ops ?_
 refine WO_allocI ?_
 refine WO_nil ?_
 exact ⟨rfl, rfl, rfl⟩
theorem st_r1  (f : FE)  (k0 : f 0 = .ptr 0 0 133) : WP AM0 35 (.ops [⟨some 6, none, .h (.call (.k (.fn 78 [])) [])⟩, ⟨some 1, none, .h (.alloc (.ints 133))⟩, ⟨none, none, .h (.store 133 (.t 1) (.t 6))⟩]) f 1 [(0, .sc .var 133 (ia fun _ => 0))] (fun f n L => f 0 = .ptr 0 0 133 ∧ f 1 = .ptr 1 0 133 ∧ L = [(1, .sc .var 133 (ia emptyF)), (0, .sc .var 133 (ia fun _ => 0))]) (fun _ _ _ _ => False) (fun _ _ _ => False) := by
 refine WP_know (d := 0) (v := .ptr 0 0 133) k0 ?_
 refine WP_ops ?_
 refine WO_call0 rfl (RF_of Empty_run0) rfl rfl rfl ?_
 refine WO_allocI ?_
 refine WO_stA rfl rfl rfl rfl .here ?_
 refine WO_nil ?_
 refine ⟨rfl, rfl, ?_⟩
 rw [ovA_whole fun i hi => (emptyF_hi i hi).symm]
theorem st_r2 (F : Nat → Int) (f : FE) (nb : Nat) (k0 : f 0 = .ptr 0 0 133) (k1 : f 1 = .ptr 1 0 133) : WP AM0 35 (.ops [⟨some 7, none, .p (.build (.ints 8) [(0, 1, (.k (.s (.int .i64 4)))), (1, 1, (.k (.s (.int .i64 2)))), (2, 1, (.k (.s (.int .i64 3)))), (3, 1, (.k (.s (.int .i64 5)))), (4, 1, (.k (.s (.int .i64 6)))), (5, 1, (.k (.s (.int .i64 3)))), (6, 1, (.k (.s (.int .i64 2)))), (7, 1, (.k (.s (.int .i64 4))))])⟩, ⟨some 8, none, .p (.mv (.k (.s (.int .i64 0))))⟩]) f nb [(1, .sc .var 133 (ia F)), (0, .sc .var 133 (ia fun _ => 0))] (fun f n L => ∃ P, (∀ i, i < 8 → P i = backK i) ∧ f 0 = .ptr 0 0 133 ∧ f 1 = .ptr 1 0 133 ∧ f 7 = .agg 8 (ia P) ∧ f 8 = .s (.int .i64 0) ∧ L = [(1, .sc .var 133 (ia F)), (0, .sc .var 133 (ia fun _ => 0))]) (fun _ _ _ _ => False) (fun _ _ _ => False) := by
 refine WP_know (d := 0) (v := .ptr 0 0 133) k0 ?_
 refine WP_know (d := 1) (v := .ptr 1 0 133) k1 ?_
 refine WP_ops ?_
 refine WO_buildI rfl (.one rfl (.one rfl (.one rfl (.one rfl (.one rfl (.one rfl (.one rfl (.one rfl .nil)))))))) ?_
 refine WO_mv rfl ?_
 refine WO_nil ?_
 exact ⟨_, by decide, rfl, rfl, rfl, rfl, rfl⟩
theorem st_r3 (F P : Nat → Int) (j : Nat)  (f : FE) (nb : Nat) (k0 : f 0 = .ptr 0 0 133) (k1 : f 1 = .ptr 1 0 133) (k7 : f 7 = .agg 8 (ia P)) (k8 : f 8 = .s (.int .i64 (j : Int))) : WP AM0 35 (.ops [⟨some 9, none, .p (.bin .lss (.t 8) (.k (.s (.int .i64 8))))⟩]) f nb [(1, .sc .var 133 (ia F)), (0, .sc .var 133 (ia fun _ => 0))] (fun f n L => f 0 = .ptr 0 0 133 ∧ f 1 = .ptr 1 0 133 ∧ f 7 = .agg 8 (ia P) ∧ f 8 = .s (.int .i64 (j : Int)) ∧ f 9 = .s (.bool (decide ((j : Int) < 8))) ∧ L = [(1, .sc .var 133 (ia F)), (0, .sc .var 133 (ia fun _ => 0))]) (fun _ _ _ _ => False) (fun _ _ _ => False) := by
 refine WP_know (d := 0) (v := .ptr 0 0 133) k0 ?_
 refine WP_know (d := 1) (v := .ptr 1 0 133) k1 ?_
 refine WP_know (d := 7) (v := .agg 8 (ia P)) k7 ?_
 refine WP_know (d := 8) (v := .s (.int .i64 (j : Int))) k8 ?_
 refine WP_ops ?_
 refine WO_bin (r := .bool _) rfl rfl rfl ?_
 refine WO_nil ?_
 exact ⟨rfl, rfl, rfl, rfl, rfl, rfl⟩
theorem st_r4 (F P : Nat → Int) (j : Nat) (hj : j < 8) (c : Int) (hc : P j = c) (f : FE) (nb : Nat) (k0 : f 0 = .ptr 0 0 133) (k1 : f 1 = .ptr 1 0 133) (k7 : f 7 = .agg 8 (ia P)) (k8 : f 8 = .s (.int .i64 (j : Int))) : WP AM0 35 (.ops [⟨some 10, none, .p (.mv (.t 8))⟩, ⟨some 11, none, .p (.ix 8 1 false (.t 7) (.t 8))⟩, ⟨some 2, none, .p (.mv (.t 10))⟩, ⟨some 3, none, .p (.mv (.t 11))⟩]) f nb [(1, .sc .var 133 (ia F)), (0, .sc .var 133 (ia fun _ => 0))] (fun f n L => f 0 = .ptr 0 0 133 ∧ f 1 = .ptr 1 0 133 ∧ f 7 = .agg 8 (ia P) ∧ f 8 = .s (.int .i64 (j : Int)) ∧ f 2 = .s (.int .i64 (j : Int)) ∧ f 3 = .s (.int .i64 c) ∧ L = [(1, .sc .var 133 (ia F)), (0, .sc .var 133 (ia fun _ => 0))]) (fun _ _ _ _ => False) (fun _ _ _ => False) := by
 refine WP_know (d := 0) (v := .ptr 0 0 133) k0 ?_
 refine WP_know (d := 1) (v := .ptr 1 0 133) k1 ?_
 refine WP_know (d := 7) (v := .agg 8 (ia P)) k7 ?_
 refine WP_know (d := 8) (v := .s (.int .i64 (j : Int))) k8 ?_
 refine WP_ops ?_
 refine WO_mv (v := .s (.int _ _)) rfl ?_
 refine WO_ixS (a := .int .i64 c) rfl rfl rfl (by omega) (by rw [show (j : Int).toNat = j from rfl]; simp [hc]) ?_
 refine WO_mv (v := .s (.int _ _)) rfl ?_
 refine WO_mv (v := .s (.int _ _)) rfl ?_
 refine WO_nil ?_
 exact ⟨rfl, rfl, rfl, rfl, rfl, rfl, rfl⟩
theorem st_r5 (F P : Nat → Int) (j : Nat) (c : Int) (f : FE) (nb : Nat) (k0 : f 0 = .ptr 0 0 133) (k1 : f 1 = .ptr 1 0 133) (k7 : f 7 = .agg 8 (ia P)) (k8 : f 8 = .s (.int .i64 (j : Int))) (k2 : f 2 = .s (.int .i64 (j : Int))) (k3 : f 3 = .s (.int .i64 c)) : WO AM0 35 [⟨some 12, none, .h .mkmap⟩, ⟨some 13, none, .p (.mv (.t 3))⟩, ⟨some 14, none, .p (.build (.ints 2) [(0, 1, (.t 13))])⟩, ⟨none, none, .h (.mput (.t 12) (.k (.s (.int .i64 0))) (.t 14))⟩,
  ⟨some 15, none, .p (.build (.ints 2) [(0, 1, (.k (.s (.int .i64 1))))])⟩, ⟨none, none, .h (.mput (.t 12) (.k (.s (.int .i64 1))) (.t 15))⟩,
  ⟨some 16, none, .p (.build (.ints 2) [(0, 1, (.k (.s (.int .i64 1)))), (1, 1, (.k (.s (.int .i64 1))))])⟩, ⟨none, none, .h (.mput (.t 12) (.k (.s (.int .i64 6))) (.t 16))⟩,
  ⟨some 17, none, .p (.mv (.t 3))⟩, ⟨some 18, none, .p (.build (.ints 2) [(0, 1, (.t 17)), (1, 1, (.k (.s (.int .i64 1))))])⟩, ⟨none, none, .h (.mput (.t 12) (.k (.s (.int .i64 7))) (.t 18))⟩, ⟨some 19, none, .p (.mv (.t 12))⟩] f nb [(1, .sc .var 133 (ia F)), (0, .sc .var 133 (ia fun _ => 0))] (fun f n L => f 0 = .ptr 0 0 133 ∧ f 1 = .ptr 1 0 133 ∧ f 7 = .agg 8 (ia P) ∧ f 8 = .s (.int .i64 (j : Int)) ∧ f 2 = .s (.int .i64 (j : Int)) ∧ f 3 = .s (.int .i64 c) ∧ f 19 = .map nb ∧ L = (nb, .mp .var [(.int .i64 0, .agg 2 (ia (ov (fun _ => 0) 0 c))), (.int .i64 1, .agg 2 (ia (ov (fun _ => 0) 0 1))), (.int .i64 6, .agg 2 (ia (ov (ov (fun _ => 0) 0 1) 1 1))), (.int .i64 7, .agg 2 (ia (ov (ov (fun _ => 0) 0 c) 1 1)))]) :: [(1, .sc .var 133 (ia F)), (0, .sc .var 133 (ia fun _ => 0))]) := by
 refine WO_know (d := 0) (v := .ptr 0 0 133) k0 ?_
 refine WO_know (d := 1) (v := .ptr 1 0 133) k1 ?_
 refine WO_know (d := 7) (v := .agg 8 (ia P)) k7 ?_
 refine WO_know (d := 8) (v := .s (.int .i64 (j : Int))) k8 ?_
 refine WO_know (d := 2) (v := .s (.int .i64 (j : Int))) k2 ?_
 refine WO_know (d := 3) (v := .s (.int .i64 c)) k3 ?_
 refine WO_mkmap ?_
 refine WO_mv (v := .s (.int _ _)) rfl ?_
 refine WO_buildI rfl (.one rfl .nil) ?_
 refine WO_mput rfl rfl rfl rfl rfl rfl .here ?_
 refine WO_buildI rfl (.one rfl .nil) ?_
 refine WO_mput rfl rfl rfl rfl rfl rfl .here ?_
 refine WO_buildI rfl (.one rfl (.one rfl .nil)) ?_
 refine WO_mput rfl rfl rfl rfl rfl rfl .here ?_
 refine WO_mv (v := .s (.int _ _)) rfl ?_
 refine WO_buildI rfl (.one rfl (.one rfl .nil)) ?_
 refine WO_mput rfl rfl rfl rfl rfl rfl .here ?_
 refine WO_mv (v := .map _) rfl ?_
 refine WO_nil ?_
 exact ⟨rfl, rfl, rfl, rfl, rfl, rfl, rfl, rfl⟩
theorem st_r7 (F P : Nat → Int) (j : Nat) (bi k : Nat) (Q : Nat → Int) (f : FE) (nb : Nat) (k0 : f 0 = .ptr 0 0 133) (k1 : f 1 = .ptr 1 0 133) (k7 : f 7 = .agg 8 (ia P)) (k8 : f 8 = .s (.int .i64 (j : Int))) (k2 : f 2 = .s (.int .i64 (j : Int))) (k20 : f 20 = .ptr bi 0 0) (k23 : f 23 = .tup [.s (.int .i64 (k : Int)), .agg 2 (ia Q)]) : WO AM0 35 [⟨some 24, none, .p (.ext (.t 23) 0)⟩, ⟨some 25, none, .p (.ext (.t 23) 1)⟩, ⟨some 5, none, .h (.alloc (.ints 2))⟩, ⟨some 4, none, .p (.mv (.t 24))⟩, ⟨none, none, .h (.store 2 (.t 5) (.t 25))⟩] f nb [(1, .sc .var 133 (ia F)), (0, .sc .var 133 (ia fun _ => 0))] (fun f n L => f 0 = .ptr 0 0 133 ∧ f 1 = .ptr 1 0 133 ∧ f 7 = .agg 8 (ia P) ∧ f 8 = .s (.int .i64 (j : Int)) ∧ f 2 = .s (.int .i64 (j : Int)) ∧ f 20 = .ptr bi 0 0 ∧ f 4 = .s (.int .i64 (k : Int)) ∧ f 5 = .ptr nb 0 2 ∧ L = (nb, .sc .var 2 (ia (ovA (fun _ => 0) 0 2 Q))) :: [(1, .sc .var 133 (ia F)), (0, .sc .var 133 (ia fun _ => 0))]) := by
 refine WO_know (d := 0) (v := .ptr 0 0 133) k0 ?_
 refine WO_know (d := 1) (v := .ptr 1 0 133) k1 ?_
 refine WO_know (d := 7) (v := .agg 8 (ia P)) k7 ?_
 refine WO_know (d := 8) (v := .s (.int .i64 (j : Int))) k8 ?_
 refine WO_know (d := 2) (v := .s (.int .i64 (j : Int))) k2 ?_
 refine WO_know (d := 20) (v := .ptr bi 0 0) k20 ?_
 refine WO_know (d := 23) (v := .tup [.s (.int .i64 (k : Int)), .agg 2 (ia Q)]) k23 ?_
 refine WO_ext (v := .s (.int _ _)) rfl rfl ?_
 refine WO_ext (v := .agg _ _) rfl rfl ?_
 refine WO_allocI ?_
 refine WO_mv (v := .s (.int _ _)) rfl ?_
 refine WO_stA rfl rfl rfl rfl .here ?_
 refine WO_nil ?_
 exact ⟨rfl, rfl, rfl, rfl, rfl, rfl, rfl, rfl, rfl⟩
theorem st_r8 (F P : Nat → Int) (j : Nat) (bi k b5 : Nat) (Q : Nat → Int) (hj : j < 8) (hk : k < 8) (f : FE) (nb : Nat) (k0 : f 0 = .ptr 0 0 133) (k1 : f 1 = .ptr 1 0 133) (k7 : f 7 = .agg 8 (ia P)) (k8 : f 8 = .s (.int .i64 (j : Int))) (k2 : f 2 = .s (.int .i64 (j : Int))) (k20 : f 20 = .ptr bi 0 0) (k4 : f 4 = .s (.int .i64 (k : Int))) (k5 : f 5 = .ptr b5 0 2) : WP AM0 35 (.ops [⟨some 26, none, .p (.mv (.t 2))⟩, ⟨some 27, none, .p (.mv (.t 4))⟩, ⟨some 28, none, .h (.callq (.k (.fn 36 [])) [(.t 26), (.t 27)])⟩, ⟨some 29, none, .h (.load true 2 (.t 5))⟩, ⟨some 30, none, .p (.fa 0 128 (.t 1))⟩, ⟨some 31, none, .p (.ixa 64 2 (.t 30) (.t 28))⟩, ⟨none, none, .h (.store 2 (.t 31) (.t 29))⟩]) f nb [(b5, .sc .var 2 (ia Q)), (1, .sc .var 133 (ia F)), (0, .sc .var 133 (ia fun _ => 0))] (fun f n L => f 0 = .ptr 0 0 133 ∧ f 1 = .ptr 1 0 133 ∧ f 7 = .agg 8 (ia P) ∧ f 8 = .s (.int .i64 (j : Int)) ∧ f 2 = .s (.int .i64 (j : Int)) ∧ f 20 = .ptr bi 0 0 ∧ L = (b5, .sc .var 2 (ia Q)) :: [(1, .sc .var 133 (ia (ovA F (0 + ((8 * k + j : Nat) : Int).toNat * 2) 2 Q))), (0, .sc .var 133 (ia fun _ => 0))]) (fun _ _ _ _ => False) (fun _ _ _ => False) := by
 refine WP_know (d := 0) (v := .ptr 0 0 133) k0 ?_
 refine WP_know (d := 1) (v := .ptr 1 0 133) k1 ?_
 refine WP_know (d := 7) (v := .agg 8 (ia P)) k7 ?_
 refine WP_know (d := 8) (v := .s (.int .i64 (j : Int))) k8 ?_
 refine WP_know (d := 2) (v := .s (.int .i64 (j : Int))) k2 ?_
 refine WP_know (d := 20) (v := .ptr bi 0 0) k20 ?_
 refine WP_know (d := 4) (v := .s (.int .i64 (k : Int))) k4 ?_
 refine WP_know (d := 5) (v := .ptr b5 0 2) k5 ?_
 refine WP_ops ?_
 refine WO_mv (v := .s (.int _ _)) rfl ?_
 refine WO_mv (v := .s (.int _ _)) rfl ?_
 refine WO_callq0 rfl (At_in0 j k hj hk) rfl rfl rfl ?_
 first | refine WO_ldA0 rfl rfl (.head _) ?_ | refine WO_ldAI rfl rfl (.head _) ?_
 refine WO_fa (o' := 0) rfl rfl rfl ?_
 refine WO_ixa rfl rfl rfl (by omega) ?_
 refine WO_stA rfl rfl rfl rfl (.there .here) ?_
 refine WO_nil ?_
 exact ⟨rfl, rfl, rfl, rfl, rfl, rfl, rfl⟩
theorem st_r9 (F P : Nat → Int) (j : Nat) (hj : j < 8) (f : FE) (nb : Nat) (k0 : f 0 = .ptr 0 0 133) (k1 : f 1 = .ptr 1 0 133) (k7 : f 7 = .agg 8 (ia P)) (k8 : f 8 = .s (.int .i64 (j : Int))) : WP AM0 35 (.ops [⟨some 32, none, .p (.bin .add (.t 8) (.k (.s (.int .i64 1))))⟩, ⟨some 8, none, .p (.mv (.t 32))⟩]) f nb [(1, .sc .var 133 (ia F)), (0, .sc .var 133 (ia fun _ => 0))] (fun f n L => f 0 = .ptr 0 0 133 ∧ f 1 = .ptr 1 0 133 ∧ f 7 = .agg 8 (ia P) ∧ f 8 = .s (.int .i64 ((j : Int) + 1)) ∧ L = [(1, .sc .var 133 (ia F)), (0, .sc .var 133 (ia fun _ => 0))]) (fun _ _ _ _ => False) (fun _ _ _ => False) := by
 refine WP_know (d := 0) (v := .ptr 0 0 133) k0 ?_
 refine WP_know (d := 1) (v := .ptr 1 0 133) k1 ?_
 refine WP_know (d := 7) (v := .agg 8 (ia P)) k7 ?_
 refine WP_know (d := 8) (v := .s (.int .i64 (j : Int))) k8 ?_
 refine WP_ops ?_
 refine WO_add rfl rfl (by omega) ?_
 refine WO_mv (v := .s (.int _ _)) rfl ?_
 refine WO_nil ?_
 exact ⟨rfl, rfl, rfl, rfl, rfl⟩
theorem st_r10 (F : Nat → Int) (f : FE) (nb : Nat) (k0 : f 0 = .ptr 0 0 133) (k1 : f 1 = .ptr 1 0 133) : WP AM0 35 (.ops [⟨some 33, none, .p (.fa 129 1 (.t 1))⟩, ⟨none, none, .h (.store 1 (.t 33) (.k (.s (.int .i64 15))))⟩]) f nb [(1, .sc .var 133 (ia F)), (0, .sc .var 133 (ia fun _ => 0))] (fun f n L => f 0 = .ptr 0 0 133 ∧ f 1 = .ptr 1 0 133 ∧ L = [(1, .sc .var 133 (ia (ov F 129 15))), (0, .sc .var 133 (ia fun _ => 0))]) (fun _ _ _ _ => False) (fun _ _ _ => False) := by
 refine WP_know (d := 0) (v := .ptr 0 0 133) k0 ?_
 refine WP_know (d := 1) (v := .ptr 1 0 133) k1 ?_
 refine WP_ops ?_
 refine WO_fa (o' := 129) rfl rfl rfl ?_
 refine WO_stI rfl rfl rfl rfl .here ?_
 refine WO_nil ?_
 exact ⟨rfl, rfl, rfl⟩
theorem st_r11 (F : Nat → Int) (f : FE) (nb : Nat) (k0 : f 0 = .ptr 0 0 133) (k1 : f 1 = .ptr 1 0 133) : WP AM0 35 (.ops [⟨some 34, none, .h (.load true 133 (.t 1))⟩, ⟨none, none, .h (.store 133 (.t 0) (.t 34))⟩]) f nb [(1, .sc .var 133 (ia F)), (0, .sc .var 133 (ia fun _ => 0))] (fun f n L => f 0 = .ptr 0 0 133 ∧ L = [(1, .sc .var 133 (ia F)), (0, .sc .var 133 (ia (ovA (fun _ => 0) 0 133 F)))]) (fun _ _ _ _ => False) (fun _ _ _ => False) := by
 refine WP_know (d := 0) (v := .ptr 0 0 133) k0 ?_
 refine WP_know (d := 1) (v := .ptr 1 0 133) k1 ?_
 refine WP_ops ?_
 first | refine WO_ldA0 rfl rfl (.head _) ?_ | refine WO_ldAI rfl rfl (.head _) ?_
 refine WO_stA rfl rfl rfl rfl (.there .here) ?_
 refine WO_nil ?_
 exact ⟨rfl, rfl⟩
end Go.Proofs.Ytjldefmcnppdoaa
/-
  DERIVED: LAID BY THE SHELF's contract.sh OFF ITS TEMPLATE 'internal/stringslite.IndexByte' FOR THE PROGRAM 'Try' (the function's number there: 111). THE LIBRARY's OWN TEXT IS WALKED: nothing is assumed of it; where it calls a function without a Go body (internal/bytealg), THE MODEL's OWN ENTRY stands in, by its law (Derived/Lib/Bytealg.lean). Behind the contract: ONE FALSE NEIGHBOUR, a contract that says a little too much, REFUTED. (The template: the authors, an AI agent; Sun.)
-/
namespace Go.Proofs

set_option maxHeartbeats 1000000 in
set_option maxRecDepth 100000 in
/-- internal/stringslite.IndexByte (what strings.IndexByte calls): IT RETURNS 'Lib.indexByte s c'; the world is as it was. -/
theorem Try.stringslite_IndexByte (s : ByteArray) (c : Int) (w : World) :
    Calls Try.prog 111 #[.string s, .int .u8 c] w fun e w' => e = .returned (.int .i64 (Lib.indexByte s.data.toList c.toNat.toUInt8)) ∧ w' = w := by
  go_enter Try.func111, Try.ntmps111
  go_wp2
  rw [run_callFunc_extern Try.func121 (by kernel_rfl) (by kernel_rfl) (by kernel_rfl) (e := Extern.BytealgIndexByte.indexByte) (by kernel_rfl), Lib.run_indexByteString]
  simp only [Result.andThen]
  rw [Oper.upon_value]
  go_wp2
  go_ret
  exact ⟨rfl, rfl⟩

#print axioms Try.stringslite_IndexByte

set_option maxHeartbeats 1000000 in
/-- strings.IndexByte: "IndexByte returns the index of the first instance of c in s, or -1 if c is not present in s.": IT RETURNS 'Lib.indexByte s c'; the world is as it was. -/
theorem Try.strings_IndexByte (s : ByteArray) (c : Int) (w : World) :
    Calls Try.prog 85 #[.string s, .int .u8 c] w fun e w' => e = .returned (.int .i64 (Lib.indexByte s.data.toList c.toNat.toUInt8)) ∧ w' = w := by
  go_enter Try.func85, Try.ntmps85
  go_wp2_with (go_at_call 111; refine (Try.stringslite_IndexByte _ _ _).mono ?_; rintro e w' ⟨rfl, rfl⟩)
  go_ret
  exact ⟨rfl, rfl⟩

/-- A LITTLE TOO MUCH: 'the index of the LAST instance': falls at "aa", 'a'. -/
theorem Try.strings_IndexByte_not : ¬ ∀ (s : ByteArray) (c : Int) (w : World),
    Calls Try.prog 85 #[.string s, .int .u8 c] w fun e w' => e = .returned (.int .i64 ((s.size : Int) - 1 - Lib.indexByte s.data.toList.reverse c.toNat.toUInt8)) ∧ w' = w := by
  intro h
  have e := Lib.agree (by kernel_rfl) (Try.strings_IndexByte ⟨#[97, 97]⟩ 97 default) (h ⟨#[97, 97]⟩ 97 default)
  injection e with _ e
  revert e
  decide

#print axioms Try.strings_IndexByte
#print axioms Try.strings_IndexByte_not
end Go.Proofs
/- board.Start: the plain facts of its cells. -/
namespace Go.Proofs.Ytjldefmcnppdoaa
open Go Go.Am
theorem emptyF_lo (i : Nat) (h : i < 128) : emptyF i = 0 := by
  unfold emptyF
  rw [show Nat.beq i 130 = false from Bool.eq_false_iff.2 fun e => by have := Nat.eq_of_beq_eq_true e; omega, show Nat.beq i 132 = false from Bool.eq_false_iff.2 fun e => by have := Nat.eq_of_beq_eq_true e; omega]
  rfl
theorem cur0 : curF 0 (fun _ => false) = emptyF := by
  funext i
  unfold curF
  rw [if_neg (by simp)]
theorem start_mid : ∀ i, i < 128 → i / 16 ≠ 0 → i / 16 ≠ 1 → i / 16 ≠ 6 → i / 16 ≠ 7 → startF i = 0 := by decide
theorem cur_next (j : Nat) (S : Nat → Bool) (h0 : S 0 = true) (h1 : S 1 = true) (h6 : S 6 = true) (h7 : S 7 = true) : curF j S = curF (j + 1) (fun _ => false) := by
  funext i
  unfold curF
  by_cases hi : i < 128
  · by_cases hj : i / 2 % 8 < j
    · rw [if_pos ⟨hi, .inl hj⟩, if_pos ⟨hi, .inl (by omega)⟩]
    · by_cases hj2 : i / 2 % 8 = j
      · rw [if_pos (c := i < 128 ∧ (i / 2 % 8 < j + 1 ∨ i / 2 % 8 = j + 1 ∧ false = true)) ⟨hi, .inl (by omega)⟩]
        by_cases hs : S (i / 16) = true
        · rw [if_pos ⟨hi, .inr ⟨hj2, hs⟩⟩]
        · rw [if_neg (by simp [hj, hs]), emptyF_lo i hi]
          exact (start_mid i hi (fun e => hs (by rw [e]; exact h0)) (fun e => hs (by rw [e]; exact h1)) (fun e => hs (by rw [e]; exact h6)) (fun e => hs (by rw [e]; exact h7))).symm
      · rw [if_neg (by simp [hj, hj2]), if_neg (by simp; omega)]
  · rw [if_neg (by simp [hi]), if_neg (by simp [hi])]
theorem cur_step (j k : Nat) (S : Nat → Bool) (Q : Nat → Int) (hj : j < 8) (hk : k < 8) (hQ : ∀ i, i < 2 → Q i = startF (2 * (8 * k + j) + i)) :
    ovA (curF j S) (0 + ((8 * k + j : Nat) : Int).toNat * 2) 2 Q = curF j (fun r => S r || Nat.beq r k) := by
  have e : ((8 * k + j : Nat) : Int).toNat = 8 * k + j := Int.toNat_natCast _
  rw [e]
  funext i
  unfold ovA
  cases hb : Nat.ble (0 + (8 * k + j) * 2) i && Nat.blt i (0 + (8 * k + j) * 2 + 2) with
  | true =>
    simp only [Bool.and_eq_true] at hb
    have h1 := Nat.le_of_ble_eq_true hb.1
    have h2 : i + 1 ≤ 0 + (8 * k + j) * 2 + 2 := Nat.le_of_ble_eq_true hb.2
    rw [cond_true, hQ _ (by omega)]
    unfold curF
    rw [if_pos ⟨by omega, .inr ⟨by omega, by rw [show i / 16 = k by omega]; simp⟩⟩]
    congr 1
    omega
  | false =>
    rw [cond_false]
    have hn : ¬ (i / 2 = 8 * k + j) := by
      intro h
      rw [show Nat.ble (0 + (8 * k + j) * 2) i = true from Nat.ble_eq_true_of_le (by omega), show Nat.blt i (0 + (8 * k + j) * 2 + 2) = true from Nat.ble_eq_true_of_le (by omega)] at hb
      cases hb
    unfold curF
    by_cases hr : Nat.beq (i / 16) k = true
    · have := Nat.eq_of_beq_eq_true hr
      by_cases hj2 : i / 2 % 8 = j
      · exact absurd (show i / 2 = 8 * k + j by omega) hn
      · simp only [hj2, false_and, or_false]
    · simp only [Bool.not_eq_true] at hr
      simp only [hr, Bool.or_false]
theorem cur_end : ov (curF 8 (fun _ => false)) 129 15 = startF := by
  funext i
  unfold ov
  by_cases h : i < 128
  · rw [show Nat.beq i 129 = false from Bool.eq_false_iff.2 fun e => by have := Nat.eq_of_beq_eq_true e; omega, cond_false]
    unfold curF
    rw [if_pos ⟨h, .inl (by omega)⟩]
  · unfold startF
    rw [show Nat.blt i 128 = false from Bool.eq_false_iff.2 fun e => by have := Nat.le_of_ble_eq_true e; omega, cond_false]
    cases Nat.beq i 129 with
    | true => rfl
    | false =>
      rw [cond_false, cond_false]
      unfold curF
      rw [if_neg (by simp [h])]
      rfl
/-- What the map of file j says. -/
def Ent (j : Nat) (es : List MapEntry) : Prop := ∀ e ∈ es, ∃ (k : Nat) (Q : Nat → Int), (k = 0 ∨ k = 1 ∨ k = 6 ∨ k = 7) ∧ e.key = .int .i64 (k : Int) ∧ (∀ i, i < 2 → Q i = startF (2 * (8 * k + j) + i)) ∧ ∀ ι, VR ι (.agg 2 (ia Q)) e.val
theorem start_at : ∀ j, j < 8 → startF (2 * (8 * 0 + j) + 0) = backK j ∧ startF (2 * (8 * 0 + j) + 1) = 0 ∧ startF (2 * (8 * 1 + j) + 0) = 1 ∧ startF (2 * (8 * 1 + j) + 1) = 0 ∧ startF (2 * (8 * 6 + j) + 0) = 1 ∧ startF (2 * (8 * 6 + j) + 1) = 1 ∧ startF (2 * (8 * 7 + j) + 0) = backK j ∧ startF (2 * (8 * 7 + j) + 1) = 1 := by decide
theorem ent_of {ι : Inj} {j : Nat} (hj : j < 8) {es : List MapEntry}
    (h : MR ι [(.int .i64 0, .agg 2 (ia (ov (fun _ => 0) 0 (backK j)))), (.int .i64 1, .agg 2 (ia (ov (fun _ => 0) 0 1))), (.int .i64 6, .agg 2 (ia (ov (ov (fun _ => 0) 0 1) 1 1))), (.int .i64 7, .agg 2 (ia (ov (ov (fun _ => 0) 0 (backK j)) 1 1)))] es) :
    Ent j es ∧ ∀ k : Nat, (k = 0 ∨ k = 1 ∨ k = 6 ∨ k = 7) → ∃ e ∈ es, e.key = .int .i64 (k : Int) := by
  obtain ⟨a1, a2, a3, a4, a5, a6, a7, a8⟩ := start_at j hj
  simp only [MR] at h
  obtain ⟨e0, r0, rfl, k0, v0, e1, r1, rfl, k1, v1, e2, r2, rfl, k2, v2, e3, r3, rfl, k3, v3, rfl⟩ := h
  have two : ∀ (Q : Nat → Int) (b : Nat), Q 0 = startF (2 * b + 0) → Q 1 = startF (2 * b + 1) → ∀ i, i < 2 → Q i = startF (2 * b + i) := by
    intro Q b h0 h1 i hi
    have : i = 0 ∨ i = 1 := by omega
    rcases this with rfl | rfl
    · exact h0
    · exact h1
  have any : ∀ (Q : Nat → Int) (v : Value), VR ι (.agg 2 (ia Q)) v → ∀ ι', VR ι' (.agg 2 (ia Q)) v := by
    intro Q v h ι'
    simpa only [VR] using h
  refine ⟨fun e he => ?_, fun k hk => ?_⟩
  · simp only [List.mem_cons, List.not_mem_nil, or_false] at he
    rcases he with rfl | rfl | rfl | rfl
    · exact ⟨0, ov (fun _ => 0) 0 (backK j), .inl rfl, k0, two _ _ a1.symm a2.symm, any _ _ v0⟩
    · exact ⟨1, ov (fun _ => 0) 0 1, .inr (.inl rfl), k1, two _ _ a3.symm a4.symm, any _ _ v1⟩
    · exact ⟨6, ov (ov (fun _ => 0) 0 1) 1 1, .inr (.inr (.inl rfl)), k2, two _ _ a5.symm a6.symm, any _ _ v2⟩
    · exact ⟨7, ov (ov (fun _ => 0) 0 (backK j)) 1 1, .inr (.inr (.inr rfl)), k3, two _ _ a7.symm a8.symm, any _ _ v3⟩
  · rcases hk with rfl | rfl | rfl | rfl
    · exact ⟨e0, by simp, k0⟩
    · exact ⟨e1, by simp, k1⟩
    · exact ⟨e2, by simp, k2⟩
    · exact ⟨e3, by simp, k3⟩
theorem left_iff {es : Array MapEntry} {seen : Array Nat} {e : MapEntry} : e ∈ (Go.leftOf es seen).toList ↔ e ∈ es.toList ∧ seen.contains e.born = false := by
  have hq : (Go.leftOf es seen).toList = es.toList.filter fun e => !seen.contains e.born := by unfold Go.leftOf; exact Array.toList_filter ..
  rw [hq, List.mem_filter]
  simp
theorem left_none {es : Array MapEntry} {seen : Array Nat} (h : (Go.leftOf es seen).size = 0) {e : MapEntry} (he : e ∈ es.toList) : seen.contains e.born = true := by
  cases hc : seen.contains e.born with
  | true => rfl
  | false =>
    have := left_iff.2 ⟨he, hc⟩
    rw [← Array.length_toList] at h
    rw [List.eq_nil_of_length_eq_zero h] at this
    cases this
theorem same_born {es : List MapEntry} {ck : Nat} (h : Stamps es ck) {e e' : MapEntry} (he : e ∈ es) (he' : e' ∈ es) (hb : e.born = e'.born) : e = e' := by
  have h1 := Go.find_born e es h.2 he
  have h2 := Go.find_born e' es h.2 he'
  rw [hb, h2] at h1
  injection h1 with h1
  exact h1.symm
theorem idx_ok {args : List V} {σ : Heap} {v : V} {σ' : Heap} (h : idxPrim args σ = some (v, σ')) {ι : Inj} {W : World} {av : List Value} (hR : RelW ι σ W) (hv : VRL ι args av) :
    Calls Try.prog 85 av.toArray W fun e W' => ∃ ι' v', e = .returned v' ∧ VR ι' v v' ∧ Post ι σ W ι' σ' W' := by
  unfold idxPrim at h
  split at h
  · rename_i s c
    injection h with h
    injection h with h1 h2
    subst h1; subst h2
    simp only [VRL] at hv
    obtain ⟨v1, r1, rfl, hv1, v2, r2, rfl, hv2, rfl⟩ := hv
    simp only [VR, S.val] at hv1 hv2
    subst hv1; subst hv2
    refine (Try.strings_IndexByte s c W).mono ?_
    rintro e w' ⟨rfl, rfl⟩
    exact ⟨ι, _, rfl, by simp [VR, S.val], (QPost.refl hR).post⟩
  · cases h
theorem prims0 : PrimsOK Try.prog AM0 := by
  intro f pf hpf args σ v σ' h
  have hb : (bif Nat.beq f 85 then some idxPrim else none) = some pf := hpf
  cases hf : Nat.beq f 85 with
  | false => rw [hf] at hb; cases hb
  | true =>
    rw [hf] at hb
    injection hb with hb
    subst hb
    have := Nat.eq_of_beq_eq_true hf
    subst this
    exact ⟨⟨_, Try.func85, by kernel_rfl, by decide⟩, fun ι W av hR _ hv => idx_ok h hR hv⟩
theorem fns0 : FnsOK Try.prog AM0 := fnsOK
theorem mixed0 : Try.prog.follows .mixedOrders = true := by kernel_rfl
theorem run0 : RunOK Try.prog (Run AM0) := run_ok fns0 prims0 mixed0

/-- Behind the files below j. -/
def J0 (W0 : World) (k : Nat) (a : Act) (W : World) : Prop := ∃ (j : Nat) (P : Nat → Int) (f : FE) (n : Nat) (ι : Inj) (σ : Heap), k + j = 8 ∧ (∀ i, i < 8 → P i = backK i) ∧ f 0 = .ptr 0 0 133 ∧ f 1 = .ptr 1 0 133 ∧ f 7 = .agg 8 (ia P) ∧ f 8 = .s (.int .i64 (j : Int)) ∧
  St 35 W0 f n [(1, .sc .var 133 (ia (curF j fun _ => false))), (0, .sc .var 133 (ia fun _ => 0))] a W ι σ

/-- In file j, some ranks laid. -/
def J1 (W0 : World) (j : Nat) (P : Nat → Int) (k : Nat) (a : Act) (W : World) : Prop := ∃ (S : Nat → Bool) (r bm ck bi : Nat) (seen : Array Nat) (es : Array MapEntry) (f : FE) (n : Nat) (ι : Inj) (σ : Heap),
  (Go.leftOf es seen).size = k ∧ Ent j es.toList ∧ (∀ k : Nat, (k = 0 ∨ k = 1 ∨ k = 6 ∨ k = 7) → ∃ e ∈ es.toList, e.key = .int .i64 (k : Int)) ∧ Stamps es.toList ck ∧ (∀ e ∈ es.toList, seen.contains e.born = true → ∀ k : Nat, e.key = .int .i64 (k : Int) → S k = true) ∧
  ι bi = some ⟨r, 0, 0, 0, 0⟩ ∧ Held W0 r (.mapIter (some bm) ck seen ck) ι σ W ∧ Held W0 bm (.map es ck) ι σ W ∧ f 0 = .ptr 0 0 133 ∧ f 1 = .ptr 1 0 133 ∧ f 7 = .agg 8 (ia P) ∧ f 8 = .s (.int .i64 (j : Int)) ∧ f 2 = .s (.int .i64 (j : Int)) ∧ f 20 = .ptr bi 0 0 ∧
  St 35 W0 f n [(1, .sc .var 133 (ia (curF j S))), (0, .sc .var 133 (ia fun _ => 0))] a W ι σ

theorem rel_none0 (W : World) : RelW noInj0 [] W := by
  constructor
  · intro b p h; cases h
  · intro b p x h; cases h
  · intro b b' p p' h; cases h

theorem start_calls (W : World) : Calls Try.prog 77 #[] W fun e W' => ∃ v', e = .returned v' ∧ VR noInj0 (.agg 133 (ia startF)) v' ∧ ∃ ι' σ', Post noInj0 [] W ι' σ' W' := by
  refine calls_of_wp Try.func77 rfl ?_
  have hs0 : St 35 W (entryF []) 0 [] { tmps := #[] ++ Array.replicate (Try.f77.ntmps - 0) Go.undef, defers := [] } W noInj0 [] := by
    refine ⟨?_, ⟨rfl, trivial⟩, (QPost.refl (rel_none0 W)).post, rfl⟩
    have e : E 35 (entryF []) = List.replicate 35 .undef := rfl
    rw [e]
    exact VRL.undefs 35
  refine wp_seq (hs0.wp fns0 prims0 mixed0 (by kernel_rfl) (st_r0 _) fun x f n L ι σ a W1 ho hs _ => ?_)
  cases x with
  | exit j => exact ho.elim
  | ret => exact ho.elim
  | normal =>
  obtain ⟨k0, rfl, rfl⟩ := ho
  refine wp_seq (hs.wp fns0 prims0 mixed0 (by kernel_rfl) (st_r1 _ k0) fun x f n L ι σ a W1 ho hs _ => ?_)
  cases x with
  | exit j => exact ho.elim
  | ret => exact ho.elim
  | normal =>
  obtain ⟨k0, k1, rfl⟩ := ho
  refine wp_seq (wp_seq (hs.wp fns0 prims0 mixed0 (by kernel_rfl) (st_r2 _ _ _ k0 k1) fun x f n L ι σ a W1 ho hs _ => ?_))
  cases x with
  | exit j => exact ho.elim
  | ret => exact ho.elim
  | normal =>
  obtain ⟨P, hP, k0, k1, k7, k8, rfl⟩ := ho
  refine wp_block (wp_loop_by (J0 W) (fun k a W1 hJ => ?_) (k := 8) ⟨0, P, f, n, ι, σ, by omega, hP, k0, k1, k7, k8, by rw [cur0]; exact hs⟩)
  obtain ⟨j, P, f, n, ι, σ, hkj, hP, k0, k1, k7, k8, hs⟩ := hJ
  refine wp_seq (hs.wp fns0 prims0 mixed0 (by kernel_rfl) (st_r3 _ _ _ _ _ k0 k1 k7 k8) fun x f n L ι σ a W1 ho hs _ => ?_)
  cases x with
  | exit j => exact ho.elim
  | ret => exact ho.elim
  | normal =>
  obtain ⟨k0, k1, k7, k8, k9, rfl⟩ := ho
  have r9 := hs.getS (t := 9) rfl k9
  by_cases hj : (j : Int) < 8
  case neg =>
    rw [decide_eq_false hj] at r9
    refine wp_seq (wp_cond r9 ?_)
    refine wp_exit ?_
    have e8 : j = 8 := by omega
    subst e8
    simp only [Exit.then, Exit.inBlock, if_true]
    refine wp_seq (hs.wp fns0 prims0 mixed0 (by kernel_rfl) (st_r10 _ _ _ k0 k1) fun x f n L ι σ a W1 ho hs _ => ?_)
    cases x with
    | exit j => exact ho.elim
    | ret => exact ho.elim
    | normal =>
    obtain ⟨k0, k1, rfl⟩ := ho
    rw [cur_end] at hs
    refine wp_seq (hs.wp fns0 prims0 mixed0 (by kernel_rfl) (st_r11 _ _ _ k0 k1) fun x f n L ι σ a W1 ho hs _ => ?_)
    cases x with
    | exit j => exact ho.elim
    | ret => exact ho.elim
    | normal =>
    obtain ⟨k0, rfl⟩ := ho
    refine wp_ret ?_
    have hv : RS 35 f [(1, Blk.sc .var 133 (ia startF)), (0, Blk.sc .var 133 (ia (ovA (fun _ => 0) 0 133 startF)))] [.cell 0 true 133] [.agg 133 (ia (ovA (fun _ => 0) 0 133 startF))] := RS_cell k0 rfl (.tail _ (.head _)) RS_nil
    have hr : resOf (E 35 f) σ [.cell 0 true 133] = some (.agg 133 (ia (ovA (fun _ => 0) 0 133 startF))) := by
      unfold resOf
      rw [resL_RS hs.hp hv]
    obtain ⟨v, hv1, hv2⟩ := results_sound (fn := Try.f77) hs.env hs.post.rel (by kernel_rfl) hr
    refine ⟨hs.defers, v, hv2, v, rfl, ?_, _, _, hs.post⟩
    rw [show ovA (fun _ => 0) 0 133 startF = startF from ovA_whole fun i hi => by
      rw [← cur_end]
      unfold ov
      rw [show Nat.beq i 129 = false from Bool.eq_false_iff.2 fun e => by have := Nat.eq_of_beq_eq_true e; omega, cond_false]
      unfold curF
      rw [if_neg (by omega), emptyF_hi i hi]] at hv1
    simpa only [VR] using hv1
  rw [decide_eq_true hj] at r9
  have hj8 : j < 8 := by omega
  refine wp_seq (wp_cond r9 (wp_skip ?_))
  refine wp_seq (wp_block ?_)
  refine wp_seq (hs.wp fns0 prims0 mixed0 (by kernel_rfl) (st_r4 _ _ _ hj8 _ (hP j hj8) _ _ k0 k1 k7 k8) fun x f n L ι σ a W1 ho hs _ => ?_)
  cases x with
  | exit j => exact ho.elim
  | ret => exact ho.elim
  | normal =>
  obtain ⟨k0, k1, k7, k8, k2, k3, rfl⟩ := ho
  refine wp_seq (wp_region_list ?_)
  refine hs.listN 12 run0 (by kernel_rfl) (st_r5 _ _ _ _ _ _ k0 k1 k7 k8 k2 k3) fun f n L ι σ a W1 ho hs _ => ?_
  obtain ⟨k0, k1, k7, k8, k2, k3, k19, rfl⟩ := ho
  obtain ⟨bm, es, ck, hm19, hMR, hst, hbm, hs⟩ := hs.mapOut rfl .here (t := 19) (by decide) k19
  obtain ⟨hEnt, hAll⟩ := ent_of hj8 hMR
  refine hand_op rfl (exec_range (a := a) (x := .tmp 19) rfl (kt := 3) (et := 25) (by kernel_rfl) hm19 hbm.obj) ?_
  obtain ⟨ι2, hι2, hp2, hit, hs2⟩ := hs.iter (.mapIter (some bm) ck #[] ck)
  have hbm2 := hbm.go hs.dom hp2
  have hs3 := (hs2.sub (.cons _ (List.Sublist.refl _))).set 20 (x := .ptr n 0 0) (v := .pointer (some ⟨W1.heap.size, 0, none⟩)) ⟨_, hι2, Nat.le_refl _, rfl⟩
  show Code.wp _ (Code.block 2 (Code.loop _)) _ _ _
  refine wp_block (wp_loop_by (J1 W j P) (fun k' a' W' hJ => ?_) (k := (Go.leftOf es #[]).size) ⟨fun _ => false, _, bm, ck, n, #[], es, upd f 20 (.ptr n 0 0), _, ι2, _, rfl, hEnt, hAll, hst, by simp, hι2, hit, hbm2, k0, k1, k7, k8, k2, rfl, hs3⟩)
  clear hs hs2 hs3 hbm hbm2 hit hι2 hp2 hm19 hMR hst hAll hEnt k0 k1 k7 k8 k2 k3 k19
  obtain ⟨D, r, bm, ck, bi, seen, es, f, n, ι, σ, hk', hEnt, hAll, hst, hS, hι, hit, hbm, k0, k1, k7, k8, k2, k20, hs⟩ := hJ
  refine wp_seq (wp_region_list ?_)
  have r20 := hs.getP (t := 20) rfl k20 hι
  rcases hs.next (P := Try.prog) hit hbm hst (o := { dst := some 21, op := Op.next (Operand.tmp 20) false, type := 0, pos := "board.go:23", after := #[], guard := none }) (x := .tmp 20) rfl r20 with ⟨h0, h1⟩ | ⟨e, he, W2, h1, hit, hbm, hgo⟩
  · refine hand_op rfl h1 ?_
    have hs4 := hs.set 21 (x := .tup [.s (.bool false)]) (v := .tuple #[.bool false]) (by simp [VR, VRL, S.val])
    refine hs4.listN 1 run0 (by kernel_rfl) (is := [⟨some 22, none, .p (.ext (.t 21) 0)⟩]) (K := fun f n L => f 0 = .ptr 0 0 133 ∧ f 1 = .ptr 1 0 133 ∧ f 7 = .agg 8 (ia P) ∧ f 8 = .s (.int .i64 (j : Int)) ∧ f 22 = .s (.bool false) ∧ L = [(1, .sc .var 133 (ia (curF j D))), (0, .sc .var 133 (ia fun _ => 0))]) ?_ fun f n L ι σ a W1 ho hs _ => ?_
    · refine WO_ext (v := .s (.bool _)) rfl rfl ?_
      refine WO_nil ?_
      exact ⟨k0, k1, k7, k8, rfl, rfl⟩
    obtain ⟨k0, k1, k7, k8, k22, rfl⟩ := ho
    have r22 := hs.getS (t := 22) rfl k22
    show Code.wp _ (Code.seq _ _) _ _ _
    refine wp_seq (wp_cond r22 (wp_exit ?_))
    simp only [Exit.then, Exit.inBlock, if_true]
    have hD : ∀ k : Nat, (k = 0 ∨ k = 1 ∨ k = 6 ∨ k = 7) → D k = true := fun k hk => by
      obtain ⟨e, he, hke⟩ := hAll k hk
      exact hS e he (left_none h0 he) k hke
    rw [cur_next j D (hD 0 (by simp)) (hD 1 (by simp)) (hD 6 (by simp)) (hD 7 (by simp))] at hs
    refine hs.wp fns0 prims0 mixed0 (by kernel_rfl) (st_r9 _ _ _ hj8 _ _ k0 k1 k7 k8) fun x f n L ι σ a W1 ho hs _ => ?_
    cases x with
    | exit j => exact ho.elim
    | ret => exact ho.elim
    | normal =>
    obtain ⟨k0, k1, k7, k8, rfl⟩ := ho
    exact ⟨k - 1, by omega, j + 1, P, f, n, ι, σ, by omega, hP, k0, k1, k7, k8, hs⟩
  · have hm := (left_iff.1 he).1
    obtain ⟨c, Q, hc, hkey, hQ, hval⟩ := hEnt e hm
    have hc8 : c < 8 := by omega
    refine hand_op rfl h1 ?_
    have hs4 := hgo (a'.put (some 21) (.tuple #[.bool true, e.key, e.val])) (upd f 21 (.tup [.s (.bool true), .s (.int .i64 (c : Int)), .agg 2 (ia Q)])) (hs.put (some 21) ⟨[.bool true, e.key, e.val], rfl, _, _, rfl, rfl, _, _, rfl, hkey, _, _, rfl, hval _, rfl⟩) rfl
    refine hs4.listN 1 run0 (by kernel_rfl) (is := [⟨some 22, none, .p (.ext (.t 21) 0)⟩]) (K := fun f n L => f 0 = .ptr 0 0 133 ∧ f 1 = .ptr 1 0 133 ∧ f 7 = .agg 8 (ia P) ∧ f 8 = .s (.int .i64 (j : Int)) ∧ f 2 = .s (.int .i64 (j : Int)) ∧ f 20 = .ptr bi 0 0 ∧ f 22 = .s (.bool true) ∧ L = [(1, .sc .var 133 (ia (curF j D))), (0, .sc .var 133 (ia fun _ => 0))]) ?_ fun f n L ι1 σ1 a W1 ho hs hp => ?_
    · refine WO_ext (v := .s (.bool _)) rfl rfl ?_
      refine WO_nil ?_
      exact ⟨k0, k1, k7, k8, k2, k20, rfl, rfl⟩
    obtain ⟨k0, k1, k7, k8, k2, k20, k22, rfl⟩ := ho
    have hι := hp.ext _ _ hι
    have hit := hit.go hs4.dom hp
    have hbm := hbm.go hs4.dom hp
    have r22 := hs.getS (t := 22) rfl k22
    show Code.wp _ (Code.seq _ _) _ _ _
    refine wp_seq (wp_cond r22 (wp_skip ?_))
    refine wp_block (wp_seq (wp_region_list ?_))
    have r20 := hs.getP (t := 20) rfl k20 hι
    refine hand_op rfl (exec_entry hit hbm hst hm (x := .tmp 20) rfl r20) ?_
    have hs5 := hs.set 23 (x := .tup [.s (.int .i64 (c : Int)), .agg 2 (ia Q)]) (v := .tuple #[e.key, e.val]) ⟨[e.key, e.val], rfl, _, _, rfl, hkey, _, _, rfl, hval _, rfl⟩
    refine hs5.listN 5 run0 (by kernel_rfl) (st_r7 (curF j D) P j bi c Q (upd f 23 (.tup [.s (.int .i64 (c : Int)), .agg 2 (ia Q)])) n k0 k1 k7 k8 k2 k20 rfl) fun f n L ι2 σ2 a W3 ho hs hp => ?_
    obtain ⟨k0, k1, k7, k8, k2, k20, k4, k5, rfl⟩ := ho
    have hι := hp.ext _ _ hι
    have hit := hit.go hs5.dom hp
    have hbm := hbm.go hs5.dom hp
    show Code.wp _ (Code.region _ _ _) _ _ _
    refine hs.wp fns0 prims0 mixed0 (by kernel_rfl) (st_r8 _ _ _ _ _ _ _ hj8 hc8 _ _ k0 k1 k7 k8 k2 k20 k4 k5) fun x f n L ι3 σ3 a W4 ho hs' hp => ?_
    cases x with
    | exit j => exact ho.elim
    | ret => exact ho.elim
    | normal =>
    obtain ⟨k0, k1, k7, k8, k2, k20, rfl⟩ := ho
    have hs6 := hs'.sub (.cons _ (List.Sublist.refl _))
    rw [cur_step j c D _ hj8 hc8 (fun i hi => by
      rw [← hQ i hi]
      have : i = 0 ∨ i = 1 := by omega
      rcases this with rfl | rfl <;> rfl)] at hs6
    refine ⟨_, by rw [← hk']; exact left_push he, _, r, bm, ck, bi, seen.push e.born, es, f, n, ι3, σ3, rfl, hEnt, hAll, hst, ?_, hp.ext _ _ hι, hit.go hs.dom hp, hbm.go hs.dom hp, k0, k1, k7, k8, k2, k20, hs6⟩
    intro e' he' hc' k hk
    rw [Array.contains_push] at hc'
    simp only [Bool.or_eq_true] at hc'
    rcases hc' with hc' | hc'
    · rw [hS e' he' hc' k hk]; rfl
    · have hb : e'.born = e.born := by simpa using hc'
      have := same_born hst he' hm hb
      subst this
      rw [hkey] at hk
      injection hk with _ hk
      have : c = k := by omega
      subst this
      simp
/-- The prim's word. -/
theorem start_ok {args : List V} {σ : Heap} {v : V} {σ' : Heap} (h : startPrim args σ = some (v, σ')) {ι : Inj} {W : World} {av : List Value} (hR : RelW ι σ W) (hv : VRL ι args av) :
    Calls Try.prog 77 av.toArray W fun e W' => ∃ ι' v', e = .returned v' ∧ VR ι' v v' ∧ Post ι σ W ι' σ' W' := by
  unfold startPrim at h
  split at h
  · injection h with h
    injection h with h1 h2
    subst h1; subst h2
    simp only [VRL] at hv
    subst hv
    refine (start_calls W).mono ?_
    rintro e W' ⟨v', rfl, hv', ι', σ', hp⟩
    have hf : ∀ c, c < W.heap.size → W'.heap[c]? = W.heap[c]? := fun c hc => hp.frame c hc fun b p hb _ => by cases hb
    exact ⟨ι, v', rfl, by simpa only [VR] using hv', (QPost.post ⟨hp.same, .refl ι, hR.other hp.same.size fun b p hb _ => hf _ (hR.lt b p hb), ⟨[], by simp⟩, hf, fun b p hb hn => by rw [hb] at hn; cases hn⟩)⟩
  · cases h
theorem primsOK : PrimsOK Try.prog AM := by
  intro f pf hpf args σ v σ' h
  have hb : primF f = some pf := hpf
  unfold primF at hb
  cases hf : Nat.beq f 85 with
  | false =>
    rw [hf] at hb
    cases hf2 : Nat.beq f 77 with
    | false => rw [hf2] at hb; cases hb
    | true =>
      rw [hf2] at hb
      injection hb with hb
      subst hb
      have := Nat.eq_of_beq_eq_true hf2
      subst this
      exact ⟨⟨_, Try.func77, by kernel_rfl, by decide⟩, fun ι W av hR _ hv => start_ok h hR hv⟩
  | true =>
    rw [hf] at hb
    injection hb with hb
    subst hb
    have := Nat.eq_of_beq_eq_true hf
    subst this
    exact ⟨⟨_, Try.func85, by kernel_rfl, by decide⟩, fun ι W av hR _ hv => idx_ok h hR hv⟩
theorem runOK : RunOK Try.prog (Run AM) := run_ok fnsOK primsOK (by kernel_rfl)
end Go.Proofs.Ytjldefmcnppdoaa
/- The walks of the chapter play: the parts. -/
namespace Go.Proofs.Ytjldefmcnppdoaa
open Go Go.Am
set_option linter.unusedSimpArgs false
set_option linter.unusedVariables false
/-- The cell of a square; is it empty? -/
def emptyM (P : Nat → Int) (x : Int) : Bool := eqI 2 (dp P (sqI x)) (fun _ => 0)
/-- A piece. -/
def pc (k c : Int) : Nat → Int := fun i => if i = 0 then k else c
def nopc : Nat → Int := fun _ => 0

/-- Where a move takes. -/
def atT (P : Nat → Int) (k a t : Int) : Int := if k = 1 ∧ t % 8 ≠ a % 8 ∧ t = P 130 ∧ emptyM P t = true then a / 8 * 8 + t % 8 else t
def takesM (P : Nat → Int) (k a t : Int) : Int := if emptyM P (atT P k a t) = true then -1 else atT P k a t
def shortM (c : Int) : Int := if c = 0 then 1 else 4
def castlingM (k a t c C : Int) : Int := if k = 6 ∧ a = 56 * c + 4 ∧ t = a + 2 ∧ C / shortM c % 2 = 1 then 1 else if k = 6 ∧ a = 56 * c + 4 ∧ t = a - 2 ∧ C / (2 * shortM c) % 2 = 1 then -1 else 0
def longM (k a t c : Int) : Bool := decide (k = 1 ∧ t % 8 = a % 8 ∧ a / 8 = 1 + 5 * c ∧ t / 8 = a / 8 + 2 * (1 - 2 * c))
def castM (P : Nat → Int) : Int := if P 129 < 0 ∨ 15 < P 129 then 0 else P 129
def lostM (s : Int) : Int := if 4 = s then 3 else if 7 = s then 1 else if 0 = s then 2 else if 60 = s then 12 else if 63 = s then 4 else if 56 = s then 8 else 0
def orM (x y : Int) : Int := IntKind.i64.wrap (BitVec.ofInt 64 x ||| BitVec.ofInt 64 y).toNat
def andM (x y : Int) : Int := IntKind.i64.wrap (BitVec.ofInt 64 x &&& BitVec.ofInt 64 y).toNat
def andNotM (x y : Int) : Int := IntKind.i64.wrap (BitVec.ofInt 64 x &&& ~~~(BitVec.ofInt 64 y)).toNat
/-- Castlings without some. -/
def bitM (c s k : Int) : Int := if c / k % 2 = 1 ∧ s / k % 2 = 0 then k else 0
def withoutM (c s : Int) : Int := bitM c s 1 + bitM c s 2 + bitM c s 4 + bitM c s 8
/-- May the move be made? -/
def canM (P : Nat → Int) (a t b : Int) : Bool := decide (1 ≤ P (sqI a) ∧ P (sqI a) ≤ 6 ∧ P (sqI a + 1) = P 128 ∧ (P (sqI a + 1) = 0 ∨ P (sqI a + 1) = 1) ∧ (if P (sqI a) = 1 ∧ t / 8 = 7 * (1 - P (sqI a + 1)) then 2 ≤ b ∧ b ≤ 5 else b = 0))
def errM (P : Nat → Int) (a t b : Int) : Int := if (0 ≤ a ∧ a < 64) ∧ (0 ≤ t ∧ t < 64) ∧ a ≠ t then (if canM P a t b = true then 0 else 8) else 6

/-- The squares behind a move, part by part. -/
def brd1 (P : Nat → Int) (w : Int) : Nat → Int := if 0 ≤ w then ovA P (sqI w) 2 nopc else P
def brd2 (P : Nat → Int) (w a : Int) : Nat → Int := ovA (brd1 P w) (sqI a) 2 nopc
def brd3 (P : Nat → Int) (w a t k c b : Int) : Nat → Int := ovA (brd2 P w a) (sqI t) 2 (pc (if b = 0 then k else b) c)
def brd4 (P : Nat → Int) (w a t k c b g : Int) : Nat → Int :=
  if g = 1 then ovA (ovA (brd3 P w a t k c b) (sqI (a + 3)) 2 nopc) (sqI (a + 1)) 2 (pc 4 c)
  else if g = -1 then ovA (ovA (brd3 P w a t k c b) (sqI (a - 4)) 2 nopc) (sqI (a - 1)) 2 (pc 4 c) else brd3 P w a t k c b
def overM (k a t c : Int) : Int := if longM k a t c = true then (a + t) / 2 else -1
def halfM (P : Nat → Int) (k w : Int) : Int := if k = 1 ∨ 0 ≤ w then 0 else IntKind.i64.wrap (min (P 131) 1023 + 1)
def fullM (P : Nat → Int) : Int := if P 128 = 1 then IntKind.i64.wrap (min (P 132) 16383 + 1) else P 132
/-- The position behind a move that can be made. -/
def afterM (P : Nat → Int) (k c a t b C : Int) : Nat → Int := fun i =>
  if i < 128 then brd4 P (takesM P k a t) a t k c b (castlingM k a t c C) i else if i = 128 then otherM (P 128) else if i = 129 then andNotM C (orM (orM 0 (lostM a)) (lostM t))
  else if i = 130 then overM k a t c else if i = 131 then halfM P k (takesM P k a t) else if i = 132 then fullM P else 0
def moveM (P : Nat → Int) (a t b : Int) : Nat → Int := if errM P a t b = 0 then afterM P (P (sqI a)) (P (sqI a + 1)) a t b (castM P) else fun _ => 0

/-- The bits below k. -/
def upM (c s k : Int) : Int := if k ≤ 1 then 0 else if k ≤ 2 then bitM c s 1 else if k ≤ 4 then bitM c s 1 + bitM c s 2 else if k ≤ 8 then bitM c s 1 + bitM c s 2 + bitM c s 4 else withoutM c s
end Go.Proofs.Ytjldefmcnppdoaa
/- The walks of the chapter play: the hand. -/
namespace Go.Proofs.Ytjldefmcnppdoaa
open Go Go.Am
set_option linter.unusedSimpArgs false
set_option linter.unusedVariables false
/-- From where and to where a rook goes. -/
def RookOf (k a t c C x y : Int) (z : Bool) : Prop := (castlingM k a t c C = 1 ∧ z = true ∧ x = a + 3 ∧ y = a + 1) ∨ (castlingM k a t c C = -1 ∧ z = true ∧ x = a - 4 ∧ y = a - 1) ∨ (castlingM k a t c C = 0 ∧ z = false)
/-- Pieces set on squares, one by one. -/
def setM (H X K : Nat → Int) : Nat → Nat → Int
  | 0 => H
  | n + 1 => if isM (K (0 + (n : Int).toNat * 1)) = true then ovA (setM H X K n) (0 + (K (0 + (n : Int).toNat * 1)).toNat * 2) 2 X else setM H X K n
def lostL : List (S × V) := [(.int .i64 4, .s (.int .i64 3)), (.int .i64 7, .s (.int .i64 1)), (.int .i64 0, .s (.int .i64 2)), (.int .i64 60, .s (.int .i64 12)), (.int .i64 63, .s (.int .i64 4)), (.int .i64 56, .s (.int .i64 8))]
/-- The castlings that are lost by squares. -/
def lostsM (K : Nat → Int) : Nat → Int
  | 0 => 0
  | n + 1 => orM (lostsM K n) (lostM (K (0 + (n : Int).toNat * 1)))

end Go.Proofs.Ytjldefmcnppdoaa
/- The walks of the chapter play: a move made. -/
namespace Go.Proofs.Ytjldefmcnppdoaa
open Go Go.Am
set_option linter.unusedSimpArgs false
set_option linter.unusedVariables false
/-- Squares as they are behind some of the sets. -/
structure Same (H J : Nat → Int) (B : Nat → Int) : Prop where
  lo : ∀ i, i < 128 → J i = B i
  hi : ∀ i, 128 ≤ i → J i = H i
theorem two {X Y : Nat → Int} (h0 : X 0 = Y 0) (h1 : X 1 = Y 1) : ∀ i, i < 2 → X i = Y i
  | 0, _ => h0
  | 1, _ => h1
  | n + 2, h => by omega

/-- The hand, done but for its side. -/
structure Done (H J B : Nat → Int) (cs ovr hf fl : Int) : Prop where
  lo : ∀ i, i < 128 → J i = B i
  s : J 128 = H 128
  c : J 129 = cs
  o : J 130 = ovr
  h : J 131 = hf
  f : J 132 = fl
/-- A hand of a position and a move. -/
structure HandOf (P m H : Nat → Int) : Prop where
  lo : ∀ i, i < 129 → H i = P i
  c : H 129 = castM P
  hi : ∀ i, 130 ≤ i → i < 133 → H i = P i
  a : H 133 = m 0
  t : H 134 = m 1
  b : H 135 = m 2
  k : H 136 = P (sqI (m 0))
  s : H 137 = P (sqI (m 0) + 1)

/-- What is first laid. -/
def hand0 (P m : Nat → Int) : Nat → Int := ovA (ovA (ovA (fun _ => 0) 0 133 P) 133 3 m) 136 2 (dp P (sqI (m 0)))

end Go.Proofs.Ytjldefmcnppdoaa
/- The walks of the chapter play: moves. -/
namespace Go.Proofs.Ytjldefmcnppdoaa
open Go Go.Am
set_option linter.unusedSimpArgs false
set_option linter.unusedVariables false
theorem HandOf.all {P m H : Nat → Int} (h : HandOf P m H) : ∀ i, i < 133 → i ≠ 129 → H i = P i := fun i hi hn => by
  by_cases hl : i < 129
  · exact h.lo i hl
  · exact h.hi i (by omega) hi

structure SameP (P J B : Nat → Int) : Prop where
  lo : ∀ i, i < 128 → J i = B i
  hi : ∀ i, 128 ≤ i → i < 133 → J i = P i
theorem SameP.put {P J B X Y : Nat → Int} {t : Int} (j : SameP P J B) (ht : 0 ≤ t ∧ t < 64) (hx : ∀ i, i < 2 → X i = Y i) : SameP P (ovA J (0 + t.toNat * 2) 2 X) (ovA B (sqI t) 2 Y) :=
  ⟨ovA_same j.lo hx, fun i h1 h2 => by rw [ovA_out (by omega)]; exact j.hi i h1 h2⟩
theorem SameP.kind {P J B X Y : Nat → Int} {t b : Int} (j : SameP P (ovA J (0 + t.toNat * 2) 2 X) (ovA B (sqI t) 2 X)) (ht : 0 ≤ t ∧ t < 64) (h0 : Y 0 = b) (h1 : Y 1 = X 1) : SameP P (ov (ovA J (0 + t.toNat * 2) 2 X) (0 + t.toNat * 2 + 0) b) (ovA B (sqI t) 2 Y) := by
  have hsq : sqI t = 0 + t.toNat * 2 := rfl
  refine ⟨fun i hi => ?_, fun i h1 h2 => by rw [ov_out (by omega)]; exact j.hi i h1 h2⟩
  have hj := j.lo i hi
  by_cases q : i = 0 + t.toNat * 2 + 0
  · subst q
    rw [ovA_at (by omega), show 0 + t.toNat * 2 + 0 - sqI t = 0 from by show 0 + t.toNat * 2 + 0 - (0 + t.toNat * 2) = 0; omega, h0]
    show (bif Nat.beq _ _ then b else _) = b
    rw [show Nat.beq (0 + t.toNat * 2 + 0) (0 + t.toNat * 2 + 0) = true from by simp]
    rfl
  · rw [ov_out q, hj]
    by_cases r : sqI t ≤ i ∧ i < sqI t + 2
    · have e : i - sqI t = 1 := by
        have : sqI t = 0 + t.toNat * 2 := rfl
        omega
      rw [ovA_at r, ovA_at r, e, h1]
    · rw [ovA_out (by omega), ovA_out (by omega)]
/-- What is done, so far. -/
structure DoneP (P J B : Nat → Int) (s cs ovr hf fl : Int) : Prop where
  lo : ∀ i, i < 128 → J i = B i
  s : J 128 = s
  c : J 129 = cs
  o : J 130 = ovr
  h : J 131 = hf
  f : J 132 = fl
end Go.Proofs.Ytjldefmcnppdoaa
/- What holds of closed calls of the chapter play, told by the kernel. -/
namespace Go.Proofs.Ytjldefmcnppdoaa
open Go Go.Am
end Go.Proofs.Ytjldefmcnppdoaa
/- The walks of the chapter play: many moves, and PlayTells. -/
namespace Go.Proofs.Ytjldefmcnppdoaa
open Go Go.Am
set_option linter.unusedSimpArgs false
set_option linter.unusedVariables false
/-- The position behind n moves, and the error. -/
def mvP (P K : Nat → Int) : Nat → (Nat → Int) × Int
  | 0 => (P, 0)
  | n + 1 => if (mvP P K n).2 = 0 then (moveM (mvP P K n).1 (dp K (0 + (n : Int).toNat * 3) 0) (dp K (0 + (n : Int).toNat * 3) 1) (dp K (0 + (n : Int).toNat * 3) 2), errM (mvP P K n).1 (dp K (0 + (n : Int).toNat * 3) 0) (dp K (0 + (n : Int).toNat * 3) 1) (dp K (0 + (n : Int).toNat * 3) 2)) else (fun _ => 0, (mvP P K n).2)
def cutP (Q : Nat → Int) : Nat → Int := ovA (fun _ => 0) 0 133 Q
theorem eqI_f {n : Nat} {P Q : Nat → Int} (h : ∀ i, i < n → P i = Q i) : (bif true then !(eqI n P Q) else eqI n P Q) = false := by
  rw [eqI_iff.2 h]; rfl
end Go.Proofs.Ytjldefmcnppdoaa
/- The walk of BoardEnds. -/
namespace Go.Proofs.Ytjldefmcnppdoaa
open Go Go.Am
set_option linter.unusedSimpArgs false
set_option linter.unusedVariables false
set_option maxRecDepth 100000
theorem ovA_is {P Q R : Nat → Int} {m : Nat} (h : ∀ i, i < m → Q i = R i) (h2 : ∀ i, m ≤ i → P i = R i) : ovA P 0 m Q = R := by
  funext i
  unfold ovA
  cases hb : Nat.blt i (0 + m) with
  | true =>
    rw [show Nat.ble 0 i = true from Nat.ble_eq_true_of_le (Nat.zero_le i)]
    have : i + 1 ≤ 0 + m := Nat.le_of_ble_eq_true hb
    exact h i (by omega)
  | false =>
    simp only [Bool.and_false, cond_false]
    refine h2 i (Nat.le_of_not_lt fun hi => ?_)
    rw [show Nat.blt i (0 + m) = true from Nat.ble_eq_true_of_le (by omega)] at hb
    cases hb
theorem startF_hi (i : Nat) (h : 133 ≤ i) : startF i = 0 := by
  rw [← cur_end]
  unfold ov
  rw [show Nat.beq i 129 = false from Bool.eq_false_iff.2 fun e => by have := Nat.eq_of_beq_eq_true e; omega, cond_false]
  unfold curF
  rw [if_neg (by omega), emptyF_hi i h]
theorem dp0 (P : Nat → Int) : dp P 0 = P := by funext i; show P (0 + i) = P i; rw [Nat.zero_add]
theorem start_right : rightM startF = true := by decide +kernel
theorem empty_right : rightM emptyF = false := by decide +kernel

theorem bEmpty_run  : WR AM 78 [] [] (fun v _ _ => v = .agg 133 (ia emptyF)) := by
 refine WR_fn (a := a78) rfl rfl (entryF _) (entry_E (Nat.le_of_ble_eq_true rfl)) (m := 0) rfl ?_
 refine WP_seq ?_
 refine WP_ops ?_
 refine WO_allocI ?_
 refine WO_nil ?_
 refine WP_seq ?_
 refine WP_ops ?_
 refine WO_buildI rfl (.one rfl (.one rfl .nil)) ?_
 refine WO_stA rfl rfl rfl rfl .here ?_
 refine WO_nil ?_
 refine WP_ret ?_
 refine ⟨_, RS_cell rfl rfl (.head _) (RS_nil), ?_⟩
 refine congrArg (fun P => V.agg 133 (ia P)) ?_
 have e : (ov (ov (fun _ => 0) 130 (-1)) 132 1) = emptyF := by
  funext i
  unfold emptyF ov
  cases h1 : Nat.beq i 130 with
  | true => rw [Nat.eq_of_beq_eq_true h1]; rfl
  | false => cases Nat.beq i 132 <;> rfl
 first | exact e | (rw [e]; exact ovA_whole fun i hi => (emptyF_hi i hi).symm)
theorem rEmpty_run  : WR AM 68 [] [] (fun v _ _ => v = .agg 133 (ia emptyF)) := by
 refine WR_fn (a := a68) rfl rfl (entryF _) (entry_E (Nat.le_of_ble_eq_true rfl)) (m := 0) rfl ?_
 refine WP_seq ?_
 refine WP_ops ?_
 refine WO_allocI ?_
 refine WO_nil ?_
 refine WP_seq ?_
 refine WP_ops ?_
 refine WO_buildI rfl (.one rfl (.one rfl .nil)) ?_
 refine WO_stA rfl rfl rfl rfl .here ?_
 refine WO_nil ?_
 refine WP_ret ?_
 refine ⟨_, RS_cell rfl rfl (.head _) (RS_nil), ?_⟩
 refine congrArg (fun P => V.agg 133 (ia P)) ?_
 refine ovA_is (by decide +kernel) fun i hi => (emptyF_hi i hi).symm
theorem rStart_run  : WR AM 29 [] [] (fun v _ _ => v = .agg 133 (ia startF)) := by
 refine WR_fn (a := a29) rfl rfl (entryF _) (entry_E (Nat.le_of_ble_eq_true rfl)) (m := 0) rfl ?_
 refine WP_seq ?_
 refine WP_ops ?_
 refine WO_allocI ?_
 refine WO_nil ?_
 refine WP_seq ?_
 refine WP_ops ?_
 refine WO_call0 rfl (RF_of rEmpty_run) rfl rfl rfl ?_
 refine WO_allocI ?_
 refine WO_stA rfl rfl rfl rfl .here ?_
 refine WO_nil ?_
 refine WP_seq ?_
 refine WP_ops ?_
 refine WO_mkslS rfl (.one rfl (.one rfl (.one rfl (.one rfl (.one rfl (.one rfl (.one rfl (.one rfl .nil)))))))) ?_
 refine WO_mv (v := .sl _ _ _ _ _) rfl ?_
 refine WO_nil ?_
 refine WP_seq ?_
 refine WP_seq ?_
 refine WP_ops ?_
 refine WO_mv rfl ?_
 refine WO_nil ?_
 refine WP_block ?_
 refine WP_unroll ?_
 refine WP_seq ?_
 refine WP_seq ?_
 refine WP_ops ?_
 refine WO_mv (v := .s (.int _ _)) rfl ?_
 refine WO_bin (r := .bool _) rfl rfl rfl ?_
 refine WO_nil ?_
 refine WP_cond rfl (fun h1 => ?_) (fun h1 => ?_)
 ·try simp only [NM] at h1
  refine WP_skip ?_
  refine WP_seq ?_
  refine WP_block ?_
  refine WP_seq ?_
  refine WP_ops ?_
  refine WO_mv (v := .s (.int _ _)) rfl ?_
  refine WO_mv (v := .sl _ _ _ _ _) rfl ?_
  refine WO_mv (v := .s (.int _ _)) rfl ?_
  refine WO_ixs rfl rfl (by omega) ?_
  refine WO_ldI (x := _) rfl rfl (.head _) (rfl) ?_
  refine WO_buildI rfl (.one rfl (.one rfl .nil)) ?_
  refine WO_fa (o' := 0) rfl rfl rfl ?_
  refine WO_ixa rfl rfl rfl (by omega) ?_
  refine WO_stA rfl rfl rfl rfl (.there .here) ?_
  refine WO_nil ?_
  refine WP_seq ?_
  refine WP_ops ?_
  refine WO_mv (v := .s (.int _ _)) rfl ?_
  refine WO_add rfl rfl (by omega) ?_
  refine WO_buildI rfl (.one rfl (.one rfl .nil)) ?_
  refine WO_fa (o' := 0) rfl rfl rfl ?_
  refine WO_ixa rfl rfl rfl (by omega) ?_
  refine WO_stA rfl rfl rfl rfl (.there .here) ?_
  refine WO_nil ?_
  refine WP_seq ?_
  refine WP_ops ?_
  refine WO_mv (v := .s (.int _ _)) rfl ?_
  refine WO_add rfl rfl (by omega) ?_
  refine WO_buildI rfl (.one rfl (.one rfl .nil)) ?_
  refine WO_fa (o' := 0) rfl rfl rfl ?_
  refine WO_ixa rfl rfl rfl (by omega) ?_
  refine WO_stA rfl rfl rfl rfl (.there .here) ?_
  refine WO_nil ?_
  refine WP_ops ?_
  refine WO_mv (v := .s (.int _ _)) rfl ?_
  refine WO_add rfl rfl (by omega) ?_
  refine WO_mv (v := .sl _ _ _ _ _) rfl ?_
  refine WO_mv (v := .s (.int _ _)) rfl ?_
  refine WO_ixs rfl rfl (by omega) ?_
  refine WO_ldI (x := _) rfl rfl (.head _) (rfl) ?_
  refine WO_buildI rfl (.one rfl (.one rfl .nil)) ?_
  refine WO_fa (o' := 0) rfl rfl rfl ?_
  refine WO_ixa rfl rfl rfl (by omega) ?_
  refine WO_stA rfl rfl rfl rfl (.there .here) ?_
  refine WO_nil ?_
  refine WP_ops ?_
  refine WO_mv (v := .s (.int _ _)) rfl ?_
  refine WO_add rfl rfl (by omega) ?_
  refine WO_mv (v := .s (.int _ _)) rfl ?_
  refine WO_nil ?_
  refine WP_unroll ?_
  refine WP_seq ?_
  refine WP_seq ?_
  refine WP_ops ?_
  refine WO_mv (v := .s (.int _ _)) rfl ?_
  refine WO_bin (r := .bool _) rfl rfl rfl ?_
  refine WO_nil ?_
  refine WP_cond rfl (fun h2 => ?_) (fun h2 => ?_)
  ·try simp only [NM] at h2
   refine WP_skip ?_
   refine WP_seq ?_
   refine WP_block ?_
   refine WP_seq ?_
   refine WP_ops ?_
   refine WO_mv (v := .s (.int _ _)) rfl ?_
   refine WO_mv (v := .sl _ _ _ _ _) rfl ?_
   refine WO_mv (v := .s (.int _ _)) rfl ?_
   refine WO_ixs rfl rfl (by omega) ?_
   refine WO_ldI (x := _) rfl rfl (.head _) (rfl) ?_
   refine WO_buildI rfl (.one rfl (.one rfl .nil)) ?_
   refine WO_fa (o' := 0) rfl rfl rfl ?_
   refine WO_ixa rfl rfl rfl (by omega) ?_
   refine WO_stA rfl rfl rfl rfl (.there .here) ?_
   refine WO_nil ?_
   refine WP_seq ?_
   refine WP_ops ?_
   refine WO_mv (v := .s (.int _ _)) rfl ?_
   refine WO_add rfl rfl (by omega) ?_
   refine WO_buildI rfl (.one rfl (.one rfl .nil)) ?_
   refine WO_fa (o' := 0) rfl rfl rfl ?_
   refine WO_ixa rfl rfl rfl (by omega) ?_
   refine WO_stA rfl rfl rfl rfl (.there .here) ?_
   refine WO_nil ?_
   refine WP_seq ?_
   refine WP_ops ?_
   refine WO_mv (v := .s (.int _ _)) rfl ?_
   refine WO_add rfl rfl (by omega) ?_
   refine WO_buildI rfl (.one rfl (.one rfl .nil)) ?_
   refine WO_fa (o' := 0) rfl rfl rfl ?_
   refine WO_ixa rfl rfl rfl (by omega) ?_
   refine WO_stA rfl rfl rfl rfl (.there .here) ?_
   refine WO_nil ?_
   refine WP_ops ?_
   refine WO_mv (v := .s (.int _ _)) rfl ?_
   refine WO_add rfl rfl (by omega) ?_
   refine WO_mv (v := .sl _ _ _ _ _) rfl ?_
   refine WO_mv (v := .s (.int _ _)) rfl ?_
   refine WO_ixs rfl rfl (by omega) ?_
   refine WO_ldI (x := _) rfl rfl (.head _) (rfl) ?_
   refine WO_buildI rfl (.one rfl (.one rfl .nil)) ?_
   refine WO_fa (o' := 0) rfl rfl rfl ?_
   refine WO_ixa rfl rfl rfl (by omega) ?_
   refine WO_stA rfl rfl rfl rfl (.there .here) ?_
   refine WO_nil ?_
   refine WP_ops ?_
   refine WO_mv (v := .s (.int _ _)) rfl ?_
   refine WO_add rfl rfl (by omega) ?_
   refine WO_mv (v := .s (.int _ _)) rfl ?_
   refine WO_nil ?_
   refine WP_unroll ?_
   refine WP_seq ?_
   refine WP_seq ?_
   refine WP_ops ?_
   refine WO_mv (v := .s (.int _ _)) rfl ?_
   refine WO_bin (r := .bool _) rfl rfl rfl ?_
   refine WO_nil ?_
   refine WP_cond rfl (fun h3 => ?_) (fun h3 => ?_)
   ·try simp only [NM] at h3
    refine WP_skip ?_
    refine WP_seq ?_
    refine WP_block ?_
    refine WP_seq ?_
    refine WP_ops ?_
    refine WO_mv (v := .s (.int _ _)) rfl ?_
    refine WO_mv (v := .sl _ _ _ _ _) rfl ?_
    refine WO_mv (v := .s (.int _ _)) rfl ?_
    refine WO_ixs rfl rfl (by omega) ?_
    refine WO_ldI (x := _) rfl rfl (.head _) (rfl) ?_
    refine WO_buildI rfl (.one rfl (.one rfl .nil)) ?_
    refine WO_fa (o' := 0) rfl rfl rfl ?_
    refine WO_ixa rfl rfl rfl (by omega) ?_
    refine WO_stA rfl rfl rfl rfl (.there .here) ?_
    refine WO_nil ?_
    refine WP_seq ?_
    refine WP_ops ?_
    refine WO_mv (v := .s (.int _ _)) rfl ?_
    refine WO_add rfl rfl (by omega) ?_
    refine WO_buildI rfl (.one rfl (.one rfl .nil)) ?_
    refine WO_fa (o' := 0) rfl rfl rfl ?_
    refine WO_ixa rfl rfl rfl (by omega) ?_
    refine WO_stA rfl rfl rfl rfl (.there .here) ?_
    refine WO_nil ?_
    refine WP_seq ?_
    refine WP_ops ?_
    refine WO_mv (v := .s (.int _ _)) rfl ?_
    refine WO_add rfl rfl (by omega) ?_
    refine WO_buildI rfl (.one rfl (.one rfl .nil)) ?_
    refine WO_fa (o' := 0) rfl rfl rfl ?_
    refine WO_ixa rfl rfl rfl (by omega) ?_
    refine WO_stA rfl rfl rfl rfl (.there .here) ?_
    refine WO_nil ?_
    refine WP_ops ?_
    refine WO_mv (v := .s (.int _ _)) rfl ?_
    refine WO_add rfl rfl (by omega) ?_
    refine WO_mv (v := .sl _ _ _ _ _) rfl ?_
    refine WO_mv (v := .s (.int _ _)) rfl ?_
    refine WO_ixs rfl rfl (by omega) ?_
    refine WO_ldI (x := _) rfl rfl (.head _) (rfl) ?_
    refine WO_buildI rfl (.one rfl (.one rfl .nil)) ?_
    refine WO_fa (o' := 0) rfl rfl rfl ?_
    refine WO_ixa rfl rfl rfl (by omega) ?_
    refine WO_stA rfl rfl rfl rfl (.there .here) ?_
    refine WO_nil ?_
    refine WP_ops ?_
    refine WO_mv (v := .s (.int _ _)) rfl ?_
    refine WO_add rfl rfl (by omega) ?_
    refine WO_mv (v := .s (.int _ _)) rfl ?_
    refine WO_nil ?_
    refine WP_unroll ?_
    refine WP_seq ?_
    refine WP_seq ?_
    refine WP_ops ?_
    refine WO_mv (v := .s (.int _ _)) rfl ?_
    refine WO_bin (r := .bool _) rfl rfl rfl ?_
    refine WO_nil ?_
    refine WP_cond rfl (fun h4 => ?_) (fun h4 => ?_)
    ·try simp only [NM] at h4
     refine WP_skip ?_
     refine WP_seq ?_
     refine WP_block ?_
     refine WP_seq ?_
     refine WP_ops ?_
     refine WO_mv (v := .s (.int _ _)) rfl ?_
     refine WO_mv (v := .sl _ _ _ _ _) rfl ?_
     refine WO_mv (v := .s (.int _ _)) rfl ?_
     refine WO_ixs rfl rfl (by omega) ?_
     refine WO_ldI (x := _) rfl rfl (.head _) (rfl) ?_
     refine WO_buildI rfl (.one rfl (.one rfl .nil)) ?_
     refine WO_fa (o' := 0) rfl rfl rfl ?_
     refine WO_ixa rfl rfl rfl (by omega) ?_
     refine WO_stA rfl rfl rfl rfl (.there .here) ?_
     refine WO_nil ?_
     refine WP_seq ?_
     refine WP_ops ?_
     refine WO_mv (v := .s (.int _ _)) rfl ?_
     refine WO_add rfl rfl (by omega) ?_
     refine WO_buildI rfl (.one rfl (.one rfl .nil)) ?_
     refine WO_fa (o' := 0) rfl rfl rfl ?_
     refine WO_ixa rfl rfl rfl (by omega) ?_
     refine WO_stA rfl rfl rfl rfl (.there .here) ?_
     refine WO_nil ?_
     refine WP_seq ?_
     refine WP_ops ?_
     refine WO_mv (v := .s (.int _ _)) rfl ?_
     refine WO_add rfl rfl (by omega) ?_
     refine WO_buildI rfl (.one rfl (.one rfl .nil)) ?_
     refine WO_fa (o' := 0) rfl rfl rfl ?_
     refine WO_ixa rfl rfl rfl (by omega) ?_
     refine WO_stA rfl rfl rfl rfl (.there .here) ?_
     refine WO_nil ?_
     refine WP_ops ?_
     refine WO_mv (v := .s (.int _ _)) rfl ?_
     refine WO_add rfl rfl (by omega) ?_
     refine WO_mv (v := .sl _ _ _ _ _) rfl ?_
     refine WO_mv (v := .s (.int _ _)) rfl ?_
     refine WO_ixs rfl rfl (by omega) ?_
     refine WO_ldI (x := _) rfl rfl (.head _) (rfl) ?_
     refine WO_buildI rfl (.one rfl (.one rfl .nil)) ?_
     refine WO_fa (o' := 0) rfl rfl rfl ?_
     refine WO_ixa rfl rfl rfl (by omega) ?_
     refine WO_stA rfl rfl rfl rfl (.there .here) ?_
     refine WO_nil ?_
     refine WP_ops ?_
     refine WO_mv (v := .s (.int _ _)) rfl ?_
     refine WO_add rfl rfl (by omega) ?_
     refine WO_mv (v := .s (.int _ _)) rfl ?_
     refine WO_nil ?_
     refine WP_unroll ?_
     refine WP_seq ?_
     refine WP_seq ?_
     refine WP_ops ?_
     refine WO_mv (v := .s (.int _ _)) rfl ?_
     refine WO_bin (r := .bool _) rfl rfl rfl ?_
     refine WO_nil ?_
     refine WP_cond rfl (fun h5 => ?_) (fun h5 => ?_)
     ·try simp only [NM] at h5
      refine WP_skip ?_
      refine WP_seq ?_
      refine WP_block ?_
      refine WP_seq ?_
      refine WP_ops ?_
      refine WO_mv (v := .s (.int _ _)) rfl ?_
      refine WO_mv (v := .sl _ _ _ _ _) rfl ?_
      refine WO_mv (v := .s (.int _ _)) rfl ?_
      refine WO_ixs rfl rfl (by omega) ?_
      refine WO_ldI (x := _) rfl rfl (.head _) (rfl) ?_
      refine WO_buildI rfl (.one rfl (.one rfl .nil)) ?_
      refine WO_fa (o' := 0) rfl rfl rfl ?_
      refine WO_ixa rfl rfl rfl (by omega) ?_
      refine WO_stA rfl rfl rfl rfl (.there .here) ?_
      refine WO_nil ?_
      refine WP_seq ?_
      refine WP_ops ?_
      refine WO_mv (v := .s (.int _ _)) rfl ?_
      refine WO_add rfl rfl (by omega) ?_
      refine WO_buildI rfl (.one rfl (.one rfl .nil)) ?_
      refine WO_fa (o' := 0) rfl rfl rfl ?_
      refine WO_ixa rfl rfl rfl (by omega) ?_
      refine WO_stA rfl rfl rfl rfl (.there .here) ?_
      refine WO_nil ?_
      refine WP_seq ?_
      refine WP_ops ?_
      refine WO_mv (v := .s (.int _ _)) rfl ?_
      refine WO_add rfl rfl (by omega) ?_
      refine WO_buildI rfl (.one rfl (.one rfl .nil)) ?_
      refine WO_fa (o' := 0) rfl rfl rfl ?_
      refine WO_ixa rfl rfl rfl (by omega) ?_
      refine WO_stA rfl rfl rfl rfl (.there .here) ?_
      refine WO_nil ?_
      refine WP_ops ?_
      refine WO_mv (v := .s (.int _ _)) rfl ?_
      refine WO_add rfl rfl (by omega) ?_
      refine WO_mv (v := .sl _ _ _ _ _) rfl ?_
      refine WO_mv (v := .s (.int _ _)) rfl ?_
      refine WO_ixs rfl rfl (by omega) ?_
      refine WO_ldI (x := _) rfl rfl (.head _) (rfl) ?_
      refine WO_buildI rfl (.one rfl (.one rfl .nil)) ?_
      refine WO_fa (o' := 0) rfl rfl rfl ?_
      refine WO_ixa rfl rfl rfl (by omega) ?_
      refine WO_stA rfl rfl rfl rfl (.there .here) ?_
      refine WO_nil ?_
      refine WP_ops ?_
      refine WO_mv (v := .s (.int _ _)) rfl ?_
      refine WO_add rfl rfl (by omega) ?_
      refine WO_mv (v := .s (.int _ _)) rfl ?_
      refine WO_nil ?_
      refine WP_unroll ?_
      refine WP_seq ?_
      refine WP_seq ?_
      refine WP_ops ?_
      refine WO_mv (v := .s (.int _ _)) rfl ?_
      refine WO_bin (r := .bool _) rfl rfl rfl ?_
      refine WO_nil ?_
      refine WP_cond rfl (fun h6 => ?_) (fun h6 => ?_)
      ·try simp only [NM] at h6
       refine WP_skip ?_
       refine WP_seq ?_
       refine WP_block ?_
       refine WP_seq ?_
       refine WP_ops ?_
       refine WO_mv (v := .s (.int _ _)) rfl ?_
       refine WO_mv (v := .sl _ _ _ _ _) rfl ?_
       refine WO_mv (v := .s (.int _ _)) rfl ?_
       refine WO_ixs rfl rfl (by omega) ?_
       refine WO_ldI (x := _) rfl rfl (.head _) (rfl) ?_
       refine WO_buildI rfl (.one rfl (.one rfl .nil)) ?_
       refine WO_fa (o' := 0) rfl rfl rfl ?_
       refine WO_ixa rfl rfl rfl (by omega) ?_
       refine WO_stA rfl rfl rfl rfl (.there .here) ?_
       refine WO_nil ?_
       refine WP_seq ?_
       refine WP_ops ?_
       refine WO_mv (v := .s (.int _ _)) rfl ?_
       refine WO_add rfl rfl (by omega) ?_
       refine WO_buildI rfl (.one rfl (.one rfl .nil)) ?_
       refine WO_fa (o' := 0) rfl rfl rfl ?_
       refine WO_ixa rfl rfl rfl (by omega) ?_
       refine WO_stA rfl rfl rfl rfl (.there .here) ?_
       refine WO_nil ?_
       refine WP_seq ?_
       refine WP_ops ?_
       refine WO_mv (v := .s (.int _ _)) rfl ?_
       refine WO_add rfl rfl (by omega) ?_
       refine WO_buildI rfl (.one rfl (.one rfl .nil)) ?_
       refine WO_fa (o' := 0) rfl rfl rfl ?_
       refine WO_ixa rfl rfl rfl (by omega) ?_
       refine WO_stA rfl rfl rfl rfl (.there .here) ?_
       refine WO_nil ?_
       refine WP_ops ?_
       refine WO_mv (v := .s (.int _ _)) rfl ?_
       refine WO_add rfl rfl (by omega) ?_
       refine WO_mv (v := .sl _ _ _ _ _) rfl ?_
       refine WO_mv (v := .s (.int _ _)) rfl ?_
       refine WO_ixs rfl rfl (by omega) ?_
       refine WO_ldI (x := _) rfl rfl (.head _) (rfl) ?_
       refine WO_buildI rfl (.one rfl (.one rfl .nil)) ?_
       refine WO_fa (o' := 0) rfl rfl rfl ?_
       refine WO_ixa rfl rfl rfl (by omega) ?_
       refine WO_stA rfl rfl rfl rfl (.there .here) ?_
       refine WO_nil ?_
       refine WP_ops ?_
       refine WO_mv (v := .s (.int _ _)) rfl ?_
       refine WO_add rfl rfl (by omega) ?_
       refine WO_mv (v := .s (.int _ _)) rfl ?_
       refine WO_nil ?_
       refine WP_unroll ?_
       refine WP_seq ?_
       refine WP_seq ?_
       refine WP_ops ?_
       refine WO_mv (v := .s (.int _ _)) rfl ?_
       refine WO_bin (r := .bool _) rfl rfl rfl ?_
       refine WO_nil ?_
       refine WP_cond rfl (fun h7 => ?_) (fun h7 => ?_)
       ·try simp only [NM] at h7
        refine WP_skip ?_
        refine WP_seq ?_
        refine WP_block ?_
        refine WP_seq ?_
        refine WP_ops ?_
        refine WO_mv (v := .s (.int _ _)) rfl ?_
        refine WO_mv (v := .sl _ _ _ _ _) rfl ?_
        refine WO_mv (v := .s (.int _ _)) rfl ?_
        refine WO_ixs rfl rfl (by omega) ?_
        refine WO_ldI (x := _) rfl rfl (.head _) (rfl) ?_
        refine WO_buildI rfl (.one rfl (.one rfl .nil)) ?_
        refine WO_fa (o' := 0) rfl rfl rfl ?_
        refine WO_ixa rfl rfl rfl (by omega) ?_
        refine WO_stA rfl rfl rfl rfl (.there .here) ?_
        refine WO_nil ?_
        refine WP_seq ?_
        refine WP_ops ?_
        refine WO_mv (v := .s (.int _ _)) rfl ?_
        refine WO_add rfl rfl (by omega) ?_
        refine WO_buildI rfl (.one rfl (.one rfl .nil)) ?_
        refine WO_fa (o' := 0) rfl rfl rfl ?_
        refine WO_ixa rfl rfl rfl (by omega) ?_
        refine WO_stA rfl rfl rfl rfl (.there .here) ?_
        refine WO_nil ?_
        refine WP_seq ?_
        refine WP_ops ?_
        refine WO_mv (v := .s (.int _ _)) rfl ?_
        refine WO_add rfl rfl (by omega) ?_
        refine WO_buildI rfl (.one rfl (.one rfl .nil)) ?_
        refine WO_fa (o' := 0) rfl rfl rfl ?_
        refine WO_ixa rfl rfl rfl (by omega) ?_
        refine WO_stA rfl rfl rfl rfl (.there .here) ?_
        refine WO_nil ?_
        refine WP_ops ?_
        refine WO_mv (v := .s (.int _ _)) rfl ?_
        refine WO_add rfl rfl (by omega) ?_
        refine WO_mv (v := .sl _ _ _ _ _) rfl ?_
        refine WO_mv (v := .s (.int _ _)) rfl ?_
        refine WO_ixs rfl rfl (by omega) ?_
        refine WO_ldI (x := _) rfl rfl (.head _) (rfl) ?_
        refine WO_buildI rfl (.one rfl (.one rfl .nil)) ?_
        refine WO_fa (o' := 0) rfl rfl rfl ?_
        refine WO_ixa rfl rfl rfl (by omega) ?_
        refine WO_stA rfl rfl rfl rfl (.there .here) ?_
        refine WO_nil ?_
        refine WP_ops ?_
        refine WO_mv (v := .s (.int _ _)) rfl ?_
        refine WO_add rfl rfl (by omega) ?_
        refine WO_mv (v := .s (.int _ _)) rfl ?_
        refine WO_nil ?_
        refine WP_unroll ?_
        refine WP_seq ?_
        refine WP_seq ?_
        refine WP_ops ?_
        refine WO_mv (v := .s (.int _ _)) rfl ?_
        refine WO_bin (r := .bool _) rfl rfl rfl ?_
        refine WO_nil ?_
        refine WP_cond rfl (fun h8 => ?_) (fun h8 => ?_)
        ·try simp only [NM] at h8
         refine WP_skip ?_
         refine WP_seq ?_
         refine WP_block ?_
         refine WP_seq ?_
         refine WP_ops ?_
         refine WO_mv (v := .s (.int _ _)) rfl ?_
         refine WO_mv (v := .sl _ _ _ _ _) rfl ?_
         refine WO_mv (v := .s (.int _ _)) rfl ?_
         refine WO_ixs rfl rfl (by omega) ?_
         refine WO_ldI (x := _) rfl rfl (.head _) (rfl) ?_
         refine WO_buildI rfl (.one rfl (.one rfl .nil)) ?_
         refine WO_fa (o' := 0) rfl rfl rfl ?_
         refine WO_ixa rfl rfl rfl (by omega) ?_
         refine WO_stA rfl rfl rfl rfl (.there .here) ?_
         refine WO_nil ?_
         refine WP_seq ?_
         refine WP_ops ?_
         refine WO_mv (v := .s (.int _ _)) rfl ?_
         refine WO_add rfl rfl (by omega) ?_
         refine WO_buildI rfl (.one rfl (.one rfl .nil)) ?_
         refine WO_fa (o' := 0) rfl rfl rfl ?_
         refine WO_ixa rfl rfl rfl (by omega) ?_
         refine WO_stA rfl rfl rfl rfl (.there .here) ?_
         refine WO_nil ?_
         refine WP_seq ?_
         refine WP_ops ?_
         refine WO_mv (v := .s (.int _ _)) rfl ?_
         refine WO_add rfl rfl (by omega) ?_
         refine WO_buildI rfl (.one rfl (.one rfl .nil)) ?_
         refine WO_fa (o' := 0) rfl rfl rfl ?_
         refine WO_ixa rfl rfl rfl (by omega) ?_
         refine WO_stA rfl rfl rfl rfl (.there .here) ?_
         refine WO_nil ?_
         refine WP_ops ?_
         refine WO_mv (v := .s (.int _ _)) rfl ?_
         refine WO_add rfl rfl (by omega) ?_
         refine WO_mv (v := .sl _ _ _ _ _) rfl ?_
         refine WO_mv (v := .s (.int _ _)) rfl ?_
         refine WO_ixs rfl rfl (by omega) ?_
         refine WO_ldI (x := _) rfl rfl (.head _) (rfl) ?_
         refine WO_buildI rfl (.one rfl (.one rfl .nil)) ?_
         refine WO_fa (o' := 0) rfl rfl rfl ?_
         refine WO_ixa rfl rfl rfl (by omega) ?_
         refine WO_stA rfl rfl rfl rfl (.there .here) ?_
         refine WO_nil ?_
         refine WP_ops ?_
         refine WO_mv (v := .s (.int _ _)) rfl ?_
         refine WO_add rfl rfl (by omega) ?_
         refine WO_mv (v := .s (.int _ _)) rfl ?_
         refine WO_nil ?_
         refine WP_unroll ?_
         refine WP_seq ?_
         refine WP_seq ?_
         refine WP_ops ?_
         refine WO_mv (v := .s (.int _ _)) rfl ?_
         refine WO_bin (r := .bool _) rfl rfl rfl ?_
         refine WO_nil ?_
         refine WP_cond rfl (fun h9 => ?_) (fun h9 => ?_)
         ·try simp only [NM] at h9
          exfalso; first | omega | (simp at h9)
         ·try simp only [NM] at h9
          refine WP_exit ?_
          refine xhere ?_
          refine WP_seq ?_
          refine WP_ops ?_
          refine WO_fa (o' := 129) rfl rfl rfl ?_
          refine WO_stI rfl rfl rfl rfl (.there .here) ?_
          refine WO_nil ?_
          refine WP_seq ?_
          refine WP_ops ?_
          first | refine WO_ldA0 rfl rfl (.tail _ (.head _)) ?_ | refine WO_ldAI rfl rfl (.tail _ (.head _)) ?_
          refine WO_stA rfl rfl rfl rfl (.there (.there .here)) ?_
          refine WO_nil ?_
          refine WP_ret ?_
          refine ⟨_, RS_cell rfl rfl (.tail _ (.tail _ (.head _))) (RS_nil), ?_⟩
          refine congrArg (fun P => V.agg 133 (ia P)) ?_
          refine ovA_is (by decide +kernel) fun i hi => (startF_hi i hi).symm
        ·try simp only [NM] at h8
         exfalso; first | omega | (simp at h8)
       ·try simp only [NM] at h7
        exfalso; first | omega | (simp at h7)
      ·try simp only [NM] at h6
       exfalso; first | omega | (simp at h6)
     ·try simp only [NM] at h5
      exfalso; first | omega | (simp at h5)
    ·try simp only [NM] at h4
     exfalso; first | omega | (simp at h4)
   ·try simp only [NM] at h3
    exfalso; first | omega | (simp at h3)
  ·try simp only [NM] at h2
   exfalso; first | omega | (simp at h2)
 ·try simp only [NM] at h1
  exfalso; first | omega | (simp at h1)
theorem start_is : RF AM 77 [] (.agg 133 (ia startF)) := ⟨[], by rw [Run_prim (A := AM) (f := 77) (pf := startPrim) rfl]; rfl⟩
theorem at_in6 {i : Nat} (h : i < 6) : 0 ≤ (ov (ov (ov (ov (ov (ov (fun _ => 0) (0 * 1) 0) (1 * 1) 7) (2 * 1) 56) (3 * 1) 63) (4 * 1) 4) (5 * 1) 60) (0 + (i : Int).toNat * 1) ∧ (ov (ov (ov (ov (ov (ov (fun _ => 0) (0 * 1) 0) (1 * 1) 7) (2 * 1) 56) (3 * 1) 63) (4 * 1) 4) (5 * 1) 60) (0 + (i : Int).toNat * 1) < 64 := by
  have : i = 0 ∨ i = 1 ∨ i = 2 ∨ i = 3 ∨ i = 4 ∨ i = 5 := by omega
  rcases this with rfl | rfl | rfl | rfl | rfl | rfl <;> decide
theorem whole_start : ovA (fun _ => 0) 0 133 startF = startF := ovA_whole fun i hi => (startF_hi i hi).symm
theorem Right_start {P : Nat → Int} (h : P = startF) : RF AM 56 [.agg 133 (ia P)] (.s (.bool true)) := by
  subst h
  have := RF_of (Right_run startF)
  rw [start_right] at this
  exact this
theorem Right_empty {P : Nat → Int} (h : P = emptyF) : RF AM 56 [.agg 133 (ia P)] (.s (.bool false)) := by
  subst h
  have := RF_of (Right_run emptyF)
  rw [empty_right] at this
  exact this

theorem WO_bt {M : Nat} {f : FE} {n : Nat} {L : HA} {K : KN} {l : List I} {d : Nat} {x y z : O} {P X R : Nat → Int} {b m : Nat} (h0 : x.fv M f = .agg 133 (ia P)) (h1 : y.fv M f = .agg 2 (ia X)) (h2 : z.fv M f = .sl b 0 m 1 (.ex m)) (hm : (b, Blk.sc .var m (ia R)) ∈ L)
    (k : WO AM M l (upd f d (.s (.bool true))) n L K) : WO AM M (⟨some d, none, .h (.call (.k (.fn 15 [])) [x, y, z])⟩ :: l) f n L K :=
  WO_call (rs := [b]) (Bs := [_]) (av := [.agg 133 (ia P), .agg 2 (ia X), .sl b 0 m 1 (.ex m)]) rfl (RB_of1 (BoardTells_run (md := .var) (q := m) (c := .ex m) P X R m)) (by rw [List.map_cons, List.map_cons, List.map_cons, List.map_nil, h0, h1, h2]) (by simp [V.refsL, V.refs, dedup]) (by simp [V.refsL, V.refs]) (by simp [V.refsL, V.refs]) (by simp [rnL, V.renL, V.ren, pos]) ⟨hm, ⟨_, _, _, rfl⟩, trivial⟩ rfl rfl rfl (.cons (At_self hm) .nil) k

theorem BoardEnds_run  : WR AM 16 [] [] (fun v _ _ => v = .s (.bool true)) := by
 refine WR_fn (a := a16) rfl rfl (entryF _) (entry_E (Nat.le_of_ble_eq_true rfl)) (m := 0) rfl ?_
 refine WP_seq ?_
 refine WP_ops ?_
 refine WO_mv rfl ?_
 refine WO_nil ?_
 refine WP_seq ?_
 refine WP_ops ?_
 refine WO_call0 rfl (RF_of rStart_run) rfl rfl rfl ?_
 refine WO_allocI ?_
 refine WO_stA rfl rfl rfl rfl .here ?_
 refine WO_nil ?_
 refine WP_seq ?_
 refine WP_seq ?_
 refine WP_ops ?_
 refine WO_callq0 rfl (start_is) rfl rfl rfl ?_
 first | refine WO_ldA0 rfl rfl (.head _) ?_ | refine WO_ldAI rfl rfl (.head _) ?_
 refine WO_eqaC rfl rfl (eqI_f (fun i hi => by first | rw [whole_start] | rw [dp0, whole_start])) ?_
 refine WO_mv (v := .s (.bool _)) rfl ?_
 refine WO_gt rfl ?_
 refine WO_call0 rfl (RF_of bEmpty_run) rfl rfl rfl ?_
 refine WO_gt rfl ?_
 refine WO_call0 rfl (RF_of rEmpty_run) rfl rfl rfl ?_
 refine WO_gt rfl ?_
 refine WO_eqaC rfl rfl (eqI_f (fun _ _ => rfl)) ?_
 refine WO_pick (v := .s (.bool _)) rfl rfl ?_
 refine WO_mv (v := .s (.bool _)) rfl ?_
 refine WO_gt rfl ?_
 first | refine WO_ldA0 rfl rfl (.head _) ?_ | refine WO_ldAI rfl rfl (.head _) ?_
 refine WO_gt rfl ?_
 refine WO_call0 rfl (Right_start (by first | exact whole_start | (rw [dp0]; exact whole_start))) rfl rfl rfl ?_
 refine WO_gt rfl ?_
 refine WO_un (r := .bool _) rfl rfl ?_
 refine WO_pick (v := .s (.bool _)) rfl rfl ?_
 refine WO_mv (v := .s (.bool _)) rfl ?_
 refine WO_gt rfl ?_
 refine WO_call0 rfl (RF_of bEmpty_run) rfl rfl rfl ?_
 refine WO_gt rfl ?_
 refine WO_call0 rfl (Right_empty rfl) rfl rfl rfl ?_
 refine WO_pick (v := .s (.bool _)) rfl rfl ?_
 refine WO_mv (v := .s (.bool _)) rfl ?_
 refine WO_gt rfl ?_
 refine WO_call0 rfl (RF_of (Other_run _)) rfl rfl rfl ?_
 refine WO_gt rfl ?_
 refine WO_bin rfl rfl (neq_same rfl) ?_
 refine WO_pick (v := .s (.bool _)) rfl rfl ?_
 refine WO_mv (v := .s (.bool _)) rfl ?_
 refine WO_gt rfl ?_
 refine WO_call0 rfl (RF_of (Other_run _)) rfl rfl rfl ?_
 refine WO_gt rfl ?_
 refine WO_bin rfl rfl (neq_same rfl) ?_
 refine WO_pick (v := .s (.bool _)) rfl rfl ?_
 refine WO_mv (v := .s (.bool _)) rfl ?_
 refine WO_gt rfl ?_
 refine WO_call0 rfl (RF_of (Other_run _)) rfl rfl rfl ?_
 refine WO_gt rfl ?_
 refine WO_bin rfl rfl (neq_same rfl) ?_
 refine WO_pick (v := .s (.bool _)) rfl rfl ?_
 refine WO_nil ?_
 refine WP_cond rfl (fun h => nomatch h) (fun _ => ?_)
 refine WP_skip ?_
 refine WP_seq ?_
 refine WP_seq ?_
 refine WP_ops ?_
 refine WO_mv rfl ?_
 refine WO_nil ?_
 refine WP_block ?_
 refine WP_sub (L' := [_]) (.cons_cons _ .slnil) ?_
 refine WP_loop (fun m f _ L => ∃ (s : Nat) (P : Nat → Int), (s ≤ 64) ∧ (m = 64 - s) ∧ (f 1 = .ptr 0 0 133) ∧ (f 2 = .s (.int .i64 s)) ∧ (L = [(0, .sc .var 133 (ia P))])) (fun m f nb L hI => ?_) (_) ⟨0, _, by omega, rfl, rfl, rfl, rfl⟩
 obtain ⟨s, P, hs, hm, k1, k2, rfl⟩ := hI
 refine WP_know (d := 1) (v := .ptr 0 0 133) k1 ?_
 refine WP_know (d := 2) (v := .s (.int .i64 s)) k2 ?_
 refine WP_seq ?_
 refine WP_seq ?_
 refine WP_ops ?_
 refine WO_mv (v := .s (.int _ _)) rfl ?_
 refine WO_bin (r := .bool _) rfl rfl rfl ?_
 refine WO_nil ?_
 refine WP_cond rfl (fun h10 => ?_) (fun h10 => ?_)
 ·try simp only [NM] at h10
  refine WP_skip ?_
  refine WP_seq ?_
  refine WP_block ?_
  refine WP_seq ?_
  refine WP_seq ?_
  refine WP_ops ?_
  refine WO_mv rfl ?_
  refine WO_nil ?_
  refine WP_block ?_
  refine WP_sub (L' := [_]) (.cons_cons _ .slnil) ?_
  refine WP_loop (fun m f _ L => ∃ (k : Int), (-1 ≤ k ∧ k ≤ 16) ∧ (m = (16 - k).toNat) ∧ (f 1 = .ptr 0 0 133) ∧ (f 2 = .s (.int .i64 s)) ∧ (f 3 = .s (.int .i64 k)) ∧ (L = [(0, .sc .var 133 (ia P))])) (fun m f nb L hI => ?_) (_) ⟨-1, by omega, rfl, rfl, rfl, rfl, rfl⟩
  obtain ⟨k, hk, hm, k1, k2, k3, rfl⟩ := hI
  refine WP_know (d := 1) (v := .ptr 0 0 133) k1 ?_
  refine WP_know (d := 2) (v := .s (.int .i64 s)) k2 ?_
  refine WP_know (d := 3) (v := .s (.int .i64 k)) k3 ?_
  refine WP_seq ?_
  refine WP_seq ?_
  refine WP_ops ?_
  refine WO_mv (v := .s (.int _ _)) rfl ?_
  refine WO_bin (r := .bool _) rfl rfl rfl ?_
  refine WO_nil ?_
  refine WP_cond rfl (fun h11 => ?_) (fun h11 => ?_)
  ·try simp only [NM] at h11
   refine WP_skip ?_
   refine WP_seq ?_
   refine WP_block ?_
   refine WP_seq ?_
   refine WP_ops ?_
   refine WO_mv (v := .s (.int _ _)) rfl ?_
   refine WO_bin (r := .int .i64 _) rfl rfl rfl ?_
   refine WO_mv (v := .s (.int _ _)) rfl ?_
   refine WO_bin (r := .int .i64 _) rfl rfl rfl ?_
   refine WO_buildI rfl (.one rfl (.one rfl .nil)) ?_
   refine WO_allocI ?_
   refine WO_stA rfl rfl rfl rfl .here ?_
   refine WO_nil ?_
   refine WP_seq ?_
   refine WP_ops ?_
   first | refine WO_ldA0 rfl rfl (.tail _ (.head _)) ?_ | refine WO_ldAI rfl rfl (.tail _ (.head _)) ?_
   refine WO_allocI ?_
   refine WO_stA rfl rfl rfl rfl .here ?_
   refine WO_nil ?_
   refine WP_seq ?_
   refine WP_ops ?_
   refine WO_mv (v := .s (.int _ _)) rfl ?_
   first | refine WO_ldA0 rfl rfl (.tail _ (.head _)) ?_ | refine WO_ldAI rfl rfl (.tail _ (.head _)) ?_
   refine WO_fa (o' := 0) rfl rfl rfl ?_
   refine WO_ixa rfl rfl rfl (by first | omega | exact at_in6 (by omega)) ?_
   refine WO_stA rfl rfl rfl rfl .here ?_
   refine WO_nil ?_
   refine WP_seq ?_
   refine WP_ops ?_
   first | refine WO_ldA0 rfl rfl (.head _) ?_ | refine WO_ldAI rfl rfl (.head _) ?_
   first | refine WO_ldA0 rfl rfl (.tail _ (.head _)) ?_ | refine WO_ldAI rfl rfl (.tail _ (.head _)) ?_
   refine WO_mv (v := .s (.int _ _)) rfl ?_
   refine WO_mkslS rfl (.one rfl .nil) ?_
   refine WO_bt rfl rfl rfl (.head _) ?_
   refine WO_un (r := .bool _) rfl rfl ?_
   refine WO_mv (v := .s (.bool _)) rfl ?_
   refine WO_gt rfl ?_
   refine WO_mv (v := .s (.int _ _)) rfl ?_
   refine WO_gt rfl ?_
   refine WO_bin (r := .bool _) rfl rfl rfl ?_
   refine WO_gt rfl ?_
   refine WO_mv (v := .s (.bool _)) rfl ?_
   refine WO_case (t := 76) rfl (fun h12 => ?_) (fun h12 => ?_)
   ·try simp only [NM] at h12
    refine WO_gt rfl ?_
    first | refine WO_ldA0 rfl rfl (.tail _ (.tail _ (.tail _ (.head _)))) ?_ | refine WO_ldAI rfl rfl (.tail _ (.tail _ (.tail _ (.head _)))) ?_
    refine WO_gt rfl ?_
    refine WO_buildI rfl .nil ?_
    refine WO_gt rfl ?_
    refine WO_mv (v := .s (.int _ _)) rfl ?_
    refine WO_gt rfl ?_
    refine WO_mv (v := .s (.int _ _)) rfl ?_
    refine WO_gt rfl ?_
    refine WO_sub rfl rfl (by omega) ?_
    refine WO_gt rfl ?_
    refine WO_mkslS rfl (.one rfl (.one rfl .nil)) ?_
    refine WO_gt rfl ?_
    refine WO_bt rfl rfl rfl (.head _) ?_
    refine WO_gt rfl ?_
    refine WO_un (r := .bool _) rfl rfl ?_
    refine WO_gt rfl ?_
    refine WO_pick (v := .s (.bool _)) rfl rfl ?_
    refine WO_pick (v := .s (.bool _)) rfl rfl ?_
    refine WO_nil ?_
    refine WP_cond rfl (fun h => nomatch h) (fun _ => ?_)
    refine WP_skip ?_
    refine WP_ops ?_
    refine WO_mv (v := .s (.int _ _)) rfl ?_
    refine WO_add rfl rfl (by omega) ?_
    refine WO_mv (v := .s (.int _ _)) rfl ?_
    refine WO_nil ?_
    refine ⟨_, _, ?_, (.cons _ (.cons _ (.cons _ (.cons _ (.cons_cons _ .slnil))))), k + 1, by omega, rfl, rfl, rfl, rfl, rfl⟩
    omega
   ·try simp only [NM] at h12
    refine WO_gf rfl rfl ?_
    refine WO_gf rfl rfl ?_
    refine WO_gf rfl rfl ?_
    refine WO_gf rfl rfl ?_
    refine WO_gf rfl rfl ?_
    refine WO_gf rfl rfl ?_
    refine WO_gf rfl rfl ?_
    refine WO_gf rfl rfl ?_
    refine WO_gt rfl ?_
    refine WO_pick (v := .s (.bool _)) rfl rfl ?_
    refine WO_pick (v := .s (.bool _)) rfl rfl ?_
    refine WO_nil ?_
    refine WP_cond rfl (fun h => nomatch h) (fun _ => ?_)
    refine WP_skip ?_
    refine WP_ops ?_
    refine WO_mv (v := .s (.int _ _)) rfl ?_
    refine WO_add rfl rfl (by omega) ?_
    refine WO_mv (v := .s (.int _ _)) rfl ?_
    refine WO_nil ?_
    refine ⟨_, _, ?_, (.cons _ (.cons _ (.cons _ (.cons_cons _ .slnil)))), k + 1, by omega, rfl, rfl, rfl, rfl, rfl⟩
    omega
  ·try simp only [NM] at h11
   refine WP_exit ?_
   refine xhere ?_
   refine WP_seq ?_
   refine WP_ops ?_
   refine WO_mv rfl ?_
   refine WO_nil ?_
   refine WP_block ?_
   refine WP_sub (L' := [_]) (.cons_cons _ .slnil) ?_
   refine WP_loop (fun m f _ L => ∃ (c : Nat), (c ≤ 2) ∧ (m = 2 - c) ∧ (f 1 = .ptr 0 0 133) ∧ (f 2 = .s (.int .i64 s)) ∧ (f 6 = .s (.int .i64 c)) ∧ (L = [(0, .sc .var 133 (ia P))])) (fun m f nb L hI => ?_) (_) ⟨0, by omega, rfl, rfl, rfl, rfl, rfl⟩
   obtain ⟨c, hc, hm, k1, k2, k6, rfl⟩ := hI
   refine WP_know (d := 1) (v := .ptr 0 0 133) k1 ?_
   refine WP_know (d := 2) (v := .s (.int .i64 s)) k2 ?_
   refine WP_know (d := 6) (v := .s (.int .i64 c)) k6 ?_
   refine WP_seq ?_
   refine WP_seq ?_
   refine WP_ops ?_
   refine WO_mv (v := .s (.int _ _)) rfl ?_
   refine WO_bin (r := .bool _) rfl rfl rfl ?_
   refine WO_nil ?_
   refine WP_cond rfl (fun h13 => ?_) (fun h13 => ?_)
   ·try simp only [NM] at h13
    refine WP_skip ?_
    refine WP_seq ?_
    refine WP_block ?_
    refine WP_seq ?_
    refine WP_ops ?_
    first | refine WO_ldA0 rfl rfl (.head _) ?_ | refine WO_ldAI rfl rfl (.head _) ?_
    refine WO_allocI ?_
    refine WO_stA rfl rfl rfl rfl .here ?_
    refine WO_nil ?_
    refine WP_seq ?_
    refine WP_ops ?_
    refine WO_mv (v := .s (.int _ _)) rfl ?_
    refine WO_fa (o' := 128) rfl rfl rfl ?_
    refine WO_stI rfl rfl rfl rfl .here ?_
    refine WO_nil ?_
    refine WP_seq ?_
    refine WP_ops ?_
    refine WO_mv (v := .s (.int _ _)) rfl ?_
    refine WO_fa (o' := 130) rfl rfl rfl ?_
    refine WO_stI rfl rfl rfl rfl .here ?_
    refine WO_nil ?_
    refine WP_seq ?_
    refine WP_seq ?_
    refine WP_ops ?_
    first | refine WO_ldA0 rfl rfl (.head _) ?_ | refine WO_ldAI rfl rfl (.head _) ?_
    refine WO_buildI rfl .nil ?_
    refine WO_call0 rfl (RF_of (BoardTells_runN _ _)) rfl rfl rfl ?_
    refine WO_un (r := .bool _) rfl rfl ?_
    refine WO_nil ?_
    refine WP_cond rfl (fun h => nomatch h) (fun _ => ?_)
    refine WP_skip ?_
    refine WP_seq ?_
    refine WP_ops ?_
    refine WO_mv rfl ?_
    refine WO_nil ?_
    refine WP_block ?_
    refine WP_sub (L' := [_, _]) (.cons_cons _ (.cons_cons _ .slnil)) ?_
    refine WP_loop (fun m f _ L => ∃ (x : Int) (b7 : Nat) (Q : Nat → Int), (-8 ≤ x ∧ x ≤ 24) ∧ (m = (24 - x).toNat) ∧ (f 1 = .ptr 0 0 133) ∧ (f 2 = .s (.int .i64 s)) ∧ (f 6 = .s (.int .i64 c)) ∧ (f 7 = .ptr b7 0 133) ∧ (f 8 = .s (.int .i64 x)) ∧ (L = [(b7, .sc .var 133 (ia Q)), (0, .sc .var 133 (ia P))])) (fun m f nb L hI => ?_) (_) ⟨-8, _, _, by omega, rfl, rfl, rfl, rfl, rfl, rfl, rfl⟩
    obtain ⟨x, b7, Q, hx, hm, k1, k2, k6, k7, k8, rfl⟩ := hI
    refine WP_know (d := 1) (v := .ptr 0 0 133) k1 ?_
    refine WP_know (d := 2) (v := .s (.int .i64 s)) k2 ?_
    refine WP_know (d := 6) (v := .s (.int .i64 c)) k6 ?_
    refine WP_know (d := 7) (v := .ptr b7 0 133) k7 ?_
    refine WP_know (d := 8) (v := .s (.int .i64 x)) k8 ?_
    refine WP_seq ?_
    refine WP_seq ?_
    refine WP_ops ?_
    refine WO_mv (v := .s (.int _ _)) rfl ?_
    refine WO_bin (r := .bool _) rfl rfl rfl ?_
    refine WO_nil ?_
    refine WP_cond rfl (fun h14 => ?_) (fun h14 => ?_)
    ·try simp only [NM] at h14
     refine WP_skip ?_
     refine WP_seq ?_
     refine WP_block ?_
     refine WP_seq ?_
     refine WP_seq ?_
     refine WP_ops ?_
     refine WO_mv (v := .s (.int _ _)) rfl ?_
     refine WO_mv (v := .s (.int _ _)) rfl ?_
     refine WO_add rfl rfl (by omega) ?_
     refine WO_bin (r := .bool _) rfl rfl rfl ?_
     refine WO_mv (v := .s (.bool _)) rfl ?_
     refine WO_case (t := 108) rfl (fun h15 => ?_) (fun h15 => ?_)
     ·try simp only [NM] at h15
      refine WO_gf rfl rfl ?_
      refine WO_gf rfl rfl ?_
      refine WO_gf rfl rfl ?_
      refine WO_gf rfl rfl ?_
      refine WO_pick (v := .s (.bool _)) rfl rfl ?_
      refine WO_nil ?_
      refine WP_cond rfl (fun _ => ?_) (fun h => nomatch h)
      refine WP_exit ?_
      refine xhere ?_
      refine WP_ops ?_
      refine WO_mv (v := .s (.int _ _)) rfl ?_
      refine WO_add rfl rfl (by omega) ?_
      refine WO_mv (v := .s (.int _ _)) rfl ?_
      refine WO_nil ?_
      refine ⟨_, _, ?_, (.cons_cons _ (.cons_cons _ .slnil)), x + 16, _, _, by omega, rfl, rfl, rfl, rfl, rfl, rfl, rfl⟩
      omega
     ·try simp only [NM] at h15
      refine WO_gt rfl ?_
      refine WO_mv (v := .s (.int _ _)) rfl ?_
      refine WO_gt rfl ?_
      refine WO_mv (v := .s (.int _ _)) rfl ?_
      refine WO_gt rfl ?_
      refine WO_add rfl rfl (by omega) ?_
      refine WO_gt rfl ?_
      refine WO_bin (r := .bool _) rfl rfl rfl ?_
      refine WO_pick (v := .s (.bool _)) rfl rfl ?_
      refine WO_nil ?_
      refine WP_cond rfl (fun h16 => ?_) (fun h16 => ?_)
      ·try simp only [NM] at h16
       refine WP_exit ?_
       refine xhere ?_
       refine WP_ops ?_
       refine WO_mv (v := .s (.int _ _)) rfl ?_
       refine WO_add rfl rfl (by omega) ?_
       refine WO_mv (v := .s (.int _ _)) rfl ?_
       refine WO_nil ?_
       refine ⟨_, _, ?_, (.cons_cons _ (.cons_cons _ .slnil)), x + 16, _, _, by omega, rfl, rfl, rfl, rfl, rfl, rfl, rfl⟩
       omega
      ·try simp only [NM] at h16
       refine WP_skip ?_
       refine WP_seq ?_
       refine WP_ops ?_
       first | refine WO_ldA0 rfl rfl (.head _) ?_ | refine WO_ldAI rfl rfl (.head _) ?_
       refine WO_allocI ?_
       refine WO_stA rfl rfl rfl rfl .here ?_
       refine WO_nil ?_
       refine WP_seq ?_
       refine WP_ops ?_
       refine WO_mv (v := .s (.int _ _)) rfl ?_
       refine WO_mv (v := .s (.int _ _)) rfl ?_
       refine WO_add rfl rfl (by omega) ?_
       refine WO_mv (v := .s (.int _ _)) rfl ?_
       refine WO_sub rfl rfl (by omega) ?_
       refine WO_buildI rfl (.one rfl (.one rfl .nil)) ?_
       refine WO_fa (o' := 0) rfl rfl rfl ?_
       refine WO_ixa rfl rfl rfl (by first | omega | exact at_in6 (by omega)) ?_
       refine WO_stA rfl rfl rfl rfl .here ?_
       refine WO_nil ?_
       refine WP_seq ?_
       refine WP_seq ?_
       refine WP_ops ?_
       refine WO_mv (v := .s (.int _ _)) rfl ?_
       refine WO_mv (v := .s (.int _ _)) rfl ?_
       refine WO_sub rfl rfl (by omega) ?_
       refine WO_bin (r := .bool _) rfl rfl rfl ?_
       refine WO_mv (v := .s (.bool _)) rfl ?_
       refine WO_case (t := 127) rfl (fun h17 => ?_) (fun h17 => ?_)
       ·try simp only [NM] at h17
        refine WO_gt rfl ?_
        refine WO_mv (v := .s (.int _ _)) rfl ?_
        refine WO_gt rfl ?_
        refine WO_mv (v := .s (.int _ _)) rfl ?_
        refine WO_gt rfl ?_
        refine WO_sub rfl rfl (by omega) ?_
        refine WO_gt rfl ?_
        refine WO_bin (r := .bool _) rfl rfl rfl ?_
        refine WO_pick (v := .s (.bool _)) rfl rfl ?_
        refine WO_mv (v := .s (.bool _)) rfl ?_
        refine WO_case (t := 133) rfl (fun h18 => ?_) (fun h18 => ?_)
        ·try simp only [NM] at h18
         refine WO_gt rfl ?_
         refine WO_mv (v := .s (.int _ _)) rfl ?_
         refine WO_gt rfl ?_
         refine WO_mv (v := .s (.int _ _)) rfl ?_
         refine WO_gt rfl ?_
         refine WO_sub rfl rfl (by omega) ?_
         refine WO_gt rfl ?_
         refine WO_bin (r := .bool _) rfl rfl rfl ?_
         refine WO_pick (v := .s (.bool _)) rfl rfl ?_
         refine WO_mv (v := .s (.bool _)) rfl ?_
         refine WO_case (t := 139) rfl (fun h19 => ?_) (fun h19 => ?_)
         ·try simp only [NM] at h19
          refine WO_gt rfl ?_
          refine WO_mv (v := .s (.int _ _)) rfl ?_
          refine WO_gt rfl ?_
          refine WO_mv (v := .s (.int _ _)) rfl ?_
          refine WO_gt rfl ?_
          refine WO_sub rfl rfl (by omega) ?_
          refine WO_gt rfl ?_
          refine WO_bin (r := .bool _) rfl rfl rfl ?_
          refine WO_pick (v := .s (.bool _)) rfl rfl ?_
          refine WO_nil ?_
          refine WP_cond rfl (fun h20 => ?_) (fun h20 => ?_)
          ·try simp only [NM] at h20
           refine WP_ops ?_
           refine WO_mv (v := .s (.int _ _)) rfl ?_
           refine WO_mv (v := .s (.int _ _)) rfl ?_
           refine WO_sub rfl rfl (by omega) ?_
           refine WO_buildI rfl .nil ?_
           refine WO_fa (o' := 0) rfl rfl rfl ?_
           refine WO_ixa rfl rfl rfl (by first | omega | exact at_in6 (by omega)) ?_
           refine WO_stA rfl rfl rfl rfl .here ?_
           refine WO_nil ?_
           refine WP_seq ?_
           refine WP_ops ?_
           first | refine WO_ldA0 rfl rfl (.head _) ?_ | refine WO_ldAI rfl rfl (.head _) ?_
           refine WO_allocI ?_
           refine WO_stA rfl rfl rfl rfl .here ?_
           refine WO_nil ?_
           refine WP_seq ?_
           refine WP_ops ?_
           refine WO_fa (o' := 131) rfl rfl rfl ?_
           refine WO_stI rfl rfl rfl rfl .here ?_
           refine WO_nil ?_
           refine WP_seq ?_
           refine WP_ops ?_
           first | refine WO_ldA0 rfl rfl (.tail _ (.head _)) ?_ | refine WO_ldAI rfl rfl (.tail _ (.head _)) ?_
           refine WO_buildI rfl .nil ?_
           refine WO_call0 rfl (RF_of (BoardTells_runN _ _)) rfl rfl rfl ?_
           refine WO_un (r := .bool _) rfl rfl ?_
           refine WO_mv (v := .s (.bool _)) rfl ?_
           refine WO_gt rfl ?_
           first | refine WO_ldA0 rfl rfl (.head _) ?_ | refine WO_ldAI rfl rfl (.head _) ?_
           refine WO_gt rfl ?_
           refine WO_buildI rfl .nil ?_
           refine WO_gt rfl ?_
           refine WO_call0 rfl (RF_of (BoardTells_runN _ _)) rfl rfl rfl ?_
           refine WO_gt rfl ?_
           refine WO_un (r := .bool _) rfl rfl ?_
           refine WO_pick (v := .s (.bool _)) rfl rfl ?_
           refine WO_nil ?_
           refine WP_cond rfl (fun h => nomatch h) (fun _ => ?_)
           refine WP_skip ?_
           refine WP_ops ?_
           refine WO_mv (v := .s (.int _ _)) rfl ?_
           refine WO_add rfl rfl (by omega) ?_
           refine WO_mv (v := .s (.int _ _)) rfl ?_
           refine WO_nil ?_
           refine ⟨_, _, ?_, (.cons _ (.cons _ (.cons_cons _ (.cons_cons _ .slnil)))), x + 16, _, _, by omega, rfl, rfl, rfl, rfl, rfl, rfl, rfl⟩
           omega
          ·try simp only [NM] at h20
           refine WP_skip ?_
           refine WP_seq ?_
           refine WP_ops ?_
           first | refine WO_ldA0 rfl rfl (.head _) ?_ | refine WO_ldAI rfl rfl (.head _) ?_
           refine WO_allocI ?_
           refine WO_stA rfl rfl rfl rfl .here ?_
           refine WO_nil ?_
           refine WP_seq ?_
           refine WP_ops ?_
           refine WO_fa (o' := 131) rfl rfl rfl ?_
           refine WO_stI rfl rfl rfl rfl .here ?_
           refine WO_nil ?_
           refine WP_seq ?_
           refine WP_ops ?_
           first | refine WO_ldA0 rfl rfl (.tail _ (.head _)) ?_ | refine WO_ldAI rfl rfl (.tail _ (.head _)) ?_
           refine WO_buildI rfl .nil ?_
           refine WO_call0 rfl (RF_of (BoardTells_runN _ _)) rfl rfl rfl ?_
           refine WO_un (r := .bool _) rfl rfl ?_
           refine WO_mv (v := .s (.bool _)) rfl ?_
           refine WO_gt rfl ?_
           first | refine WO_ldA0 rfl rfl (.head _) ?_ | refine WO_ldAI rfl rfl (.head _) ?_
           refine WO_gt rfl ?_
           refine WO_buildI rfl .nil ?_
           refine WO_gt rfl ?_
           refine WO_call0 rfl (RF_of (BoardTells_runN _ _)) rfl rfl rfl ?_
           refine WO_gt rfl ?_
           refine WO_un (r := .bool _) rfl rfl ?_
           refine WO_pick (v := .s (.bool _)) rfl rfl ?_
           refine WO_nil ?_
           refine WP_cond rfl (fun h => nomatch h) (fun _ => ?_)
           refine WP_skip ?_
           refine WP_ops ?_
           refine WO_mv (v := .s (.int _ _)) rfl ?_
           refine WO_add rfl rfl (by omega) ?_
           refine WO_mv (v := .s (.int _ _)) rfl ?_
           refine WO_nil ?_
           refine ⟨_, _, ?_, (.cons _ (.cons _ (.cons_cons _ (.cons_cons _ .slnil)))), x + 16, _, _, by omega, rfl, rfl, rfl, rfl, rfl, rfl, rfl⟩
           omega
         ·try simp only [NM] at h19
          refine WO_gf rfl rfl ?_
          refine WO_gf rfl rfl ?_
          refine WO_gf rfl rfl ?_
          refine WO_gf rfl rfl ?_
          refine WO_pick (v := .s (.bool _)) rfl rfl ?_
          refine WO_nil ?_
          refine WP_cond rfl (fun h => nomatch h) (fun _ => ?_)
          refine WP_skip ?_
          refine WP_seq ?_
          refine WP_ops ?_
          first | refine WO_ldA0 rfl rfl (.head _) ?_ | refine WO_ldAI rfl rfl (.head _) ?_
          refine WO_allocI ?_
          refine WO_stA rfl rfl rfl rfl .here ?_
          refine WO_nil ?_
          refine WP_seq ?_
          refine WP_ops ?_
          refine WO_fa (o' := 131) rfl rfl rfl ?_
          refine WO_stI rfl rfl rfl rfl .here ?_
          refine WO_nil ?_
          refine WP_seq ?_
          refine WP_ops ?_
          first | refine WO_ldA0 rfl rfl (.tail _ (.head _)) ?_ | refine WO_ldAI rfl rfl (.tail _ (.head _)) ?_
          refine WO_buildI rfl .nil ?_
          refine WO_call0 rfl (RF_of (BoardTells_runN _ _)) rfl rfl rfl ?_
          refine WO_un (r := .bool _) rfl rfl ?_
          refine WO_mv (v := .s (.bool _)) rfl ?_
          refine WO_gt rfl ?_
          first | refine WO_ldA0 rfl rfl (.head _) ?_ | refine WO_ldAI rfl rfl (.head _) ?_
          refine WO_gt rfl ?_
          refine WO_buildI rfl .nil ?_
          refine WO_gt rfl ?_
          refine WO_call0 rfl (RF_of (BoardTells_runN _ _)) rfl rfl rfl ?_
          refine WO_gt rfl ?_
          refine WO_un (r := .bool _) rfl rfl ?_
          refine WO_pick (v := .s (.bool _)) rfl rfl ?_
          refine WO_nil ?_
          refine WP_cond rfl (fun h => nomatch h) (fun _ => ?_)
          refine WP_skip ?_
          refine WP_ops ?_
          refine WO_mv (v := .s (.int _ _)) rfl ?_
          refine WO_add rfl rfl (by omega) ?_
          refine WO_mv (v := .s (.int _ _)) rfl ?_
          refine WO_nil ?_
          refine ⟨_, _, ?_, (.cons _ (.cons _ (.cons_cons _ (.cons_cons _ .slnil)))), x + 16, _, _, by omega, rfl, rfl, rfl, rfl, rfl, rfl, rfl⟩
          omega
        ·try simp only [NM] at h18
         refine WO_gf rfl rfl ?_
         refine WO_gf rfl rfl ?_
         refine WO_gf rfl rfl ?_
         refine WO_gf rfl rfl ?_
         refine WO_pick (v := .s (.bool _)) rfl rfl ?_
         refine WO_mv (v := .s (.bool _)) rfl ?_
         refine WO_gf rfl rfl ?_
         refine WO_gf rfl rfl ?_
         refine WO_gf rfl rfl ?_
         refine WO_gf rfl rfl ?_
         refine WO_pick (v := .s (.bool _)) rfl rfl ?_
         refine WO_nil ?_
         refine WP_cond rfl (fun h => nomatch h) (fun _ => ?_)
         refine WP_skip ?_
         refine WP_seq ?_
         refine WP_ops ?_
         first | refine WO_ldA0 rfl rfl (.head _) ?_ | refine WO_ldAI rfl rfl (.head _) ?_
         refine WO_allocI ?_
         refine WO_stA rfl rfl rfl rfl .here ?_
         refine WO_nil ?_
         refine WP_seq ?_
         refine WP_ops ?_
         refine WO_fa (o' := 131) rfl rfl rfl ?_
         refine WO_stI rfl rfl rfl rfl .here ?_
         refine WO_nil ?_
         refine WP_seq ?_
         refine WP_ops ?_
         first | refine WO_ldA0 rfl rfl (.tail _ (.head _)) ?_ | refine WO_ldAI rfl rfl (.tail _ (.head _)) ?_
         refine WO_buildI rfl .nil ?_
         refine WO_call0 rfl (RF_of (BoardTells_runN _ _)) rfl rfl rfl ?_
         refine WO_un (r := .bool _) rfl rfl ?_
         refine WO_mv (v := .s (.bool _)) rfl ?_
         refine WO_gt rfl ?_
         first | refine WO_ldA0 rfl rfl (.head _) ?_ | refine WO_ldAI rfl rfl (.head _) ?_
         refine WO_gt rfl ?_
         refine WO_buildI rfl .nil ?_
         refine WO_gt rfl ?_
         refine WO_call0 rfl (RF_of (BoardTells_runN _ _)) rfl rfl rfl ?_
         refine WO_gt rfl ?_
         refine WO_un (r := .bool _) rfl rfl ?_
         refine WO_pick (v := .s (.bool _)) rfl rfl ?_
         refine WO_nil ?_
         refine WP_cond rfl (fun h => nomatch h) (fun _ => ?_)
         refine WP_skip ?_
         refine WP_ops ?_
         refine WO_mv (v := .s (.int _ _)) rfl ?_
         refine WO_add rfl rfl (by omega) ?_
         refine WO_mv (v := .s (.int _ _)) rfl ?_
         refine WO_nil ?_
         refine ⟨_, _, ?_, (.cons _ (.cons _ (.cons_cons _ (.cons_cons _ .slnil)))), x + 16, _, _, by omega, rfl, rfl, rfl, rfl, rfl, rfl, rfl⟩
         omega
       ·try simp only [NM] at h17
        refine WO_gf rfl rfl ?_
        refine WO_gf rfl rfl ?_
        refine WO_gf rfl rfl ?_
        refine WO_gf rfl rfl ?_
        refine WO_pick (v := .s (.bool _)) rfl rfl ?_
        refine WO_mv (v := .s (.bool _)) rfl ?_
        refine WO_gf rfl rfl ?_
        refine WO_gf rfl rfl ?_
        refine WO_gf rfl rfl ?_
        refine WO_gf rfl rfl ?_
        refine WO_pick (v := .s (.bool _)) rfl rfl ?_
        refine WO_mv (v := .s (.bool _)) rfl ?_
        refine WO_gf rfl rfl ?_
        refine WO_gf rfl rfl ?_
        refine WO_gf rfl rfl ?_
        refine WO_gf rfl rfl ?_
        refine WO_pick (v := .s (.bool _)) rfl rfl ?_
        refine WO_nil ?_
        refine WP_cond rfl (fun h => nomatch h) (fun _ => ?_)
        refine WP_skip ?_
        refine WP_seq ?_
        refine WP_ops ?_
        first | refine WO_ldA0 rfl rfl (.head _) ?_ | refine WO_ldAI rfl rfl (.head _) ?_
        refine WO_allocI ?_
        refine WO_stA rfl rfl rfl rfl .here ?_
        refine WO_nil ?_
        refine WP_seq ?_
        refine WP_ops ?_
        refine WO_fa (o' := 131) rfl rfl rfl ?_
        refine WO_stI rfl rfl rfl rfl .here ?_
        refine WO_nil ?_
        refine WP_seq ?_
        refine WP_ops ?_
        first | refine WO_ldA0 rfl rfl (.tail _ (.head _)) ?_ | refine WO_ldAI rfl rfl (.tail _ (.head _)) ?_
        refine WO_buildI rfl .nil ?_
        refine WO_call0 rfl (RF_of (BoardTells_runN _ _)) rfl rfl rfl ?_
        refine WO_un (r := .bool _) rfl rfl ?_
        refine WO_mv (v := .s (.bool _)) rfl ?_
        refine WO_gt rfl ?_
        first | refine WO_ldA0 rfl rfl (.head _) ?_ | refine WO_ldAI rfl rfl (.head _) ?_
        refine WO_gt rfl ?_
        refine WO_buildI rfl .nil ?_
        refine WO_gt rfl ?_
        refine WO_call0 rfl (RF_of (BoardTells_runN _ _)) rfl rfl rfl ?_
        refine WO_gt rfl ?_
        refine WO_un (r := .bool _) rfl rfl ?_
        refine WO_pick (v := .s (.bool _)) rfl rfl ?_
        refine WO_nil ?_
        refine WP_cond rfl (fun h => nomatch h) (fun _ => ?_)
        refine WP_skip ?_
        refine WP_ops ?_
        refine WO_mv (v := .s (.int _ _)) rfl ?_
        refine WO_add rfl rfl (by omega) ?_
        refine WO_mv (v := .s (.int _ _)) rfl ?_
        refine WO_nil ?_
        refine ⟨_, _, ?_, (.cons _ (.cons _ (.cons_cons _ (.cons_cons _ .slnil)))), x + 16, _, _, by omega, rfl, rfl, rfl, rfl, rfl, rfl, rfl⟩
        omega
    ·try simp only [NM] at h14
     refine WP_exit ?_
     refine xhere ?_
     refine WP_ops ?_
     refine WO_mv (v := .s (.int _ _)) rfl ?_
     refine WO_add rfl rfl (by omega) ?_
     refine WO_mv (v := .s (.int _ _)) rfl ?_
     refine WO_nil ?_
     refine ⟨_, _, ?_, (.cons _ (.cons_cons _ .slnil)), c + 1, by omega, rfl, rfl, rfl, rfl, rfl⟩
     omega
   ·try simp only [NM] at h13
    refine WP_exit ?_
    refine xhere ?_
    refine WP_ops ?_
    refine WO_mv (v := .s (.int _ _)) rfl ?_
    refine WO_add rfl rfl (by omega) ?_
    refine WO_mv (v := .s (.int _ _)) rfl ?_
    refine WO_nil ?_
    refine ⟨_, _, ?_, (.cons_cons _ .slnil), s + 1, _, by omega, rfl, rfl, rfl, rfl⟩
    omega
 ·try simp only [NM] at h10
  refine WP_exit ?_
  refine xhere ?_
  refine WP_seq ?_
  refine WP_ops ?_
  refine WO_mkslS rfl (.one rfl (.one rfl (.one rfl (.one rfl (.one rfl (.one rfl (.one rfl (.one rfl (.one rfl (.one rfl (.one rfl (.one rfl (.one rfl (.one rfl (.one rfl (.one rfl (.one rfl .nil))))))))))))))))) ?_
  refine WO_mv (v := .sl _ _ _ _ _) rfl ?_
  refine WO_nil ?_
  refine WP_seq ?_
  refine WP_seq ?_
  refine WP_ops ?_
  refine WO_mv rfl ?_
  refine WO_nil ?_
  refine WP_block ?_
  refine WP_sub (L' := [_, _]) (.cons_cons _ (.cons_cons _ .slnil)) ?_
  refine WP_loop (fun m f _ L => ∃ (i : Nat) (P : Nat → Int) (be : Nat) (E : Nat → Int), (i ≤ 17) ∧ (m = 17 - i) ∧ (f 1 = .ptr 0 0 133) ∧ (f 11 = .sl be 0 17 1 (.ex 17)) ∧ (f 12 = .s (.int .i64 i)) ∧ (L = [(be, .sc .var 17 (ia E)), (0, .sc .var 133 (ia P))])) (fun m f nb L hI => ?_) (_) ⟨0, _, _, _, by omega, rfl, rfl, rfl, rfl, rfl⟩
  obtain ⟨i, P, be, E, hi, hm, k1, k11, k12, rfl⟩ := hI
  refine WP_know (d := 1) (v := .ptr 0 0 133) k1 ?_
  refine WP_know (d := 11) (v := .sl be 0 17 1 (.ex 17)) k11 ?_
  refine WP_know (d := 12) (v := .s (.int .i64 i)) k12 ?_
  refine WP_seq ?_
  refine WP_seq ?_
  refine WP_ops ?_
  refine WO_mv (v := .s (.int _ _)) rfl ?_
  refine WO_mv (v := .sl _ _ _ _ _) rfl ?_
  refine WO_len rfl ?_
  refine WO_bin (r := .bool _) rfl rfl rfl ?_
  refine WO_nil ?_
  refine WP_cond rfl (fun h21 => ?_) (fun h21 => ?_)
  ·try simp only [NM] at h21
   refine WP_skip ?_
   refine WP_seq ?_
   refine WP_block ?_
   refine WP_seq ?_
   refine WP_ops ?_
   refine WO_mv (v := .sl _ _ _ _ _) rfl ?_
   refine WO_mv (v := .s (.int _ _)) rfl ?_
   refine WO_ixs rfl rfl (by first | omega | exact at_in6 (by omega)) ?_
   refine WO_ldI (x := _) rfl rfl (.head _) (rfl) ?_
   refine WO_mv (v := .s (.int _ _)) rfl ?_
   refine WO_nil ?_
   refine WP_seq ?_
   refine WP_ops ?_
   first | refine WO_ldA0 rfl rfl (.tail _ (.head _)) ?_ | refine WO_ldAI rfl rfl (.tail _ (.head _)) ?_
   first | refine WO_ldA0 rfl rfl (.tail _ (.head _)) ?_ | refine WO_ldAI rfl rfl (.tail _ (.head _)) ?_
   first | refine WO_ldA0 rfl rfl (.tail _ (.head _)) ?_ | refine WO_ldAI rfl rfl (.tail _ (.head _)) ?_
   first | refine WO_ldA0 rfl rfl (.tail _ (.head _)) ?_ | refine WO_ldAI rfl rfl (.tail _ (.head _)) ?_
   first | refine WO_ldA0 rfl rfl (.tail _ (.head _)) ?_ | refine WO_ldAI rfl rfl (.tail _ (.head _)) ?_
   refine WO_mkslI rfl (.agg rfl (.agg rfl (.agg rfl (.agg rfl (.agg rfl .nil))))) ?_
   refine WO_mv (v := .sl _ _ _ _ _) rfl ?_
   refine WO_nil ?_
   refine WP_seq ?_
   refine WP_ops ?_
   refine WO_mv (v := .sl _ _ _ _ _) rfl ?_
   refine WO_mv (v := .s (.int _ _)) rfl ?_
   refine WO_ixs rfl rfl (by first | omega | exact at_in6 (by omega)) ?_
   refine WO_fa rfl rfl rfl ?_
   refine WO_stI rfl rfl rfl rfl .here ?_
   refine WO_nil ?_
   refine WP_seq ?_
   refine WP_ops ?_
   refine WO_mv (v := .sl _ _ _ _ _) rfl ?_
   refine WO_mv (v := .s (.int _ _)) rfl ?_
   refine WO_ixs rfl rfl (by first | omega | exact at_in6 (by omega)) ?_
   refine WO_fa rfl rfl rfl ?_
   refine WO_stI rfl rfl rfl rfl .here ?_
   refine WO_nil ?_
   refine WP_seq ?_
   refine WP_ops ?_
   refine WO_mv (v := .sl _ _ _ _ _) rfl ?_
   refine WO_mv (v := .s (.int _ _)) rfl ?_
   refine WO_ixs rfl rfl (by first | omega | exact at_in6 (by omega)) ?_
   refine WO_fa rfl rfl rfl ?_
   refine WO_stI rfl rfl rfl rfl .here ?_
   refine WO_nil ?_
   refine WP_seq ?_
   refine WP_ops ?_
   refine WO_mv (v := .sl _ _ _ _ _) rfl ?_
   refine WO_mv (v := .s (.int _ _)) rfl ?_
   refine WO_ixs rfl rfl (by first | omega | exact at_in6 (by omega)) ?_
   refine WO_fa rfl rfl rfl ?_
   refine WO_stI rfl rfl rfl rfl .here ?_
   refine WO_nil ?_
   refine WP_seq ?_
   refine WP_ops ?_
   refine WO_mv (v := .sl _ _ _ _ _) rfl ?_
   refine WO_mv (v := .s (.int _ _)) rfl ?_
   refine WO_ixs rfl rfl (by first | omega | exact at_in6 (by omega)) ?_
   refine WO_fa rfl rfl rfl ?_
   refine WO_stI rfl rfl rfl rfl .here ?_
   refine WO_nil ?_
   refine WP_seq ?_
   refine WP_ops ?_
   refine WO_mv rfl ?_
   refine WO_nil ?_
   refine WP_block ?_
   refine WP_sub (L' := [_, _, _]) (.cons_cons _ (.cons_cons _ (.cons_cons _ .slnil))) ?_
   refine WP_loop (fun m f _ L => ∃ (k : Nat) (bg : Nat) (G : Nat → Int) (y : Int), (k ≤ 5) ∧ (m = 5 - k) ∧ (f 1 = .ptr 0 0 133) ∧ (f 11 = .sl be 0 17 1 (.ex 17)) ∧ (f 12 = .s (.int .i64 i)) ∧ (f 13 = .s (.int .i64 y)) ∧ (f 14 = .sl bg 0 5 133 (.ex 5)) ∧ (f 15 = .s (.int .i64 k)) ∧ (L = [(bg, .sc .var (5 * 133) (ia G)), (be, .sc .var 17 (ia E)), (0, .sc .var 133 (ia P))])) (fun m f nb L hI => ?_) (_) ⟨0, _, _, _, by omega, rfl, rfl, rfl, rfl, rfl, rfl, rfl, rfl⟩
   obtain ⟨k, bg, G, y, hk, hm, k1, k11, k12, k13, k14, k15, rfl⟩ := hI
   refine WP_know (d := 1) (v := .ptr 0 0 133) k1 ?_
   refine WP_know (d := 11) (v := .sl be 0 17 1 (.ex 17)) k11 ?_
   refine WP_know (d := 12) (v := .s (.int .i64 i)) k12 ?_
   refine WP_know (d := 13) (v := .s (.int .i64 y)) k13 ?_
   refine WP_know (d := 14) (v := .sl bg 0 5 133 (.ex 5)) k14 ?_
   refine WP_know (d := 15) (v := .s (.int .i64 k)) k15 ?_
   refine WP_seq ?_
   refine WP_seq ?_
   refine WP_ops ?_
   refine WO_mv (v := .s (.int _ _)) rfl ?_
   refine WO_bin (r := .bool _) rfl rfl rfl ?_
   refine WO_nil ?_
   refine WP_cond rfl (fun h22 => ?_) (fun h22 => ?_)
   ·try simp only [NM] at h22
    refine WP_skip ?_
    refine WP_seq ?_
    refine WP_block ?_
    refine WP_seq ?_
    refine WP_ops ?_
    refine WO_mv (v := .sl _ _ _ _ _) rfl ?_
    refine WO_mv (v := .s (.int _ _)) rfl ?_
    refine WO_ixs rfl rfl (by first | omega | exact at_in6 (by omega)) ?_
    first | refine WO_ldA0 rfl rfl (.head _) ?_ | refine WO_ldAI rfl rfl (.head _) ?_
    refine WO_mv (v := .s (.int _ _)) rfl ?_
    refine WO_buildI rfl (.one rfl .nil) ?_
    refine WO_mv (v := .s (.int _ _)) rfl ?_
    refine WO_mkslS rfl (.one rfl .nil) ?_
    refine WO_bt rfl rfl rfl (.head _) ?_
    refine WO_un (r := .bool _) rfl rfl ?_
    refine WO_mv (v := .s (.bool _)) rfl ?_
    refine WO_gt rfl ?_
    refine WO_mv (v := .sl _ _ _ _ _) rfl ?_
    refine WO_gt rfl ?_
    refine WO_mv (v := .s (.int _ _)) rfl ?_
    refine WO_gt rfl ?_
    refine WO_ixs rfl rfl (by first | omega | exact at_in6 (by omega)) ?_
    refine WO_gt rfl ?_
    first | refine WO_ldA0 rfl rfl (.tail _ (.head _)) ?_ | refine WO_ldAI rfl rfl (.tail _ (.head _)) ?_
    refine WO_gt rfl ?_
    refine WO_mv (v := .s (.int _ _)) rfl ?_
    refine WO_gt rfl ?_
    refine WO_buildI rfl (.one rfl (.one rfl .nil)) ?_
    refine WO_gt rfl ?_
    refine WO_mv (v := .s (.int _ _)) rfl ?_
    refine WO_gt rfl ?_
    refine WO_mkslS rfl (.one rfl (.one rfl .nil)) ?_
    refine WO_gt rfl ?_
    refine WO_bt rfl rfl rfl (.head _) ?_
    refine WO_gt rfl ?_
    refine WO_un (r := .bool _) rfl rfl ?_
    refine WO_pick (v := .s (.bool _)) rfl rfl ?_
    refine WO_nil ?_
    refine WP_cond rfl (fun h => nomatch h) (fun _ => ?_)
    refine WP_skip ?_
    refine WP_ops ?_
    refine WO_mv (v := .s (.int _ _)) rfl ?_
    refine WO_add rfl rfl (by omega) ?_
    refine WO_mv (v := .s (.int _ _)) rfl ?_
    refine WO_nil ?_
    refine ⟨_, _, ?_, (.cons _ (.cons _ (.cons_cons _ (.cons_cons _ (.cons_cons _ .slnil))))), k + 1, _, _, _, by omega, rfl, rfl, rfl, rfl, rfl, rfl, rfl, rfl⟩
    omega
   ·try simp only [NM] at h22
    refine WP_exit ?_
    refine xhere ?_
    refine WP_ops ?_
    refine WO_mv (v := .s (.int _ _)) rfl ?_
    refine WO_add rfl rfl (by omega) ?_
    refine WO_mv (v := .s (.int _ _)) rfl ?_
    refine WO_nil ?_
    refine ⟨_, _, ?_, (.cons _ (.cons_cons _ (.cons_cons _ .slnil))), i + 1, _, _, _, by omega, rfl, rfl, rfl, rfl, rfl⟩
    omega
  ·try simp only [NM] at h21
   refine WP_exit ?_
   refine xhere ?_
   refine WP_seq ?_
   refine WP_seq ?_
   refine WP_ops ?_
   refine WO_mv rfl ?_
   refine WO_nil ?_
   refine WP_block ?_
   refine WP_sub (L' := [_]) (.cons _ (.cons_cons _ .slnil)) ?_
   refine WP_loop (fun m f _ L => ∃ (c : Nat) (P : Nat → Int), (c ≤ 16) ∧ (m = 16 - c) ∧ (f 1 = .ptr 0 0 133) ∧ (f 16 = .s (.int .i64 c)) ∧ (L = [(0, .sc .var 133 (ia P))])) (fun m f nb L hI => ?_) (_) ⟨0, _, by omega, rfl, rfl, rfl, rfl⟩
   obtain ⟨c, P, hc, hm, k1, k16, rfl⟩ := hI
   refine WP_know (d := 1) (v := .ptr 0 0 133) k1 ?_
   refine WP_know (d := 16) (v := .s (.int .i64 c)) k16 ?_
   refine WP_seq ?_
   refine WP_seq ?_
   refine WP_ops ?_
   refine WO_mv (v := .s (.int _ _)) rfl ?_
   refine WO_bin (r := .bool _) rfl rfl rfl ?_
   refine WO_nil ?_
   refine WP_cond rfl (fun h23 => ?_) (fun h23 => ?_)
   ·try simp only [NM] at h23
    refine WP_skip ?_
    refine WP_seq ?_
    refine WP_block ?_
    refine WP_seq ?_
    refine WP_ops ?_
    refine WO_mv rfl ?_
    refine WO_nil ?_
    refine WP_block ?_
    refine WP_sub (L' := [_]) (.cons_cons _ .slnil) ?_
    refine WP_loop (fun m f _ L => ∃ (k : Nat), (k ≤ 6) ∧ (m = 6 - k) ∧ (f 1 = .ptr 0 0 133) ∧ (f 16 = .s (.int .i64 c)) ∧ (f 17 = .s (.int .i64 k)) ∧ (L = [(0, .sc .var 133 (ia P))])) (fun m f nb L hI => ?_) (_) ⟨0, by omega, rfl, rfl, rfl, rfl, rfl⟩
    obtain ⟨k, hk, hm, k1, k16, k17, rfl⟩ := hI
    refine WP_know (d := 1) (v := .ptr 0 0 133) k1 ?_
    refine WP_know (d := 16) (v := .s (.int .i64 c)) k16 ?_
    refine WP_know (d := 17) (v := .s (.int .i64 k)) k17 ?_
    refine WP_seq ?_
    refine WP_seq ?_
    refine WP_ops ?_
    refine WO_mv (v := .s (.int _ _)) rfl ?_
    refine WO_bin (r := .bool _) rfl rfl rfl ?_
    refine WO_nil ?_
    refine WP_cond rfl (fun h24 => ?_) (fun h24 => ?_)
    ·try simp only [NM] at h24
     refine WP_skip ?_
     refine WP_seq ?_
     refine WP_block ?_
     refine WP_seq ?_
     refine WP_ops ?_
     first | refine WO_ldA0 rfl rfl (.head _) ?_ | refine WO_ldAI rfl rfl (.head _) ?_
     refine WO_allocI ?_
     refine WO_stA rfl rfl rfl rfl .here ?_
     refine WO_nil ?_
     refine WP_seq ?_
     refine WP_ops ?_
     refine WO_mv (v := .s (.int _ _)) rfl ?_
     refine WO_fa (o' := 129) rfl rfl rfl ?_
     refine WO_stI rfl rfl rfl rfl .here ?_
     refine WO_nil ?_
     refine WP_seq ?_
     refine WP_ops ?_
     refine WO_mkslS rfl (.one rfl (.one rfl (.one rfl (.one rfl (.one rfl (.one rfl .nil)))))) ?_
     refine WO_mv (v := .s (.int _ _)) rfl ?_
     refine WO_ixs rfl rfl (by first | omega | exact at_in6 (by omega)) ?_
     refine WO_ldI (x := _) rfl rfl (.head _) (rfl) ?_
     refine WO_buildI rfl .nil ?_
     refine WO_fa (o' := 0) rfl rfl rfl ?_
     refine WO_ixa rfl rfl rfl (by first | omega | exact at_in6 (by omega)) ?_
     refine WO_stA rfl rfl rfl rfl (.there .here) ?_
     refine WO_nil ?_
     refine WP_seq ?_
     refine WP_seq ?_
     refine WP_ops ?_
     first | refine WO_ldA0 rfl rfl (.tail _ (.head _)) ?_ | refine WO_ldAI rfl rfl (.tail _ (.head _)) ?_
     refine WO_buildI rfl .nil ?_
     refine WO_call0 rfl (RF_of (BoardTells_runN _ _)) rfl rfl rfl ?_
     refine WO_un (r := .bool _) rfl rfl ?_
     refine WO_nil ?_
     refine WP_cond rfl (fun h => nomatch h) (fun _ => ?_)
     refine WP_skip ?_
     refine WP_seq ?_
     refine WP_ops ?_
     refine WO_mv (v := .s (.int _ _)) rfl ?_
     refine WO_rem rfl rfl (by omega) ?_
     refine WO_buildI rfl (.one rfl (.one rfl .nil)) ?_
     refine WO_fa (o' := 0) rfl rfl rfl ?_
     refine WO_ixa rfl rfl rfl (by first | omega | exact at_in6 (by omega)) ?_
     refine WO_stA rfl rfl rfl rfl (.there .here) ?_
     refine WO_nil ?_
     refine WP_seq ?_
     refine WP_ops ?_
     first | refine WO_ldA0 rfl rfl (.tail _ (.head _)) ?_ | refine WO_ldAI rfl rfl (.tail _ (.head _)) ?_
     refine WO_buildI rfl .nil ?_
     refine WO_call0 rfl (RF_of (BoardTells_runN _ _)) rfl rfl rfl ?_
     refine WO_un (r := .bool _) rfl rfl ?_
     refine WO_nil ?_
     refine WP_cond rfl (fun h => nomatch h) (fun _ => ?_)
     refine WP_skip ?_
     refine WP_ops ?_
     refine WO_mv (v := .s (.int _ _)) rfl ?_
     refine WO_add rfl rfl (by omega) ?_
     refine WO_mv (v := .s (.int _ _)) rfl ?_
     refine WO_nil ?_
     refine ⟨_, _, ?_, (.cons _ (.cons _ (.cons_cons _ .slnil))), k + 1, by omega, rfl, rfl, rfl, rfl, rfl⟩
     omega
    ·try simp only [NM] at h24
     refine WP_exit ?_
     refine xhere ?_
     refine WP_ops ?_
     refine WO_mv (v := .s (.int _ _)) rfl ?_
     refine WO_add rfl rfl (by omega) ?_
     refine WO_mv (v := .s (.int _ _)) rfl ?_
     refine WO_nil ?_
     refine ⟨_, _, ?_, (.cons_cons _ .slnil), c + 1, _, by omega, rfl, rfl, rfl, rfl⟩
     omega
   ·try simp only [NM] at h23
    refine WP_exit ?_
    refine xhere ?_
    refine WP_seq ?_
    refine WP_ops ?_
    refine WO_call0 rfl (boAwake_run) rfl rfl rfl ?_
    refine WO_mv (v := .s (.bool _)) rfl ?_
    refine WO_nil ?_
    refine WP_ret ?_
    refine ⟨_, RS_tmp (v := .s (.bool _)) rfl (RS_nil), ?_⟩
    rfl
end Go.Proofs.Ytjldefmcnppdoaa
