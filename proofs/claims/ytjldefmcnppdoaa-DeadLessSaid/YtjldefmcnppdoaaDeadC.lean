/- DeadAdds: the walk. -/
import Derived.Test.YtjldefmcnppdoaaDeadB
namespace Go.Am
open Go
section
variable {A : AP} {N : Nat} {f : FE} {n : Nat} {L : HA} {K : KN} {l : List I} {d : Nat}

/-- The first part of a row. -/
theorem WO_slVhi {z : Nat} {x y : O} {b o m : Nat} {c : Cp} {q : Int} (hx : x.fv N f = .sl b o m z c) (hy : y.fv N f = .s (.int .i64 q)) (hc : (match c with | .ex _ => false | _ => true) = true) (hab : 0 ≤ q ∧ q ≤ m ∧ 0 < m) (k : WO A N l (upd f d (.sl b o q.toNat z .unk)) n L K) : WO A N (⟨some d, none, .p (.slV z x none (some y))⟩ :: l) f n L K := by
  refine WO_slV (p := 0) (q := q) hx rfl (by simp only [fvb, hy, num?]) hc (by omega) ?_
  simpa using k

/-- The last part of a row. -/
theorem WO_slVlo {z : Nat} {x y : O} {b o m : Nat} {c : Cp} {p : Int} (hx : x.fv N f = .sl b o m z c) (hy : y.fv N f = .s (.int .i64 p)) (hc : (match c with | .ex _ => false | _ => true) = true) (hab : 0 ≤ p ∧ p < m) (k : WO A N l (upd f d (.sl b (o + p.toNat * z) (m - p.toNat) z .unk)) n L K) : WO A N (⟨some d, none, .p (.slV z x (some y) none)⟩ :: l) f n L K := by
  refine WO_slV (p := p) (q := m) hx (by simp only [fvb, hy, num?]) rfl hc (by omega) ?_
  simpa using k

theorem WO_slVloZ {z : Nat} {x y : O} {b o m : Nat} {c : Cp} {p : Int} (hx : x.fv N f = .sl b o m z c) (hy : y.fv N f = .s (.int .i64 p)) (hc : (match c with | .ex _ => false | _ => true) = true) (hab : p = m) (k : WO A N l (upd f d .slz) n L K) : WO A N (⟨some d, none, .p (.slV z x (some y) none)⟩ :: l) f n L K :=
  WO_slVz (p := p) (q := m) hx (by simp only [fvb, hy, num?]) rfl hc (by omega) k

/-- Nothing of nothing. -/
theorem WO_slVe {z : Nat} {x : O} {lo hi : Option O} {v : V} {p q : Int} (hx : x.fv N f = v) (hv : v = .snil ∨ v = .slz) (hl : fvb N f lo 0 = some p) (hh : fvb N f hi 0 = some q) (hab : p = 0 ∧ q = 0) (k : WO A N l (upd f d v) n L K) : WO A N (⟨some d, none, .p (.slV z x lo hi)⟩ :: l) f n L K :=
  WO_p (v := v) (by
    obtain ⟨rfl, rfl⟩ := hab
    rcases hv with rfl | rfl <;> simp only [pureV, ev_E, hx, bound_E, hl, hh]) k

theorem WO_eqaC {neg : Bool} {m : Nat} {x y : O} {P Q : Nat → Int} {b : Bool} (hx : x.fv N f = .agg m (ia P)) (hy : y.fv N f = .agg m (ia Q)) (h : (bif neg then !(eqI m P Q) else eqI m P Q) = b) (k : WO A N l (upd f d (.s (.bool b))) n L K) : WO A N (⟨some d, none, .p (.eqa neg m x y)⟩ :: l) f n L K := by
  subst h
  exact WO_eqa hx hy k
end

theorem eqI4 {P Q : Nat → Int} (h : ∀ i, i < 4 → P i = Q i) : (bif true then !(eqI 4 P Q) else eqI 4 P Q) = false := by
  rw [eqI_iff.2 h]; rfl
theorem eqI4t {P Q : Nat → Int} (h : ∀ i, i < 4 → P i = Q i) : (bif false then !(eqI 4 P Q) else eqI 4 P Q) = true := by
  rw [eqI_iff.2 h]; rfl
end Go.Am

namespace Go.Proofs.Ytjldefmcnppdoaa
open Go Go.Am
set_option linter.unusedSimpArgs false
set_option linter.unusedVariables false
theorem addM_add (K : Nat → Int) (o : Nat) (P : Nat → Int) (a : Nat) : ∀ b, addM K o P (a + b) = addM K (o + (a : Int).toNat * 1) (addM K o P a) b
  | 0 => rfl
  | b + 1 => by
    show addM K o P (a + b + 1) = _
    simp only [addM]
    rw [addM_add K o P a b]
    have e : o + ((a + b : Nat) : Int).toNat * 1 = o + (a : Int).toNat * 1 + (b : Int).toNat * 1 := by omega
    rw [e]

theorem putM_sum {k : Int} {d : Bool} {P : Nat → Int} {s : Int} (h : P 0 + P 1 + P 2 + P 3 ≤ s) : putM k d P 0 + putM k d P 1 + putM k d P 2 + putM k d P 3 ≤ s + 1 := by
  have e0 : ∀ x, ov P 0 x 0 = x ∧ ov P 0 x 1 = P 1 ∧ ov P 0 x 2 = P 2 ∧ ov P 0 x 3 = P 3 := fun x => ⟨rfl, rfl, rfl, rfl⟩
  have e1 : ∀ x, ov P 1 x 0 = P 0 ∧ ov P 1 x 1 = x ∧ ov P 1 x 2 = P 2 ∧ ov P 1 x 3 = P 3 := fun x => ⟨rfl, rfl, rfl, rfl⟩
  have e2 : ∀ x, ov P 2 x 0 = P 0 ∧ ov P 2 x 1 = P 1 ∧ ov P 2 x 2 = x ∧ ov P 2 x 3 = P 3 := fun x => ⟨rfl, rfl, rfl, rfl⟩
  have e3 : ∀ x, ov P 3 x 0 = P 0 ∧ ov P 3 x 1 = P 1 ∧ ov P 3 x 2 = P 2 ∧ ov P 3 x 3 = x := fun x => ⟨rfl, rfl, rfl, rfl⟩
  unfold putM
  split
  · omega
  · split
    · have := e1 (P 1 + 1); omega
    · split
      · have := e0 (P 0 + 1); omega
      · split
        · have := e2 (P 2 + 1); omega
        · have := e3 (P 3 + 1); omega

theorem putM_dark {k : Int} {P : Nat → Int} (h : P 2 = P 3 ∨ P 2 = P 3 + 1) : putM k (decide (P 2 ≤ P 3)) P 2 = putM k (decide (P 2 ≤ P 3)) P 3 ∨ putM k (decide (P 2 ≤ P 3)) P 2 = putM k (decide (P 2 ≤ P 3)) P 3 + 1 := by
  have e0 : ∀ x, ov P 0 x 2 = P 2 ∧ ov P 0 x 3 = P 3 := fun x => ⟨rfl, rfl⟩
  have e1 : ∀ x, ov P 1 x 2 = P 2 ∧ ov P 1 x 3 = P 3 := fun x => ⟨rfl, rfl⟩
  have e2 : ∀ x, ov P 2 x 2 = x ∧ ov P 2 x 3 = P 3 := fun x => ⟨rfl, rfl⟩
  have e3 : ∀ x, ov P 3 x 2 = P 2 ∧ ov P 3 x 3 = x := fun x => ⟨rfl, rfl⟩
  unfold putM
  split
  · exact h
  · split
    · have := e1 (P 1 + 1); omega
    · split
      · have := e0 (P 0 + 1); omega
      · split
        · rename_i hd
          have hd := of_decide_eq_true hd
          have := e2 (P 2 + 1); omega
        · rename_i hd
          have hd : ¬ P 2 ≤ P 3 := fun hq => hd (decide_eq_true hq)
          have := e3 (P 3 + 1); omega

theorem addM_facts (K : Nat → Int) (o : Nat) : ∀ n : Nat, (addM K o (fun _ => 0) n 0 + addM K o (fun _ => 0) n 1 + addM K o (fun _ => 0) n 2 + addM K o (fun _ => 0) n 3 ≤ n) ∧ (addM K o (fun _ => 0) n 2 = addM K o (fun _ => 0) n 3 ∨ addM K o (fun _ => 0) n 2 = addM K o (fun _ => 0) n 3 + 1)
  | 0 => ⟨by simp [addM], .inl rfl⟩
  | n + 1 => by
    have ⟨h1, h2⟩ := addM_facts K o n
    exact ⟨by have := putM_sum (k := K (o + (n : Int).toNat * 1)) (d := decide (addM K o (fun _ => 0) n 2 ≤ addM K o (fun _ => 0) n 3)) h1; simp only [addM]; omega, putM_dark h2⟩

theorem addM_cut (K : Nat → Int) (o : Nat) (P : Nat → Int) (n : Nat) : ∀ i, i < 4 → addM K o (cut 4 (cut 4 P)) n i = addM K o P n i := addM_same (K := K) (K' := K) (o := o) (o' := o) (P := cut 4 (cut 4 P)) (Q := P) (four4 rfl rfl rfl rfl) n (fun _ _ => rfl)

/-- What is left of pieces, with what holds of it. -/
structure LeftOK (LL : Nat → Int) (n : Nat) : Prop where
  lo : ∀ i, i < 4 → 0 ≤ LL i ∧ LL i ≤ n
  sum : LL 0 + LL 1 + LL 2 + LL 3 ≤ n
  dark : LL 2 = LL 3 ∨ LL 2 = LL 3 + 1

theorem leftOK (K : Nat → Int) (o n : Nat) : LeftOK (addM K o (cut 4 (cut 4 fun _ => 0)) n) n := by
  have e := addM_cut K o (fun _ => 0) n
  have ⟨h1, h2⟩ := addM_facts K o n
  have hb := addM_bd (K := K) (o := o) (P := fun _ => 0) (lo := 0) (hi := 0) (fun _ _ => by omega) n
  refine ⟨fun i hi => ?_, ?_, ?_⟩
  · rw [e i hi]; have := hb i hi; omega
  · rw [e 0 (by omega), e 1 (by omega), e 2 (by omega), e 3 (by omega)]; exact h1
  · rw [e 2 (by omega), e 3 (by omega)]; exact h2

/-- What one piece or two more make of it. -/
abbrev more1 (a : Int) (LL : Nat → Int) : Nat → Int := cut 4 (addM (ov (fun _ => 0) (0 * 1) a) 0 (cut 4 (cut 4 (cut 4 (cut 4 LL)))) 1)
abbrev more2 (a b : Int) (LL : Nat → Int) : Nat → Int := cut 4 (addM (ov (ov (fun _ => 0) (0 * 1) a) (1 * 1) b) 0 (cut 4 (cut 4 (cut 4 (cut 4 LL)))) 2)

theorem ccbd {LL : Nat → Int} {n : Nat} (h : LeftOK LL n) (hn : n ≤ 500) (i : Nat) (hi : i < 4) : -1152921504606846976 ≤ cut 4 (cut 4 LL) i ∧ cut 4 (cut 4 LL) i ≤ 1152921504606846976 :=
  cut_bd (by omega) (cut_bd (by omega) fun j hj => by have := h.lo j hj; omega) i hi

theorem more1bd {LL : Nat → Int} {n : Nat} (a : Int) (h : LeftOK LL n) (hn : n ≤ 500) (i : Nat) (hi : i < 4) : -4611686018427387904 ≤ more1 a LL i ∧ more1 a LL i ≤ 4611686018427387903 :=
  cut_bd (by omega) (fun j hj => by have := addM_bd (K := ov (fun _ => 0) (0 * 1) a) (o := 0) (cut_bd (lo := -1152921504606846976) (hi := 1152921504606846976) (by omega) (cut_bd (by omega) (ccbd h hn))) 1 j hj; omega) i hi

theorem more2bd {LL : Nat → Int} {n : Nat} (a b : Int) (h : LeftOK LL n) (hn : n ≤ 500) (i : Nat) (hi : i < 4) : -4611686018427387904 ≤ more2 a b LL i ∧ more2 a b LL i ≤ 4611686018427387903 :=
  cut_bd (by omega) (fun j hj => by have := addM_bd (K := ov (ov (fun _ => 0) (0 * 1) a) (1 * 1) b) (o := 0) (cut_bd (lo := -1152921504606846976) (hi := 1152921504606846976) (by omega) (cut_bd (by omega) (ccbd h hn))) 2 j hj; omega) i hi

theorem queen_dead {LL : Nat → Int} {n : Nat} (h : LeftOK LL n) : deadM (more1 5 LL) = false := by
  have e : more1 5 LL 0 = LL 0 + 1 := rfl
  have := h.lo 0 (by omega)
  unfold deadM
  rw [decide_eq_false_iff_not, e]
  omega

theorem knight_dead {LL : Nat → Int} {n : Nat} (h : LeftOK LL n) : deadM (more1 2 LL) = eqI 4 (cut 4 (cut 4 LL)) (fun _ => 0) := by
  have e0 : more1 2 LL 0 = LL 0 := rfl
  have e1 : more1 2 LL 1 = LL 1 + 1 := rfl
  have e2 : more1 2 LL 2 = LL 2 := rfl
  have e3 : more1 2 LL 3 = LL 3 := rfl
  have h0 := h.lo 0 (by omega)
  have h1 := h.lo 1 (by omega)
  have h2 := h.lo 2 (by omega)
  have h3 := h.lo 3 (by omega)
  rw [Bool.eq_iff_iff, eqI_iff]
  unfold deadM
  rw [decide_eq_true_eq, e0, e1, e2, e3]
  refine ⟨fun hd => four4 ?_ ?_ ?_ ?_, fun hz => ?_⟩
  · show LL 0 = 0; omega
  · show LL 1 = 0; omega
  · show LL 2 = 0; omega
  · show LL 3 = 0; omega
  · have z0 : LL 0 = 0 := hz 0 (by omega)
    have z1 : LL 1 = 0 := hz 1 (by omega)
    have z2 : LL 2 = 0 := hz 2 (by omega)
    have z3 : LL 3 = 0 := hz 3 (by omega)
    omega

theorem bishop_dead {LL : Nat → Int} {n : Nat} (h : LeftOK LL n) : deadM (more2 3 3 LL) = false := by
  have h0 := h.lo 0 (by omega)
  have h1 := h.lo 1 (by omega)
  have h2 := h.lo 2 (by omega)
  have h3 := h.lo 3 (by omega)
  have e : 1 ≤ more2 3 3 LL 2 ∧ 1 ≤ more2 3 3 LL 3 := by
    have hq : more2 3 3 LL = cut 4 (putM 3 (decide (putM 3 (decide (LL 2 ≤ LL 3)) (cut 4 (cut 4 (cut 4 (cut 4 LL)))) 2 ≤ putM 3 (decide (LL 2 ≤ LL 3)) (cut 4 (cut 4 (cut 4 (cut 4 LL)))) 3)) (putM 3 (decide (LL 2 ≤ LL 3)) (cut 4 (cut 4 (cut 4 (cut 4 LL)))))) := rfl
    have f2 : ∀ (Q : Nat → Int), putM 3 true Q = ov Q 2 (Q 2 + 1) := fun Q => rfl
    have f3 : ∀ (Q : Nat → Int), putM 3 false Q = ov Q 3 (Q 3 + 1) := fun Q => rfl
    rcases h.dark with hd | hd
    · have g1 : decide (LL 2 ≤ LL 3) = true := by rw [decide_eq_true_eq]; omega
      have g2 : decide (ov (cut 4 (cut 4 (cut 4 (cut 4 LL)))) 2 (cut 4 (cut 4 (cut 4 (cut 4 LL))) 2 + 1) 2 ≤ ov (cut 4 (cut 4 (cut 4 (cut 4 LL)))) 2 (cut 4 (cut 4 (cut 4 (cut 4 LL))) 2 + 1) 3) = false := by
        rw [decide_eq_false_iff_not]
        show ¬ LL 2 + 1 ≤ LL 3
        omega
      rw [hq, g1, f2, g2, f3]
      exact ⟨by show 1 ≤ LL 2 + 1; omega, by show 1 ≤ LL 3 + 1; omega⟩
    · have g1 : decide (LL 2 ≤ LL 3) = false := by rw [decide_eq_false_iff_not]; omega
      have g2 : decide (ov (cut 4 (cut 4 (cut 4 (cut 4 LL)))) 3 (cut 4 (cut 4 (cut 4 (cut 4 LL))) 3 + 1) 2 ≤ ov (cut 4 (cut 4 (cut 4 (cut 4 LL)))) 3 (cut 4 (cut 4 (cut 4 (cut 4 LL))) 3 + 1) 3) = true := by
        rw [decide_eq_true_eq]
        show LL 2 ≤ LL 3 + 1
        omega
      rw [hq, g1, f3, g2, f2]
      exact ⟨by show 1 ≤ LL 2 + 1; omega, by show 1 ≤ LL 3 + 1; omega⟩
  unfold deadM
  rw [decide_eq_false_iff_not]
  omega

theorem adds_join {K LL : Nat → Int} {n kk : Nat} (hL : LL = addM K 0 (cut 4 (cut 4 fun _ => 0)) n) (hk : kk ≤ n) (i : Nat) (hi : i < 4) :
    addM K (0 + ((kk : Nat) : Int).toNat * 1) (cut 4 (cut 4 (cut 4 (addM K 0 (cut 4 (cut 4 fun _ => 0)) kk)))) (n - ((kk : Nat) : Int).toNat) i = LL i := by
  have h := addM_add K 0 (cut 4 (cut 4 fun _ => 0)) kk (n - kk)
  rw [show kk + (n - kk) = n by omega] at h
  rw [hL, h, Int.toNat_natCast]
  exact addM_same (K := K) (K' := K) (o := 0 + kk * 1) (o' := 0 + kk * 1) (P := cut 4 (cut 4 (cut 4 (addM K 0 (cut 4 (cut 4 fun _ => 0)) kk)))) (Q := addM K 0 (cut 4 (cut 4 fun _ => 0)) kk) (four4 rfl rfl rfl rfl) (n - kk) (fun _ _ => rfl) i hi

theorem DeadAdds_run {q : Nat} (K : Nat → Int) (n : Nat) (h0 : 0 < n) (x : Int) : WR AM 5 [.sl 0 0 n 1 .unk, .s (.int .i64 x)] [.sc .ro q (ia K)] (fun v _ _ => v = .s (.bool true)) := by
  refine WR_fn (a := a5) rfl rfl (entryF _) (entry_E (Nat.le_of_ble_eq_true rfl)) (m := 1) rfl ?_
  refine WP_seq ?_
  refine WP_ops ?_
  refine WO_mv rfl ?_
  refine WO_nil ?_
  refine WP_seq ?_
  refine WP_seq ?_
  refine WP_ops ?_
  refine WO_call0 rfl (awake_run) rfl rfl rfl ?_
  refine WO_un (r := .bool _) rfl rfl ?_
  refine WO_nil ?_
  refine WP_cond rfl (fun h => nomatch h) (fun _ => ?_)
  refine WP_skip ?_
  refine WP_seq ?_
  refine WP_seq ?_
  refine WP_ops ?_
  refine WO_mv (v := .sl _ _ _ _ _) rfl ?_
  refine WO_len rfl ?_
  refine WO_bin (r := .bool _) rfl rfl rfl ?_
  refine WO_nil ?_
  refine WP_cond rfl (fun h1 => ?_) (fun h1 => ?_)
  · try simp only [beq_iff_eq, bne_iff_ne, ne_eq, decide_eq_true_eq, decide_eq_false_iff_not, beq_eq_false_iff_ne, bne_eq_false_iff_eq, Decidable.not_not, Int.not_lt, Int.not_le, gt_iff_lt, ge_iff_le, Bool.not_eq_true, Bool.not_eq_false, Bool.not_eq_true', Bool.not_eq_false', cond_true, cond_false] at h1
    refine WP_seq ?_
    refine WP_ops ?_
    refine WO_mv rfl ?_
    refine WO_nil ?_
    refine WP_ret ?_
    refine ⟨_, RS_tmp (v := .s (.bool _)) rfl (RS_nil), ?_⟩
    rfl
  · try simp only [beq_iff_eq, bne_iff_ne, ne_eq, decide_eq_true_eq, decide_eq_false_iff_not, beq_eq_false_iff_ne, bne_eq_false_iff_eq, Decidable.not_not, Int.not_lt, Int.not_le, gt_iff_lt, ge_iff_le, Bool.not_eq_true, Bool.not_eq_false, Bool.not_eq_true', Bool.not_eq_false', cond_true, cond_false] at h1
    refine WP_skip ?_
    refine WP_seq ?_
    refine WP_ops ?_
    refine WO_allocI ?_
    refine WO_nil ?_
    refine WP_seq ?_
    refine WP_ops ?_
    refine WO_mv (v := .s (.int _ _)) rfl ?_
    refine WO_mv (v := .sl _ _ _ _ _) rfl ?_
    refine WO_len rfl ?_
    refine WO_add rfl rfl (by omega) ?_
    have hk := pickM_bd x (n := (n : Int) + 1) (by omega)
    refine WO_call0 rfl (RF_of (Pick_run x ((n : Int) + 1) (by omega) (by omega))) rfl rfl rfl ?_
    obtain ⟨kk, hkk⟩ : ∃ kk : Nat, pickM x ((n : Int) + 1) = kk := ⟨(pickM x ((n : Int) + 1)).toNat, by omega⟩
    rw [hkk] at hk ⊢
    refine WO_mv (v := .s (.int _ _)) rfl ?_
    refine WO_nil ?_
    refine WP_seq ?_
    refine WP_ops ?_
    first | refine WO_ldA0 rfl rfl (.head _) ?_ | refine WO_ldAI rfl rfl (.head _) ?_
    refine WO_mv (v := .sl _ _ _ _ _) rfl ?_
    refine WO_call (rs := [0]) (Bs := [_]) rfl (RB_of1 (Add_run (md := .ro) (q := q) (c := .unk) K 0 n (by omega) (fun _ => 0) (fun _ _ => by omega))) rfl rfl (Nat.le_of_ble_eq_true rfl) (fun _ h => h) rfl ⟨(.tail _ (.head _)), ⟨_, _, _, rfl⟩, trivial⟩ rfl rfl rfl (.cons (.there .here) .nil) ?_
    have hLL := leftOK K 0 n
    obtain ⟨LL, hL⟩ : ∃ LL, LL = addM K 0 (cut 4 (cut 4 fun _ => 0)) n := ⟨_, rfl⟩
    rw [← hL] at hLL
    have g0 := hLL.lo 0 (by omega)
    have g1 := hLL.lo 1 (by omega)
    have g2 := hLL.lo 2 (by omega)
    have g3 := hLL.lo 3 (by omega)
    have gs := hLL.sum
    have gd := hLL.dark
    rw [← hL]
    refine WO_allocI ?_
    refine WO_stA rfl rfl rfl rfl .here ?_
    refine WO_nil ?_
    refine WP_seq ?_
    refine WP_seq ?_
    refine WP_ops ?_
    first | refine WO_ldA0 rfl rfl (.tail _ (.head _)) ?_ | refine WO_ldAI rfl rfl (.tail _ (.head _)) ?_
    refine WO_mv (v := .sl _ _ _ _ _) rfl ?_
    refine WO_mv (v := .s (.int _ _)) rfl ?_
    refine WO_slVhi rfl rfl rfl (by omega) ?_
    refine WO_callq (rs := [0]) (Bs := [_]) rfl (RB_of1 (Add_run (md := .ro) (q := q) (c := .unk) K 0 kk (by omega) (fun _ => 0) (fun _ _ => by omega))) rfl rfl (Nat.le_of_ble_eq_true rfl) (fun _ h => h) rfl ⟨(.tail _ (.tail _ (.head _))), ⟨_, _, _, rfl⟩, trivial⟩ rfl rfl rfl ?_
    refine WO_mv (v := .sl _ _ _ _ _) rfl ?_
    refine WO_mv (v := .s (.int _ _)) rfl ?_
    by_cases hkn : kk = n
    · refine WO_slVloZ rfl rfl rfl (by omega) ?_
      refine WO_callq0 rfl (RF_of (Add_runZ (cut 4 (addM K 0 (cut 4 (cut 4 fun _ => 0)) kk)) (cut_bd (by omega) (fun j hj => by have := addM_bd (K := K) (o := 0) (P := cut 4 (cut 4 fun _ => 0)) (lo := 0) (hi := 0) (cut_bd (by omega) (cut_bd (by omega) fun _ _ => by omega)) kk j hj; omega)))) rfl rfl rfl ?_
      first | refine WO_ldA0 rfl rfl (.head _) ?_ | refine WO_ldAI rfl rfl (.head _) ?_
      refine WO_eqaC rfl rfl (eqI4 (four4 (by rw [hL, hkn]; rfl) (by rw [hL, hkn]; rfl) (by rw [hL, hkn]; rfl) (by rw [hL, hkn]; rfl))) ?_
      refine WO_mv (v := .s (.bool _)) rfl ?_
      refine WO_gt rfl ?_
      first | refine WO_ldA0 rfl rfl (.head _) ?_ | refine WO_ldAI rfl rfl (.head _) ?_
      refine WO_gt rfl ?_
      refine WO_mkslS rfl (.one rfl (.one rfl .nil)) ?_
      refine WO_gt rfl ?_
      refine WO_callq (rs := [3]) (Bs := [_]) rfl (RB_of1 (Add_run (md := .ro) (q := 2) (c := .ex 2) (ov (ov (fun _ => 0) (0 * 1) 6) (1 * 1) 0) 0 2 (by omega) (cut 4 (cut 4 LL)) (ccbd hLL (by omega)))) rfl rfl (Nat.le_of_ble_eq_true rfl) (fun _ h => h) rfl ⟨(.head _), ⟨_, _, _, rfl⟩, trivial⟩ rfl rfl rfl ?_
      refine WO_gt rfl ?_
      first | refine WO_ldA0 rfl rfl (.tail _ (.head _)) ?_ | refine WO_ldAI rfl rfl (.tail _ (.head _)) ?_
      refine WO_gt rfl ?_
      refine WO_eqaC rfl rfl (eqI4 (four4 rfl rfl rfl rfl)) ?_
      refine WO_pick (v := .s (.bool _)) rfl rfl ?_
      refine WO_mv (v := .s (.bool _)) rfl ?_
      refine WO_gt rfl ?_
      refine WO_fa (o' := 0) rfl rfl rfl ?_
      refine WO_gt rfl ?_
      refine WO_ldI (x := LL 0) rfl rfl (.tail _ (.head _)) rfl ?_
      refine WO_gt rfl ?_
      refine WO_bin (r := .bool _) rfl rfl rfl ?_
      refine WO_pick (v := .s (.bool _)) rfl rfl ?_
      refine WO_mv (v := .s (.bool _)) rfl ?_
      refine WO_case (t := 44) rfl (fun h2 => ?_) (fun h2 => ?_)
      · try simp only [beq_iff_eq, bne_iff_ne, ne_eq, decide_eq_true_eq, decide_eq_false_iff_not, beq_eq_false_iff_ne, bne_eq_false_iff_eq, Decidable.not_not, Int.not_lt, Int.not_le, gt_iff_lt, ge_iff_le, Bool.not_eq_true, Bool.not_eq_false, Bool.not_eq_true', Bool.not_eq_false', cond_true, cond_false] at h2
        exfalso; omega
      · try simp only [beq_iff_eq, bne_iff_ne, ne_eq, decide_eq_true_eq, decide_eq_false_iff_not, beq_eq_false_iff_ne, bne_eq_false_iff_eq, Decidable.not_not, Int.not_lt, Int.not_le, gt_iff_lt, ge_iff_le, Bool.not_eq_true, Bool.not_eq_false, Bool.not_eq_true', Bool.not_eq_false', cond_true, cond_false] at h2
        refine WO_gt rfl ?_
        refine WO_fa (o' := 0) rfl rfl rfl ?_
        refine WO_gt rfl ?_
        refine WO_ldI (x := LL 0) rfl rfl (.tail _ (.head _)) rfl ?_
        refine WO_gt rfl ?_
        refine WO_fa (o' := 1) rfl rfl rfl ?_
        refine WO_gt rfl ?_
        refine WO_ldI (x := LL 1) rfl rfl (.tail _ (.head _)) rfl ?_
        refine WO_gt rfl ?_
        refine WO_add rfl rfl (by omega) ?_
        refine WO_gt rfl ?_
        refine WO_fa (o' := 2) rfl rfl rfl ?_
        refine WO_gt rfl ?_
        refine WO_ldI (x := LL 2) rfl rfl (.tail _ (.head _)) rfl ?_
        refine WO_gt rfl ?_
        refine WO_add rfl rfl (by omega) ?_
        refine WO_gt rfl ?_
        refine WO_fa (o' := 3) rfl rfl rfl ?_
        refine WO_gt rfl ?_
        refine WO_ldI (x := LL 3) rfl rfl (.tail _ (.head _)) rfl ?_
        refine WO_gt rfl ?_
        refine WO_add rfl rfl (by omega) ?_
        refine WO_gt rfl ?_
        refine WO_mv (v := .sl _ _ _ _ _) rfl ?_
        refine WO_gt rfl ?_
        refine WO_len rfl ?_
        refine WO_gt rfl ?_
        refine WO_bin (r := .bool _) rfl rfl rfl ?_
        refine WO_pick (v := .s (.bool _)) rfl rfl ?_
        refine WO_mv (v := .s (.bool _)) rfl ?_
        refine WO_case (t := 60) rfl (fun h3 => ?_) (fun h3 => ?_)
        · try simp only [beq_iff_eq, bne_iff_ne, ne_eq, decide_eq_true_eq, decide_eq_false_iff_not, beq_eq_false_iff_ne, bne_eq_false_iff_eq, Decidable.not_not, Int.not_lt, Int.not_le, gt_iff_lt, ge_iff_le, Bool.not_eq_true, Bool.not_eq_false, Bool.not_eq_true', Bool.not_eq_false', cond_true, cond_false] at h3
          exfalso; omega
        · try simp only [beq_iff_eq, bne_iff_ne, ne_eq, decide_eq_true_eq, decide_eq_false_iff_not, beq_eq_false_iff_ne, bne_eq_false_iff_eq, Decidable.not_not, Int.not_lt, Int.not_le, gt_iff_lt, ge_iff_le, Bool.not_eq_true, Bool.not_eq_false, Bool.not_eq_true', Bool.not_eq_false', cond_true, cond_false] at h3
          refine WO_gt rfl ?_
          refine WO_fa (o' := 2) rfl rfl rfl ?_
          refine WO_gt rfl ?_
          refine WO_ldI (x := LL 2) rfl rfl (.tail _ (.head _)) rfl ?_
          refine WO_gt rfl ?_
          refine WO_fa (o' := 3) rfl rfl rfl ?_
          refine WO_gt rfl ?_
          refine WO_ldI (x := LL 3) rfl rfl (.tail _ (.head _)) rfl ?_
          refine WO_gt rfl ?_
          refine WO_bin (r := .bool _) rfl rfl rfl ?_
          refine WO_gt rfl ?_
          refine WO_mv (v := .s (.bool _)) rfl ?_
          refine WO_case (t := 66) rfl (fun h4 => ?_) (fun h4 => ?_)
          · try simp only [beq_iff_eq, bne_iff_ne, ne_eq, decide_eq_true_eq, decide_eq_false_iff_not, beq_eq_false_iff_ne, bne_eq_false_iff_eq, Decidable.not_not, Int.not_lt, Int.not_le, gt_iff_lt, ge_iff_le, Bool.not_eq_true, Bool.not_eq_false, Bool.not_eq_true', Bool.not_eq_false', cond_true, cond_false] at h4
            refine WO_gt rfl ?_
            refine WO_fa (o' := 2) rfl rfl rfl ?_
            refine WO_gt rfl ?_
            refine WO_ldI (x := LL 2) rfl rfl (.tail _ (.head _)) rfl ?_
            refine WO_gt rfl ?_
            refine WO_fa (o' := 3) rfl rfl rfl ?_
            refine WO_gt rfl ?_
            refine WO_ldI (x := LL 3) rfl rfl (.tail _ (.head _)) rfl ?_
            refine WO_gt rfl ?_
            refine WO_add rfl rfl (by omega) ?_
            refine WO_gt rfl ?_
            refine WO_bin (r := .bool _) rfl rfl rfl ?_
            refine WO_gt rfl ?_
            refine WO_pick (v := .s (.bool _)) rfl rfl ?_
            refine WO_pick (v := .s (.bool _)) rfl rfl ?_
            refine WO_nil ?_
            refine WP_cond rfl (fun h5 => ?_) (fun h5 => ?_)
            · try simp only [beq_iff_eq, bne_iff_ne, ne_eq, decide_eq_true_eq, decide_eq_false_iff_not, beq_eq_false_iff_ne, bne_eq_false_iff_eq, Decidable.not_not, Int.not_lt, Int.not_le, gt_iff_lt, ge_iff_le, Bool.not_eq_true, Bool.not_eq_false, Bool.not_eq_true', Bool.not_eq_false', cond_true, cond_false] at h5
              exfalso; omega
            · try simp only [beq_iff_eq, bne_iff_ne, ne_eq, decide_eq_true_eq, decide_eq_false_iff_not, beq_eq_false_iff_ne, bne_eq_false_iff_eq, Decidable.not_not, Int.not_lt, Int.not_le, gt_iff_lt, ge_iff_le, Bool.not_eq_true, Bool.not_eq_false, Bool.not_eq_true', Bool.not_eq_false', cond_true, cond_false] at h5
              refine WP_skip ?_
              refine WP_seq ?_
              refine WP_ops ?_
              first | refine WO_ldA0 rfl rfl (.tail _ (.head _)) ?_ | refine WO_ldAI rfl rfl (.tail _ (.head _)) ?_
              refine WO_mkslS rfl (.one rfl .nil) ?_
              refine WO_call (rs := [4]) (Bs := [_]) rfl (RB_of1 (Add_run (md := .var) (q := 1) (c := .ex 1) (ov (fun _ => 0) (0 * 1) 5) 0 1 (by omega) (cut 4 (cut 4 LL)) (ccbd hLL (by omega)))) rfl rfl (Nat.le_of_ble_eq_true rfl) (fun _ h => h) rfl ⟨(.head _), ⟨_, _, _, rfl⟩, trivial⟩ rfl rfl rfl (.cons .here .nil) ?_
              have hD := RF_of (Dead_run (more1 5 LL) (more1bd 5 hLL (by omega)))
              rw [queen_dead hLL] at hD
              refine WO_call0 rfl (hD) rfl rfl rfl ?_
              refine WO_un (r := .bool _) rfl rfl ?_
              refine WO_mv (v := .s (.bool _)) rfl ?_
              refine WO_gt rfl ?_
              first | refine WO_ldA0 rfl rfl (.tail _ (.tail _ (.head _))) ?_ | refine WO_ldAI rfl rfl (.tail _ (.tail _ (.head _))) ?_
              refine WO_gt rfl ?_
              refine WO_mkslS rfl (.one rfl .nil) ?_
              refine WO_gt rfl ?_
              refine WO_callq (rs := [5]) (Bs := [_]) rfl (RB_of1 (Add_run (md := .ro) (q := 1) (c := .ex 1) (ov (fun _ => 0) (0 * 1) 2) 0 1 (by omega) (cut 4 (cut 4 LL)) (ccbd hLL (by omega)))) rfl rfl (Nat.le_of_ble_eq_true rfl) (fun _ h => h) rfl ⟨(.head _), ⟨_, _, _, rfl⟩, trivial⟩ rfl rfl rfl ?_
              refine WO_gt rfl ?_
              refine WO_callq0 rfl (RF_of (Dead_run (more1 2 LL) (more1bd 2 hLL (by omega)))) rfl rfl rfl ?_
              refine WO_gt rfl ?_
              first | refine WO_ldA0 rfl rfl (.tail _ (.tail _ (.tail _ (.head _)))) ?_ | refine WO_ldAI rfl rfl (.tail _ (.tail _ (.tail _ (.head _)))) ?_
              refine WO_gt rfl ?_
              first | refine WO_ldA0 rfl rfl (.tail _ (.tail _ (.tail _ (.tail _ (.head _))))) ?_ | refine WO_ldAI rfl rfl (.tail _ (.tail _ (.tail _ (.tail _ (.head _))))) ?_
              refine WO_gt rfl ?_
              refine WO_eqa rfl rfl ?_
              refine WO_gt rfl ?_
              refine WO_eqbT rfl rfl (knight_dead hLL) ?_
              refine WO_pick (v := .s (.bool _)) rfl rfl ?_
              refine WO_mv (v := .s (.bool _)) rfl ?_
              refine WO_gt rfl ?_
              first | refine WO_ldA0 rfl rfl (.tail _ (.tail _ (.tail _ (.head _)))) ?_ | refine WO_ldAI rfl rfl (.tail _ (.tail _ (.tail _ (.head _)))) ?_
              refine WO_gt rfl ?_
              refine WO_mkslS rfl (.one rfl (.one rfl .nil)) ?_
              refine WO_gt rfl ?_
              refine WO_call (rs := [6]) (Bs := [_]) rfl (RB_of1 (Add_run (md := .var) (q := 2) (c := .ex 2) (ov (ov (fun _ => 0) (0 * 1) 3) (1 * 1) 3) 0 2 (by omega) (cut 4 (cut 4 LL)) (ccbd hLL (by omega)))) rfl rfl (Nat.le_of_ble_eq_true rfl) (fun _ h => h) rfl ⟨(.head _), ⟨_, _, _, rfl⟩, trivial⟩ rfl rfl rfl (.cons .here .nil) ?_
              refine WO_gt rfl ?_
              have hD2 := RF_of (Dead_run (more2 3 3 LL) (more2bd 3 3 hLL (by omega)))
              rw [bishop_dead hLL] at hD2
              refine WO_call0 rfl (hD2) rfl rfl rfl ?_
              refine WO_gt rfl ?_
              refine WO_un (r := .bool _) rfl rfl ?_
              refine WO_pick (v := .s (.bool _)) rfl rfl ?_
              refine WO_mv (v := .s (.bool _)) rfl ?_
              refine WO_gt rfl ?_
              first | refine WO_ldA0 rfl rfl (.tail _ (.tail _ (.tail _ (.tail _ (.head _))))) ?_ | refine WO_ldAI rfl rfl (.tail _ (.tail _ (.tail _ (.tail _ (.head _))))) ?_
              refine WO_gt rfl ?_
              refine WO_mkslS rfl (.one rfl (.one rfl .nil)) ?_
              refine WO_gt rfl ?_
              refine WO_callq (rs := [7]) (Bs := [_]) rfl (RB_of1 (Add_run (md := .ro) (q := 2) (c := .ex 2) (ov (ov (fun _ => 0) (0 * 1) 2) (1 * 1) 4) 0 2 (by omega) (cut 4 (cut 4 LL)) (ccbd hLL (by omega)))) rfl rfl (Nat.le_of_ble_eq_true rfl) (fun _ h => h) rfl ⟨(.head _), ⟨_, _, _, rfl⟩, trivial⟩ rfl rfl rfl ?_
              refine WO_gt rfl ?_
              first | refine WO_ldA0 rfl rfl (.tail _ (.tail _ (.tail _ (.tail _ (.tail _ (.head _)))))) ?_ | refine WO_ldAI rfl rfl (.tail _ (.tail _ (.tail _ (.tail _ (.tail _ (.head _)))))) ?_
              refine WO_gt rfl ?_
              refine WO_mkslS rfl (.one rfl (.one rfl .nil)) ?_
              refine WO_gt rfl ?_
              refine WO_call (rs := [8]) (Bs := [_]) rfl (RB_of1 (Add_run (md := .var) (q := 2) (c := .ex 2) (ov (ov (fun _ => 0) (0 * 1) 4) (1 * 1) 2) 0 2 (by omega) (cut 4 (cut 4 LL)) (ccbd hLL (by omega)))) rfl rfl (Nat.le_of_ble_eq_true rfl) (fun _ h => h) rfl ⟨(.head _), ⟨_, _, _, rfl⟩, trivial⟩ rfl rfl rfl (.cons .here .nil) ?_
              refine WO_gt rfl ?_
              refine WO_eqaC rfl rfl (eqI4t (four4 rfl rfl rfl rfl)) ?_
              refine WO_pick (v := .s (.bool _)) rfl rfl ?_
              refine WO_mv (v := .s (.bool _)) rfl ?_
              refine WO_nil ?_
              refine WP_ret ?_
              refine ⟨_, RS_tmp (v := .s (.bool _)) rfl (RS_nil), ?_⟩
              rfl
          · try simp only [beq_iff_eq, bne_iff_ne, ne_eq, decide_eq_true_eq, decide_eq_false_iff_not, beq_eq_false_iff_ne, bne_eq_false_iff_eq, Decidable.not_not, Int.not_lt, Int.not_le, gt_iff_lt, ge_iff_le, Bool.not_eq_true, Bool.not_eq_false, Bool.not_eq_true', Bool.not_eq_false', cond_true, cond_false] at h4
            refine WO_gf rfl rfl ?_
            refine WO_gf rfl rfl ?_
            refine WO_gf rfl rfl ?_
            refine WO_gf rfl rfl ?_
            refine WO_gf rfl rfl ?_
            refine WO_gf rfl rfl ?_
            refine WO_gt rfl ?_
            refine WO_pick (v := .s (.bool _)) rfl rfl ?_
            refine WO_pick (v := .s (.bool _)) rfl rfl ?_
            refine WO_nil ?_
            refine WP_cond rfl (fun h => nomatch h) (fun _ => ?_)
            refine WP_skip ?_
            refine WP_seq ?_
            refine WP_ops ?_
            first | refine WO_ldA0 rfl rfl (.tail _ (.head _)) ?_ | refine WO_ldAI rfl rfl (.tail _ (.head _)) ?_
            refine WO_mkslS rfl (.one rfl .nil) ?_
            refine WO_call (rs := [4]) (Bs := [_]) rfl (RB_of1 (Add_run (md := .var) (q := 1) (c := .ex 1) (ov (fun _ => 0) (0 * 1) 5) 0 1 (by omega) (cut 4 (cut 4 LL)) (ccbd hLL (by omega)))) rfl rfl (Nat.le_of_ble_eq_true rfl) (fun _ h => h) rfl ⟨(.head _), ⟨_, _, _, rfl⟩, trivial⟩ rfl rfl rfl (.cons .here .nil) ?_
            have hD := RF_of (Dead_run (more1 5 LL) (more1bd 5 hLL (by omega)))
            rw [queen_dead hLL] at hD
            refine WO_call0 rfl (hD) rfl rfl rfl ?_
            refine WO_un (r := .bool _) rfl rfl ?_
            refine WO_mv (v := .s (.bool _)) rfl ?_
            refine WO_gt rfl ?_
            first | refine WO_ldA0 rfl rfl (.tail _ (.tail _ (.head _))) ?_ | refine WO_ldAI rfl rfl (.tail _ (.tail _ (.head _))) ?_
            refine WO_gt rfl ?_
            refine WO_mkslS rfl (.one rfl .nil) ?_
            refine WO_gt rfl ?_
            refine WO_callq (rs := [5]) (Bs := [_]) rfl (RB_of1 (Add_run (md := .ro) (q := 1) (c := .ex 1) (ov (fun _ => 0) (0 * 1) 2) 0 1 (by omega) (cut 4 (cut 4 LL)) (ccbd hLL (by omega)))) rfl rfl (Nat.le_of_ble_eq_true rfl) (fun _ h => h) rfl ⟨(.head _), ⟨_, _, _, rfl⟩, trivial⟩ rfl rfl rfl ?_
            refine WO_gt rfl ?_
            refine WO_callq0 rfl (RF_of (Dead_run (more1 2 LL) (more1bd 2 hLL (by omega)))) rfl rfl rfl ?_
            refine WO_gt rfl ?_
            first | refine WO_ldA0 rfl rfl (.tail _ (.tail _ (.tail _ (.head _)))) ?_ | refine WO_ldAI rfl rfl (.tail _ (.tail _ (.tail _ (.head _)))) ?_
            refine WO_gt rfl ?_
            first | refine WO_ldA0 rfl rfl (.tail _ (.tail _ (.tail _ (.tail _ (.head _))))) ?_ | refine WO_ldAI rfl rfl (.tail _ (.tail _ (.tail _ (.tail _ (.head _))))) ?_
            refine WO_gt rfl ?_
            refine WO_eqa rfl rfl ?_
            refine WO_gt rfl ?_
            refine WO_eqbT rfl rfl (knight_dead hLL) ?_
            refine WO_pick (v := .s (.bool _)) rfl rfl ?_
            refine WO_mv (v := .s (.bool _)) rfl ?_
            refine WO_gt rfl ?_
            first | refine WO_ldA0 rfl rfl (.tail _ (.tail _ (.tail _ (.head _)))) ?_ | refine WO_ldAI rfl rfl (.tail _ (.tail _ (.tail _ (.head _)))) ?_
            refine WO_gt rfl ?_
            refine WO_mkslS rfl (.one rfl (.one rfl .nil)) ?_
            refine WO_gt rfl ?_
            refine WO_call (rs := [6]) (Bs := [_]) rfl (RB_of1 (Add_run (md := .var) (q := 2) (c := .ex 2) (ov (ov (fun _ => 0) (0 * 1) 3) (1 * 1) 3) 0 2 (by omega) (cut 4 (cut 4 LL)) (ccbd hLL (by omega)))) rfl rfl (Nat.le_of_ble_eq_true rfl) (fun _ h => h) rfl ⟨(.head _), ⟨_, _, _, rfl⟩, trivial⟩ rfl rfl rfl (.cons .here .nil) ?_
            refine WO_gt rfl ?_
            have hD2 := RF_of (Dead_run (more2 3 3 LL) (more2bd 3 3 hLL (by omega)))
            rw [bishop_dead hLL] at hD2
            refine WO_call0 rfl (hD2) rfl rfl rfl ?_
            refine WO_gt rfl ?_
            refine WO_un (r := .bool _) rfl rfl ?_
            refine WO_pick (v := .s (.bool _)) rfl rfl ?_
            refine WO_mv (v := .s (.bool _)) rfl ?_
            refine WO_gt rfl ?_
            first | refine WO_ldA0 rfl rfl (.tail _ (.tail _ (.tail _ (.tail _ (.head _))))) ?_ | refine WO_ldAI rfl rfl (.tail _ (.tail _ (.tail _ (.tail _ (.head _))))) ?_
            refine WO_gt rfl ?_
            refine WO_mkslS rfl (.one rfl (.one rfl .nil)) ?_
            refine WO_gt rfl ?_
            refine WO_callq (rs := [7]) (Bs := [_]) rfl (RB_of1 (Add_run (md := .ro) (q := 2) (c := .ex 2) (ov (ov (fun _ => 0) (0 * 1) 2) (1 * 1) 4) 0 2 (by omega) (cut 4 (cut 4 LL)) (ccbd hLL (by omega)))) rfl rfl (Nat.le_of_ble_eq_true rfl) (fun _ h => h) rfl ⟨(.head _), ⟨_, _, _, rfl⟩, trivial⟩ rfl rfl rfl ?_
            refine WO_gt rfl ?_
            first | refine WO_ldA0 rfl rfl (.tail _ (.tail _ (.tail _ (.tail _ (.tail _ (.head _)))))) ?_ | refine WO_ldAI rfl rfl (.tail _ (.tail _ (.tail _ (.tail _ (.tail _ (.head _)))))) ?_
            refine WO_gt rfl ?_
            refine WO_mkslS rfl (.one rfl (.one rfl .nil)) ?_
            refine WO_gt rfl ?_
            refine WO_call (rs := [8]) (Bs := [_]) rfl (RB_of1 (Add_run (md := .var) (q := 2) (c := .ex 2) (ov (ov (fun _ => 0) (0 * 1) 4) (1 * 1) 2) 0 2 (by omega) (cut 4 (cut 4 LL)) (ccbd hLL (by omega)))) rfl rfl (Nat.le_of_ble_eq_true rfl) (fun _ h => h) rfl ⟨(.head _), ⟨_, _, _, rfl⟩, trivial⟩ rfl rfl rfl (.cons .here .nil) ?_
            refine WO_gt rfl ?_
            refine WO_eqaC rfl rfl (eqI4t (four4 rfl rfl rfl rfl)) ?_
            refine WO_pick (v := .s (.bool _)) rfl rfl ?_
            refine WO_mv (v := .s (.bool _)) rfl ?_
            refine WO_nil ?_
            refine WP_ret ?_
            refine ⟨_, RS_tmp (v := .s (.bool _)) rfl (RS_nil), ?_⟩
            rfl
    · refine WO_slVlo rfl rfl rfl (by omega) ?_
      refine WO_callq (rs := [0]) (Bs := [_]) rfl (RB_of1 (Add_run (md := .ro) (q := q) (c := .unk) K (0 + ((kk : Nat) : Int).toNat * 1) (n - ((kk : Nat) : Int).toNat) (by omega) (cut 4 (addM K 0 (cut 4 (cut 4 fun _ => 0)) kk)) (cut_bd (by omega) (fun j hj => by have := addM_bd (K := K) (o := 0) (P := cut 4 (cut 4 fun _ => 0)) (lo := 0) (hi := 0) (cut_bd (by omega) (cut_bd (by omega) fun _ _ => by omega)) kk j hj; omega)))) rfl rfl (Nat.le_of_ble_eq_true rfl) (fun _ h => h) rfl ⟨(.tail _ (.tail _ (.head _))), ⟨_, _, _, rfl⟩, trivial⟩ rfl rfl rfl ?_
      first | refine WO_ldA0 rfl rfl (.head _) ?_ | refine WO_ldAI rfl rfl (.head _) ?_
      refine WO_eqaC rfl rfl (eqI4 (four4 (adds_join hL (by omega) 0 (by omega)) (adds_join hL (by omega) 1 (by omega)) (adds_join hL (by omega) 2 (by omega)) (adds_join hL (by omega) 3 (by omega)))) ?_
      refine WO_mv (v := .s (.bool _)) rfl ?_
      refine WO_gt rfl ?_
      first | refine WO_ldA0 rfl rfl (.head _) ?_ | refine WO_ldAI rfl rfl (.head _) ?_
      refine WO_gt rfl ?_
      refine WO_mkslS rfl (.one rfl (.one rfl .nil)) ?_
      refine WO_gt rfl ?_
      refine WO_callq (rs := [3]) (Bs := [_]) rfl (RB_of1 (Add_run (md := .ro) (q := 2) (c := .ex 2) (ov (ov (fun _ => 0) (0 * 1) 6) (1 * 1) 0) 0 2 (by omega) (cut 4 (cut 4 LL)) (ccbd hLL (by omega)))) rfl rfl (Nat.le_of_ble_eq_true rfl) (fun _ h => h) rfl ⟨(.head _), ⟨_, _, _, rfl⟩, trivial⟩ rfl rfl rfl ?_
      refine WO_gt rfl ?_
      first | refine WO_ldA0 rfl rfl (.tail _ (.head _)) ?_ | refine WO_ldAI rfl rfl (.tail _ (.head _)) ?_
      refine WO_gt rfl ?_
      refine WO_eqaC rfl rfl (eqI4 (four4 rfl rfl rfl rfl)) ?_
      refine WO_pick (v := .s (.bool _)) rfl rfl ?_
      refine WO_mv (v := .s (.bool _)) rfl ?_
      refine WO_gt rfl ?_
      refine WO_fa (o' := 0) rfl rfl rfl ?_
      refine WO_gt rfl ?_
      refine WO_ldI (x := LL 0) rfl rfl (.tail _ (.head _)) rfl ?_
      refine WO_gt rfl ?_
      refine WO_bin (r := .bool _) rfl rfl rfl ?_
      refine WO_pick (v := .s (.bool _)) rfl rfl ?_
      refine WO_mv (v := .s (.bool _)) rfl ?_
      refine WO_case (t := 44) rfl (fun h6 => ?_) (fun h6 => ?_)
      · try simp only [beq_iff_eq, bne_iff_ne, ne_eq, decide_eq_true_eq, decide_eq_false_iff_not, beq_eq_false_iff_ne, bne_eq_false_iff_eq, Decidable.not_not, Int.not_lt, Int.not_le, gt_iff_lt, ge_iff_le, Bool.not_eq_true, Bool.not_eq_false, Bool.not_eq_true', Bool.not_eq_false', cond_true, cond_false] at h6
        exfalso; omega
      · try simp only [beq_iff_eq, bne_iff_ne, ne_eq, decide_eq_true_eq, decide_eq_false_iff_not, beq_eq_false_iff_ne, bne_eq_false_iff_eq, Decidable.not_not, Int.not_lt, Int.not_le, gt_iff_lt, ge_iff_le, Bool.not_eq_true, Bool.not_eq_false, Bool.not_eq_true', Bool.not_eq_false', cond_true, cond_false] at h6
        refine WO_gt rfl ?_
        refine WO_fa (o' := 0) rfl rfl rfl ?_
        refine WO_gt rfl ?_
        refine WO_ldI (x := LL 0) rfl rfl (.tail _ (.head _)) rfl ?_
        refine WO_gt rfl ?_
        refine WO_fa (o' := 1) rfl rfl rfl ?_
        refine WO_gt rfl ?_
        refine WO_ldI (x := LL 1) rfl rfl (.tail _ (.head _)) rfl ?_
        refine WO_gt rfl ?_
        refine WO_add rfl rfl (by omega) ?_
        refine WO_gt rfl ?_
        refine WO_fa (o' := 2) rfl rfl rfl ?_
        refine WO_gt rfl ?_
        refine WO_ldI (x := LL 2) rfl rfl (.tail _ (.head _)) rfl ?_
        refine WO_gt rfl ?_
        refine WO_add rfl rfl (by omega) ?_
        refine WO_gt rfl ?_
        refine WO_fa (o' := 3) rfl rfl rfl ?_
        refine WO_gt rfl ?_
        refine WO_ldI (x := LL 3) rfl rfl (.tail _ (.head _)) rfl ?_
        refine WO_gt rfl ?_
        refine WO_add rfl rfl (by omega) ?_
        refine WO_gt rfl ?_
        refine WO_mv (v := .sl _ _ _ _ _) rfl ?_
        refine WO_gt rfl ?_
        refine WO_len rfl ?_
        refine WO_gt rfl ?_
        refine WO_bin (r := .bool _) rfl rfl rfl ?_
        refine WO_pick (v := .s (.bool _)) rfl rfl ?_
        refine WO_mv (v := .s (.bool _)) rfl ?_
        refine WO_case (t := 60) rfl (fun h7 => ?_) (fun h7 => ?_)
        · try simp only [beq_iff_eq, bne_iff_ne, ne_eq, decide_eq_true_eq, decide_eq_false_iff_not, beq_eq_false_iff_ne, bne_eq_false_iff_eq, Decidable.not_not, Int.not_lt, Int.not_le, gt_iff_lt, ge_iff_le, Bool.not_eq_true, Bool.not_eq_false, Bool.not_eq_true', Bool.not_eq_false', cond_true, cond_false] at h7
          exfalso; omega
        · try simp only [beq_iff_eq, bne_iff_ne, ne_eq, decide_eq_true_eq, decide_eq_false_iff_not, beq_eq_false_iff_ne, bne_eq_false_iff_eq, Decidable.not_not, Int.not_lt, Int.not_le, gt_iff_lt, ge_iff_le, Bool.not_eq_true, Bool.not_eq_false, Bool.not_eq_true', Bool.not_eq_false', cond_true, cond_false] at h7
          refine WO_gt rfl ?_
          refine WO_fa (o' := 2) rfl rfl rfl ?_
          refine WO_gt rfl ?_
          refine WO_ldI (x := LL 2) rfl rfl (.tail _ (.head _)) rfl ?_
          refine WO_gt rfl ?_
          refine WO_fa (o' := 3) rfl rfl rfl ?_
          refine WO_gt rfl ?_
          refine WO_ldI (x := LL 3) rfl rfl (.tail _ (.head _)) rfl ?_
          refine WO_gt rfl ?_
          refine WO_bin (r := .bool _) rfl rfl rfl ?_
          refine WO_gt rfl ?_
          refine WO_mv (v := .s (.bool _)) rfl ?_
          refine WO_case (t := 66) rfl (fun h8 => ?_) (fun h8 => ?_)
          · try simp only [beq_iff_eq, bne_iff_ne, ne_eq, decide_eq_true_eq, decide_eq_false_iff_not, beq_eq_false_iff_ne, bne_eq_false_iff_eq, Decidable.not_not, Int.not_lt, Int.not_le, gt_iff_lt, ge_iff_le, Bool.not_eq_true, Bool.not_eq_false, Bool.not_eq_true', Bool.not_eq_false', cond_true, cond_false] at h8
            refine WO_gt rfl ?_
            refine WO_fa (o' := 2) rfl rfl rfl ?_
            refine WO_gt rfl ?_
            refine WO_ldI (x := LL 2) rfl rfl (.tail _ (.head _)) rfl ?_
            refine WO_gt rfl ?_
            refine WO_fa (o' := 3) rfl rfl rfl ?_
            refine WO_gt rfl ?_
            refine WO_ldI (x := LL 3) rfl rfl (.tail _ (.head _)) rfl ?_
            refine WO_gt rfl ?_
            refine WO_add rfl rfl (by omega) ?_
            refine WO_gt rfl ?_
            refine WO_bin (r := .bool _) rfl rfl rfl ?_
            refine WO_gt rfl ?_
            refine WO_pick (v := .s (.bool _)) rfl rfl ?_
            refine WO_pick (v := .s (.bool _)) rfl rfl ?_
            refine WO_nil ?_
            refine WP_cond rfl (fun h9 => ?_) (fun h9 => ?_)
            · try simp only [beq_iff_eq, bne_iff_ne, ne_eq, decide_eq_true_eq, decide_eq_false_iff_not, beq_eq_false_iff_ne, bne_eq_false_iff_eq, Decidable.not_not, Int.not_lt, Int.not_le, gt_iff_lt, ge_iff_le, Bool.not_eq_true, Bool.not_eq_false, Bool.not_eq_true', Bool.not_eq_false', cond_true, cond_false] at h9
              exfalso; omega
            · try simp only [beq_iff_eq, bne_iff_ne, ne_eq, decide_eq_true_eq, decide_eq_false_iff_not, beq_eq_false_iff_ne, bne_eq_false_iff_eq, Decidable.not_not, Int.not_lt, Int.not_le, gt_iff_lt, ge_iff_le, Bool.not_eq_true, Bool.not_eq_false, Bool.not_eq_true', Bool.not_eq_false', cond_true, cond_false] at h9
              refine WP_skip ?_
              refine WP_seq ?_
              refine WP_ops ?_
              first | refine WO_ldA0 rfl rfl (.tail _ (.head _)) ?_ | refine WO_ldAI rfl rfl (.tail _ (.head _)) ?_
              refine WO_mkslS rfl (.one rfl .nil) ?_
              refine WO_call (rs := [4]) (Bs := [_]) rfl (RB_of1 (Add_run (md := .var) (q := 1) (c := .ex 1) (ov (fun _ => 0) (0 * 1) 5) 0 1 (by omega) (cut 4 (cut 4 LL)) (ccbd hLL (by omega)))) rfl rfl (Nat.le_of_ble_eq_true rfl) (fun _ h => h) rfl ⟨(.head _), ⟨_, _, _, rfl⟩, trivial⟩ rfl rfl rfl (.cons .here .nil) ?_
              have hD := RF_of (Dead_run (more1 5 LL) (more1bd 5 hLL (by omega)))
              rw [queen_dead hLL] at hD
              refine WO_call0 rfl (hD) rfl rfl rfl ?_
              refine WO_un (r := .bool _) rfl rfl ?_
              refine WO_mv (v := .s (.bool _)) rfl ?_
              refine WO_gt rfl ?_
              first | refine WO_ldA0 rfl rfl (.tail _ (.tail _ (.head _))) ?_ | refine WO_ldAI rfl rfl (.tail _ (.tail _ (.head _))) ?_
              refine WO_gt rfl ?_
              refine WO_mkslS rfl (.one rfl .nil) ?_
              refine WO_gt rfl ?_
              refine WO_callq (rs := [5]) (Bs := [_]) rfl (RB_of1 (Add_run (md := .ro) (q := 1) (c := .ex 1) (ov (fun _ => 0) (0 * 1) 2) 0 1 (by omega) (cut 4 (cut 4 LL)) (ccbd hLL (by omega)))) rfl rfl (Nat.le_of_ble_eq_true rfl) (fun _ h => h) rfl ⟨(.head _), ⟨_, _, _, rfl⟩, trivial⟩ rfl rfl rfl ?_
              refine WO_gt rfl ?_
              refine WO_callq0 rfl (RF_of (Dead_run (more1 2 LL) (more1bd 2 hLL (by omega)))) rfl rfl rfl ?_
              refine WO_gt rfl ?_
              first | refine WO_ldA0 rfl rfl (.tail _ (.tail _ (.tail _ (.head _)))) ?_ | refine WO_ldAI rfl rfl (.tail _ (.tail _ (.tail _ (.head _)))) ?_
              refine WO_gt rfl ?_
              first | refine WO_ldA0 rfl rfl (.tail _ (.tail _ (.tail _ (.tail _ (.head _))))) ?_ | refine WO_ldAI rfl rfl (.tail _ (.tail _ (.tail _ (.tail _ (.head _))))) ?_
              refine WO_gt rfl ?_
              refine WO_eqa rfl rfl ?_
              refine WO_gt rfl ?_
              refine WO_eqbT rfl rfl (knight_dead hLL) ?_
              refine WO_pick (v := .s (.bool _)) rfl rfl ?_
              refine WO_mv (v := .s (.bool _)) rfl ?_
              refine WO_gt rfl ?_
              first | refine WO_ldA0 rfl rfl (.tail _ (.tail _ (.tail _ (.head _)))) ?_ | refine WO_ldAI rfl rfl (.tail _ (.tail _ (.tail _ (.head _)))) ?_
              refine WO_gt rfl ?_
              refine WO_mkslS rfl (.one rfl (.one rfl .nil)) ?_
              refine WO_gt rfl ?_
              refine WO_call (rs := [6]) (Bs := [_]) rfl (RB_of1 (Add_run (md := .var) (q := 2) (c := .ex 2) (ov (ov (fun _ => 0) (0 * 1) 3) (1 * 1) 3) 0 2 (by omega) (cut 4 (cut 4 LL)) (ccbd hLL (by omega)))) rfl rfl (Nat.le_of_ble_eq_true rfl) (fun _ h => h) rfl ⟨(.head _), ⟨_, _, _, rfl⟩, trivial⟩ rfl rfl rfl (.cons .here .nil) ?_
              refine WO_gt rfl ?_
              have hD2 := RF_of (Dead_run (more2 3 3 LL) (more2bd 3 3 hLL (by omega)))
              rw [bishop_dead hLL] at hD2
              refine WO_call0 rfl (hD2) rfl rfl rfl ?_
              refine WO_gt rfl ?_
              refine WO_un (r := .bool _) rfl rfl ?_
              refine WO_pick (v := .s (.bool _)) rfl rfl ?_
              refine WO_mv (v := .s (.bool _)) rfl ?_
              refine WO_gt rfl ?_
              first | refine WO_ldA0 rfl rfl (.tail _ (.tail _ (.tail _ (.tail _ (.head _))))) ?_ | refine WO_ldAI rfl rfl (.tail _ (.tail _ (.tail _ (.tail _ (.head _))))) ?_
              refine WO_gt rfl ?_
              refine WO_mkslS rfl (.one rfl (.one rfl .nil)) ?_
              refine WO_gt rfl ?_
              refine WO_callq (rs := [7]) (Bs := [_]) rfl (RB_of1 (Add_run (md := .ro) (q := 2) (c := .ex 2) (ov (ov (fun _ => 0) (0 * 1) 2) (1 * 1) 4) 0 2 (by omega) (cut 4 (cut 4 LL)) (ccbd hLL (by omega)))) rfl rfl (Nat.le_of_ble_eq_true rfl) (fun _ h => h) rfl ⟨(.head _), ⟨_, _, _, rfl⟩, trivial⟩ rfl rfl rfl ?_
              refine WO_gt rfl ?_
              first | refine WO_ldA0 rfl rfl (.tail _ (.tail _ (.tail _ (.tail _ (.tail _ (.head _)))))) ?_ | refine WO_ldAI rfl rfl (.tail _ (.tail _ (.tail _ (.tail _ (.tail _ (.head _)))))) ?_
              refine WO_gt rfl ?_
              refine WO_mkslS rfl (.one rfl (.one rfl .nil)) ?_
              refine WO_gt rfl ?_
              refine WO_call (rs := [8]) (Bs := [_]) rfl (RB_of1 (Add_run (md := .var) (q := 2) (c := .ex 2) (ov (ov (fun _ => 0) (0 * 1) 4) (1 * 1) 2) 0 2 (by omega) (cut 4 (cut 4 LL)) (ccbd hLL (by omega)))) rfl rfl (Nat.le_of_ble_eq_true rfl) (fun _ h => h) rfl ⟨(.head _), ⟨_, _, _, rfl⟩, trivial⟩ rfl rfl rfl (.cons .here .nil) ?_
              refine WO_gt rfl ?_
              refine WO_eqaC rfl rfl (eqI4t (four4 rfl rfl rfl rfl)) ?_
              refine WO_pick (v := .s (.bool _)) rfl rfl ?_
              refine WO_mv (v := .s (.bool _)) rfl ?_
              refine WO_nil ?_
              refine WP_ret ?_
              refine ⟨_, RS_tmp (v := .s (.bool _)) rfl (RS_nil), ?_⟩
              rfl
          · try simp only [beq_iff_eq, bne_iff_ne, ne_eq, decide_eq_true_eq, decide_eq_false_iff_not, beq_eq_false_iff_ne, bne_eq_false_iff_eq, Decidable.not_not, Int.not_lt, Int.not_le, gt_iff_lt, ge_iff_le, Bool.not_eq_true, Bool.not_eq_false, Bool.not_eq_true', Bool.not_eq_false', cond_true, cond_false] at h8
            refine WO_gf rfl rfl ?_
            refine WO_gf rfl rfl ?_
            refine WO_gf rfl rfl ?_
            refine WO_gf rfl rfl ?_
            refine WO_gf rfl rfl ?_
            refine WO_gf rfl rfl ?_
            refine WO_gt rfl ?_
            refine WO_pick (v := .s (.bool _)) rfl rfl ?_
            refine WO_pick (v := .s (.bool _)) rfl rfl ?_
            refine WO_nil ?_
            refine WP_cond rfl (fun h => nomatch h) (fun _ => ?_)
            refine WP_skip ?_
            refine WP_seq ?_
            refine WP_ops ?_
            first | refine WO_ldA0 rfl rfl (.tail _ (.head _)) ?_ | refine WO_ldAI rfl rfl (.tail _ (.head _)) ?_
            refine WO_mkslS rfl (.one rfl .nil) ?_
            refine WO_call (rs := [4]) (Bs := [_]) rfl (RB_of1 (Add_run (md := .var) (q := 1) (c := .ex 1) (ov (fun _ => 0) (0 * 1) 5) 0 1 (by omega) (cut 4 (cut 4 LL)) (ccbd hLL (by omega)))) rfl rfl (Nat.le_of_ble_eq_true rfl) (fun _ h => h) rfl ⟨(.head _), ⟨_, _, _, rfl⟩, trivial⟩ rfl rfl rfl (.cons .here .nil) ?_
            have hD := RF_of (Dead_run (more1 5 LL) (more1bd 5 hLL (by omega)))
            rw [queen_dead hLL] at hD
            refine WO_call0 rfl (hD) rfl rfl rfl ?_
            refine WO_un (r := .bool _) rfl rfl ?_
            refine WO_mv (v := .s (.bool _)) rfl ?_
            refine WO_gt rfl ?_
            first | refine WO_ldA0 rfl rfl (.tail _ (.tail _ (.head _))) ?_ | refine WO_ldAI rfl rfl (.tail _ (.tail _ (.head _))) ?_
            refine WO_gt rfl ?_
            refine WO_mkslS rfl (.one rfl .nil) ?_
            refine WO_gt rfl ?_
            refine WO_callq (rs := [5]) (Bs := [_]) rfl (RB_of1 (Add_run (md := .ro) (q := 1) (c := .ex 1) (ov (fun _ => 0) (0 * 1) 2) 0 1 (by omega) (cut 4 (cut 4 LL)) (ccbd hLL (by omega)))) rfl rfl (Nat.le_of_ble_eq_true rfl) (fun _ h => h) rfl ⟨(.head _), ⟨_, _, _, rfl⟩, trivial⟩ rfl rfl rfl ?_
            refine WO_gt rfl ?_
            refine WO_callq0 rfl (RF_of (Dead_run (more1 2 LL) (more1bd 2 hLL (by omega)))) rfl rfl rfl ?_
            refine WO_gt rfl ?_
            first | refine WO_ldA0 rfl rfl (.tail _ (.tail _ (.tail _ (.head _)))) ?_ | refine WO_ldAI rfl rfl (.tail _ (.tail _ (.tail _ (.head _)))) ?_
            refine WO_gt rfl ?_
            first | refine WO_ldA0 rfl rfl (.tail _ (.tail _ (.tail _ (.tail _ (.head _))))) ?_ | refine WO_ldAI rfl rfl (.tail _ (.tail _ (.tail _ (.tail _ (.head _))))) ?_
            refine WO_gt rfl ?_
            refine WO_eqa rfl rfl ?_
            refine WO_gt rfl ?_
            refine WO_eqbT rfl rfl (knight_dead hLL) ?_
            refine WO_pick (v := .s (.bool _)) rfl rfl ?_
            refine WO_mv (v := .s (.bool _)) rfl ?_
            refine WO_gt rfl ?_
            first | refine WO_ldA0 rfl rfl (.tail _ (.tail _ (.tail _ (.head _)))) ?_ | refine WO_ldAI rfl rfl (.tail _ (.tail _ (.tail _ (.head _)))) ?_
            refine WO_gt rfl ?_
            refine WO_mkslS rfl (.one rfl (.one rfl .nil)) ?_
            refine WO_gt rfl ?_
            refine WO_call (rs := [6]) (Bs := [_]) rfl (RB_of1 (Add_run (md := .var) (q := 2) (c := .ex 2) (ov (ov (fun _ => 0) (0 * 1) 3) (1 * 1) 3) 0 2 (by omega) (cut 4 (cut 4 LL)) (ccbd hLL (by omega)))) rfl rfl (Nat.le_of_ble_eq_true rfl) (fun _ h => h) rfl ⟨(.head _), ⟨_, _, _, rfl⟩, trivial⟩ rfl rfl rfl (.cons .here .nil) ?_
            refine WO_gt rfl ?_
            have hD2 := RF_of (Dead_run (more2 3 3 LL) (more2bd 3 3 hLL (by omega)))
            rw [bishop_dead hLL] at hD2
            refine WO_call0 rfl (hD2) rfl rfl rfl ?_
            refine WO_gt rfl ?_
            refine WO_un (r := .bool _) rfl rfl ?_
            refine WO_pick (v := .s (.bool _)) rfl rfl ?_
            refine WO_mv (v := .s (.bool _)) rfl ?_
            refine WO_gt rfl ?_
            first | refine WO_ldA0 rfl rfl (.tail _ (.tail _ (.tail _ (.tail _ (.head _))))) ?_ | refine WO_ldAI rfl rfl (.tail _ (.tail _ (.tail _ (.tail _ (.head _))))) ?_
            refine WO_gt rfl ?_
            refine WO_mkslS rfl (.one rfl (.one rfl .nil)) ?_
            refine WO_gt rfl ?_
            refine WO_callq (rs := [7]) (Bs := [_]) rfl (RB_of1 (Add_run (md := .ro) (q := 2) (c := .ex 2) (ov (ov (fun _ => 0) (0 * 1) 2) (1 * 1) 4) 0 2 (by omega) (cut 4 (cut 4 LL)) (ccbd hLL (by omega)))) rfl rfl (Nat.le_of_ble_eq_true rfl) (fun _ h => h) rfl ⟨(.head _), ⟨_, _, _, rfl⟩, trivial⟩ rfl rfl rfl ?_
            refine WO_gt rfl ?_
            first | refine WO_ldA0 rfl rfl (.tail _ (.tail _ (.tail _ (.tail _ (.tail _ (.head _)))))) ?_ | refine WO_ldAI rfl rfl (.tail _ (.tail _ (.tail _ (.tail _ (.tail _ (.head _)))))) ?_
            refine WO_gt rfl ?_
            refine WO_mkslS rfl (.one rfl (.one rfl .nil)) ?_
            refine WO_gt rfl ?_
            refine WO_call (rs := [8]) (Bs := [_]) rfl (RB_of1 (Add_run (md := .var) (q := 2) (c := .ex 2) (ov (ov (fun _ => 0) (0 * 1) 4) (1 * 1) 2) 0 2 (by omega) (cut 4 (cut 4 LL)) (ccbd hLL (by omega)))) rfl rfl (Nat.le_of_ble_eq_true rfl) (fun _ h => h) rfl ⟨(.head _), ⟨_, _, _, rfl⟩, trivial⟩ rfl rfl rfl (.cons .here .nil) ?_
            refine WO_gt rfl ?_
            refine WO_eqaC rfl rfl (eqI4t (four4 rfl rfl rfl rfl)) ?_
            refine WO_pick (v := .s (.bool _)) rfl rfl ?_
            refine WO_mv (v := .s (.bool _)) rfl ?_
            refine WO_nil ?_
            refine WP_ret ?_
            refine ⟨_, RS_tmp (v := .s (.bool _)) rfl (RS_nil), ?_⟩
            rfl
theorem DeadAdds_runZ (x : Int) : WR AM 5 [.slz, .s (.int .i64 x)] [] (fun v _ _ => v = .s (.bool true)) := by
  refine WR_fn (a := a5) rfl rfl (entryF _) (entry_E (Nat.le_of_ble_eq_true rfl)) (m := 0) rfl ?_
  refine WP_seq ?_
  refine WP_ops ?_
  refine WO_mv rfl ?_
  refine WO_nil ?_
  refine WP_seq ?_
  refine WP_seq ?_
  refine WP_ops ?_
  refine WO_call0 rfl (awake_run) rfl rfl rfl ?_
  refine WO_un (r := .bool _) rfl rfl ?_
  refine WO_nil ?_
  refine WP_cond rfl (fun h => nomatch h) (fun _ => ?_)
  refine WP_skip ?_
  refine WP_seq ?_
  refine WP_seq ?_
  refine WP_ops ?_
  refine WO_mv (v := .slz) rfl ?_
  refine WO_lenZ rfl ?_
  refine WO_bin (r := .bool _) rfl rfl rfl ?_
  refine WO_nil ?_
  refine WP_cond rfl (fun h10 => ?_) (fun h10 => ?_)
  · try simp only [beq_iff_eq, bne_iff_ne, ne_eq, decide_eq_true_eq, decide_eq_false_iff_not, beq_eq_false_iff_ne, bne_eq_false_iff_eq, Decidable.not_not, Int.not_lt, Int.not_le, gt_iff_lt, ge_iff_le, Bool.not_eq_true, Bool.not_eq_false, Bool.not_eq_true', Bool.not_eq_false', cond_true, cond_false] at h10
    exfalso; omega
  · try simp only [beq_iff_eq, bne_iff_ne, ne_eq, decide_eq_true_eq, decide_eq_false_iff_not, beq_eq_false_iff_ne, bne_eq_false_iff_eq, Decidable.not_not, Int.not_lt, Int.not_le, gt_iff_lt, ge_iff_le, Bool.not_eq_true, Bool.not_eq_false, Bool.not_eq_true', Bool.not_eq_false', cond_true, cond_false] at h10
    refine WP_skip ?_
    refine WP_seq ?_
    refine WP_ops ?_
    refine WO_allocI ?_
    refine WO_nil ?_
    refine WP_seq ?_
    refine WP_ops ?_
    refine WO_mv (v := .s (.int _ _)) rfl ?_
    refine WO_mv (v := .slz) rfl ?_
    refine WO_lenZ rfl ?_
    refine WO_add rfl rfl (by omega) ?_
    have hk := pickM_bd x (n := (0 : Int) + 1) (by omega)
    refine WO_call0 rfl (RF_of (Pick_run x ((0 : Int) + 1) (by omega) (by omega))) rfl rfl rfl ?_
    obtain ⟨kk, hkk⟩ : ∃ kk : Nat, pickM x ((0 : Int) + 1) = kk := ⟨(pickM x ((0 : Int) + 1)).toNat, by omega⟩
    rw [hkk] at hk ⊢
    refine WO_mv (v := .s (.int _ _)) rfl ?_
    refine WO_nil ?_
    refine WP_seq ?_
    refine WP_ops ?_
    first | refine WO_ldA0 rfl rfl (.head _) ?_ | refine WO_ldAI rfl rfl (.head _) ?_
    refine WO_mv (v := .slz) rfl ?_
    refine WO_call0 rfl (RF_of (Add_runZ (fun _ => 0) (fun _ _ => by omega))) rfl rfl rfl ?_
    have hLL := leftOK (fun _ => 0) 0 0
    obtain ⟨LL, hL⟩ : ∃ LL, LL = addM (fun _ => 0) 0 (cut 4 (cut 4 fun _ => 0)) 0 := ⟨_, rfl⟩
    rw [← hL] at hLL
    have g0 := hLL.lo 0 (by omega)
    have g1 := hLL.lo 1 (by omega)
    have g2 := hLL.lo 2 (by omega)
    have g3 := hLL.lo 3 (by omega)
    have gs := hLL.sum
    have gd := hLL.dark
    rw [show cut 4 (cut 4 (cut 4 fun _ => 0)) = cut 4 LL from by rw [hL]; rfl]
    refine WO_allocI ?_
    refine WO_stA rfl rfl rfl rfl .here ?_
    refine WO_nil ?_
    refine WP_seq ?_
    refine WP_seq ?_
    refine WP_ops ?_
    first | refine WO_ldA0 rfl rfl (.tail _ (.head _)) ?_ | refine WO_ldAI rfl rfl (.tail _ (.head _)) ?_
    refine WO_mv (v := .slz) rfl ?_
    refine WO_mv (v := .s (.int _ _)) rfl ?_
    refine WO_slVe (v := .slz) rfl (.inr rfl) rfl rfl (by constructor <;> omega) ?_
    refine WO_callq0 rfl (RF_of (Add_runZ (fun _ => 0) (fun _ _ => by omega))) rfl rfl rfl ?_
    refine WO_mv (v := .slz) rfl ?_
    refine WO_mv (v := .s (.int _ _)) rfl ?_
    refine WO_slVe (v := .slz) rfl (.inr rfl) rfl rfl (by constructor <;> omega) ?_
    refine WO_callq0 rfl (RF_of (Add_runZ (cut 4 (cut 4 (cut 4 fun _ => 0))) (cut_bd (by omega) (cut_bd (by omega) (cut_bd (by omega) fun _ _ => by omega))))) rfl rfl rfl ?_
    first | refine WO_ldA0 rfl rfl (.head _) ?_ | refine WO_ldAI rfl rfl (.head _) ?_
    refine WO_eqaC rfl rfl (eqI4 (four4 (by rw [hL]; rfl) (by rw [hL]; rfl) (by rw [hL]; rfl) (by rw [hL]; rfl))) ?_
    refine WO_mv (v := .s (.bool _)) rfl ?_
    refine WO_gt rfl ?_
    first | refine WO_ldA0 rfl rfl (.head _) ?_ | refine WO_ldAI rfl rfl (.head _) ?_
    refine WO_gt rfl ?_
    refine WO_mkslS rfl (.one rfl (.one rfl .nil)) ?_
    refine WO_gt rfl ?_
    refine WO_callq (rs := [2]) (Bs := [_]) rfl (RB_of1 (Add_run (md := .ro) (q := 2) (c := .ex 2) (ov (ov (fun _ => 0) (0 * 1) 6) (1 * 1) 0) 0 2 (by omega) (cut 4 (cut 4 LL)) (ccbd hLL (by omega)))) rfl rfl (Nat.le_of_ble_eq_true rfl) (fun _ h => h) rfl ⟨(.head _), ⟨_, _, _, rfl⟩, trivial⟩ rfl rfl rfl ?_
    refine WO_gt rfl ?_
    first | refine WO_ldA0 rfl rfl (.tail _ (.head _)) ?_ | refine WO_ldAI rfl rfl (.tail _ (.head _)) ?_
    refine WO_gt rfl ?_
    refine WO_eqaC rfl rfl (eqI4 (four4 rfl rfl rfl rfl)) ?_
    refine WO_pick (v := .s (.bool _)) rfl rfl ?_
    refine WO_mv (v := .s (.bool _)) rfl ?_
    refine WO_gt rfl ?_
    refine WO_fa (o' := 0) rfl rfl rfl ?_
    refine WO_gt rfl ?_
    refine WO_ldI (x := LL 0) rfl rfl (.tail _ (.head _)) rfl ?_
    refine WO_gt rfl ?_
    refine WO_bin (r := .bool _) rfl rfl rfl ?_
    refine WO_pick (v := .s (.bool _)) rfl rfl ?_
    refine WO_mv (v := .s (.bool _)) rfl ?_
    refine WO_case (t := 44) rfl (fun h11 => ?_) (fun h11 => ?_)
    · try simp only [beq_iff_eq, bne_iff_ne, ne_eq, decide_eq_true_eq, decide_eq_false_iff_not, beq_eq_false_iff_ne, bne_eq_false_iff_eq, Decidable.not_not, Int.not_lt, Int.not_le, gt_iff_lt, ge_iff_le, Bool.not_eq_true, Bool.not_eq_false, Bool.not_eq_true', Bool.not_eq_false', cond_true, cond_false] at h11
      exfalso; omega
    · try simp only [beq_iff_eq, bne_iff_ne, ne_eq, decide_eq_true_eq, decide_eq_false_iff_not, beq_eq_false_iff_ne, bne_eq_false_iff_eq, Decidable.not_not, Int.not_lt, Int.not_le, gt_iff_lt, ge_iff_le, Bool.not_eq_true, Bool.not_eq_false, Bool.not_eq_true', Bool.not_eq_false', cond_true, cond_false] at h11
      refine WO_gt rfl ?_
      refine WO_fa (o' := 0) rfl rfl rfl ?_
      refine WO_gt rfl ?_
      refine WO_ldI (x := LL 0) rfl rfl (.tail _ (.head _)) rfl ?_
      refine WO_gt rfl ?_
      refine WO_fa (o' := 1) rfl rfl rfl ?_
      refine WO_gt rfl ?_
      refine WO_ldI (x := LL 1) rfl rfl (.tail _ (.head _)) rfl ?_
      refine WO_gt rfl ?_
      refine WO_add rfl rfl (by omega) ?_
      refine WO_gt rfl ?_
      refine WO_fa (o' := 2) rfl rfl rfl ?_
      refine WO_gt rfl ?_
      refine WO_ldI (x := LL 2) rfl rfl (.tail _ (.head _)) rfl ?_
      refine WO_gt rfl ?_
      refine WO_add rfl rfl (by omega) ?_
      refine WO_gt rfl ?_
      refine WO_fa (o' := 3) rfl rfl rfl ?_
      refine WO_gt rfl ?_
      refine WO_ldI (x := LL 3) rfl rfl (.tail _ (.head _)) rfl ?_
      refine WO_gt rfl ?_
      refine WO_add rfl rfl (by omega) ?_
      refine WO_gt rfl ?_
      refine WO_mv (v := .slz) rfl ?_
      refine WO_gt rfl ?_
      refine WO_lenZ rfl ?_
      refine WO_gt rfl ?_
      refine WO_bin (r := .bool _) rfl rfl rfl ?_
      refine WO_pick (v := .s (.bool _)) rfl rfl ?_
      refine WO_mv (v := .s (.bool _)) rfl ?_
      refine WO_case (t := 60) rfl (fun h12 => ?_) (fun h12 => ?_)
      · try simp only [beq_iff_eq, bne_iff_ne, ne_eq, decide_eq_true_eq, decide_eq_false_iff_not, beq_eq_false_iff_ne, bne_eq_false_iff_eq, Decidable.not_not, Int.not_lt, Int.not_le, gt_iff_lt, ge_iff_le, Bool.not_eq_true, Bool.not_eq_false, Bool.not_eq_true', Bool.not_eq_false', cond_true, cond_false] at h12
        exfalso; omega
      · try simp only [beq_iff_eq, bne_iff_ne, ne_eq, decide_eq_true_eq, decide_eq_false_iff_not, beq_eq_false_iff_ne, bne_eq_false_iff_eq, Decidable.not_not, Int.not_lt, Int.not_le, gt_iff_lt, ge_iff_le, Bool.not_eq_true, Bool.not_eq_false, Bool.not_eq_true', Bool.not_eq_false', cond_true, cond_false] at h12
        refine WO_gt rfl ?_
        refine WO_fa (o' := 2) rfl rfl rfl ?_
        refine WO_gt rfl ?_
        refine WO_ldI (x := LL 2) rfl rfl (.tail _ (.head _)) rfl ?_
        refine WO_gt rfl ?_
        refine WO_fa (o' := 3) rfl rfl rfl ?_
        refine WO_gt rfl ?_
        refine WO_ldI (x := LL 3) rfl rfl (.tail _ (.head _)) rfl ?_
        refine WO_gt rfl ?_
        refine WO_bin (r := .bool _) rfl rfl rfl ?_
        refine WO_gt rfl ?_
        refine WO_mv (v := .s (.bool _)) rfl ?_
        refine WO_case (t := 66) rfl (fun h13 => ?_) (fun h13 => ?_)
        · try simp only [beq_iff_eq, bne_iff_ne, ne_eq, decide_eq_true_eq, decide_eq_false_iff_not, beq_eq_false_iff_ne, bne_eq_false_iff_eq, Decidable.not_not, Int.not_lt, Int.not_le, gt_iff_lt, ge_iff_le, Bool.not_eq_true, Bool.not_eq_false, Bool.not_eq_true', Bool.not_eq_false', cond_true, cond_false] at h13
          refine WO_gt rfl ?_
          refine WO_fa (o' := 2) rfl rfl rfl ?_
          refine WO_gt rfl ?_
          refine WO_ldI (x := LL 2) rfl rfl (.tail _ (.head _)) rfl ?_
          refine WO_gt rfl ?_
          refine WO_fa (o' := 3) rfl rfl rfl ?_
          refine WO_gt rfl ?_
          refine WO_ldI (x := LL 3) rfl rfl (.tail _ (.head _)) rfl ?_
          refine WO_gt rfl ?_
          refine WO_add rfl rfl (by omega) ?_
          refine WO_gt rfl ?_
          refine WO_bin (r := .bool _) rfl rfl rfl ?_
          refine WO_gt rfl ?_
          refine WO_pick (v := .s (.bool _)) rfl rfl ?_
          refine WO_pick (v := .s (.bool _)) rfl rfl ?_
          refine WO_nil ?_
          refine WP_cond rfl (fun h14 => ?_) (fun h14 => ?_)
          · try simp only [beq_iff_eq, bne_iff_ne, ne_eq, decide_eq_true_eq, decide_eq_false_iff_not, beq_eq_false_iff_ne, bne_eq_false_iff_eq, Decidable.not_not, Int.not_lt, Int.not_le, gt_iff_lt, ge_iff_le, Bool.not_eq_true, Bool.not_eq_false, Bool.not_eq_true', Bool.not_eq_false', cond_true, cond_false] at h14
            exfalso; omega
          · try simp only [beq_iff_eq, bne_iff_ne, ne_eq, decide_eq_true_eq, decide_eq_false_iff_not, beq_eq_false_iff_ne, bne_eq_false_iff_eq, Decidable.not_not, Int.not_lt, Int.not_le, gt_iff_lt, ge_iff_le, Bool.not_eq_true, Bool.not_eq_false, Bool.not_eq_true', Bool.not_eq_false', cond_true, cond_false] at h14
            refine WP_skip ?_
            refine WP_seq ?_
            refine WP_ops ?_
            first | refine WO_ldA0 rfl rfl (.tail _ (.head _)) ?_ | refine WO_ldAI rfl rfl (.tail _ (.head _)) ?_
            refine WO_mkslS rfl (.one rfl .nil) ?_
            refine WO_call (rs := [3]) (Bs := [_]) rfl (RB_of1 (Add_run (md := .var) (q := 1) (c := .ex 1) (ov (fun _ => 0) (0 * 1) 5) 0 1 (by omega) (cut 4 (cut 4 LL)) (ccbd hLL (by omega)))) rfl rfl (Nat.le_of_ble_eq_true rfl) (fun _ h => h) rfl ⟨(.head _), ⟨_, _, _, rfl⟩, trivial⟩ rfl rfl rfl (.cons .here .nil) ?_
            have hD := RF_of (Dead_run (more1 5 LL) (more1bd 5 hLL (by omega)))
            rw [queen_dead hLL] at hD
            refine WO_call0 rfl (hD) rfl rfl rfl ?_
            refine WO_un (r := .bool _) rfl rfl ?_
            refine WO_mv (v := .s (.bool _)) rfl ?_
            refine WO_gt rfl ?_
            first | refine WO_ldA0 rfl rfl (.tail _ (.tail _ (.head _))) ?_ | refine WO_ldAI rfl rfl (.tail _ (.tail _ (.head _))) ?_
            refine WO_gt rfl ?_
            refine WO_mkslS rfl (.one rfl .nil) ?_
            refine WO_gt rfl ?_
            refine WO_callq (rs := [4]) (Bs := [_]) rfl (RB_of1 (Add_run (md := .ro) (q := 1) (c := .ex 1) (ov (fun _ => 0) (0 * 1) 2) 0 1 (by omega) (cut 4 (cut 4 LL)) (ccbd hLL (by omega)))) rfl rfl (Nat.le_of_ble_eq_true rfl) (fun _ h => h) rfl ⟨(.head _), ⟨_, _, _, rfl⟩, trivial⟩ rfl rfl rfl ?_
            refine WO_gt rfl ?_
            refine WO_callq0 rfl (RF_of (Dead_run (more1 2 LL) (more1bd 2 hLL (by omega)))) rfl rfl rfl ?_
            refine WO_gt rfl ?_
            first | refine WO_ldA0 rfl rfl (.tail _ (.tail _ (.tail _ (.head _)))) ?_ | refine WO_ldAI rfl rfl (.tail _ (.tail _ (.tail _ (.head _)))) ?_
            refine WO_gt rfl ?_
            first | refine WO_ldA0 rfl rfl (.tail _ (.tail _ (.tail _ (.tail _ (.head _))))) ?_ | refine WO_ldAI rfl rfl (.tail _ (.tail _ (.tail _ (.tail _ (.head _))))) ?_
            refine WO_gt rfl ?_
            refine WO_eqa rfl rfl ?_
            refine WO_gt rfl ?_
            refine WO_eqbT rfl rfl (knight_dead hLL) ?_
            refine WO_pick (v := .s (.bool _)) rfl rfl ?_
            refine WO_mv (v := .s (.bool _)) rfl ?_
            refine WO_gt rfl ?_
            first | refine WO_ldA0 rfl rfl (.tail _ (.tail _ (.tail _ (.head _)))) ?_ | refine WO_ldAI rfl rfl (.tail _ (.tail _ (.tail _ (.head _)))) ?_
            refine WO_gt rfl ?_
            refine WO_mkslS rfl (.one rfl (.one rfl .nil)) ?_
            refine WO_gt rfl ?_
            refine WO_call (rs := [5]) (Bs := [_]) rfl (RB_of1 (Add_run (md := .var) (q := 2) (c := .ex 2) (ov (ov (fun _ => 0) (0 * 1) 3) (1 * 1) 3) 0 2 (by omega) (cut 4 (cut 4 LL)) (ccbd hLL (by omega)))) rfl rfl (Nat.le_of_ble_eq_true rfl) (fun _ h => h) rfl ⟨(.head _), ⟨_, _, _, rfl⟩, trivial⟩ rfl rfl rfl (.cons .here .nil) ?_
            refine WO_gt rfl ?_
            have hD2 := RF_of (Dead_run (more2 3 3 LL) (more2bd 3 3 hLL (by omega)))
            rw [bishop_dead hLL] at hD2
            refine WO_call0 rfl (hD2) rfl rfl rfl ?_
            refine WO_gt rfl ?_
            refine WO_un (r := .bool _) rfl rfl ?_
            refine WO_pick (v := .s (.bool _)) rfl rfl ?_
            refine WO_mv (v := .s (.bool _)) rfl ?_
            refine WO_gt rfl ?_
            first | refine WO_ldA0 rfl rfl (.tail _ (.tail _ (.tail _ (.tail _ (.head _))))) ?_ | refine WO_ldAI rfl rfl (.tail _ (.tail _ (.tail _ (.tail _ (.head _))))) ?_
            refine WO_gt rfl ?_
            refine WO_mkslS rfl (.one rfl (.one rfl .nil)) ?_
            refine WO_gt rfl ?_
            refine WO_callq (rs := [6]) (Bs := [_]) rfl (RB_of1 (Add_run (md := .ro) (q := 2) (c := .ex 2) (ov (ov (fun _ => 0) (0 * 1) 2) (1 * 1) 4) 0 2 (by omega) (cut 4 (cut 4 LL)) (ccbd hLL (by omega)))) rfl rfl (Nat.le_of_ble_eq_true rfl) (fun _ h => h) rfl ⟨(.head _), ⟨_, _, _, rfl⟩, trivial⟩ rfl rfl rfl ?_
            refine WO_gt rfl ?_
            first | refine WO_ldA0 rfl rfl (.tail _ (.tail _ (.tail _ (.tail _ (.tail _ (.head _)))))) ?_ | refine WO_ldAI rfl rfl (.tail _ (.tail _ (.tail _ (.tail _ (.tail _ (.head _)))))) ?_
            refine WO_gt rfl ?_
            refine WO_mkslS rfl (.one rfl (.one rfl .nil)) ?_
            refine WO_gt rfl ?_
            refine WO_call (rs := [7]) (Bs := [_]) rfl (RB_of1 (Add_run (md := .var) (q := 2) (c := .ex 2) (ov (ov (fun _ => 0) (0 * 1) 4) (1 * 1) 2) 0 2 (by omega) (cut 4 (cut 4 LL)) (ccbd hLL (by omega)))) rfl rfl (Nat.le_of_ble_eq_true rfl) (fun _ h => h) rfl ⟨(.head _), ⟨_, _, _, rfl⟩, trivial⟩ rfl rfl rfl (.cons .here .nil) ?_
            refine WO_gt rfl ?_
            refine WO_eqaC rfl rfl (eqI4t (four4 rfl rfl rfl rfl)) ?_
            refine WO_pick (v := .s (.bool _)) rfl rfl ?_
            refine WO_mv (v := .s (.bool _)) rfl ?_
            refine WO_nil ?_
            refine WP_ret ?_
            refine ⟨_, RS_tmp (v := .s (.bool _)) rfl (RS_nil), ?_⟩
            rfl
        · try simp only [beq_iff_eq, bne_iff_ne, ne_eq, decide_eq_true_eq, decide_eq_false_iff_not, beq_eq_false_iff_ne, bne_eq_false_iff_eq, Decidable.not_not, Int.not_lt, Int.not_le, gt_iff_lt, ge_iff_le, Bool.not_eq_true, Bool.not_eq_false, Bool.not_eq_true', Bool.not_eq_false', cond_true, cond_false] at h13
          refine WO_gf rfl rfl ?_
          refine WO_gf rfl rfl ?_
          refine WO_gf rfl rfl ?_
          refine WO_gf rfl rfl ?_
          refine WO_gf rfl rfl ?_
          refine WO_gf rfl rfl ?_
          refine WO_gt rfl ?_
          refine WO_pick (v := .s (.bool _)) rfl rfl ?_
          refine WO_pick (v := .s (.bool _)) rfl rfl ?_
          refine WO_nil ?_
          refine WP_cond rfl (fun h => nomatch h) (fun _ => ?_)
          refine WP_skip ?_
          refine WP_seq ?_
          refine WP_ops ?_
          first | refine WO_ldA0 rfl rfl (.tail _ (.head _)) ?_ | refine WO_ldAI rfl rfl (.tail _ (.head _)) ?_
          refine WO_mkslS rfl (.one rfl .nil) ?_
          refine WO_call (rs := [3]) (Bs := [_]) rfl (RB_of1 (Add_run (md := .var) (q := 1) (c := .ex 1) (ov (fun _ => 0) (0 * 1) 5) 0 1 (by omega) (cut 4 (cut 4 LL)) (ccbd hLL (by omega)))) rfl rfl (Nat.le_of_ble_eq_true rfl) (fun _ h => h) rfl ⟨(.head _), ⟨_, _, _, rfl⟩, trivial⟩ rfl rfl rfl (.cons .here .nil) ?_
          have hD := RF_of (Dead_run (more1 5 LL) (more1bd 5 hLL (by omega)))
          rw [queen_dead hLL] at hD
          refine WO_call0 rfl (hD) rfl rfl rfl ?_
          refine WO_un (r := .bool _) rfl rfl ?_
          refine WO_mv (v := .s (.bool _)) rfl ?_
          refine WO_gt rfl ?_
          first | refine WO_ldA0 rfl rfl (.tail _ (.tail _ (.head _))) ?_ | refine WO_ldAI rfl rfl (.tail _ (.tail _ (.head _))) ?_
          refine WO_gt rfl ?_
          refine WO_mkslS rfl (.one rfl .nil) ?_
          refine WO_gt rfl ?_
          refine WO_callq (rs := [4]) (Bs := [_]) rfl (RB_of1 (Add_run (md := .ro) (q := 1) (c := .ex 1) (ov (fun _ => 0) (0 * 1) 2) 0 1 (by omega) (cut 4 (cut 4 LL)) (ccbd hLL (by omega)))) rfl rfl (Nat.le_of_ble_eq_true rfl) (fun _ h => h) rfl ⟨(.head _), ⟨_, _, _, rfl⟩, trivial⟩ rfl rfl rfl ?_
          refine WO_gt rfl ?_
          refine WO_callq0 rfl (RF_of (Dead_run (more1 2 LL) (more1bd 2 hLL (by omega)))) rfl rfl rfl ?_
          refine WO_gt rfl ?_
          first | refine WO_ldA0 rfl rfl (.tail _ (.tail _ (.tail _ (.head _)))) ?_ | refine WO_ldAI rfl rfl (.tail _ (.tail _ (.tail _ (.head _)))) ?_
          refine WO_gt rfl ?_
          first | refine WO_ldA0 rfl rfl (.tail _ (.tail _ (.tail _ (.tail _ (.head _))))) ?_ | refine WO_ldAI rfl rfl (.tail _ (.tail _ (.tail _ (.tail _ (.head _))))) ?_
          refine WO_gt rfl ?_
          refine WO_eqa rfl rfl ?_
          refine WO_gt rfl ?_
          refine WO_eqbT rfl rfl (knight_dead hLL) ?_
          refine WO_pick (v := .s (.bool _)) rfl rfl ?_
          refine WO_mv (v := .s (.bool _)) rfl ?_
          refine WO_gt rfl ?_
          first | refine WO_ldA0 rfl rfl (.tail _ (.tail _ (.tail _ (.head _)))) ?_ | refine WO_ldAI rfl rfl (.tail _ (.tail _ (.tail _ (.head _)))) ?_
          refine WO_gt rfl ?_
          refine WO_mkslS rfl (.one rfl (.one rfl .nil)) ?_
          refine WO_gt rfl ?_
          refine WO_call (rs := [5]) (Bs := [_]) rfl (RB_of1 (Add_run (md := .var) (q := 2) (c := .ex 2) (ov (ov (fun _ => 0) (0 * 1) 3) (1 * 1) 3) 0 2 (by omega) (cut 4 (cut 4 LL)) (ccbd hLL (by omega)))) rfl rfl (Nat.le_of_ble_eq_true rfl) (fun _ h => h) rfl ⟨(.head _), ⟨_, _, _, rfl⟩, trivial⟩ rfl rfl rfl (.cons .here .nil) ?_
          refine WO_gt rfl ?_
          have hD2 := RF_of (Dead_run (more2 3 3 LL) (more2bd 3 3 hLL (by omega)))
          rw [bishop_dead hLL] at hD2
          refine WO_call0 rfl (hD2) rfl rfl rfl ?_
          refine WO_gt rfl ?_
          refine WO_un (r := .bool _) rfl rfl ?_
          refine WO_pick (v := .s (.bool _)) rfl rfl ?_
          refine WO_mv (v := .s (.bool _)) rfl ?_
          refine WO_gt rfl ?_
          first | refine WO_ldA0 rfl rfl (.tail _ (.tail _ (.tail _ (.tail _ (.head _))))) ?_ | refine WO_ldAI rfl rfl (.tail _ (.tail _ (.tail _ (.tail _ (.head _))))) ?_
          refine WO_gt rfl ?_
          refine WO_mkslS rfl (.one rfl (.one rfl .nil)) ?_
          refine WO_gt rfl ?_
          refine WO_callq (rs := [6]) (Bs := [_]) rfl (RB_of1 (Add_run (md := .ro) (q := 2) (c := .ex 2) (ov (ov (fun _ => 0) (0 * 1) 2) (1 * 1) 4) 0 2 (by omega) (cut 4 (cut 4 LL)) (ccbd hLL (by omega)))) rfl rfl (Nat.le_of_ble_eq_true rfl) (fun _ h => h) rfl ⟨(.head _), ⟨_, _, _, rfl⟩, trivial⟩ rfl rfl rfl ?_
          refine WO_gt rfl ?_
          first | refine WO_ldA0 rfl rfl (.tail _ (.tail _ (.tail _ (.tail _ (.tail _ (.head _)))))) ?_ | refine WO_ldAI rfl rfl (.tail _ (.tail _ (.tail _ (.tail _ (.tail _ (.head _)))))) ?_
          refine WO_gt rfl ?_
          refine WO_mkslS rfl (.one rfl (.one rfl .nil)) ?_
          refine WO_gt rfl ?_
          refine WO_call (rs := [7]) (Bs := [_]) rfl (RB_of1 (Add_run (md := .var) (q := 2) (c := .ex 2) (ov (ov (fun _ => 0) (0 * 1) 4) (1 * 1) 2) 0 2 (by omega) (cut 4 (cut 4 LL)) (ccbd hLL (by omega)))) rfl rfl (Nat.le_of_ble_eq_true rfl) (fun _ h => h) rfl ⟨(.head _), ⟨_, _, _, rfl⟩, trivial⟩ rfl rfl rfl (.cons .here .nil) ?_
          refine WO_gt rfl ?_
          refine WO_eqaC rfl rfl (eqI4t (four4 rfl rfl rfl rfl)) ?_
          refine WO_pick (v := .s (.bool _)) rfl rfl ?_
          refine WO_mv (v := .s (.bool _)) rfl ?_
          refine WO_nil ?_
          refine WP_ret ?_
          refine ⟨_, RS_tmp (v := .s (.bool _)) rfl (RS_nil), ?_⟩
          rfl
theorem DeadAdds_runN (x : Int) : WR AM 5 [.snil, .s (.int .i64 x)] [] (fun v _ _ => v = .s (.bool true)) := by
  refine WR_fn (a := a5) rfl rfl (entryF _) (entry_E (Nat.le_of_ble_eq_true rfl)) (m := 0) rfl ?_
  refine WP_seq ?_
  refine WP_ops ?_
  refine WO_mv rfl ?_
  refine WO_nil ?_
  refine WP_seq ?_
  refine WP_seq ?_
  refine WP_ops ?_
  refine WO_call0 rfl (awake_run) rfl rfl rfl ?_
  refine WO_un (r := .bool _) rfl rfl ?_
  refine WO_nil ?_
  refine WP_cond rfl (fun h => nomatch h) (fun _ => ?_)
  refine WP_skip ?_
  refine WP_seq ?_
  refine WP_seq ?_
  refine WP_ops ?_
  refine WO_mv (v := .snil) rfl ?_
  refine WO_lenN rfl ?_
  refine WO_bin (r := .bool _) rfl rfl rfl ?_
  refine WO_nil ?_
  refine WP_cond rfl (fun h15 => ?_) (fun h15 => ?_)
  · try simp only [beq_iff_eq, bne_iff_ne, ne_eq, decide_eq_true_eq, decide_eq_false_iff_not, beq_eq_false_iff_ne, bne_eq_false_iff_eq, Decidable.not_not, Int.not_lt, Int.not_le, gt_iff_lt, ge_iff_le, Bool.not_eq_true, Bool.not_eq_false, Bool.not_eq_true', Bool.not_eq_false', cond_true, cond_false] at h15
    exfalso; omega
  · try simp only [beq_iff_eq, bne_iff_ne, ne_eq, decide_eq_true_eq, decide_eq_false_iff_not, beq_eq_false_iff_ne, bne_eq_false_iff_eq, Decidable.not_not, Int.not_lt, Int.not_le, gt_iff_lt, ge_iff_le, Bool.not_eq_true, Bool.not_eq_false, Bool.not_eq_true', Bool.not_eq_false', cond_true, cond_false] at h15
    refine WP_skip ?_
    refine WP_seq ?_
    refine WP_ops ?_
    refine WO_allocI ?_
    refine WO_nil ?_
    refine WP_seq ?_
    refine WP_ops ?_
    refine WO_mv (v := .s (.int _ _)) rfl ?_
    refine WO_mv (v := .snil) rfl ?_
    refine WO_lenN rfl ?_
    refine WO_add rfl rfl (by omega) ?_
    have hk := pickM_bd x (n := (0 : Int) + 1) (by omega)
    refine WO_call0 rfl (RF_of (Pick_run x ((0 : Int) + 1) (by omega) (by omega))) rfl rfl rfl ?_
    obtain ⟨kk, hkk⟩ : ∃ kk : Nat, pickM x ((0 : Int) + 1) = kk := ⟨(pickM x ((0 : Int) + 1)).toNat, by omega⟩
    rw [hkk] at hk ⊢
    refine WO_mv (v := .s (.int _ _)) rfl ?_
    refine WO_nil ?_
    refine WP_seq ?_
    refine WP_ops ?_
    first | refine WO_ldA0 rfl rfl (.head _) ?_ | refine WO_ldAI rfl rfl (.head _) ?_
    refine WO_mv (v := .snil) rfl ?_
    refine WO_call0 rfl (RF_of (Add_runN (fun _ => 0) (fun _ _ => by omega))) rfl rfl rfl ?_
    have hLL := leftOK (fun _ => 0) 0 0
    obtain ⟨LL, hL⟩ : ∃ LL, LL = addM (fun _ => 0) 0 (cut 4 (cut 4 fun _ => 0)) 0 := ⟨_, rfl⟩
    rw [← hL] at hLL
    have g0 := hLL.lo 0 (by omega)
    have g1 := hLL.lo 1 (by omega)
    have g2 := hLL.lo 2 (by omega)
    have g3 := hLL.lo 3 (by omega)
    have gs := hLL.sum
    have gd := hLL.dark
    rw [show cut 4 (cut 4 (cut 4 fun _ => 0)) = cut 4 LL from by rw [hL]; rfl]
    refine WO_allocI ?_
    refine WO_stA rfl rfl rfl rfl .here ?_
    refine WO_nil ?_
    refine WP_seq ?_
    refine WP_seq ?_
    refine WP_ops ?_
    first | refine WO_ldA0 rfl rfl (.tail _ (.head _)) ?_ | refine WO_ldAI rfl rfl (.tail _ (.head _)) ?_
    refine WO_mv (v := .snil) rfl ?_
    refine WO_mv (v := .s (.int _ _)) rfl ?_
    refine WO_slVe (v := .snil) rfl (.inl rfl) rfl rfl (by constructor <;> omega) ?_
    refine WO_callq0 rfl (RF_of (Add_runN (fun _ => 0) (fun _ _ => by omega))) rfl rfl rfl ?_
    refine WO_mv (v := .snil) rfl ?_
    refine WO_mv (v := .s (.int _ _)) rfl ?_
    refine WO_slVe (v := .snil) rfl (.inl rfl) rfl rfl (by constructor <;> omega) ?_
    refine WO_callq0 rfl (RF_of (Add_runN (cut 4 (cut 4 (cut 4 fun _ => 0))) (cut_bd (by omega) (cut_bd (by omega) (cut_bd (by omega) fun _ _ => by omega))))) rfl rfl rfl ?_
    first | refine WO_ldA0 rfl rfl (.head _) ?_ | refine WO_ldAI rfl rfl (.head _) ?_
    refine WO_eqaC rfl rfl (eqI4 (four4 (by rw [hL]; rfl) (by rw [hL]; rfl) (by rw [hL]; rfl) (by rw [hL]; rfl))) ?_
    refine WO_mv (v := .s (.bool _)) rfl ?_
    refine WO_gt rfl ?_
    first | refine WO_ldA0 rfl rfl (.head _) ?_ | refine WO_ldAI rfl rfl (.head _) ?_
    refine WO_gt rfl ?_
    refine WO_mkslS rfl (.one rfl (.one rfl .nil)) ?_
    refine WO_gt rfl ?_
    refine WO_callq (rs := [2]) (Bs := [_]) rfl (RB_of1 (Add_run (md := .ro) (q := 2) (c := .ex 2) (ov (ov (fun _ => 0) (0 * 1) 6) (1 * 1) 0) 0 2 (by omega) (cut 4 (cut 4 LL)) (ccbd hLL (by omega)))) rfl rfl (Nat.le_of_ble_eq_true rfl) (fun _ h => h) rfl ⟨(.head _), ⟨_, _, _, rfl⟩, trivial⟩ rfl rfl rfl ?_
    refine WO_gt rfl ?_
    first | refine WO_ldA0 rfl rfl (.tail _ (.head _)) ?_ | refine WO_ldAI rfl rfl (.tail _ (.head _)) ?_
    refine WO_gt rfl ?_
    refine WO_eqaC rfl rfl (eqI4 (four4 rfl rfl rfl rfl)) ?_
    refine WO_pick (v := .s (.bool _)) rfl rfl ?_
    refine WO_mv (v := .s (.bool _)) rfl ?_
    refine WO_gt rfl ?_
    refine WO_fa (o' := 0) rfl rfl rfl ?_
    refine WO_gt rfl ?_
    refine WO_ldI (x := LL 0) rfl rfl (.tail _ (.head _)) rfl ?_
    refine WO_gt rfl ?_
    refine WO_bin (r := .bool _) rfl rfl rfl ?_
    refine WO_pick (v := .s (.bool _)) rfl rfl ?_
    refine WO_mv (v := .s (.bool _)) rfl ?_
    refine WO_case (t := 44) rfl (fun h16 => ?_) (fun h16 => ?_)
    · try simp only [beq_iff_eq, bne_iff_ne, ne_eq, decide_eq_true_eq, decide_eq_false_iff_not, beq_eq_false_iff_ne, bne_eq_false_iff_eq, Decidable.not_not, Int.not_lt, Int.not_le, gt_iff_lt, ge_iff_le, Bool.not_eq_true, Bool.not_eq_false, Bool.not_eq_true', Bool.not_eq_false', cond_true, cond_false] at h16
      exfalso; omega
    · try simp only [beq_iff_eq, bne_iff_ne, ne_eq, decide_eq_true_eq, decide_eq_false_iff_not, beq_eq_false_iff_ne, bne_eq_false_iff_eq, Decidable.not_not, Int.not_lt, Int.not_le, gt_iff_lt, ge_iff_le, Bool.not_eq_true, Bool.not_eq_false, Bool.not_eq_true', Bool.not_eq_false', cond_true, cond_false] at h16
      refine WO_gt rfl ?_
      refine WO_fa (o' := 0) rfl rfl rfl ?_
      refine WO_gt rfl ?_
      refine WO_ldI (x := LL 0) rfl rfl (.tail _ (.head _)) rfl ?_
      refine WO_gt rfl ?_
      refine WO_fa (o' := 1) rfl rfl rfl ?_
      refine WO_gt rfl ?_
      refine WO_ldI (x := LL 1) rfl rfl (.tail _ (.head _)) rfl ?_
      refine WO_gt rfl ?_
      refine WO_add rfl rfl (by omega) ?_
      refine WO_gt rfl ?_
      refine WO_fa (o' := 2) rfl rfl rfl ?_
      refine WO_gt rfl ?_
      refine WO_ldI (x := LL 2) rfl rfl (.tail _ (.head _)) rfl ?_
      refine WO_gt rfl ?_
      refine WO_add rfl rfl (by omega) ?_
      refine WO_gt rfl ?_
      refine WO_fa (o' := 3) rfl rfl rfl ?_
      refine WO_gt rfl ?_
      refine WO_ldI (x := LL 3) rfl rfl (.tail _ (.head _)) rfl ?_
      refine WO_gt rfl ?_
      refine WO_add rfl rfl (by omega) ?_
      refine WO_gt rfl ?_
      refine WO_mv (v := .snil) rfl ?_
      refine WO_gt rfl ?_
      refine WO_lenN rfl ?_
      refine WO_gt rfl ?_
      refine WO_bin (r := .bool _) rfl rfl rfl ?_
      refine WO_pick (v := .s (.bool _)) rfl rfl ?_
      refine WO_mv (v := .s (.bool _)) rfl ?_
      refine WO_case (t := 60) rfl (fun h17 => ?_) (fun h17 => ?_)
      · try simp only [beq_iff_eq, bne_iff_ne, ne_eq, decide_eq_true_eq, decide_eq_false_iff_not, beq_eq_false_iff_ne, bne_eq_false_iff_eq, Decidable.not_not, Int.not_lt, Int.not_le, gt_iff_lt, ge_iff_le, Bool.not_eq_true, Bool.not_eq_false, Bool.not_eq_true', Bool.not_eq_false', cond_true, cond_false] at h17
        exfalso; omega
      · try simp only [beq_iff_eq, bne_iff_ne, ne_eq, decide_eq_true_eq, decide_eq_false_iff_not, beq_eq_false_iff_ne, bne_eq_false_iff_eq, Decidable.not_not, Int.not_lt, Int.not_le, gt_iff_lt, ge_iff_le, Bool.not_eq_true, Bool.not_eq_false, Bool.not_eq_true', Bool.not_eq_false', cond_true, cond_false] at h17
        refine WO_gt rfl ?_
        refine WO_fa (o' := 2) rfl rfl rfl ?_
        refine WO_gt rfl ?_
        refine WO_ldI (x := LL 2) rfl rfl (.tail _ (.head _)) rfl ?_
        refine WO_gt rfl ?_
        refine WO_fa (o' := 3) rfl rfl rfl ?_
        refine WO_gt rfl ?_
        refine WO_ldI (x := LL 3) rfl rfl (.tail _ (.head _)) rfl ?_
        refine WO_gt rfl ?_
        refine WO_bin (r := .bool _) rfl rfl rfl ?_
        refine WO_gt rfl ?_
        refine WO_mv (v := .s (.bool _)) rfl ?_
        refine WO_case (t := 66) rfl (fun h18 => ?_) (fun h18 => ?_)
        · try simp only [beq_iff_eq, bne_iff_ne, ne_eq, decide_eq_true_eq, decide_eq_false_iff_not, beq_eq_false_iff_ne, bne_eq_false_iff_eq, Decidable.not_not, Int.not_lt, Int.not_le, gt_iff_lt, ge_iff_le, Bool.not_eq_true, Bool.not_eq_false, Bool.not_eq_true', Bool.not_eq_false', cond_true, cond_false] at h18
          refine WO_gt rfl ?_
          refine WO_fa (o' := 2) rfl rfl rfl ?_
          refine WO_gt rfl ?_
          refine WO_ldI (x := LL 2) rfl rfl (.tail _ (.head _)) rfl ?_
          refine WO_gt rfl ?_
          refine WO_fa (o' := 3) rfl rfl rfl ?_
          refine WO_gt rfl ?_
          refine WO_ldI (x := LL 3) rfl rfl (.tail _ (.head _)) rfl ?_
          refine WO_gt rfl ?_
          refine WO_add rfl rfl (by omega) ?_
          refine WO_gt rfl ?_
          refine WO_bin (r := .bool _) rfl rfl rfl ?_
          refine WO_gt rfl ?_
          refine WO_pick (v := .s (.bool _)) rfl rfl ?_
          refine WO_pick (v := .s (.bool _)) rfl rfl ?_
          refine WO_nil ?_
          refine WP_cond rfl (fun h19 => ?_) (fun h19 => ?_)
          · try simp only [beq_iff_eq, bne_iff_ne, ne_eq, decide_eq_true_eq, decide_eq_false_iff_not, beq_eq_false_iff_ne, bne_eq_false_iff_eq, Decidable.not_not, Int.not_lt, Int.not_le, gt_iff_lt, ge_iff_le, Bool.not_eq_true, Bool.not_eq_false, Bool.not_eq_true', Bool.not_eq_false', cond_true, cond_false] at h19
            exfalso; omega
          · try simp only [beq_iff_eq, bne_iff_ne, ne_eq, decide_eq_true_eq, decide_eq_false_iff_not, beq_eq_false_iff_ne, bne_eq_false_iff_eq, Decidable.not_not, Int.not_lt, Int.not_le, gt_iff_lt, ge_iff_le, Bool.not_eq_true, Bool.not_eq_false, Bool.not_eq_true', Bool.not_eq_false', cond_true, cond_false] at h19
            refine WP_skip ?_
            refine WP_seq ?_
            refine WP_ops ?_
            first | refine WO_ldA0 rfl rfl (.tail _ (.head _)) ?_ | refine WO_ldAI rfl rfl (.tail _ (.head _)) ?_
            refine WO_mkslS rfl (.one rfl .nil) ?_
            refine WO_call (rs := [3]) (Bs := [_]) rfl (RB_of1 (Add_run (md := .var) (q := 1) (c := .ex 1) (ov (fun _ => 0) (0 * 1) 5) 0 1 (by omega) (cut 4 (cut 4 LL)) (ccbd hLL (by omega)))) rfl rfl (Nat.le_of_ble_eq_true rfl) (fun _ h => h) rfl ⟨(.head _), ⟨_, _, _, rfl⟩, trivial⟩ rfl rfl rfl (.cons .here .nil) ?_
            have hD := RF_of (Dead_run (more1 5 LL) (more1bd 5 hLL (by omega)))
            rw [queen_dead hLL] at hD
            refine WO_call0 rfl (hD) rfl rfl rfl ?_
            refine WO_un (r := .bool _) rfl rfl ?_
            refine WO_mv (v := .s (.bool _)) rfl ?_
            refine WO_gt rfl ?_
            first | refine WO_ldA0 rfl rfl (.tail _ (.tail _ (.head _))) ?_ | refine WO_ldAI rfl rfl (.tail _ (.tail _ (.head _))) ?_
            refine WO_gt rfl ?_
            refine WO_mkslS rfl (.one rfl .nil) ?_
            refine WO_gt rfl ?_
            refine WO_callq (rs := [4]) (Bs := [_]) rfl (RB_of1 (Add_run (md := .ro) (q := 1) (c := .ex 1) (ov (fun _ => 0) (0 * 1) 2) 0 1 (by omega) (cut 4 (cut 4 LL)) (ccbd hLL (by omega)))) rfl rfl (Nat.le_of_ble_eq_true rfl) (fun _ h => h) rfl ⟨(.head _), ⟨_, _, _, rfl⟩, trivial⟩ rfl rfl rfl ?_
            refine WO_gt rfl ?_
            refine WO_callq0 rfl (RF_of (Dead_run (more1 2 LL) (more1bd 2 hLL (by omega)))) rfl rfl rfl ?_
            refine WO_gt rfl ?_
            first | refine WO_ldA0 rfl rfl (.tail _ (.tail _ (.tail _ (.head _)))) ?_ | refine WO_ldAI rfl rfl (.tail _ (.tail _ (.tail _ (.head _)))) ?_
            refine WO_gt rfl ?_
            first | refine WO_ldA0 rfl rfl (.tail _ (.tail _ (.tail _ (.tail _ (.head _))))) ?_ | refine WO_ldAI rfl rfl (.tail _ (.tail _ (.tail _ (.tail _ (.head _))))) ?_
            refine WO_gt rfl ?_
            refine WO_eqa rfl rfl ?_
            refine WO_gt rfl ?_
            refine WO_eqbT rfl rfl (knight_dead hLL) ?_
            refine WO_pick (v := .s (.bool _)) rfl rfl ?_
            refine WO_mv (v := .s (.bool _)) rfl ?_
            refine WO_gt rfl ?_
            first | refine WO_ldA0 rfl rfl (.tail _ (.tail _ (.tail _ (.head _)))) ?_ | refine WO_ldAI rfl rfl (.tail _ (.tail _ (.tail _ (.head _)))) ?_
            refine WO_gt rfl ?_
            refine WO_mkslS rfl (.one rfl (.one rfl .nil)) ?_
            refine WO_gt rfl ?_
            refine WO_call (rs := [5]) (Bs := [_]) rfl (RB_of1 (Add_run (md := .var) (q := 2) (c := .ex 2) (ov (ov (fun _ => 0) (0 * 1) 3) (1 * 1) 3) 0 2 (by omega) (cut 4 (cut 4 LL)) (ccbd hLL (by omega)))) rfl rfl (Nat.le_of_ble_eq_true rfl) (fun _ h => h) rfl ⟨(.head _), ⟨_, _, _, rfl⟩, trivial⟩ rfl rfl rfl (.cons .here .nil) ?_
            refine WO_gt rfl ?_
            have hD2 := RF_of (Dead_run (more2 3 3 LL) (more2bd 3 3 hLL (by omega)))
            rw [bishop_dead hLL] at hD2
            refine WO_call0 rfl (hD2) rfl rfl rfl ?_
            refine WO_gt rfl ?_
            refine WO_un (r := .bool _) rfl rfl ?_
            refine WO_pick (v := .s (.bool _)) rfl rfl ?_
            refine WO_mv (v := .s (.bool _)) rfl ?_
            refine WO_gt rfl ?_
            first | refine WO_ldA0 rfl rfl (.tail _ (.tail _ (.tail _ (.tail _ (.head _))))) ?_ | refine WO_ldAI rfl rfl (.tail _ (.tail _ (.tail _ (.tail _ (.head _))))) ?_
            refine WO_gt rfl ?_
            refine WO_mkslS rfl (.one rfl (.one rfl .nil)) ?_
            refine WO_gt rfl ?_
            refine WO_callq (rs := [6]) (Bs := [_]) rfl (RB_of1 (Add_run (md := .ro) (q := 2) (c := .ex 2) (ov (ov (fun _ => 0) (0 * 1) 2) (1 * 1) 4) 0 2 (by omega) (cut 4 (cut 4 LL)) (ccbd hLL (by omega)))) rfl rfl (Nat.le_of_ble_eq_true rfl) (fun _ h => h) rfl ⟨(.head _), ⟨_, _, _, rfl⟩, trivial⟩ rfl rfl rfl ?_
            refine WO_gt rfl ?_
            first | refine WO_ldA0 rfl rfl (.tail _ (.tail _ (.tail _ (.tail _ (.tail _ (.head _)))))) ?_ | refine WO_ldAI rfl rfl (.tail _ (.tail _ (.tail _ (.tail _ (.tail _ (.head _)))))) ?_
            refine WO_gt rfl ?_
            refine WO_mkslS rfl (.one rfl (.one rfl .nil)) ?_
            refine WO_gt rfl ?_
            refine WO_call (rs := [7]) (Bs := [_]) rfl (RB_of1 (Add_run (md := .var) (q := 2) (c := .ex 2) (ov (ov (fun _ => 0) (0 * 1) 4) (1 * 1) 2) 0 2 (by omega) (cut 4 (cut 4 LL)) (ccbd hLL (by omega)))) rfl rfl (Nat.le_of_ble_eq_true rfl) (fun _ h => h) rfl ⟨(.head _), ⟨_, _, _, rfl⟩, trivial⟩ rfl rfl rfl (.cons .here .nil) ?_
            refine WO_gt rfl ?_
            refine WO_eqaC rfl rfl (eqI4t (four4 rfl rfl rfl rfl)) ?_
            refine WO_pick (v := .s (.bool _)) rfl rfl ?_
            refine WO_mv (v := .s (.bool _)) rfl ?_
            refine WO_nil ?_
            refine WP_ret ?_
            refine ⟨_, RS_tmp (v := .s (.bool _)) rfl (RS_nil), ?_⟩
            rfl
        · try simp only [beq_iff_eq, bne_iff_ne, ne_eq, decide_eq_true_eq, decide_eq_false_iff_not, beq_eq_false_iff_ne, bne_eq_false_iff_eq, Decidable.not_not, Int.not_lt, Int.not_le, gt_iff_lt, ge_iff_le, Bool.not_eq_true, Bool.not_eq_false, Bool.not_eq_true', Bool.not_eq_false', cond_true, cond_false] at h18
          refine WO_gf rfl rfl ?_
          refine WO_gf rfl rfl ?_
          refine WO_gf rfl rfl ?_
          refine WO_gf rfl rfl ?_
          refine WO_gf rfl rfl ?_
          refine WO_gf rfl rfl ?_
          refine WO_gt rfl ?_
          refine WO_pick (v := .s (.bool _)) rfl rfl ?_
          refine WO_pick (v := .s (.bool _)) rfl rfl ?_
          refine WO_nil ?_
          refine WP_cond rfl (fun h => nomatch h) (fun _ => ?_)
          refine WP_skip ?_
          refine WP_seq ?_
          refine WP_ops ?_
          first | refine WO_ldA0 rfl rfl (.tail _ (.head _)) ?_ | refine WO_ldAI rfl rfl (.tail _ (.head _)) ?_
          refine WO_mkslS rfl (.one rfl .nil) ?_
          refine WO_call (rs := [3]) (Bs := [_]) rfl (RB_of1 (Add_run (md := .var) (q := 1) (c := .ex 1) (ov (fun _ => 0) (0 * 1) 5) 0 1 (by omega) (cut 4 (cut 4 LL)) (ccbd hLL (by omega)))) rfl rfl (Nat.le_of_ble_eq_true rfl) (fun _ h => h) rfl ⟨(.head _), ⟨_, _, _, rfl⟩, trivial⟩ rfl rfl rfl (.cons .here .nil) ?_
          have hD := RF_of (Dead_run (more1 5 LL) (more1bd 5 hLL (by omega)))
          rw [queen_dead hLL] at hD
          refine WO_call0 rfl (hD) rfl rfl rfl ?_
          refine WO_un (r := .bool _) rfl rfl ?_
          refine WO_mv (v := .s (.bool _)) rfl ?_
          refine WO_gt rfl ?_
          first | refine WO_ldA0 rfl rfl (.tail _ (.tail _ (.head _))) ?_ | refine WO_ldAI rfl rfl (.tail _ (.tail _ (.head _))) ?_
          refine WO_gt rfl ?_
          refine WO_mkslS rfl (.one rfl .nil) ?_
          refine WO_gt rfl ?_
          refine WO_callq (rs := [4]) (Bs := [_]) rfl (RB_of1 (Add_run (md := .ro) (q := 1) (c := .ex 1) (ov (fun _ => 0) (0 * 1) 2) 0 1 (by omega) (cut 4 (cut 4 LL)) (ccbd hLL (by omega)))) rfl rfl (Nat.le_of_ble_eq_true rfl) (fun _ h => h) rfl ⟨(.head _), ⟨_, _, _, rfl⟩, trivial⟩ rfl rfl rfl ?_
          refine WO_gt rfl ?_
          refine WO_callq0 rfl (RF_of (Dead_run (more1 2 LL) (more1bd 2 hLL (by omega)))) rfl rfl rfl ?_
          refine WO_gt rfl ?_
          first | refine WO_ldA0 rfl rfl (.tail _ (.tail _ (.tail _ (.head _)))) ?_ | refine WO_ldAI rfl rfl (.tail _ (.tail _ (.tail _ (.head _)))) ?_
          refine WO_gt rfl ?_
          first | refine WO_ldA0 rfl rfl (.tail _ (.tail _ (.tail _ (.tail _ (.head _))))) ?_ | refine WO_ldAI rfl rfl (.tail _ (.tail _ (.tail _ (.tail _ (.head _))))) ?_
          refine WO_gt rfl ?_
          refine WO_eqa rfl rfl ?_
          refine WO_gt rfl ?_
          refine WO_eqbT rfl rfl (knight_dead hLL) ?_
          refine WO_pick (v := .s (.bool _)) rfl rfl ?_
          refine WO_mv (v := .s (.bool _)) rfl ?_
          refine WO_gt rfl ?_
          first | refine WO_ldA0 rfl rfl (.tail _ (.tail _ (.tail _ (.head _)))) ?_ | refine WO_ldAI rfl rfl (.tail _ (.tail _ (.tail _ (.head _)))) ?_
          refine WO_gt rfl ?_
          refine WO_mkslS rfl (.one rfl (.one rfl .nil)) ?_
          refine WO_gt rfl ?_
          refine WO_call (rs := [5]) (Bs := [_]) rfl (RB_of1 (Add_run (md := .var) (q := 2) (c := .ex 2) (ov (ov (fun _ => 0) (0 * 1) 3) (1 * 1) 3) 0 2 (by omega) (cut 4 (cut 4 LL)) (ccbd hLL (by omega)))) rfl rfl (Nat.le_of_ble_eq_true rfl) (fun _ h => h) rfl ⟨(.head _), ⟨_, _, _, rfl⟩, trivial⟩ rfl rfl rfl (.cons .here .nil) ?_
          refine WO_gt rfl ?_
          have hD2 := RF_of (Dead_run (more2 3 3 LL) (more2bd 3 3 hLL (by omega)))
          rw [bishop_dead hLL] at hD2
          refine WO_call0 rfl (hD2) rfl rfl rfl ?_
          refine WO_gt rfl ?_
          refine WO_un (r := .bool _) rfl rfl ?_
          refine WO_pick (v := .s (.bool _)) rfl rfl ?_
          refine WO_mv (v := .s (.bool _)) rfl ?_
          refine WO_gt rfl ?_
          first | refine WO_ldA0 rfl rfl (.tail _ (.tail _ (.tail _ (.tail _ (.head _))))) ?_ | refine WO_ldAI rfl rfl (.tail _ (.tail _ (.tail _ (.tail _ (.head _))))) ?_
          refine WO_gt rfl ?_
          refine WO_mkslS rfl (.one rfl (.one rfl .nil)) ?_
          refine WO_gt rfl ?_
          refine WO_callq (rs := [6]) (Bs := [_]) rfl (RB_of1 (Add_run (md := .ro) (q := 2) (c := .ex 2) (ov (ov (fun _ => 0) (0 * 1) 2) (1 * 1) 4) 0 2 (by omega) (cut 4 (cut 4 LL)) (ccbd hLL (by omega)))) rfl rfl (Nat.le_of_ble_eq_true rfl) (fun _ h => h) rfl ⟨(.head _), ⟨_, _, _, rfl⟩, trivial⟩ rfl rfl rfl ?_
          refine WO_gt rfl ?_
          first | refine WO_ldA0 rfl rfl (.tail _ (.tail _ (.tail _ (.tail _ (.tail _ (.head _)))))) ?_ | refine WO_ldAI rfl rfl (.tail _ (.tail _ (.tail _ (.tail _ (.tail _ (.head _)))))) ?_
          refine WO_gt rfl ?_
          refine WO_mkslS rfl (.one rfl (.one rfl .nil)) ?_
          refine WO_gt rfl ?_
          refine WO_call (rs := [7]) (Bs := [_]) rfl (RB_of1 (Add_run (md := .var) (q := 2) (c := .ex 2) (ov (ov (fun _ => 0) (0 * 1) 4) (1 * 1) 2) 0 2 (by omega) (cut 4 (cut 4 LL)) (ccbd hLL (by omega)))) rfl rfl (Nat.le_of_ble_eq_true rfl) (fun _ h => h) rfl ⟨(.head _), ⟨_, _, _, rfl⟩, trivial⟩ rfl rfl rfl (.cons .here .nil) ?_
          refine WO_gt rfl ?_
          refine WO_eqaC rfl rfl (eqI4t (four4 rfl rfl rfl rfl)) ?_
          refine WO_pick (v := .s (.bool _)) rfl rfl ?_
          refine WO_mv (v := .s (.bool _)) rfl ?_
          refine WO_nil ?_
          refine WP_ret ?_
          refine ⟨_, RS_tmp (v := .s (.bool _)) rfl (RS_nil), ?_⟩
          rfl
end Go.Proofs.Ytjldefmcnppdoaa
