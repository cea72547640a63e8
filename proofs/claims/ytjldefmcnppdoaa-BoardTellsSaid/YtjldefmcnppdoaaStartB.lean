/- board.Start: the plain facts of its cells. -/
import Derived.Test.YtjldefmcnppdoaaStartA
namespace Go.Proofs.Ytjldefmcnppdoaa
open Go Go.Am
theorem emptyF_lo (i : Nat) (h : i < 128) : emptyF i = 0 := by
  unfold emptyF
  rw [show Nat.beq i 130 = false from Bool.eq_false_iff.2 fun e => by have := Nat.eq_of_beq_eq_true e; omega, show Nat.beq i 132 = false from Bool.eq_false_iff.2 fun e => by have := Nat.eq_of_beq_eq_true e; omega]
  rfl
theorem cur0 : curF 0 (fun _ => false) = emptyF := by
  funext i
  unfold curF
  rw [if_neg (by simp)]
theorem start_mid : ∀ i, i < 128 → i / 16 ≠ 0 → i / 16 ≠ 1 → i / 16 ≠ 6 → i / 16 ≠ 7 → startF i = 0 := by decide
theorem cur_next (j : Nat) (S : Nat → Bool) (h0 : S 0 = true) (h1 : S 1 = true) (h6 : S 6 = true) (h7 : S 7 = true) : curF j S = curF (j + 1) (fun _ => false) := by
  funext i
  unfold curF
  by_cases hi : i < 128
  · by_cases hj : i / 2 % 8 < j
    · rw [if_pos ⟨hi, .inl hj⟩, if_pos ⟨hi, .inl (by omega)⟩]
    · by_cases hj2 : i / 2 % 8 = j
      · rw [if_pos (c := i < 128 ∧ (i / 2 % 8 < j + 1 ∨ i / 2 % 8 = j + 1 ∧ false = true)) ⟨hi, .inl (by omega)⟩]
        by_cases hs : S (i / 16) = true
        · rw [if_pos ⟨hi, .inr ⟨hj2, hs⟩⟩]
        · rw [if_neg (by simp [hj, hs]), emptyF_lo i hi]
          exact (start_mid i hi (fun e => hs (by rw [e]; exact h0)) (fun e => hs (by rw [e]; exact h1)) (fun e => hs (by rw [e]; exact h6)) (fun e => hs (by rw [e]; exact h7))).symm
      · rw [if_neg (by simp [hj, hj2]), if_neg (by simp; omega)]
  · rw [if_neg (by simp [hi]), if_neg (by simp [hi])]
theorem cur_step (j k : Nat) (S : Nat → Bool) (Q : Nat → Int) (hj : j < 8) (hk : k < 8) (hQ : ∀ i, i < 2 → Q i = startF (2 * (8 * k + j) + i)) :
    ovA (curF j S) (0 + ((8 * k + j : Nat) : Int).toNat * 2) 2 Q = curF j (fun r => S r || Nat.beq r k) := by
  have e : ((8 * k + j : Nat) : Int).toNat = 8 * k + j := Int.toNat_natCast _
  rw [e]
  funext i
  unfold ovA
  cases hb : Nat.ble (0 + (8 * k + j) * 2) i && Nat.blt i (0 + (8 * k + j) * 2 + 2) with
  | true =>
    simp only [Bool.and_eq_true] at hb
    have h1 := Nat.le_of_ble_eq_true hb.1
    have h2 : i + 1 ≤ 0 + (8 * k + j) * 2 + 2 := Nat.le_of_ble_eq_true hb.2
    rw [cond_true, hQ _ (by omega)]
    unfold curF
    rw [if_pos ⟨by omega, .inr ⟨by omega, by rw [show i / 16 = k by omega]; simp⟩⟩]
    congr 1
    omega
  | false =>
    rw [cond_false]
    have hn : ¬ (i / 2 = 8 * k + j) := by
      intro h
      rw [show Nat.ble (0 + (8 * k + j) * 2) i = true from Nat.ble_eq_true_of_le (by omega), show Nat.blt i (0 + (8 * k + j) * 2 + 2) = true from Nat.ble_eq_true_of_le (by omega)] at hb
      cases hb
    unfold curF
    by_cases hr : Nat.beq (i / 16) k = true
    · have := Nat.eq_of_beq_eq_true hr
      by_cases hj2 : i / 2 % 8 = j
      · exact absurd (show i / 2 = 8 * k + j by omega) hn
      · simp only [hj2, false_and, or_false]
    · simp only [Bool.not_eq_true] at hr
      simp only [hr, Bool.or_false]
theorem cur_end : ov (curF 8 (fun _ => false)) 129 15 = startF := by
  funext i
  unfold ov
  by_cases h : i < 128
  · rw [show Nat.beq i 129 = false from Bool.eq_false_iff.2 fun e => by have := Nat.eq_of_beq_eq_true e; omega, cond_false]
    unfold curF
    rw [if_pos ⟨h, .inl (by omega)⟩]
  · unfold startF
    rw [show Nat.blt i 128 = false from Bool.eq_false_iff.2 fun e => by have := Nat.le_of_ble_eq_true e; omega, cond_false]
    cases Nat.beq i 129 with
    | true => rfl
    | false =>
      rw [cond_false, cond_false]
      unfold curF
      rw [if_neg (by simp [h])]
      rfl
/-- What the map of file j says. -/
def Ent (j : Nat) (es : List MapEntry) : Prop := ∀ e ∈ es, ∃ (k : Nat) (Q : Nat → Int), (k = 0 ∨ k = 1 ∨ k = 6 ∨ k = 7) ∧ e.key = .int .i64 (k : Int) ∧ (∀ i, i < 2 → Q i = startF (2 * (8 * k + j) + i)) ∧ ∀ ι, VR ι (.agg 2 (ia Q)) e.val
theorem start_at : ∀ j, j < 8 → startF (2 * (8 * 0 + j) + 0) = backK j ∧ startF (2 * (8 * 0 + j) + 1) = 0 ∧ startF (2 * (8 * 1 + j) + 0) = 1 ∧ startF (2 * (8 * 1 + j) + 1) = 0 ∧ startF (2 * (8 * 6 + j) + 0) = 1 ∧ startF (2 * (8 * 6 + j) + 1) = 1 ∧ startF (2 * (8 * 7 + j) + 0) = backK j ∧ startF (2 * (8 * 7 + j) + 1) = 1 := by decide
theorem ent_of {ι : Inj} {j : Nat} (hj : j < 8) {es : List MapEntry}
    (h : MR ι [(.int .i64 0, .agg 2 (ia (ov (fun _ => 0) 0 (backK j)))), (.int .i64 1, .agg 2 (ia (ov (fun _ => 0) 0 1))), (.int .i64 6, .agg 2 (ia (ov (ov (fun _ => 0) 0 1) 1 1))), (.int .i64 7, .agg 2 (ia (ov (ov (fun _ => 0) 0 (backK j)) 1 1)))] es) :
    Ent j es ∧ ∀ k : Nat, (k = 0 ∨ k = 1 ∨ k = 6 ∨ k = 7) → ∃ e ∈ es, e.key = .int .i64 (k : Int) := by
  obtain ⟨a1, a2, a3, a4, a5, a6, a7, a8⟩ := start_at j hj
  simp only [MR] at h
  obtain ⟨e0, r0, rfl, k0, v0, e1, r1, rfl, k1, v1, e2, r2, rfl, k2, v2, e3, r3, rfl, k3, v3, rfl⟩ := h
  have two : ∀ (Q : Nat → Int) (b : Nat), Q 0 = startF (2 * b + 0) → Q 1 = startF (2 * b + 1) → ∀ i, i < 2 → Q i = startF (2 * b + i) := by
    intro Q b h0 h1 i hi
    have : i = 0 ∨ i = 1 := by omega
    rcases this with rfl | rfl
    · exact h0
    · exact h1
  have any : ∀ (Q : Nat → Int) (v : Value), VR ι (.agg 2 (ia Q)) v → ∀ ι', VR ι' (.agg 2 (ia Q)) v := by
    intro Q v h ι'
    simpa only [VR] using h
  refine ⟨fun e he => ?_, fun k hk => ?_⟩
  · simp only [List.mem_cons, List.not_mem_nil, or_false] at he
    rcases he with rfl | rfl | rfl | rfl
    · exact ⟨0, ov (fun _ => 0) 0 (backK j), .inl rfl, k0, two _ _ a1.symm a2.symm, any _ _ v0⟩
    · exact ⟨1, ov (fun _ => 0) 0 1, .inr (.inl rfl), k1, two _ _ a3.symm a4.symm, any _ _ v1⟩
    · exact ⟨6, ov (ov (fun _ => 0) 0 1) 1 1, .inr (.inr (.inl rfl)), k2, two _ _ a5.symm a6.symm, any _ _ v2⟩
    · exact ⟨7, ov (ov (fun _ => 0) 0 (backK j)) 1 1, .inr (.inr (.inr rfl)), k3, two _ _ a7.symm a8.symm, any _ _ v3⟩
  · rcases hk with rfl | rfl | rfl | rfl
    · exact ⟨e0, by simp, k0⟩
    · exact ⟨e1, by simp, k1⟩
    · exact ⟨e2, by simp, k2⟩
    · exact ⟨e3, by simp, k3⟩
theorem left_iff {es : Array MapEntry} {seen : Array Nat} {e : MapEntry} : e ∈ (Go.leftOf es seen).toList ↔ e ∈ es.toList ∧ seen.contains e.born = false := by
  have hq : (Go.leftOf es seen).toList = es.toList.filter fun e => !seen.contains e.born := by unfold Go.leftOf; exact Array.toList_filter ..
  rw [hq, List.mem_filter]
  simp
theorem left_none {es : Array MapEntry} {seen : Array Nat} (h : (Go.leftOf es seen).size = 0) {e : MapEntry} (he : e ∈ es.toList) : seen.contains e.born = true := by
  cases hc : seen.contains e.born with
  | true => rfl
  | false =>
    have := left_iff.2 ⟨he, hc⟩
    rw [← Array.length_toList] at h
    rw [List.eq_nil_of_length_eq_zero h] at this
    cases this
theorem same_born {es : List MapEntry} {ck : Nat} (h : Stamps es ck) {e e' : MapEntry} (he : e ∈ es) (he' : e' ∈ es) (hb : e.born = e'.born) : e = e' := by
  have h1 := Go.find_born e es h.2 he
  have h2 := Go.find_born e' es h.2 he'
  rw [hb, h2] at h1
  injection h1 with h1
  exact h1.symm
end Go.Proofs.Ytjldefmcnppdoaa
