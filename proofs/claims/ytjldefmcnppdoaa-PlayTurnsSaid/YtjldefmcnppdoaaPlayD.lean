/- The walks of the chapter play: moves. -/
import Derived.Test.YtjldefmcnppdoaaPlayC
namespace Go.Proofs.Ytjldefmcnppdoaa
open Go Go.Am
set_option linter.unusedSimpArgs false
set_option linter.unusedVariables false
theorem errM_zero {P : Nat → Int} {a t b : Int} (h : errM P a t b = 0) : ((0 ≤ a ∧ a < 64) ∧ (0 ≤ t ∧ t < 64) ∧ a ≠ t) ∧ canM P a t b = true := by
  unfold errM at h
  split at h
  · rename_i h1
    split at h
    · rename_i h2; exact ⟨h1, h2⟩
    · omega
  · omega
theorem errM_in (P : Nat → Int) (a t b : Int) : errM P a t b = 0 ∨ errM P a t b = 6 ∨ errM P a t b = 8 := by
  unfold errM
  split
  · split <;> omega
  · omega
theorem canM_side {P : Nat → Int} {a t b : Int} (h : canM P a t b = true) : P (sqI a + 1) = 0 ∨ P (sqI a + 1) = 1 := (of_decide_eq_true h).2.2.2.1
theorem canM_kind {P : Nat → Int} {a t b : Int} (h : canM P a t b = true) : 1 ≤ P (sqI a) ∧ P (sqI a) ≤ 6 := ⟨(of_decide_eq_true h).1, (of_decide_eq_true h).2.1⟩

theorem ovA_zero : ovA (fun _ => 0) 0 133 (fun _ => 0) = (fun _ => 0 : Nat → Int) := by
  funext i
  by_cases h : i < 133
  · rw [ovA_at (by omega)]
  · rw [ovA_out (by omega)]

theorem ovA_id {Q : Nat → Int} (h : ∀ i, 133 ≤ i → Q i = 0) : ovA (fun _ => 0) 0 133 Q = Q := by
  funext i
  by_cases hi : i < 133
  · rw [ovA_at (by omega), Nat.sub_zero]
  · rw [ovA_out (by omega), h i (by omega)]

theorem afterM_out {P : Nat → Int} {k c a t b C : Int} {i : Nat} (hi : 133 ≤ i) : afterM P k c a t b C i = 0 := by
  unfold afterM
  rw [if_neg (by omega), if_neg (by omega), if_neg (by omega), if_neg (by omega), if_neg (by omega), if_neg (by omega)]

theorem moveM_out {P : Nat → Int} {a t b : Int} {i : Nat} (hi : 133 ≤ i) : moveM P a t b i = 0 := by
  unfold moveM
  split
  · exact afterM_out hi
  · rfl

theorem brd_same {P Q : Nat → Int} {w a t k c b g : Int} (h : ∀ i, i < 128 → P i = Q i) : ∀ i, i < 128 → brd4 P w a t k c b g i = brd4 Q w a t k c b g i := by
  have h1 : ∀ i, i < 128 → brd1 P w i = brd1 Q w i := by
    unfold brd1
    split
    · exact ovA_same h fun _ _ => rfl
    · exact h
  have h3 : ∀ i, i < 128 → brd3 P w a t k c b i = brd3 Q w a t k c b i := ovA_same (ovA_same h1 fun _ _ => rfl) fun _ _ => rfl
  unfold brd4
  split
  · exact ovA_same (ovA_same h3 fun _ _ => rfl) fun _ _ => rfl
  · split
    · exact ovA_same (ovA_same h3 fun _ _ => rfl) fun _ _ => rfl
    · exact h3

theorem afterM_same {P Q : Nat → Int} {k c a t b C : Int} (ha : 0 ≤ a ∧ a < 64) (ht : 0 ≤ t ∧ t < 64) (h : ∀ i, i < 133 → i ≠ 129 → P i = Q i) : afterM P k c a t b C = afterM Q k c a t b C := by
  funext i
  have ht2 : takesM P k a t = takesM Q k a t := takesM_same ha ht (fun i hi => h i (by omega) (by omega)) (h 130 (by omega) (by omega))
  unfold afterM
  rw [ht2]
  by_cases h1 : i < 128
  · rw [if_pos h1, if_pos h1]
    exact brd_same (fun i hi => h i (by omega) (by omega)) i h1
  · rw [if_neg h1, if_neg h1, h 128 (by omega) (by omega)]
    have hh : halfM P k (takesM Q k a t) = halfM Q k (takesM Q k a t) := by unfold halfM; rw [h 131 (by omega) (by omega)]
    have hf : fullM P = fullM Q := by unfold fullM; rw [h 128 (by omega) (by omega), h 132 (by omega) (by omega)]
    rw [hh, hf]

theorem HandOf.all {P m H : Nat → Int} (h : HandOf P m H) : ∀ i, i < 133 → i ≠ 129 → H i = P i := fun i hi hn => by
  by_cases hl : i < 129
  · exact h.lo i hl
  · exact h.hi i (by omega) hi

theorem after_hand {P m H : Nat → Int} (h : HandOf P m H) (he : errM P (m 0) (m 1) (m 2) = 0) : ovA (fun _ => 0) 0 133 (afterM H (H 136) (H 137) (H 133) (H 134) (H 135) (H 129)) = moveM P (m 0) (m 1) (m 2) := by
  have ⟨hs, _⟩ := errM_zero he
  rw [ovA_id (fun i hi => afterM_out hi), h.a, h.t, h.b, h.k, h.s, h.c, moveM, if_pos he]
  exact afterM_same hs.1 hs.2.1 h.all

theorem taken_ex (P m : Nat → Int) : (errM P (m 0) (m 1) (m 2) ≠ 0 ∧ RF AM 95 [.agg 133 (ia P), .agg 3 (ia m)] (.tup [.pnil, .s (.int .i64 (errM P (m 0) (m 1) (m 2)))])) ∨
    (errM P (m 0) (m 1) (m 2) = 0 ∧ ∃ H, HandOf P m H ∧ RN AM 95 [.agg 133 (ia P), .agg 3 (ia m)] [] (fun b => .tup [.ptr b 0 138, .s (.int .i64 0)]) (.sc .var 138 (ia H)) []) := by
  obtain ⟨v, σ', n', L', h1, h2, h3⟩ := taken_run P m
  rcases h3 with ⟨rfl, he⟩ | ⟨he, b, H, rfl, hH, hm⟩
  · exact .inl ⟨he, σ', h1⟩
  · rw [he] at h1
    exact .inr ⟨he, H, hH, b, σ', h1, Nat.zero_le _, (h2.2.mem hm).2, trivial⟩

theorem made_ex {P m H : Nat → Int} (h : HandOf P m H) (he : errM P (m 0) (m 1) (m 2) = 0) : ∃ J, RB AM 96 [.ptr 0 0 138] [.sc .var 138 (ia H)] (.agg 133 (ia (afterM H (H 136) (H 137) (H 133) (H 134) (H 135) (H 129)))) [.sc .var 138 (ia J)] := by
  have ⟨hs, hc⟩ := errM_zero he
  obtain ⟨v, σ', n', L', h1, h2, J, rfl, hm⟩ := made_run H (by rw [h.a]; exact hs.1) (by rw [h.t]; exact hs.2.1) (by rw [h.s]; exact canM_side hc) (by rw [h.c]; exact castM_bd P)
  exact ⟨J, σ', h1, (h2.2.mem hm).2, ⟨_, _, _, rfl⟩, trivial⟩

theorem takes_hand {P m H : Nat → Int} (h : HandOf P m H) (he : errM P (m 0) (m 1) (m 2) = 0) : RB AM 104 [.ptr 0 0 138] [.sc .var 138 (ia H)] (.s (.int .i64 (takesM P (P (sqI (m 0))) (m 0) (m 1)))) [.sc .var 138 (ia H)] := by
  have ⟨hs, hc⟩ := errM_zero he
  have hr := RB_of1 (takes_run (md := .var) H (by rw [h.a]; exact hs.1) (by rw [h.t]; exact hs.2.1))
  rw [h.a, h.t, h.k, takesM_same hs.1 hs.2.1 (fun i hi => h.lo i (by omega)) (h.hi 130 (by omega) (by omega))] at hr
  exact hr

theorem Move_walk (P m : Nat → Int) : WR AM 64 [.agg 133 (ia P), .agg 3 (ia m)] [] (fun v _ _ => v = .tup [.agg 133 (ia (moveM P (m 0) (m 1) (m 2))), .s (.int .i64 (errM P (m 0) (m 1) (m 2)))]) := by
 refine WR_fn (a := a64) rfl rfl (entryF _) (entry_E (Nat.le_of_ble_eq_true rfl)) (m := 0) rfl ?_
 refine WP_seq ?_
 refine WP_ops ?_
 refine WO_boxA rfl ?_
 refine WO_boxA rfl ?_
 refine WO_allocI ?_
 refine WO_mv rfl ?_
 refine WO_nil ?_
 refine WP_seq ?_
 refine WP_ops ?_
 first | refine WO_ldA0 rfl rfl (.tail _ (.tail _ (.head _))) ?_ | refine WO_ldAI rfl rfl (.tail _ (.tail _ (.head _))) ?_
 first | refine WO_ldA0 rfl rfl (.tail _ (.head _)) ?_ | refine WO_ldAI rfl rfl (.tail _ (.head _)) ?_
 rcases taken_ex P m with ⟨he, hT⟩ | ⟨he, H, hH, hT⟩
 ·skip
  refine WO_call0 rfl (hT) rfl rfl rfl ?_
  refine WO_mv (v := .tup _) rfl ?_
  refine WO_ext (v := .pnil) rfl rfl ?_
  refine WO_ext (v := .s (.int _ _)) rfl rfl ?_
  refine WO_mv (v := .pnil) rfl ?_
  refine WO_mv (v := .s (.int _ _)) rfl ?_
  refine WO_nil ?_
  refine WP_seq ?_
  refine WP_seq ?_
  refine WP_ops ?_
  refine WO_mv (v := .s (.int _ _)) rfl ?_
  refine WO_bin (r := .bool _) rfl rfl rfl ?_
  refine WO_nil ?_
  refine WP_cond rfl (fun h1 => ?_) (fun h1 => ?_)
  ·try simp only [NM] at h1
   try simp only [isM, decide_eq_true_eq, decide_eq_false_iff_not] at h1
   refine WP_seq ?_
   refine WP_ops ?_
   refine WO_buildI rfl .nil ?_
   refine WO_mv (v := .s (.int _ _)) rfl ?_
   refine WO_stA rfl rfl rfl rfl .here ?_
   refine WO_mv (v := .s (.int _ _)) rfl ?_
   refine WO_nil ?_
   refine WP_ret ?_
   refine ⟨_, RS_cell rfl rfl (.head _) (RS_tmp (v := .s (.int _ _)) rfl (RS_nil)), ?_⟩
   rw [moveM, if_neg he]
   exact congrArg (fun g => V.tup [V.agg 133 (ia g), V.s (.int .i64 (errM P (m 0) (m 1) (m 2)))]) ovA_zero
  ·try simp only [NM] at h1
   try simp only [isM, decide_eq_true_eq, decide_eq_false_iff_not] at h1
   exfalso; first | omega | (simp at h1)
 ·skip
  refine WO_callN (mk := fun b => .tup [.ptr b 0 138, .s (.int .i64 0)]) (rs := []) (Bs := []) One_ptrS rfl hT rfl rfl (Nat.le_of_ble_eq_true rfl) (fun _ h => h) rfl trivial rfl rfl .nil ?_
  refine WO_mv (v := .tup _) rfl ?_
  refine WO_ext (v := .ptr _ _ _) rfl rfl ?_
  refine WO_ext (v := .s (.int _ _)) rfl rfl ?_
  refine WO_mv (v := .ptr _ _ _) rfl ?_
  refine WO_mv (v := .s (.int _ _)) rfl ?_
  refine WO_nil ?_
  refine WP_seq ?_
  refine WP_seq ?_
  refine WP_ops ?_
  refine WO_mv (v := .s (.int _ _)) rfl ?_
  refine WO_bin (r := .bool _) rfl rfl rfl ?_
  refine WO_nil ?_
  refine WP_cond rfl (fun h2 => ?_) (fun h2 => ?_)
  ·try simp only [NM] at h2
   try simp only [isM, decide_eq_true_eq, decide_eq_false_iff_not] at h2
   exfalso; first | omega | (simp at h2)
  ·try simp only [NM] at h2
   try simp only [isM, decide_eq_true_eq, decide_eq_false_iff_not] at h2
   refine WP_skip ?_
   refine WP_seq ?_
   refine WP_ops ?_
   refine WO_mv (v := .ptr _ _ _) rfl ?_
   obtain ⟨J, hJ⟩ := made_ex hH he
   refine WO_callP rfl (hJ) rfl rfl rfl .here ?_
   refine WO_stA rfl rfl rfl rfl (.there .here) ?_
   refine WO_mv rfl ?_
   refine WO_nil ?_
   refine WP_ret ?_
   refine ⟨_, RS_cell rfl rfl (.tail _ (.head _)) (RS_tmp (v := .s (.int _ _)) rfl (RS_nil)), ?_⟩
   rw [he, ← after_hand hH he]
   rfl
theorem Takes_walk (P m : Nat → Int) : WR AM 66 [.agg 133 (ia P), .agg 3 (ia m)] [] (fun v _ _ => v = .s (.int .i64 (if errM P (m 0) (m 1) (m 2) = 0 then takesM P (P (sqI (m 0))) (m 0) (m 1) else -1))) := by
 refine WR_fn (a := a66) rfl rfl (entryF _) (entry_E (Nat.le_of_ble_eq_true rfl)) (m := 0) rfl ?_
 refine WP_seq ?_
 refine WP_ops ?_
 refine WO_boxA rfl ?_
 refine WO_boxA rfl ?_
 refine WO_mv rfl ?_
 refine WO_nil ?_
 refine WP_seq ?_
 refine WP_ops ?_
 first | refine WO_ldA0 rfl rfl (.tail _ (.head _)) ?_ | refine WO_ldAI rfl rfl (.tail _ (.head _)) ?_
 first | refine WO_ldA0 rfl rfl (.head _) ?_ | refine WO_ldAI rfl rfl (.head _) ?_
 rcases taken_ex P m with ⟨he, hT⟩ | ⟨he, H, hH, hT⟩
 ·skip
  refine WO_call0 rfl (hT) rfl rfl rfl ?_
  refine WO_mv (v := .tup _) rfl ?_
  refine WO_ext (v := .pnil) rfl rfl ?_
  refine WO_ext (v := .s (.int _ _)) rfl rfl ?_
  refine WO_mv (v := .pnil) rfl ?_
  refine WO_mv (v := .s (.int _ _)) rfl ?_
  refine WO_nil ?_
  refine WP_seq ?_
  refine WP_seq ?_
  refine WP_ops ?_
  refine WO_mv (v := .s (.int _ _)) rfl ?_
  refine WO_bin (r := .bool _) rfl rfl rfl ?_
  refine WO_nil ?_
  refine WP_cond rfl (fun h3 => ?_) (fun h3 => ?_)
  ·try simp only [NM] at h3
   try simp only [isM, decide_eq_true_eq, decide_eq_false_iff_not] at h3
   refine WP_seq ?_
   refine WP_ops ?_
   refine WO_mv rfl ?_
   refine WO_nil ?_
   refine WP_ret ?_
   refine ⟨_, RS_tmp (v := .s (.int _ _)) rfl (RS_nil), ?_⟩
   rw [if_neg he]
   rfl
  ·try simp only [NM] at h3
   try simp only [isM, decide_eq_true_eq, decide_eq_false_iff_not] at h3
   exfalso; first | omega | (simp at h3)
 ·skip
  refine WO_callN (mk := fun b => .tup [.ptr b 0 138, .s (.int .i64 0)]) (rs := []) (Bs := []) One_ptrS rfl hT rfl rfl (Nat.le_of_ble_eq_true rfl) (fun _ h => h) rfl trivial rfl rfl .nil ?_
  refine WO_mv (v := .tup _) rfl ?_
  refine WO_ext (v := .ptr _ _ _) rfl rfl ?_
  refine WO_ext (v := .s (.int _ _)) rfl rfl ?_
  refine WO_mv (v := .ptr _ _ _) rfl ?_
  refine WO_mv (v := .s (.int _ _)) rfl ?_
  refine WO_nil ?_
  refine WP_seq ?_
  refine WP_seq ?_
  refine WP_ops ?_
  refine WO_mv (v := .s (.int _ _)) rfl ?_
  refine WO_bin (r := .bool _) rfl rfl rfl ?_
  refine WO_nil ?_
  refine WP_cond rfl (fun h4 => ?_) (fun h4 => ?_)
  ·try simp only [NM] at h4
   try simp only [isM, decide_eq_true_eq, decide_eq_false_iff_not] at h4
   exfalso; first | omega | (simp at h4)
  ·try simp only [NM] at h4
   try simp only [isM, decide_eq_true_eq, decide_eq_false_iff_not] at h4
   refine WP_skip ?_
   refine WP_seq ?_
   refine WP_ops ?_
   refine WO_mv (v := .ptr _ _ _) rfl ?_
   refine WO_callP rfl (takes_hand hH he) rfl rfl rfl .here ?_
   refine WO_mv (v := .s (.int _ _)) rfl ?_
   refine WO_nil ?_
   refine WP_ret ?_
   refine ⟨_, RS_tmp (v := .s (.int _ _)) rfl (RS_nil), ?_⟩
   rw [if_pos he]
   rfl
theorem rTakes_ok {P m : Nat → Int} (he : errM P (m 0) (m 1) (m 2) = 0) : RF AM 67 [.agg 133 (ia P), .agg 3 (ia m)] (.s (.int .i64 (takesM P (P (sqI (m 0))) (m 0) (m 1)))) := by
  have h := RF_of (rTakes_run P m)
  rw [if_pos he] at h
  exact h
theorem rWithout_ok {P m : Nat → Int} : RF AM 100 [.s (.int .i64 (withoutM (castM P) (lostM (m 0)))), .s (.int .i64 (lostM (m 1)))] (.s (.int .i64 (andNotM (castM P) (orM (orM 0 (lostM (m 0))) (lostM (m 1)))))) := by
  have h := RF_of (without_run (withoutM (castM P) (lostM (m 0))) (lostM (m 1)) (withoutM_bd _ _) (lostM_bd _))
  rw [without_is (castM_bd P)] at h
  exact h
structure SameP (P J B : Nat → Int) : Prop where
  lo : ∀ i, i < 128 → J i = B i
  hi : ∀ i, 128 ≤ i → i < 133 → J i = P i
theorem SameP.put {P J B X Y : Nat → Int} {t : Int} (j : SameP P J B) (ht : 0 ≤ t ∧ t < 64) (hx : ∀ i, i < 2 → X i = Y i) : SameP P (ovA J (0 + t.toNat * 2) 2 X) (ovA B (sqI t) 2 Y) :=
  ⟨ovA_same j.lo hx, fun i h1 h2 => by rw [ovA_out (by omega)]; exact j.hi i h1 h2⟩
theorem SameP.kind {P J B X Y : Nat → Int} {t b : Int} (j : SameP P (ovA J (0 + t.toNat * 2) 2 X) (ovA B (sqI t) 2 X)) (ht : 0 ≤ t ∧ t < 64) (h0 : Y 0 = b) (h1 : Y 1 = X 1) : SameP P (ov (ovA J (0 + t.toNat * 2) 2 X) (0 + t.toNat * 2 + 0) b) (ovA B (sqI t) 2 Y) := by
  have hsq : sqI t = 0 + t.toNat * 2 := rfl
  refine ⟨fun i hi => ?_, fun i h1 h2 => by rw [ov_out (by omega)]; exact j.hi i h1 h2⟩
  have hj := j.lo i hi
  by_cases q : i = 0 + t.toNat * 2 + 0
  · subst q
    rw [ovA_at (by omega), show 0 + t.toNat * 2 + 0 - sqI t = 0 from by show 0 + t.toNat * 2 + 0 - (0 + t.toNat * 2) = 0; omega, h0]
    show (bif Nat.beq _ _ then b else _) = b
    rw [show Nat.beq (0 + t.toNat * 2 + 0) (0 + t.toNat * 2 + 0) = true from by simp]
    rfl
  · rw [ov_out q, hj]
    by_cases r : sqI t ≤ i ∧ i < sqI t + 2
    · have e : i - sqI t = 1 := by
        have : sqI t = 0 + t.toNat * 2 := rfl
        omega
      rw [ovA_at r, ovA_at r, e, h1]
    · rw [ovA_out (by omega), ovA_out (by omega)]
/-- What is done, so far. -/
structure DoneP (P J B : Nat → Int) (s cs ovr hf fl : Int) : Prop where
  lo : ∀ i, i < 128 → J i = B i
  s : J 128 = s
  c : J 129 = cs
  o : J 130 = ovr
  h : J 131 = hf
  f : J 132 = fl
theorem doneP_is {P J : Nat → Int} {k c a t b C : Int} (h : DoneP P J (brd4 P (takesM P k a t) a t k c b (castlingM k a t c C)) (otherM (P 128)) (andNotM C (orM (orM 0 (lostM a)) (lostM t))) (overM k a t c) (halfM P k (takesM P k a t)) (fullM P)) : ovA (fun _ => 0) 0 133 J = afterM P k c a t b C := by
  funext i
  unfold afterM
  by_cases hi : i < 133
  · rw [ovA_at (by omega), Nat.sub_zero]
    by_cases h1 : i < 128
    · rw [if_pos h1]; exact h.lo i h1
    · rw [if_neg h1]
      have hc : i = 128 ∨ i = 129 ∨ i = 130 ∨ i = 131 ∨ i = 132 := by omega
      rcases hc with rfl | rfl | rfl | rfl | rfl
      · exact h.s
      · exact h.c
      · exact h.o
      · exact h.h
      · exact h.f
  · rw [ovA_out (by omega), if_neg (by omega), if_neg (by omega), if_neg (by omega), if_neg (by omega), if_neg (by omega), if_neg (by omega)]

theorem rMove_walk (P m : Nat → Int) : WR AM 65 [.agg 133 (ia P), .agg 3 (ia m)] [] (fun v _ _ => v = .tup [.agg 133 (ia (moveM P (m 0) (m 1) (m 2))), .s (.int .i64 (errM P (m 0) (m 1) (m 2)))]) := by
 refine WR_fn (a := a65) rfl rfl (entryF _) (entry_E (Nat.le_of_ble_eq_true rfl)) (m := 0) rfl ?_
 refine WP_seq ?_
 refine WP_ops ?_
 refine WO_boxA rfl ?_
 refine WO_boxA rfl ?_
 refine WO_allocI ?_
 refine WO_mv rfl ?_
 refine WO_nil ?_
 refine WP_seq ?_
 refine WP_seq ?_
 refine WP_ops ?_
 refine WO_fa (o' := 0) rfl rfl rfl ?_
 refine WO_ldI rfl rfl (.tail _ (.head _)) rfl ?_
 refine WO_call0 rfl (RF_of (ris_run _)) rfl rfl rfl ?_
 refine WO_un (r := .bool _) rfl rfl ?_
 refine WO_mv (v := .s (.bool _)) rfl ?_
 refine WO_case (t := 13) rfl (fun h5 => ?_) (fun h5 => ?_)
 ·try simp only [NM] at h5
  try simp only [isM, decide_eq_true_eq, decide_eq_false_iff_not] at h5
  refine WO_gf rfl rfl ?_
  refine WO_gf rfl rfl ?_
  refine WO_gf rfl rfl ?_
  refine WO_gf rfl rfl ?_
  refine WO_pick (v := .s (.bool _)) rfl rfl ?_
  refine WO_mv (v := .s (.bool _)) rfl ?_
  refine WO_gf rfl rfl ?_
  refine WO_gf rfl rfl ?_
  refine WO_gf rfl rfl ?_
  refine WO_gf rfl rfl ?_
  refine WO_gf rfl rfl ?_
  refine WO_pick (v := .s (.bool _)) rfl rfl ?_
  refine WO_nil ?_
  refine WP_cond rfl (fun _ => ?_) (fun h => nomatch h)
  refine WP_seq ?_
  refine WP_ops ?_
  refine WO_buildI rfl .nil ?_
  refine WO_stA rfl rfl rfl rfl .here ?_
  refine WO_mv rfl ?_
  refine WO_nil ?_
  refine WP_ret ?_
  refine ⟨_, RS_cell rfl rfl (.head _) (RS_tmp (v := .s (.int _ _)) rfl (RS_nil)), ?_⟩
  have h6 := errM_out (P := P) (a := m 0) (t := m 1) (b := m 2) (by omega)
  rw [moveM, h6, if_neg (by decide)]
  exact congrArg (fun g => V.tup [V.agg 133 (ia g), V.s (.int .i64 6)]) ovA_zero
 ·try simp only [NM] at h5
  try simp only [isM, decide_eq_true_eq, decide_eq_false_iff_not] at h5
  refine WO_gt rfl ?_
  refine WO_fa (o' := 1) rfl rfl rfl ?_
  refine WO_gt rfl ?_
  refine WO_ldI rfl rfl (.tail _ (.head _)) rfl ?_
  refine WO_gt rfl ?_
  refine WO_call0 rfl (RF_of (ris_run _)) rfl rfl rfl ?_
  refine WO_gt rfl ?_
  refine WO_un (r := .bool _) rfl rfl ?_
  refine WO_pick (v := .s (.bool _)) rfl rfl ?_
  refine WO_mv (v := .s (.bool _)) rfl ?_
  refine WO_case (t := 19) rfl (fun h6 => ?_) (fun h6 => ?_)
  ·try simp only [NM] at h6
   try simp only [isM, decide_eq_true_eq, decide_eq_false_iff_not] at h6
   refine WO_gf rfl rfl ?_
   refine WO_gf rfl rfl ?_
   refine WO_gf rfl rfl ?_
   refine WO_gf rfl rfl ?_
   refine WO_gf rfl rfl ?_
   refine WO_pick (v := .s (.bool _)) rfl rfl ?_
   refine WO_nil ?_
   refine WP_cond rfl (fun _ => ?_) (fun h => nomatch h)
   refine WP_seq ?_
   refine WP_ops ?_
   refine WO_buildI rfl .nil ?_
   refine WO_stA rfl rfl rfl rfl .here ?_
   refine WO_mv rfl ?_
   refine WO_nil ?_
   refine WP_ret ?_
   refine ⟨_, RS_cell rfl rfl (.head _) (RS_tmp (v := .s (.int _ _)) rfl (RS_nil)), ?_⟩
   have h6 := errM_out (P := P) (a := m 0) (t := m 1) (b := m 2) (by omega)
   rw [moveM, h6, if_neg (by decide)]
   exact congrArg (fun g => V.tup [V.agg 133 (ia g), V.s (.int .i64 6)]) ovA_zero
  ·try simp only [NM] at h6
   try simp only [isM, decide_eq_true_eq, decide_eq_false_iff_not] at h6
   refine WO_gt rfl ?_
   refine WO_fa (o' := 0) rfl rfl rfl ?_
   refine WO_gt rfl ?_
   refine WO_ldI rfl rfl (.tail _ (.head _)) rfl ?_
   refine WO_gt rfl ?_
   refine WO_fa (o' := 1) rfl rfl rfl ?_
   refine WO_gt rfl ?_
   refine WO_ldI rfl rfl (.tail _ (.head _)) rfl ?_
   refine WO_gt rfl ?_
   refine WO_bin (r := .bool _) rfl rfl rfl ?_
   refine WO_pick (v := .s (.bool _)) rfl rfl ?_
   refine WO_nil ?_
   refine WP_cond rfl (fun h7 => ?_) (fun h7 => ?_)
   ·try simp only [NM] at h7
    try simp only [isM, decide_eq_true_eq, decide_eq_false_iff_not] at h7
    refine WP_seq ?_
    refine WP_ops ?_
    refine WO_buildI rfl .nil ?_
    refine WO_stA rfl rfl rfl rfl .here ?_
    refine WO_mv rfl ?_
    refine WO_nil ?_
    refine WP_ret ?_
    refine ⟨_, RS_cell rfl rfl (.head _) (RS_tmp (v := .s (.int _ _)) rfl (RS_nil)), ?_⟩
    have h6 := errM_out (P := P) (a := m 0) (t := m 1) (b := m 2) (by omega)
    rw [moveM, h6, if_neg (by decide)]
    exact congrArg (fun g => V.tup [V.agg 133 (ia g), V.s (.int .i64 6)]) ovA_zero
   ·try simp only [NM] at h7
    try simp only [isM, decide_eq_true_eq, decide_eq_false_iff_not] at h7
    refine WP_skip ?_
    refine WP_seq ?_
    refine WP_seq ?_
    refine WP_ops ?_
    first | refine WO_ldA0 rfl rfl (.tail _ (.tail _ (.head _))) ?_ | refine WO_ldAI rfl rfl (.tail _ (.tail _ (.head _))) ?_
    first | refine WO_ldA0 rfl rfl (.tail _ (.head _)) ?_ | refine WO_ldAI rfl rfl (.tail _ (.head _)) ?_
    refine WO_call0 rfl (RF_of (rCan_run _ _ (by assumption) (by assumption))) rfl rfl rfl ?_
    refine WO_un (r := .bool _) rfl rfl ?_
    refine WO_nil ?_
    refine WP_cond rfl (fun h8 => ?_) (fun h8 => ?_)
    ·try simp only [NM] at h8
     try simp only [isM, decide_eq_true_eq, decide_eq_false_iff_not] at h8
     refine WP_seq ?_
     refine WP_ops ?_
     refine WO_buildI rfl .nil ?_
     refine WO_stA rfl rfl rfl rfl .here ?_
     refine WO_mv rfl ?_
     refine WO_nil ?_
     refine WP_ret ?_
     refine ⟨_, RS_cell rfl rfl (.head _) (RS_tmp (v := .s (.int _ _)) rfl (RS_nil)), ?_⟩
     have h8 := errM_not (P := P) (a := m 0) (t := m 1) (b := m 2) ⟨by assumption, by assumption, by assumption⟩ (by assumption)
     rw [moveM, h8, if_neg (by decide)]
     exact congrArg (fun g => V.tup [V.agg 133 (ia g), V.s (.int .i64 8)]) ovA_zero
    ·try simp only [NM] at h8
     try simp only [isM, decide_eq_true_eq, decide_eq_false_iff_not] at h8
     refine WP_skip ?_
     refine WP_seq ?_
     refine WP_ops ?_
     refine WO_fa (o' := 0) rfl rfl rfl ?_
     refine WO_ldI rfl rfl (.tail _ (.head _)) rfl ?_
     refine WO_fa (o' := 0) rfl rfl rfl ?_
     refine WO_ixa rfl rfl rfl (by first | omega | (have := hca (by omega); omega)) ?_
     first | refine WO_ldA0 rfl rfl (.tail _ (.tail _ (.head _))) ?_ | refine WO_ldAI rfl rfl (.tail _ (.tail _ (.head _))) ?_
     refine WO_allocI ?_
     refine WO_stA rfl rfl rfl rfl .here ?_
     refine WO_nil ?_
     refine WP_seq ?_
     refine WP_ops ?_
     first | refine WO_ldA0 rfl rfl (.tail _ (.tail _ (.tail _ (.head _)))) ?_ | refine WO_ldAI rfl rfl (.tail _ (.tail _ (.tail _ (.head _)))) ?_
     refine WO_allocI ?_
     refine WO_stA rfl rfl rfl rfl .here ?_
     refine WO_nil ?_
     refine WP_seq ?_
     refine WP_ops ?_
     first | refine WO_ldA0 rfl rfl (.tail _ (.tail _ (.tail _ (.tail _ (.head _))))) ?_ | refine WO_ldAI rfl rfl (.tail _ (.tail _ (.tail _ (.tail _ (.head _))))) ?_
     first | refine WO_ldA0 rfl rfl (.tail _ (.tail _ (.tail _ (.head _)))) ?_ | refine WO_ldAI rfl rfl (.tail _ (.tail _ (.tail _ (.head _)))) ?_
     have hs : (0 ≤ m 0 ∧ m 0 < 64) ∧ (0 ≤ m 1 ∧ m 1 < 64) ∧ m 0 ≠ m 1 := ⟨by assumption, by assumption, by assumption⟩
     have hcan : canM P (m 0) (m 1) (m 2) = true := by assumption
     have he := errM_ok hs hcan
     have hb := takesM_bd (P := P) (k := (P (sqI (m 0)))) hs.1 hs.2.1
     refine WO_call0 rfl (rTakes_ok he) rfl rfl rfl ?_
     refine WO_mv (v := .s (.int _ _)) rfl ?_
     refine WO_nil ?_
     refine WP_cut (fun f n L => ∃ (X J : Nat → Int), (errM P (m 0) (m 1) (m 2) = 0) ∧ (0 ≤ m 0 ∧ m 0 < 64) ∧ (0 ≤ m 1 ∧ m 1 < 64) ∧ ((P (sqI (m 0) + 1)) = 0 ∨ (P (sqI (m 0) + 1)) = 1) ∧ (X 0 = (P (sqI (m 0)))) ∧ (X 1 = (P (sqI (m 0) + 1))) ∧ (SameP P J (brd1 P (takesM P (P (sqI (m 0))) (m 0) (m 1)))) ∧ (f 2 = .ptr 0 0 133) ∧ (f 3 = .ptr 1 0 3) ∧ (f 4 = .ptr 2 0 133) ∧ (f 6 = .ptr 3 0 2) ∧ (f 7 = .ptr 4 0 133) ∧ (f 8 = .s (.int .i64 (takesM P (P (sqI (m 0))) (m 0) (m 1)))) ∧ (L = [(4, .sc .var 133 (ia J)), (3, .sc .var 2 (ia X)), (2, .sc .var 133 (ia fun _ => 0)), (1, .sc .var 3 (ia m)), (0, .sc .var 133 (ia P))]) ∧ (n = 5)) ?_ (fun f nb L hI => ?_)
     ·skip
      refine WP_seq ?_
      refine WP_ops ?_
      refine WO_mv (v := .s (.int _ _)) rfl ?_
      refine WO_bin (r := .bool _) rfl rfl rfl ?_
      refine WO_nil ?_
      refine WP_cond rfl (fun h9 => ?_) (fun h9 => ?_)
      ·try simp only [NM] at h9
       try simp only [isM, decide_eq_true_eq, decide_eq_false_iff_not] at h9
       refine WP_ops ?_
       refine WO_mv (v := .s (.int _ _)) rfl ?_
       refine WO_buildI rfl .nil ?_
       refine WO_fa (o' := 0) rfl rfl rfl ?_
       refine WO_ixa rfl rfl rfl (by first | omega | (have := hca (by omega); omega)) ?_
       refine WO_stA rfl rfl rfl rfl .here ?_
       refine WO_nil ?_
       refine ⟨_, (.cons_cons _ (.cons_cons _ (.cons_cons _ (.cons_cons _ (.cons_cons _ .slnil))))), _, _, he, hs.1, hs.2.1, canM_side hcan, ?_, ?_, ?_, rfl, rfl, rfl, rfl, rfl, rfl, rfl, rfl⟩
       · rfl
       · rfl
       · have h0 : SameP P (ovA (fun _ => 0) 0 133 P) P := ⟨fun i hi => by rw [ovA_at (by omega), Nat.sub_zero], fun i _ hi => by rw [ovA_at (by omega), Nat.sub_zero]⟩
         have hb := takesM_bd (P := P) (k := (P (sqI (m 0)))) hs.1 hs.2.1
         rw [brd1]
         first | (rw [if_pos (by assumption)]; exact h0.put (by omega) (fun _ _ => rfl)) | (rw [if_neg (by omega)]; exact h0)
      ·try simp only [NM] at h9
       try simp only [isM, decide_eq_true_eq, decide_eq_false_iff_not] at h9
       refine WP_skip ?_
       refine ⟨_, (.cons_cons _ (.cons_cons _ (.cons_cons _ (.cons_cons _ (.cons_cons _ .slnil))))), _, _, he, hs.1, hs.2.1, canM_side hcan, ?_, ?_, ?_, rfl, rfl, rfl, rfl, rfl, rfl, rfl, rfl⟩
       · rfl
       · rfl
       · have h0 : SameP P (ovA (fun _ => 0) 0 133 P) P := ⟨fun i hi => by rw [ovA_at (by omega), Nat.sub_zero], fun i _ hi => by rw [ovA_at (by omega), Nat.sub_zero]⟩
         have hb := takesM_bd (P := P) (k := (P (sqI (m 0)))) hs.1 hs.2.1
         rw [brd1]
         first | (rw [if_pos (by assumption)]; exact h0.put (by omega) (fun _ _ => rfl)) | (rw [if_neg (by omega)]; exact h0)
     ·skip
      obtain ⟨X, J, he, ha, ht, hc, hx0, hx1, hJ, k2, k3, k4, k6, k7, k8, rfl, rfl⟩ := hI
      refine WP_know (d := 2) (v := .ptr 0 0 133) k2 ?_
      refine WP_know (d := 3) (v := .ptr 1 0 3) k3 ?_
      refine WP_know (d := 4) (v := .ptr 2 0 133) k4 ?_
      refine WP_know (d := 6) (v := .ptr 3 0 2) k6 ?_
      refine WP_know (d := 7) (v := .ptr 4 0 133) k7 ?_
      refine WP_know (d := 8) (v := .s (.int .i64 (takesM P (P (sqI (m 0))) (m 0) (m 1)))) k8 ?_
      have hb := takesM_bd (P := P) (k := (P (sqI (m 0)))) ha ht
      refine WP_seq ?_
      refine WP_ops ?_
      refine WO_fa (o' := 0) rfl rfl rfl ?_
      refine WO_ldI rfl rfl (.tail _ (.tail _ (.tail _ (.head _)))) rfl ?_
      refine WO_buildI rfl .nil ?_
      refine WO_fa (o' := 0) rfl rfl rfl ?_
      refine WO_ixa rfl rfl rfl (by first | omega | (have := hca (by omega); omega)) ?_
      refine WO_stA rfl rfl rfl rfl .here ?_
      refine WO_nil ?_
      refine WP_seq ?_
      refine WP_ops ?_
      refine WO_fa (o' := 1) rfl rfl rfl ?_
      refine WO_ldI rfl rfl (.tail _ (.tail _ (.tail _ (.head _)))) rfl ?_
      first | refine WO_ldA0 rfl rfl (.tail _ (.head _)) ?_ | refine WO_ldAI rfl rfl (.tail _ (.head _)) ?_
      refine WO_fa (o' := 0) rfl rfl rfl ?_
      refine WO_ixa rfl rfl rfl (by first | omega | (have := hca (by omega); omega)) ?_
      refine WO_stA rfl rfl rfl rfl .here ?_
      refine WO_nil ?_
      refine WP_cut (fun f n L => ∃ (J : Nat → Int), (SameP P J (brd3 P (takesM P (P (sqI (m 0))) (m 0) (m 1)) (m 0) (m 1) (P (sqI (m 0))) (P (sqI (m 0) + 1)) (m 2))) ∧ (f 2 = .ptr 0 0 133) ∧ (f 3 = .ptr 1 0 3) ∧ (f 4 = .ptr 2 0 133) ∧ (f 6 = .ptr 3 0 2) ∧ (f 7 = .ptr 4 0 133) ∧ (f 8 = .s (.int .i64 (takesM P (P (sqI (m 0))) (m 0) (m 1)))) ∧ (L = [(4, .sc .var 133 (ia J)), (3, .sc .var 2 (ia X)), (2, .sc .var 133 (ia fun _ => 0)), (1, .sc .var 3 (ia m)), (0, .sc .var 133 (ia P))]) ∧ (n = 5)) ?_ (fun f nb L hI => ?_)
      ·skip
       refine WP_seq ?_
       refine WP_ops ?_
       refine WO_fa (o' := 2) rfl rfl rfl ?_
       refine WO_ldI rfl rfl (.tail _ (.tail _ (.tail _ (.head _)))) rfl ?_
       refine WO_bin (r := .bool _) rfl rfl rfl ?_
       refine WO_nil ?_
       refine WP_cond rfl (fun h10 => ?_) (fun h10 => ?_)
       ·try simp only [NM] at h10
        try simp only [isM, decide_eq_true_eq, decide_eq_false_iff_not] at h10
        refine WP_ops ?_
        refine WO_fa (o' := 1) rfl rfl rfl ?_
        refine WO_ldI rfl rfl (.tail _ (.tail _ (.tail _ (.head _)))) rfl ?_
        refine WO_fa (o' := 2) rfl rfl rfl ?_
        refine WO_ldI rfl rfl (.tail _ (.tail _ (.tail _ (.head _)))) rfl ?_
        refine WO_fa (o' := 0) rfl rfl rfl ?_
        refine WO_ixa rfl rfl rfl (by first | omega | (have := hca (by omega); omega)) ?_
        refine WO_fa rfl rfl rfl ?_
        refine WO_stI rfl rfl rfl rfl .here ?_
        refine WO_nil ?_
        refine ⟨_, (.cons_cons _ (.cons_cons _ (.cons_cons _ (.cons_cons _ (.cons_cons _ .slnil))))), _, ?_, rfl, rfl, rfl, rfl, rfl, rfl, rfl, rfl⟩
        have h2 := (hJ.put (X := fun _ => 0) (Y := nopc) ha (fun _ _ => rfl)).put (X := X) (Y := X) ht (fun _ _ => rfl)
        first | exact h2.kind (Y := pc (if m 2 = 0 then (P (sqI (m 0))) else m 2) (P (sqI (m 0) + 1))) ht (show (if m 2 = 0 then (P (sqI (m 0))) else m 2) = m 2 from if_neg (by assumption)) hx1.symm | exact (hJ.put (X := fun _ => 0) (Y := nopc) ha (fun _ _ => rfl)).put (X := X) ht (two (Y := pc (if m 2 = 0 then (P (sqI (m 0))) else m 2) (P (sqI (m 0) + 1))) (hx0.trans (if_pos (by assumption)).symm) hx1)
       ·try simp only [NM] at h10
        try simp only [isM, decide_eq_true_eq, decide_eq_false_iff_not] at h10
        refine WP_skip ?_
        refine ⟨_, (.cons_cons _ (.cons_cons _ (.cons_cons _ (.cons_cons _ (.cons_cons _ .slnil))))), _, ?_, rfl, rfl, rfl, rfl, rfl, rfl, rfl, rfl⟩
        have h2 := (hJ.put (X := fun _ => 0) (Y := nopc) ha (fun _ _ => rfl)).put (X := X) (Y := X) ht (fun _ _ => rfl)
        first | exact h2.kind (Y := pc (if m 2 = 0 then (P (sqI (m 0))) else m 2) (P (sqI (m 0) + 1))) ht (show (if m 2 = 0 then (P (sqI (m 0))) else m 2) = m 2 from if_neg (by assumption)) hx1.symm | exact (hJ.put (X := fun _ => 0) (Y := nopc) ha (fun _ _ => rfl)).put (X := X) ht (two (Y := pc (if m 2 = 0 then (P (sqI (m 0))) else m 2) (P (sqI (m 0) + 1))) (hx0.trans (if_pos (by assumption)).symm) hx1)
      ·skip
       obtain ⟨J, hJ, k2, k3, k4, k6, k7, k8, rfl, rfl⟩ := hI
       refine WP_know (d := 2) (v := .ptr 0 0 133) k2 ?_
       refine WP_know (d := 3) (v := .ptr 1 0 3) k3 ?_
       refine WP_know (d := 4) (v := .ptr 2 0 133) k4 ?_
       refine WP_know (d := 6) (v := .ptr 3 0 2) k6 ?_
       refine WP_know (d := 7) (v := .ptr 4 0 133) k7 ?_
       refine WP_know (d := 8) (v := .s (.int .i64 (takesM P (P (sqI (m 0))) (m 0) (m 1)))) k8 ?_
       have hb := takesM_bd (P := P) (k := (P (sqI (m 0)))) ha ht
       refine WP_cut (fun f n L => ∃ (J : Nat → Int), (SameP P J (brd4 P (takesM P (P (sqI (m 0))) (m 0) (m 1)) (m 0) (m 1) (P (sqI (m 0))) (P (sqI (m 0) + 1)) (m 2) (castlingM (P (sqI (m 0))) (m 0) (m 1) (P (sqI (m 0) + 1)) (castM P)))) ∧ (f 2 = .ptr 0 0 133) ∧ (f 3 = .ptr 1 0 3) ∧ (f 4 = .ptr 2 0 133) ∧ (f 6 = .ptr 3 0 2) ∧ (f 7 = .ptr 4 0 133) ∧ (f 8 = .s (.int .i64 (takesM P (P (sqI (m 0))) (m 0) (m 1)))) ∧ (L = [(4, .sc .var 133 (ia J)), (3, .sc .var 2 (ia X)), (2, .sc .var 133 (ia fun _ => 0)), (1, .sc .var 3 (ia m)), (0, .sc .var 133 (ia P))]) ∧ (n = 5)) ?_ (fun f nb L hI => ?_)
       ·skip
        refine WP_seq ?_
        refine WP_ops ?_
        first | refine WO_ldA0 rfl rfl (.tail _ (.tail _ (.tail _ (.tail _ (.head _))))) ?_ | refine WO_ldAI rfl rfl (.tail _ (.tail _ (.tail _ (.tail _ (.head _))))) ?_
        first | refine WO_ldA0 rfl rfl (.tail _ (.tail _ (.tail _ (.head _)))) ?_ | refine WO_ldAI rfl rfl (.tail _ (.tail _ (.tail _ (.head _)))) ?_
        have hca := castling_a (k := (P (sqI (m 0)))) (a := m 0) (t := m 1) (c := (P (sqI (m 0) + 1))) (C := castM P)
        refine WO_call0 rfl (RF_of (rcastling_run P m hc ha ht)) rfl rfl rfl ?_
        obtain ⟨g, hg⟩ : ∃ g, g = (castlingM (P (sqI (m 0))) (m 0) (m 1) (P (sqI (m 0) + 1)) (castM P)) := ⟨_, rfl⟩
        rw [← hg] at hca ⊢
        refine WO_nil ?_
        refine WP_block ?_
        refine WP_seq ?_
        refine WP_ops ?_
        refine WO_bin (r := .bool _) rfl rfl rfl ?_
        refine WO_mv (v := .s (.bool _)) rfl ?_
        refine WO_nil ?_
        refine WP_cond rfl (fun h11 => ?_) (fun h11 => ?_)
        ·try simp only [NM] at h11
         try simp only [isM, decide_eq_true_eq, decide_eq_false_iff_not] at h11
         refine WP_seq ?_
         refine WP_ops ?_
         refine WO_fa (o' := 0) rfl rfl rfl ?_
         refine WO_ldI rfl rfl (.tail _ (.tail _ (.tail _ (.head _)))) rfl ?_
         refine WO_add rfl rfl (by first | omega | (have := hca (by omega); omega)) ?_
         refine WO_buildI rfl .nil ?_
         refine WO_fa (o' := 0) rfl rfl rfl ?_
         refine WO_ixa rfl rfl rfl (by first | omega | (have := hca (by omega); omega)) ?_
         refine WO_stA rfl rfl rfl rfl .here ?_
         refine WO_nil ?_
         refine WP_ops ?_
         refine WO_fa (o' := 0) rfl rfl rfl ?_
         refine WO_ldI rfl rfl (.tail _ (.tail _ (.tail _ (.head _)))) rfl ?_
         refine WO_add rfl rfl (by first | omega | (have := hca (by omega); omega)) ?_
         refine WO_fa (o' := 1) rfl rfl rfl ?_
         refine WO_ldI (x := X 1) rfl rfl (.tail _ (.head _)) (rfl) ?_
         refine WO_buildI rfl (.one rfl (.one rfl .nil)) ?_
         refine WO_fa (o' := 0) rfl rfl rfl ?_
         refine WO_ixa rfl rfl rfl (by first | omega | (have := hca (by omega); omega)) ?_
         refine WO_stA rfl rfl rfl rfl .here ?_
         refine WO_nil ?_
         refine ⟨_, (.cons_cons _ (.cons_cons _ (.cons_cons _ (.cons_cons _ (.cons_cons _ .slnil))))), _, ?_, rfl, rfl, rfl, rfl, rfl, rfl, rfl, rfl⟩
         rw [brd4]
         first | (rw [if_pos (by assumption)]; exact (hJ.put (by omega) (fun _ _ => rfl)).put (by omega) (two rfl hx1)) | (rw [if_neg (by assumption), if_pos (by assumption)]; exact (hJ.put (by omega) (fun _ _ => rfl)).put (by omega) (two rfl hx1)) | (rw [if_neg (by assumption), if_neg (by assumption)]; exact hJ)
        ·try simp only [NM] at h11
         try simp only [isM, decide_eq_true_eq, decide_eq_false_iff_not] at h11
         refine WP_seq ?_
         refine WP_ops ?_
         refine WO_bin (r := .bool _) rfl rfl rfl ?_
         refine WO_mv (v := .s (.bool _)) rfl ?_
         refine WO_nil ?_
         refine WP_cond rfl (fun h12 => ?_) (fun h12 => ?_)
         ·try simp only [NM] at h12
          try simp only [isM, decide_eq_true_eq, decide_eq_false_iff_not] at h12
          refine WP_seq ?_
          refine WP_ops ?_
          refine WO_fa (o' := 0) rfl rfl rfl ?_
          refine WO_ldI rfl rfl (.tail _ (.tail _ (.tail _ (.head _)))) rfl ?_
          refine WO_sub rfl rfl (by first | omega | (have := hca (by omega); omega)) ?_
          refine WO_buildI rfl .nil ?_
          refine WO_fa (o' := 0) rfl rfl rfl ?_
          refine WO_ixa rfl rfl rfl (by first | omega | (have := hca (by omega); omega)) ?_
          refine WO_stA rfl rfl rfl rfl .here ?_
          refine WO_nil ?_
          refine WP_ops ?_
          refine WO_fa (o' := 0) rfl rfl rfl ?_
          refine WO_ldI rfl rfl (.tail _ (.tail _ (.tail _ (.head _)))) rfl ?_
          refine WO_sub rfl rfl (by first | omega | (have := hca (by omega); omega)) ?_
          refine WO_fa (o' := 1) rfl rfl rfl ?_
          refine WO_ldI (x := X 1) rfl rfl (.tail _ (.head _)) (rfl) ?_
          refine WO_buildI rfl (.one rfl (.one rfl .nil)) ?_
          refine WO_fa (o' := 0) rfl rfl rfl ?_
          refine WO_ixa rfl rfl rfl (by first | omega | (have := hca (by omega); omega)) ?_
          refine WO_stA rfl rfl rfl rfl .here ?_
          refine WO_nil ?_
          refine ⟨_, (.cons_cons _ (.cons_cons _ (.cons_cons _ (.cons_cons _ (.cons_cons _ .slnil))))), _, ?_, rfl, rfl, rfl, rfl, rfl, rfl, rfl, rfl⟩
          rw [brd4]
          first | (rw [if_pos (by assumption)]; exact (hJ.put (by omega) (fun _ _ => rfl)).put (by omega) (two rfl hx1)) | (rw [if_neg (by assumption), if_pos (by assumption)]; exact (hJ.put (by omega) (fun _ _ => rfl)).put (by omega) (two rfl hx1)) | (rw [if_neg (by assumption), if_neg (by assumption)]; exact hJ)
         ·try simp only [NM] at h12
          try simp only [isM, decide_eq_true_eq, decide_eq_false_iff_not] at h12
          refine WP_skip ?_
          refine ⟨_, (.cons_cons _ (.cons_cons _ (.cons_cons _ (.cons_cons _ (.cons_cons _ .slnil))))), _, ?_, rfl, rfl, rfl, rfl, rfl, rfl, rfl, rfl⟩
          rw [brd4]
          first | (rw [if_pos (by assumption)]; exact (hJ.put (by omega) (fun _ _ => rfl)).put (by omega) (two rfl hx1)) | (rw [if_neg (by assumption), if_pos (by assumption)]; exact (hJ.put (by omega) (fun _ _ => rfl)).put (by omega) (two rfl hx1)) | (rw [if_neg (by assumption), if_neg (by assumption)]; exact hJ)
       ·skip
        obtain ⟨J, hJ, k2, k3, k4, k6, k7, k8, rfl, rfl⟩ := hI
        refine WP_know (d := 2) (v := .ptr 0 0 133) k2 ?_
        refine WP_know (d := 3) (v := .ptr 1 0 3) k3 ?_
        refine WP_know (d := 4) (v := .ptr 2 0 133) k4 ?_
        refine WP_know (d := 6) (v := .ptr 3 0 2) k6 ?_
        refine WP_know (d := 7) (v := .ptr 4 0 133) k7 ?_
        refine WP_know (d := 8) (v := .s (.int .i64 (takesM P (P (sqI (m 0))) (m 0) (m 1)))) k8 ?_
        refine WP_seq ?_
        refine WP_ops ?_
        refine WO_fa (o' := 128) rfl rfl rfl ?_
        refine WO_ldI (x := P 128) rfl rfl (.tail _ (.tail _ (.tail _ (.tail _ (.head _))))) (rfl) ?_
        refine WO_call0 rfl (RF_of (rOther_run _)) rfl rfl rfl ?_
        refine WO_fa (o' := 128) rfl rfl rfl ?_
        refine WO_stI rfl rfl rfl rfl .here ?_
        refine WO_nil ?_
        refine WP_seq ?_
        refine WP_ops ?_
        first | refine WO_ldA0 rfl rfl (.tail _ (.tail _ (.tail _ (.tail _ (.head _))))) ?_ | refine WO_ldAI rfl rfl (.tail _ (.tail _ (.tail _ (.tail _ (.head _))))) ?_
        refine WO_callq0 rfl (RF_of (rcastles_run _)) rfl rfl rfl ?_
        refine WO_fa (o' := 0) rfl rfl rfl ?_
        refine WO_ldI rfl rfl (.tail _ (.tail _ (.tail _ (.head _)))) rfl ?_
        refine WO_callq0 rfl (RF_of (rlost_run _)) rfl rfl rfl ?_
        refine WO_callq0 rfl (RF_of (without_run _ _ (castM_bd P) (lostM_bd _))) rfl rfl rfl ?_
        refine WO_fa (o' := 1) rfl rfl rfl ?_
        refine WO_ldI rfl rfl (.tail _ (.tail _ (.tail _ (.head _)))) rfl ?_
        refine WO_call0 rfl (RF_of (rlost_run _)) rfl rfl rfl ?_
        refine WO_call0 rfl (rWithout_ok) rfl rfl rfl ?_
        refine WO_fa (o' := 129) rfl rfl rfl ?_
        refine WO_stI rfl rfl rfl rfl .here ?_
        refine WO_nil ?_
        refine WP_seq ?_
        refine WP_ops ?_
        refine WO_fa (o' := 130) rfl rfl rfl ?_
        refine WO_stI rfl rfl rfl rfl .here ?_
        refine WO_nil ?_
        refine WP_cut (fun f n L => ∃ (J : Nat → Int), (DoneP P J (brd4 P (takesM P (P (sqI (m 0))) (m 0) (m 1)) (m 0) (m 1) (P (sqI (m 0))) (P (sqI (m 0) + 1)) (m 2) (castlingM (P (sqI (m 0))) (m 0) (m 1) (P (sqI (m 0) + 1)) (castM P))) (otherM (P 128)) (andNotM (castM P) (orM (orM 0 (lostM (m 0))) (lostM (m 1)))) (overM (P (sqI (m 0))) (m 0) (m 1) (P (sqI (m 0) + 1))) (P 131) (P 132)) ∧ (f 2 = .ptr 0 0 133) ∧ (f 3 = .ptr 1 0 3) ∧ (f 4 = .ptr 2 0 133) ∧ (f 6 = .ptr 3 0 2) ∧ (f 7 = .ptr 4 0 133) ∧ (f 8 = .s (.int .i64 (takesM P (P (sqI (m 0))) (m 0) (m 1)))) ∧ (L = [(4, .sc .var 133 (ia J)), (3, .sc .var 2 (ia X)), (2, .sc .var 133 (ia fun _ => 0)), (1, .sc .var 3 (ia m)), (0, .sc .var 133 (ia P))]) ∧ (n = 5)) ?_ (fun f nb L hI => ?_)
        ·skip
         refine WP_seq ?_
         refine WP_ops ?_
         first | refine WO_ldA0 rfl rfl (.tail _ (.head _)) ?_ | refine WO_ldAI rfl rfl (.tail _ (.head _)) ?_
         first | refine WO_ldA0 rfl rfl (.tail _ (.tail _ (.tail _ (.head _)))) ?_ | refine WO_ldAI rfl rfl (.tail _ (.tail _ (.tail _ (.head _)))) ?_
         refine WO_call0 rfl (RF_of (rlong_run X m (by rw [hx1]; exact hc) ha ht)) rfl rfl rfl ?_
         refine WO_nil ?_
         refine WP_cond rfl (fun h13 => ?_) (fun h13 => ?_)
         ·try simp only [NM] at h13
          try simp only [isM, decide_eq_true_eq, decide_eq_false_iff_not] at h13
          refine WP_ops ?_
          refine WO_fa (o' := 0) rfl rfl rfl ?_
          refine WO_ldI rfl rfl (.tail _ (.tail _ (.tail _ (.head _)))) rfl ?_
          refine WO_fa (o' := 1) rfl rfl rfl ?_
          refine WO_ldI rfl rfl (.tail _ (.tail _ (.tail _ (.head _)))) rfl ?_
          refine WO_add rfl rfl (by first | omega | (have := hca (by omega); omega)) ?_
          refine WO_quo rfl rfl (by first | omega | (have := hca (by omega); omega)) ?_
          refine WO_fa (o' := 130) rfl rfl rfl ?_
          refine WO_stI rfl rfl rfl rfl .here ?_
          refine WO_nil ?_
          refine ⟨_, (.cons_cons _ (.cons_cons _ (.cons_cons _ (.cons_cons _ (.cons_cons _ .slnil))))), _, ?_, rfl, rfl, rfl, rfl, rfl, rfl, rfl, rfl⟩
          refine ⟨(by intro i hi; (repeat rw [ov_out (by omega)]); exact hJ.lo i hi), rfl, rfl, ?_, hJ.hi 131 (by omega) (by omega), hJ.hi 132 (by omega) (by omega)⟩
          rw [overM, ← hx0, ← hx1]
          first | (rw [if_pos (by assumption)]; rfl) | (rw [if_neg (Bool.eq_false_iff.1 (by assumption))]; rfl)
         ·try simp only [NM] at h13
          try simp only [isM, decide_eq_true_eq, decide_eq_false_iff_not] at h13
          refine WP_skip ?_
          refine ⟨_, (.cons_cons _ (.cons_cons _ (.cons_cons _ (.cons_cons _ (.cons_cons _ .slnil))))), _, ?_, rfl, rfl, rfl, rfl, rfl, rfl, rfl, rfl⟩
          refine ⟨(by intro i hi; (repeat rw [ov_out (by omega)]); exact hJ.lo i hi), rfl, rfl, ?_, hJ.hi 131 (by omega) (by omega), hJ.hi 132 (by omega) (by omega)⟩
          rw [overM, ← hx0, ← hx1]
          first | (rw [if_pos (by assumption)]; rfl) | (rw [if_neg (Bool.eq_false_iff.1 (by assumption))]; rfl)
        ·skip
         obtain ⟨J, hD, k2, k3, k4, k6, k7, k8, rfl, rfl⟩ := hI
         refine WP_know (d := 2) (v := .ptr 0 0 133) k2 ?_
         refine WP_know (d := 3) (v := .ptr 1 0 3) k3 ?_
         refine WP_know (d := 4) (v := .ptr 2 0 133) k4 ?_
         refine WP_know (d := 6) (v := .ptr 3 0 2) k6 ?_
         refine WP_know (d := 7) (v := .ptr 4 0 133) k7 ?_
         refine WP_know (d := 8) (v := .s (.int .i64 (takesM P (P (sqI (m 0))) (m 0) (m 1)))) k8 ?_
         refine WP_seq ?_
         refine WP_ops ?_
         refine WO_fa (o' := 131) rfl rfl rfl ?_
         refine WO_ldI (x := P 131) rfl rfl (.tail _ (.tail _ (.tail _ (.tail _ (.head _))))) (rfl) ?_
         refine WO_mn2 rfl rfl ?_
         refine WO_bin rfl rfl rfl ?_
         refine WO_fa (o' := 131) rfl rfl rfl ?_
         refine WO_stI rfl rfl rfl rfl .here ?_
         refine WO_nil ?_
         refine WP_cut (fun f n L => ∃ (J : Nat → Int), (DoneP P J (brd4 P (takesM P (P (sqI (m 0))) (m 0) (m 1)) (m 0) (m 1) (P (sqI (m 0))) (P (sqI (m 0) + 1)) (m 2) (castlingM (P (sqI (m 0))) (m 0) (m 1) (P (sqI (m 0) + 1)) (castM P))) (otherM (P 128)) (andNotM (castM P) (orM (orM 0 (lostM (m 0))) (lostM (m 1)))) (overM (P (sqI (m 0))) (m 0) (m 1) (P (sqI (m 0) + 1))) (halfM P (P (sqI (m 0))) (takesM P (P (sqI (m 0))) (m 0) (m 1))) (P 132)) ∧ (f 2 = .ptr 0 0 133) ∧ (f 3 = .ptr 1 0 3) ∧ (f 4 = .ptr 2 0 133) ∧ (f 6 = .ptr 3 0 2) ∧ (f 7 = .ptr 4 0 133) ∧ (f 8 = .s (.int .i64 (takesM P (P (sqI (m 0))) (m 0) (m 1)))) ∧ (L = [(4, .sc .var 133 (ia J)), (3, .sc .var 2 (ia X)), (2, .sc .var 133 (ia fun _ => 0)), (1, .sc .var 3 (ia m)), (0, .sc .var 133 (ia P))]) ∧ (n = 5)) ?_ (fun f nb L hI => ?_)
         ·skip
          refine WP_seq ?_
          refine WP_ops ?_
          refine WO_fa (o' := 0) rfl rfl rfl ?_
          refine WO_ldI (x := (P (sqI (m 0)))) rfl rfl (.tail _ (.head _)) (hx0) ?_
          refine WO_bin (r := .bool _) rfl rfl rfl ?_
          refine WO_mv (v := .s (.bool _)) rfl ?_
          refine WO_case (t := 136) rfl (fun h14 => ?_) (fun h14 => ?_)
          ·try simp only [NM] at h14
           try simp only [isM, decide_eq_true_eq, decide_eq_false_iff_not] at h14
           refine WO_gf rfl rfl ?_
           refine WO_gf rfl rfl ?_
           refine WO_pick (v := .s (.bool _)) rfl rfl ?_
           refine WO_nil ?_
           refine WP_cond rfl (fun _ => ?_) (fun h => nomatch h)
           refine WP_ops ?_
           refine WO_fa (o' := 131) rfl rfl rfl ?_
           refine WO_stI rfl rfl rfl rfl .here ?_
           refine WO_nil ?_
           refine ⟨_, (.cons_cons _ (.cons_cons _ (.cons_cons _ (.cons_cons _ (.cons_cons _ .slnil))))), _, ?_, rfl, rfl, rfl, rfl, rfl, rfl, rfl, rfl⟩
           refine ⟨(by intro i hi; (repeat rw [ov_out (by omega)]); exact hD.lo i hi), hD.s, hD.c, hD.o, ?_, hD.f⟩
           rw [halfM]
           first | (rw [if_pos (.inl (by assumption))]; rfl) | (rw [if_pos (.inr (by assumption))]; rfl) | (rw [if_neg (by omega)]; rfl)
          ·try simp only [NM] at h14
           try simp only [isM, decide_eq_true_eq, decide_eq_false_iff_not] at h14
           refine WO_gt rfl ?_
           refine WO_mv (v := .s (.int _ _)) rfl ?_
           refine WO_gt rfl ?_
           refine WO_bin (r := .bool _) rfl rfl rfl ?_
           refine WO_pick (v := .s (.bool _)) rfl rfl ?_
           refine WO_nil ?_
           refine WP_cond rfl (fun h15 => ?_) (fun h15 => ?_)
           ·try simp only [NM] at h15
            try simp only [isM, decide_eq_true_eq, decide_eq_false_iff_not] at h15
            refine WP_ops ?_
            refine WO_fa (o' := 131) rfl rfl rfl ?_
            refine WO_stI rfl rfl rfl rfl .here ?_
            refine WO_nil ?_
            refine ⟨_, (.cons_cons _ (.cons_cons _ (.cons_cons _ (.cons_cons _ (.cons_cons _ .slnil))))), _, ?_, rfl, rfl, rfl, rfl, rfl, rfl, rfl, rfl⟩
            refine ⟨(by intro i hi; (repeat rw [ov_out (by omega)]); exact hD.lo i hi), hD.s, hD.c, hD.o, ?_, hD.f⟩
            rw [halfM]
            first | (rw [if_pos (.inl (by assumption))]; rfl) | (rw [if_pos (.inr (by assumption))]; rfl) | (rw [if_neg (by omega)]; rfl)
           ·try simp only [NM] at h15
            try simp only [isM, decide_eq_true_eq, decide_eq_false_iff_not] at h15
            refine WP_skip ?_
            refine ⟨_, (.cons_cons _ (.cons_cons _ (.cons_cons _ (.cons_cons _ (.cons_cons _ .slnil))))), _, ?_, rfl, rfl, rfl, rfl, rfl, rfl, rfl, rfl⟩
            refine ⟨(by intro i hi; (repeat rw [ov_out (by omega)]); exact hD.lo i hi), hD.s, hD.c, hD.o, ?_, hD.f⟩
            rw [halfM]
            first | (rw [if_pos (.inl (by assumption))]; rfl) | (rw [if_pos (.inr (by assumption))]; rfl) | (rw [if_neg (by omega)]; rfl)
         ·skip
          obtain ⟨J, hD, k2, k3, k4, k6, k7, k8, rfl, rfl⟩ := hI
          refine WP_know (d := 2) (v := .ptr 0 0 133) k2 ?_
          refine WP_know (d := 3) (v := .ptr 1 0 3) k3 ?_
          refine WP_know (d := 4) (v := .ptr 2 0 133) k4 ?_
          refine WP_know (d := 6) (v := .ptr 3 0 2) k6 ?_
          refine WP_know (d := 7) (v := .ptr 4 0 133) k7 ?_
          refine WP_know (d := 8) (v := .s (.int .i64 (takesM P (P (sqI (m 0))) (m 0) (m 1)))) k8 ?_
          refine WP_cut (fun f n L => ∃ (J : Nat → Int), (DoneP P J (brd4 P (takesM P (P (sqI (m 0))) (m 0) (m 1)) (m 0) (m 1) (P (sqI (m 0))) (P (sqI (m 0) + 1)) (m 2) (castlingM (P (sqI (m 0))) (m 0) (m 1) (P (sqI (m 0) + 1)) (castM P))) (otherM (P 128)) (andNotM (castM P) (orM (orM 0 (lostM (m 0))) (lostM (m 1)))) (overM (P (sqI (m 0))) (m 0) (m 1) (P (sqI (m 0) + 1))) (halfM P (P (sqI (m 0))) (takesM P (P (sqI (m 0))) (m 0) (m 1))) (fullM P)) ∧ (f 2 = .ptr 0 0 133) ∧ (f 3 = .ptr 1 0 3) ∧ (f 4 = .ptr 2 0 133) ∧ (f 6 = .ptr 3 0 2) ∧ (f 7 = .ptr 4 0 133) ∧ (f 8 = .s (.int .i64 (takesM P (P (sqI (m 0))) (m 0) (m 1)))) ∧ (L = [(4, .sc .var 133 (ia J)), (3, .sc .var 2 (ia X)), (2, .sc .var 133 (ia fun _ => 0)), (1, .sc .var 3 (ia m)), (0, .sc .var 133 (ia P))]) ∧ (n = 5)) ?_ (fun f nb L hI => ?_)
          ·skip
           refine WP_seq ?_
           refine WP_ops ?_
           refine WO_fa (o' := 128) rfl rfl rfl ?_
           refine WO_ldI (x := P 128) rfl rfl (.tail _ (.tail _ (.tail _ (.tail _ (.head _))))) (rfl) ?_
           refine WO_bin (r := .bool _) rfl rfl rfl ?_
           refine WO_nil ?_
           refine WP_cond rfl (fun h16 => ?_) (fun h16 => ?_)
           ·try simp only [NM] at h16
            try simp only [isM, decide_eq_true_eq, decide_eq_false_iff_not] at h16
            refine WP_ops ?_
            refine WO_fa (o' := 132) rfl rfl rfl ?_
            refine WO_ldI (x := P 132) rfl rfl (.tail _ (.tail _ (.tail _ (.tail _ (.head _))))) (rfl) ?_
            refine WO_mn2 rfl rfl ?_
            refine WO_bin rfl rfl rfl ?_
            refine WO_fa (o' := 132) rfl rfl rfl ?_
            refine WO_stI rfl rfl rfl rfl .here ?_
            refine WO_nil ?_
            refine ⟨_, (.cons_cons _ (.cons_cons _ (.cons_cons _ (.cons_cons _ (.cons_cons _ .slnil))))), _, ?_, rfl, rfl, rfl, rfl, rfl, rfl, rfl, rfl⟩
            refine ⟨(by intro i hi; (repeat rw [ov_out (by omega)]); exact hD.lo i hi), hD.s, hD.c, hD.o, hD.h, ?_⟩
            rw [fullM]
            first | (rw [if_pos (by assumption)]; rfl) | (rw [if_neg (by assumption)]; exact hD.f)
           ·try simp only [NM] at h16
            try simp only [isM, decide_eq_true_eq, decide_eq_false_iff_not] at h16
            refine WP_skip ?_
            refine ⟨_, (.cons_cons _ (.cons_cons _ (.cons_cons _ (.cons_cons _ (.cons_cons _ .slnil))))), _, ?_, rfl, rfl, rfl, rfl, rfl, rfl, rfl, rfl⟩
            refine ⟨(by intro i hi; (repeat rw [ov_out (by omega)]); exact hD.lo i hi), hD.s, hD.c, hD.o, hD.h, ?_⟩
            rw [fullM]
            first | (rw [if_pos (by assumption)]; rfl) | (rw [if_neg (by assumption)]; exact hD.f)
          ·skip
           obtain ⟨J, hD, k2, k3, k4, k6, k7, k8, rfl, rfl⟩ := hI
           refine WP_know (d := 2) (v := .ptr 0 0 133) k2 ?_
           refine WP_know (d := 3) (v := .ptr 1 0 3) k3 ?_
           refine WP_know (d := 4) (v := .ptr 2 0 133) k4 ?_
           refine WP_know (d := 6) (v := .ptr 3 0 2) k6 ?_
           refine WP_know (d := 7) (v := .ptr 4 0 133) k7 ?_
           refine WP_know (d := 8) (v := .s (.int .i64 (takesM P (P (sqI (m 0))) (m 0) (m 1)))) k8 ?_
           refine WP_seq ?_
           refine WP_ops ?_
           first | refine WO_ldA0 rfl rfl (.head _) ?_ | refine WO_ldAI rfl rfl (.head _) ?_
           refine WO_stA rfl rfl rfl rfl (.there (.there .here)) ?_
           refine WO_mv rfl ?_
           refine WO_nil ?_
           refine WP_ret ?_
           refine ⟨_, RS_cell rfl rfl (.tail _ (.tail _ (.head _))) (RS_tmp (v := .s (.int _ _)) rfl (RS_nil)), ?_⟩
           rw [moveM, he, if_pos rfl, ← doneP_is hD]
           rfl
end Go.Proofs.Ytjldefmcnppdoaa
