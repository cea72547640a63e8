/- Texts of this seat, joined. -/
import Derived.Test.YtlkighkfkdpncaaGreatAm0
import Derived.Test.YtlkighkfkdpncaaGreatAm1
import Derived.Test.YtlkighkfkdpncaaGreatAm2
import Derived.Test.YtlkighkfkdpncaaGreatM0
import Derived.Test.YtlkighkfkdpncaaGreatM1
import Derived.Test.YtlkighkfkdpncaaGreatM2
import Derived.Test.YtlkighkfkdpncaaGreatM3
set_option linter.unusedSimpArgs false
set_option linter.unusedVariables false
namespace Go.Proofs.YtlkighkfkdpncaaGreat
open Go Go.Am
set_option maxRecDepth 100000
def emptyF (i : Nat) : Int := if i = 130 then -1 else if i = 132 then 1 else 0
def startF (i : Nat) : Int :=
 if i < 16 then (if i % 2 = 0 then ([4, 2, 3, 5, 6, 3, 2, 4] : List Int).getD (i / 2) 0 else 0)
 else if i < 32 then (if i % 2 = 0 then 1 else 0)
 else if i < 96 then 0
 else if i < 112 then 1
 else if i < 128 then (if i % 2 = 0 then ([4, 2, 3, 5, 6, 3, 2, 4] : List Int).getD ((i - 112) / 2) 0 else 1)
 else if i = 128 then 0 else if i = 129 then 15 else if i = 130 then -1 else if i = 131 then 0 else if i = 132 then 1 else 0
theorem emptyF_hi (i : Nat) (h : 133 ≤ i) : emptyF i = 0 := by
 unfold emptyF
 rw [if_neg (by omega), if_neg (by omega)]
theorem ovA_is {P Q R : Nat → Int} {m : Nat} (h : ∀ i, i < m → Q i = R i) (h2 : ∀ i, m ≤ i → P i = R i) : ovA P 0 m Q = R := by
 funext i
 by_cases hi : i < m
 ·rw [ovA_at (by omega)]; exact h i hi
 ·rw [ovA_out (by omega)]; exact h2 i (by omega)
theorem rEmpty_run  : WR AM 18 [] [] (fun v _ _ => v = .agg 133 (ia emptyF)) := by
 refine WR_fn (a := a18) rfl rfl (entryF _) (entry_E (Nat.le_of_ble_eq_true rfl)) (m := 0) rfl (sq (os (aI (nl (sq (os (uI rfl (.one rfl (.one rfl .nil)) (tA rfl rfl rfl rfl .here (nl (rt (⟨_, RS_cell rfl rfl (.head _) (RS_nil), ?_⟩)))))))))))
 refine congrArg (fun P => V.agg 133 (ia P)) ?_
 refine ovA_is (by decide +kernel) fun i hi => (emptyF_hi i hi).symm
end Go.Proofs.YtlkighkfkdpncaaGreat
set_option linter.unusedSimpArgs false
set_option linter.unusedVariables false
namespace Go.Proofs.YtlkighkfkdpncaaGreat
open Go Go.Am
set_option maxRecDepth 100000
def bareP (w b q : Int) : Nat → Int := ov (ovA (ovA (ovA (ovA (fun _ => 0) 0 133 emptyF) (0 + q.toNat * 2) 2 (ov (fun _ => 0) 0 5)) (0 + w.toNat * 2) 2 (ov (fun _ => 0) 0 6)) (0 + b.toNat * 2) 2 (ov (ov (fun _ => 0) 0 6) 1 1)) 128 1
def bareF (w b q : Int) : Nat → Int := ovA (fun _ => 0) 0 133 (bareP w b q)
theorem ovA_z {P Q : Nat → Int} {o n : Nat} (h : ∀ i, 133 ≤ i → P i = 0) (hb : o + n ≤ 133) : ∀ i, 133 ≤ i → ovA P o n Q i = 0 := fun i hi => by rw [ovA_out (by omega)]; exact h i hi
theorem bareF_z (w b q : Int) : ∀ i, 133 ≤ i → bareF w b q i = 0 := ovA_z (fun _ _ => rfl) (by omega)
theorem end1 : (ofN (bareF 45 62 54) (movesM (bareF 45 62 54)).length) = (1, 1) := by
 rw [movesM_is (bareF_z _ _ _)]
 decide +kernel
theorem end2 : (ofN (bareF 45 63 53) (movesM (bareF 45 63 53)).length) = (3, 2) := by
 rw [movesM_is (bareF_z _ _ _)]
 decide +kernel
theorem bare_run (w b q : Int) (hw : 0 ≤ w ∧ w < 64) (hb : 0 ≤ b ∧ b < 64) (hq : 0 ≤ q ∧ q < 64) : WR AM 16 [.s (.int .i64 w), .s (.int .i64 b), .s (.int .i64 q)] [] (fun v _ _ => v = .agg 133 (ia (bareF w b q))) := by
 refine WR_fn (a := a16) rfl rfl (entryF _) (entry_E (Nat.le_of_ble_eq_true rfl)) (m := 0) rfl (sq (os (aI (nl (sq (os (c0 rfl (RF_of rEmpty_run) rfl rfl rfl (aI (tA rfl rfl rfl rfl .here (nl (sq (os (mI rfl (uI rfl (.one rfl .nil) (fa (o' := 0) rfl rfl rfl (ia2 rfl rfl rfl (by omega) (tA rfl rfl rfl rfl .here (nl (sq (os (mI rfl (uI rfl (.one rfl .nil) (fa (o' := 0) rfl rfl rfl ?_)))))))))))))))))))))))
 refine ia2 rfl rfl rfl (by omega) (tA rfl rfl rfl rfl .here (nl (sq (os (mI rfl (uI rfl (.one rfl (.one rfl .nil)) (fa (o' := 0) rfl rfl rfl (ia2 rfl rfl rfl (by omega) (tA rfl rfl rfl rfl .here (nl (sq (os (fa (o' := 128) rfl rfl rfl (tI rfl rfl rfl rfl .here (nl (sq (os ?_)))))))))))))))))
 first | refine l0 rfl rfl (.head _) ?_ | refine lA rfl rfl (.head _) ?_
 refine tA rfl rfl rfl rfl (.there .here) (nl (rt (⟨_, RS_cell rfl rfl (.tail _ (.head _)) (RS_nil), ?_⟩)))
 rfl
theorem endAwake_run  : WR AM 15 [] [] (fun v _ _ => v = .s (.bool true)) := by
 have hend1 := RF_of (of_walk (bareF 45 62 54) (bareF_z _ _ _))
 rw [end1] at hend1
 have hend2 := RF_of (of_walk (bareF 45 63 53) (bareF_z _ _ _))
 rw [end2] at hend2
 refine WR_fn (a := a15) rfl rfl (entryF _) (entry_E (Nat.le_of_ble_eq_true rfl)) (m := 0) rfl (sq (os (mv rfl (nl (sq (os (c0 rfl (RF_of (bare_run 45 62 54 (by omega) (by omega) (by omega))) rfl rfl rfl (c0 rfl (hend1) rfl rfl rfl (mT rfl (ex (v := .s (.int _ _)) rfl rfl (ex (v := .s (.int _ _)) rfl rfl (mI rfl (mI rfl (nl (sq (os (c0 rfl (RF_of (bare_run 45 63 53 (by omega) (by omega) (by omega))) rfl rfl rfl (c0 rfl (hend2) rfl rfl rfl (mT rfl (ex (v := .s (.int _ _)) rfl rfl (ex (v := .s (.int _ _)) rfl rfl (mI rfl (mI rfl ?_)))))))))))))))))))))))
 refine nl (sq (os (mI rfl (bi rfl rfl (eql_yes1 rfl) (mB rfl (gt rfl (mI rfl (gt rfl (bi rfl rfl (eql_yes1 rfl) (pB rfl rfl (mB rfl (gt rfl (mI rfl (gt rfl (bi rfl rfl (eql_yes1 rfl) (pB rfl rfl (mB rfl (gt rfl (mI rfl (gt rfl (bi rfl rfl (eql_yes1 rfl) (pB rfl rfl (mB rfl ?_)))))))))))))))))))))))
 refine nl (rt (⟨_, RS_tmp (v := .s (.bool _)) rfl (RS_nil), ?_⟩))
 rfl
end Go.Proofs.YtlkighkfkdpncaaGreat
set_option linter.unusedSimpArgs false
set_option linter.unusedVariables false
namespace Go.Proofs.YtlkighkfkdpncaaGreat
open Go Go.Am
theorem EndsOnly_V0 (P : Nat → Int) (hz : ∀ i, 133 ≤ i → P i = 0) (hp : posM P = false) : WR AM 5 [.agg 133 (ia P)] [] (fun v _ _ => v = .s (.bool true)) := by
 have hof := RF_of (of_walk P hz)
 have hpos := RF_of (Position_walk P)
 rw [hp] at hpos
 rw [of_open (.inl hp)] at hof
 refine WR_fn (a := a5) rfl rfl (entryF _) (entry_E (Nat.le_of_ble_eq_true rfl)) (m := 0) rfl (sq (os (xA rfl (mv rfl (nl (sq (sq (os (c0 rfl (RF_of endAwake_run) rfl rfl rfl (un (r := .bool _) rfl rfl (nl (cd rfl (fun h => nomatch h) (fun _ => sk (sq (os ?_)))))))))))))))
 first | refine l0 rfl rfl (.head _) ?_ | refine lA rfl rfl (.head _) ?_
 refine c0 rfl (hof) rfl rfl rfl (mT rfl (ex (v := .s (.int _ _)) rfl rfl (ex (v := .s (.int _ _)) rfl rfl (mI rfl (mI rfl (nl (sq (os ?_))))))))
 first | refine l0 rfl rfl (.head _) ?_ | refine lA rfl rfl (.head _) ?_
 refine c0 rfl (hpos) rfl rfl rfl (mB rfl (gf rfl rfl (gf rfl rfl (gf rfl rfl (gf rfl rfl (pB rfl rfl (mB rfl (nl (sq (sq (os (mB rfl (mI rfl (bi rfl rfl (neq_of1 rfl) (WO_eqbF rfl rfl (rfl) (mB rfl (gt rfl (mB rfl (gt rfl (mI rfl (gt rfl (bi rfl rfl (neq_of1 rfl) (gt rfl ?_)))))))))))))))))))))))
 refine WO_eqbF rfl rfl (rfl) (pB rfl rfl (mB rfl (gt rfl (mI rfl (gt rfl (bi rfl rfl (eql_no1 (by decide)) (gt rfl (mB rfl (gt rfl (mB rfl (gf rfl rfl (gf rfl rfl (gf rfl rfl (gf rfl rfl (gt rfl (pB rfl rfl (gt rfl (WO_eqbF rfl rfl (rfl) (pB rfl rfl (mB rfl (gt rfl (mI rfl (gt rfl ?_)))))))))))))))))))))))
 refine bi rfl rfl (eql_no1 (by decide)) (gt rfl (mI rfl (gt rfl (bi rfl rfl (eql_no1 (by decide)) (gt rfl (WO_eqbF rfl rfl (rfl) (pB rfl rfl (nl (cd rfl (fun h => nomatch h) (fun _ => sk (sq (sq (os (mI rfl (bi rfl rfl (eql_no1 (by decide)) (mB rfl (gf rfl rfl (gf rfl rfl (gf rfl rfl (gf rfl rfl (gf rfl rfl (gf rfl rfl (pB rfl rfl ?_)))))))))))))))))))))))
 refine mB rfl (gt rfl (mI rfl (gt rfl (bi rfl rfl (neq_of1 rfl) (gt rfl (mB rfl (gf rfl rfl (gf rfl rfl (gt rfl (pB rfl rfl (gt rfl (mB rfl (gf rfl rfl (gf rfl rfl (gt rfl (pB rfl rfl (pB rfl rfl (nl (cd rfl (fun h => nomatch h) (fun _ => sk (sq (sq (os ?_)))))))))))))))))))))))
 first | refine l0 rfl rfl (.head _) ?_ | refine lA rfl rfl (.head _) ?_
 refine c0 rfl (RF_of (Right_run P)) rfl rfl rfl (un (r := .bool _) rfl rfl (nl (cd rfl (fun h1 => ?_) (fun h1 => ?_))))
 ·try simp only [NM] at h1
  refine sq (os (mv rfl (nl (rt (⟨_, RS_tmp (v := .s (.bool _)) rfl (RS_nil), ?_⟩)))))
  rfl
 ·try simp only [NM] at h1
  refine sk (sq (os ?_))
  have hR : rightM P = true := by assumption
  obtain ⟨Q, T, hQ⟩ := TurnX_ex P
  obtain ⟨e1, e2, e3, e4, e5⟩ := ends_turn T hz hR
  have hofQ := RF_of (of_walk Q T.out)
  rw [of_open (.inl (by rw [e1]; exact hp))] at hofQ
  first | refine l0 rfl rfl (.head _) ?_ | refine lA rfl rfl (.head _) ?_
  refine c0 rfl (hQ) rfl rfl rfl (c0 rfl (hofQ) rfl rfl rfl (mT rfl (ex (v := .s (.int _ _)) rfl rfl (ex (v := .s (.int _ _)) rfl rfl (mI rfl (mI rfl (nl (sq (sq (os (mI rfl (bi rfl rfl (eql_no1 (by decide)) (mB rfl (gt rfl (mI rfl (gt rfl (bi rfl rfl (eql_no1 (by decide)) (pB rfl rfl (nl (cd rfl (fun h => nomatch h) (fun _ => sk (sq (os ?_)))))))))))))))))))))))
  refine mI rfl (mI rfl (bi rfl rfl (eql_yes1 rfl) (mB rfl (gt rfl (mI rfl (gt rfl (mI rfl (gt rfl (bi rfl rfl (eql_yes1 rfl) (pB rfl rfl (mB rfl (nl (rt (⟨_, RS_tmp (v := .s (.bool _)) rfl (RS_nil), ?_⟩))))))))))))))
  rfl
theorem EndsOnly_V1 (P : Nat → Int) (hz : ∀ i, 133 ≤ i → P i = 0) (hp : posM P = true) (hl : 0 < (movesM P).length) : WR AM 5 [.agg 133 (ia P)] [] (fun v _ _ => v = .s (.bool true)) := by
 have hof := RF_of (of_walk P hz)
 have hpos := RF_of (Position_walk P)
 rw [hp] at hpos
 rw [of_open (.inr hl)] at hof
 have hR := pos_right hp
 have hright := RF_of (Right_run P)
 rw [hR] at hright
 refine WR_fn (a := a5) rfl rfl (entryF _) (entry_E (Nat.le_of_ble_eq_true rfl)) (m := 0) rfl (sq (os (xA rfl (mv rfl (nl (sq (sq (os (c0 rfl (RF_of endAwake_run) rfl rfl rfl (un (r := .bool _) rfl rfl (nl (cd rfl (fun h => nomatch h) (fun _ => sk (sq (os ?_)))))))))))))))
 first | refine l0 rfl rfl (.head _) ?_ | refine lA rfl rfl (.head _) ?_
 refine c0 rfl (hof) rfl rfl rfl (mT rfl (ex (v := .s (.int _ _)) rfl rfl (ex (v := .s (.int _ _)) rfl rfl (mI rfl (mI rfl (nl (sq (os ?_))))))))
 first | refine l0 rfl rfl (.head _) ?_ | refine lA rfl rfl (.head _) ?_
 refine c0 rfl (hpos) rfl rfl rfl (mB rfl (gt rfl ?_))
 first | refine l0 rfl rfl (.head _) ?_ | refine lA rfl rfl (.head _) ?_
 refine gt rfl (WO_callRt0 rfl (moves_rt P) rfl rfl (fun v1 own1 n1 hr1 => gt rfl (WO_lenX rfl hr1.rx (by decide) (flat3_len _) (gt rfl (bi rfl rfl (eql_no1 (by omega)) (pB rfl rfl (mB rfl (nl (sq (sq (os (mB rfl (mI rfl (bi rfl rfl (neq_of1 rfl) (WO_eqbF rfl rfl (rfl) (mB rfl (gt rfl (mB rfl (gt rfl (mI rfl (gt rfl (bi rfl rfl (neq_of1 rfl) (gt rfl ?_)))))))))))))))))))))))
 refine WO_eqbF rfl rfl (rfl) (pB rfl rfl (mB rfl (gt rfl (mI rfl (gt rfl (bi rfl rfl (eql_no1 (by decide)) (gt rfl (mB rfl (gt rfl (mB rfl (gf rfl rfl (gf rfl rfl (gf rfl rfl (gf rfl rfl (gt rfl (pB rfl rfl (gt rfl (WO_eqbF rfl rfl (rfl) (pB rfl rfl (mB rfl (gt rfl (mI rfl (gt rfl ?_)))))))))))))))))))))))
 refine bi rfl rfl (eql_no1 (by decide)) (gt rfl (mI rfl (gt rfl (bi rfl rfl (eql_no1 (by decide)) (gt rfl (WO_eqbF rfl rfl (rfl) (pB rfl rfl (nl (cd rfl (fun h => nomatch h) (fun _ => sk (sq (sq (os (mI rfl (bi rfl rfl (eql_no1 (by decide)) (mB rfl (gf rfl rfl (gf rfl rfl (gf rfl rfl (gf rfl rfl (gf rfl rfl (gf rfl rfl (pB rfl rfl ?_)))))))))))))))))))))))
 refine mB rfl (gt rfl (mI rfl (gt rfl (bi rfl rfl (neq_of1 rfl) (gt rfl (mB rfl (gf rfl rfl (gf rfl rfl (gt rfl (pB rfl rfl (gt rfl (mB rfl (gf rfl rfl (gf rfl rfl (gt rfl (pB rfl rfl (pB rfl rfl (nl (cd rfl (fun h => nomatch h) (fun _ => sk (sq (sq (os ?_)))))))))))))))))))))))
 first | refine l0 rfl rfl (List.mem_append_right _ (.head _)) ?_ | refine lA rfl rfl (List.mem_append_right _ (.head _)) ?_
 refine c0 rfl (hright) rfl rfl rfl (un (r := .bool _) rfl rfl (nl (cd rfl (fun h => nomatch h) (fun _ => sk (sq (os ?_))))))
 obtain ⟨Q, T, hQ⟩ := TurnX_ex P
 obtain ⟨e1, e2, e3, e4, e5⟩ := ends_turn T hz hR
 have hofQ := RF_of (of_walk Q T.out)
 rw [of_open (.inr (e2.2 hl))] at hofQ
 first | refine l0 rfl rfl (List.mem_append_right _ (.head _)) ?_ | refine lA rfl rfl (List.mem_append_right _ (.head _)) ?_
 refine c0 rfl (hQ) rfl rfl rfl (c0 rfl (hofQ) rfl rfl rfl (mT rfl (ex (v := .s (.int _ _)) rfl rfl (ex (v := .s (.int _ _)) rfl rfl (mI rfl (mI rfl (nl (sq (sq (os (mI rfl (bi rfl rfl (eql_no1 (by decide)) (mB rfl (gt rfl (mI rfl (gt rfl (bi rfl rfl (eql_no1 (by decide)) (pB rfl rfl (nl (cd rfl (fun h => nomatch h) (fun _ => sk (sq (os ?_)))))))))))))))))))))))
 refine mI rfl (mI rfl (bi rfl rfl (eql_yes1 rfl) (mB rfl (gt rfl (mI rfl (gt rfl (mI rfl (gt rfl (bi rfl rfl (eql_yes1 rfl) (pB rfl rfl (mB rfl (nl (rt (⟨_, RS_tmp (v := .s (.bool _)) rfl (RS_nil), ?_⟩))))))))))))))
 rfl
theorem EndsOnly_V2 (P : Nat → Int) (hz : ∀ i, 133 ≤ i → P i = 0) (hp : posM P = true) (hl : ¬ 0 < (movesM P).length) (hk : checkM P (P 128) = true) (hd : P 128 = 0) : WR AM 5 [.agg 133 (ia P)] [] (fun v _ _ => v = .s (.bool true)) := by
 have hof := RF_of (of_walk P hz)
 have hpos := RF_of (Position_walk P)
 rw [hp] at hpos
 rw [of_mate hp hl hk, show winsM (otherM (P 128)) = 2 by rw [hd]; rfl] at hof
 have hchk := check_run P (P 128)
 rw [hk] at hchk
 have hR := pos_right hp
 have hright := RF_of (Right_run P)
 rw [hR] at hright
 refine WR_fn (a := a5) rfl rfl (entryF _) (entry_E (Nat.le_of_ble_eq_true rfl)) (m := 0) rfl (sq (os (xA rfl (mv rfl (nl (sq (sq (os (c0 rfl (RF_of endAwake_run) rfl rfl rfl (un (r := .bool _) rfl rfl (nl (cd rfl (fun h => nomatch h) (fun _ => sk (sq (os ?_)))))))))))))))
 first | refine l0 rfl rfl (.head _) ?_ | refine lA rfl rfl (.head _) ?_
 refine c0 rfl (hof) rfl rfl rfl (mT rfl (ex (v := .s (.int _ _)) rfl rfl (ex (v := .s (.int _ _)) rfl rfl (mI rfl (mI rfl (nl (sq (os ?_))))))))
 first | refine l0 rfl rfl (.head _) ?_ | refine lA rfl rfl (.head _) ?_
 refine c0 rfl (hpos) rfl rfl rfl (mB rfl (gt rfl ?_))
 first | refine l0 rfl rfl (.head _) ?_ | refine lA rfl rfl (.head _) ?_
 refine gt rfl (WO_callRt0 rfl (moves_rt P) rfl rfl (fun v1 own1 n1 hr1 => gt rfl (WO_lenX rfl hr1.rx (by decide) (flat3_len _) (gt rfl (bi rfl rfl (eql_yes1 (by omega)) (pB rfl rfl (mB rfl (nl (sq (sq (os (mB rfl (mI rfl (bi rfl rfl (neq_no1 (by decide)) (WO_eqbF rfl rfl (rfl) (mB rfl (gt rfl (mB rfl (gt rfl (mI rfl (gt rfl (bi rfl rfl (neq_no1 (by decide)) (gt rfl ?_)))))))))))))))))))))))
 refine WO_eqbF rfl rfl (rfl) (pB rfl rfl (mB rfl (gt rfl (mI rfl (gt rfl (bi rfl rfl (eql_yes1 rfl) (gt rfl (mB rfl (gt rfl (mB rfl (gt rfl ?_)))))))))))
 first | refine l0 rfl rfl (List.mem_append_right _ (.head _)) ?_ | refine lA rfl rfl (List.mem_append_right _ (.head _)) ?_
 refine gt rfl (fa (o' := 128) rfl rfl rfl (gt rfl (lI (x := P 128) rfl rfl (List.mem_append_right _ (.head _)) (rfl) (gt rfl (c0 rfl (hchk) rfl rfl rfl (gt rfl (pB rfl rfl (gt rfl (WO_eqbF rfl rfl (rfl) (pB rfl rfl (mB rfl (gt rfl (mI rfl (gt rfl (bi rfl rfl (eql_no1 (by decide)) (gt rfl (mI rfl (gt rfl (bi rfl rfl (eql_no1 (by decide)) (gt rfl (WO_eqbF rfl rfl (rfl) (pB rfl rfl (nl ?_)))))))))))))))))))))))
 refine cd rfl (fun h => nomatch h) (fun _ => sk (sq (sq (os (mI rfl (bi rfl rfl (eql_yes1 rfl) (mB rfl (gt rfl (mI rfl (gt rfl (fa (o' := 128) rfl rfl rfl (gt rfl (lI (x := 0) rfl rfl (List.mem_append_right _ (.head _)) (hd) (gt rfl (c0 rfl (RF_of (Other_run 0)) rfl rfl rfl (gt rfl (c0 rfl (RF_of (wins_walk _)) rfl rfl rfl (gt rfl (bi rfl rfl (neq_of1 rfl) (pB rfl rfl (mB rfl (gt rfl (mI rfl ?_)))))))))))))))))))))))
 refine gt rfl (bi rfl rfl (neq_no1 (by decide)) (gt rfl (mB rfl (gt rfl (mI rfl (gt rfl (bi rfl rfl (neq_of1 rfl) (gt rfl (pB rfl rfl (gt rfl (mB rfl (gf rfl rfl (gf rfl rfl (gt rfl (pB rfl rfl (pB rfl rfl (nl (cd rfl (fun h => nomatch h) (fun _ => sk (sq (sq (os ?_))))))))))))))))))))))
 first | refine l0 rfl rfl (List.mem_append_right _ (.head _)) ?_ | refine lA rfl rfl (List.mem_append_right _ (.head _)) ?_
 refine c0 rfl (hright) rfl rfl rfl (un (r := .bool _) rfl rfl (nl (cd rfl (fun h => nomatch h) (fun _ => sk (sq (os ?_))))))
 obtain ⟨Q, T, hQ⟩ := TurnX_ex P
 obtain ⟨e1, e2, e3, e4, e5⟩ := ends_turn T hz hR
 have hofQ := RF_of (of_walk Q T.out)
 rw [of_mate (by rw [e1]; exact hp) (fun h => hl (e2.1 h)) (by rw [e3]; exact hk), show winsM (otherM (Q 128)) = 1 by rw [e4, hd]; rfl] at hofQ
 first | refine l0 rfl rfl (List.mem_append_right _ (.head _)) ?_ | refine lA rfl rfl (List.mem_append_right _ (.head _)) ?_
 refine c0 rfl (hQ) rfl rfl rfl (c0 rfl (hofQ) rfl rfl rfl (mT rfl (ex (v := .s (.int _ _)) rfl rfl (ex (v := .s (.int _ _)) rfl rfl (mI rfl (mI rfl (nl (sq (sq (os (mI rfl (bi rfl rfl (eql_no1 (by decide)) (mB rfl (gt rfl (mI rfl (gt rfl (bi rfl rfl (eql_yes1 rfl) (pB rfl rfl (nl (cd rfl (fun _ => ?_) (fun h => nomatch h)))))))))))))))))))))
 refine sq (os (mI rfl (mI rfl (bi rfl rfl (eql_yes1 rfl) (mB rfl (gt rfl (mI rfl (gt rfl (mI rfl (gt rfl (ad rfl rfl (by omega) (gt rfl (bi rfl rfl (eql_yes1 rfl) (pB rfl rfl (mB rfl (gt rfl (mI rfl (gt rfl (mI rfl (gt rfl (bi rfl rfl (neq_no1 (by decide)) (pB rfl rfl (mB rfl ?_)))))))))))))))))))))))
 refine nl (rt (⟨_, RS_tmp (v := .s (.bool _)) rfl (RS_nil), ?_⟩))
 rfl
theorem EndsOnly_V3 (P : Nat → Int) (hz : ∀ i, 133 ≤ i → P i = 0) (hp : posM P = true) (hl : ¬ 0 < (movesM P).length) (hk : checkM P (P 128) = true) (hd : P 128 = 1) : WR AM 5 [.agg 133 (ia P)] [] (fun v _ _ => v = .s (.bool true)) := by
 have hof := RF_of (of_walk P hz)
 have hpos := RF_of (Position_walk P)
 rw [hp] at hpos
 rw [of_mate hp hl hk, show winsM (otherM (P 128)) = 1 by rw [hd]; rfl] at hof
 have hchk := check_run P (P 128)
 rw [hk] at hchk
 have hR := pos_right hp
 have hright := RF_of (Right_run P)
 rw [hR] at hright
 refine WR_fn (a := a5) rfl rfl (entryF _) (entry_E (Nat.le_of_ble_eq_true rfl)) (m := 0) rfl (sq (os (xA rfl (mv rfl (nl (sq (sq (os (c0 rfl (RF_of endAwake_run) rfl rfl rfl (un (r := .bool _) rfl rfl (nl (cd rfl (fun h => nomatch h) (fun _ => sk (sq (os ?_)))))))))))))))
 first | refine l0 rfl rfl (.head _) ?_ | refine lA rfl rfl (.head _) ?_
 refine c0 rfl (hof) rfl rfl rfl (mT rfl (ex (v := .s (.int _ _)) rfl rfl (ex (v := .s (.int _ _)) rfl rfl (mI rfl (mI rfl (nl (sq (os ?_))))))))
 first | refine l0 rfl rfl (.head _) ?_ | refine lA rfl rfl (.head _) ?_
 refine c0 rfl (hpos) rfl rfl rfl (mB rfl (gt rfl ?_))
 first | refine l0 rfl rfl (.head _) ?_ | refine lA rfl rfl (.head _) ?_
 refine gt rfl (WO_callRt0 rfl (moves_rt P) rfl rfl (fun v1 own1 n1 hr1 => gt rfl (WO_lenX rfl hr1.rx (by decide) (flat3_len _) (gt rfl (bi rfl rfl (eql_yes1 (by omega)) (pB rfl rfl (mB rfl (nl (sq (sq (os (mB rfl (mI rfl (bi rfl rfl (neq_no1 (by decide)) (WO_eqbF rfl rfl (rfl) (mB rfl (gt rfl (mB rfl (gt rfl (mI rfl (gt rfl (bi rfl rfl (neq_no1 (by decide)) (gt rfl ?_)))))))))))))))))))))))
 refine WO_eqbF rfl rfl (rfl) (pB rfl rfl (mB rfl (gt rfl (mI rfl (gt rfl (bi rfl rfl (eql_yes1 rfl) (gt rfl (mB rfl (gt rfl (mB rfl (gt rfl ?_)))))))))))
 first | refine l0 rfl rfl (List.mem_append_right _ (.head _)) ?_ | refine lA rfl rfl (List.mem_append_right _ (.head _)) ?_
 refine gt rfl (fa (o' := 128) rfl rfl rfl (gt rfl (lI (x := P 128) rfl rfl (List.mem_append_right _ (.head _)) (rfl) (gt rfl (c0 rfl (hchk) rfl rfl rfl (gt rfl (pB rfl rfl (gt rfl (WO_eqbF rfl rfl (rfl) (pB rfl rfl (mB rfl (gt rfl (mI rfl (gt rfl (bi rfl rfl (eql_no1 (by decide)) (gt rfl (mI rfl (gt rfl (bi rfl rfl (eql_no1 (by decide)) (gt rfl (WO_eqbF rfl rfl (rfl) (pB rfl rfl (nl ?_)))))))))))))))))))))))
 refine cd rfl (fun h => nomatch h) (fun _ => sk (sq (sq (os (mI rfl (bi rfl rfl (eql_yes1 rfl) (mB rfl (gt rfl (mI rfl (gt rfl (fa (o' := 128) rfl rfl rfl (gt rfl (lI (x := 1) rfl rfl (List.mem_append_right _ (.head _)) (hd) (gt rfl (c0 rfl (RF_of (Other_run 1)) rfl rfl rfl (gt rfl (c0 rfl (RF_of (wins_walk _)) rfl rfl rfl (gt rfl (bi rfl rfl (neq_of1 rfl) (pB rfl rfl (mB rfl (gt rfl (mI rfl ?_)))))))))))))))))))))))
 refine gt rfl (bi rfl rfl (neq_no1 (by decide)) (gt rfl (mB rfl (gt rfl (mI rfl (gt rfl (bi rfl rfl (neq_of1 rfl) (gt rfl (pB rfl rfl (gt rfl (mB rfl (gf rfl rfl (gf rfl rfl (gt rfl (pB rfl rfl (pB rfl rfl (nl (cd rfl (fun h => nomatch h) (fun _ => sk (sq (sq (os ?_))))))))))))))))))))))
 first | refine l0 rfl rfl (List.mem_append_right _ (.head _)) ?_ | refine lA rfl rfl (List.mem_append_right _ (.head _)) ?_
 refine c0 rfl (hright) rfl rfl rfl (un (r := .bool _) rfl rfl (nl (cd rfl (fun h => nomatch h) (fun _ => sk (sq (os ?_))))))
 obtain ⟨Q, T, hQ⟩ := TurnX_ex P
 obtain ⟨e1, e2, e3, e4, e5⟩ := ends_turn T hz hR
 have hofQ := RF_of (of_walk Q T.out)
 rw [of_mate (by rw [e1]; exact hp) (fun h => hl (e2.1 h)) (by rw [e3]; exact hk), show winsM (otherM (Q 128)) = 2 by rw [e4, hd]; rfl] at hofQ
 first | refine l0 rfl rfl (List.mem_append_right _ (.head _)) ?_ | refine lA rfl rfl (List.mem_append_right _ (.head _)) ?_
 refine c0 rfl (hQ) rfl rfl rfl (c0 rfl (hofQ) rfl rfl rfl (mT rfl (ex (v := .s (.int _ _)) rfl rfl (ex (v := .s (.int _ _)) rfl rfl (mI rfl (mI rfl (nl (sq (sq (os (mI rfl (bi rfl rfl (eql_yes1 rfl) (mB rfl (gf rfl rfl (gf rfl rfl (pB rfl rfl (nl (cd rfl (fun _ => ?_) (fun h => nomatch h)))))))))))))))))))
 refine sq (os (mI rfl (mI rfl (bi rfl rfl (eql_yes1 rfl) (mB rfl (gt rfl (mI rfl (gt rfl (mI rfl (gt rfl (ad rfl rfl (by omega) (gt rfl (bi rfl rfl (eql_yes1 rfl) (pB rfl rfl (mB rfl (gt rfl (mI rfl (gt rfl (mI rfl (gt rfl (bi rfl rfl (neq_no1 (by decide)) (pB rfl rfl (mB rfl ?_)))))))))))))))))))))))
 refine nl (rt (⟨_, RS_tmp (v := .s (.bool _)) rfl (RS_nil), ?_⟩))
 rfl
theorem EndsOnly_V4 (P : Nat → Int) (hz : ∀ i, 133 ≤ i → P i = 0) (hp : posM P = true) (hl : ¬ 0 < (movesM P).length) (hk : checkM P (P 128) = false) : WR AM 5 [.agg 133 (ia P)] [] (fun v _ _ => v = .s (.bool true)) := by
 have hof := RF_of (of_walk P hz)
 have hpos := RF_of (Position_walk P)
 rw [hp] at hpos
 rw [of_stale hp hl hk] at hof
 have hchk := check_run P (P 128)
 rw [hk] at hchk
 have hR := pos_right hp
 have hright := RF_of (Right_run P)
 rw [hR] at hright
 refine WR_fn (a := a5) rfl rfl (entryF _) (entry_E (Nat.le_of_ble_eq_true rfl)) (m := 0) rfl (sq (os (xA rfl (mv rfl (nl (sq (sq (os (c0 rfl (RF_of endAwake_run) rfl rfl rfl (un (r := .bool _) rfl rfl (nl (cd rfl (fun h => nomatch h) (fun _ => sk (sq (os ?_)))))))))))))))
 first | refine l0 rfl rfl (.head _) ?_ | refine lA rfl rfl (.head _) ?_
 refine c0 rfl (hof) rfl rfl rfl (mT rfl (ex (v := .s (.int _ _)) rfl rfl (ex (v := .s (.int _ _)) rfl rfl (mI rfl (mI rfl (nl (sq (os ?_))))))))
 first | refine l0 rfl rfl (.head _) ?_ | refine lA rfl rfl (.head _) ?_
 refine c0 rfl (hpos) rfl rfl rfl (mB rfl (gt rfl ?_))
 first | refine l0 rfl rfl (.head _) ?_ | refine lA rfl rfl (.head _) ?_
 refine gt rfl (WO_callRt0 rfl (moves_rt P) rfl rfl (fun v1 own1 n1 hr1 => gt rfl (WO_lenX rfl hr1.rx (by decide) (flat3_len _) (gt rfl (bi rfl rfl (eql_yes1 (by omega)) (pB rfl rfl (mB rfl (nl (sq (sq (os (mB rfl (mI rfl (bi rfl rfl (neq_no1 (by decide)) (WO_eqbF rfl rfl (rfl) (mB rfl (gt rfl (mB rfl (gt rfl (mI rfl (gt rfl (bi rfl rfl (neq_no1 (by decide)) (gt rfl ?_)))))))))))))))))))))))
 refine WO_eqbF rfl rfl (rfl) (pB rfl rfl (mB rfl (gt rfl (mI rfl (gt rfl (bi rfl rfl (eql_no1 (by decide)) (gt rfl (mB rfl (gt rfl (mB rfl (gt rfl ?_)))))))))))
 first | refine l0 rfl rfl (List.mem_append_right _ (.head _)) ?_ | refine lA rfl rfl (List.mem_append_right _ (.head _)) ?_
 refine gt rfl (fa (o' := 128) rfl rfl rfl (gt rfl (lI (x := P 128) rfl rfl (List.mem_append_right _ (.head _)) (rfl) (gt rfl (c0 rfl (hchk) rfl rfl rfl (gt rfl (pB rfl rfl (gt rfl (WO_eqbF rfl rfl (rfl) (pB rfl rfl (mB rfl (gt rfl (mI rfl (gt rfl (bi rfl rfl (eql_yes1 rfl) (gt rfl (mI rfl (gt rfl (bi rfl rfl (eql_yes1 rfl) (gt rfl (WO_eqbF rfl rfl (rfl) (pB rfl rfl (nl ?_)))))))))))))))))))))))
 refine cd rfl (fun h => nomatch h) (fun _ => sk (sq (sq (os (mI rfl (bi rfl rfl (eql_no1 (by decide)) (mB rfl (gf rfl rfl (gf rfl rfl (gf rfl rfl (gf rfl rfl (gf rfl rfl (gf rfl rfl (pB rfl rfl (mB rfl (gt rfl (mI rfl (gt rfl (bi rfl rfl (neq_no1 (by decide)) (gt rfl (mB rfl (gt rfl (mI rfl ?_)))))))))))))))))))))))
 refine gt rfl (bi rfl rfl (neq_no1 (by decide)) (gt rfl (pB rfl rfl (gt rfl (mB rfl (gt rfl (mI rfl (gt rfl (bi rfl rfl (neq_of1 rfl) (gt rfl (pB rfl rfl (pB rfl rfl (nl (cd rfl (fun h => nomatch h) (fun _ => sk (sq (sq (os ?_))))))))))))))))))
 first | refine l0 rfl rfl (List.mem_append_right _ (.head _)) ?_ | refine lA rfl rfl (List.mem_append_right _ (.head _)) ?_
 refine c0 rfl (hright) rfl rfl rfl (un (r := .bool _) rfl rfl (nl (cd rfl (fun h => nomatch h) (fun _ => sk (sq (os ?_))))))
 obtain ⟨Q, T, hQ⟩ := TurnX_ex P
 obtain ⟨e1, e2, e3, e4, e5⟩ := ends_turn T hz hR
 have hofQ := RF_of (of_walk Q T.out)
 rw [of_stale (by rw [e1]; exact hp) (fun h => hl (e2.1 h)) (by rw [e3]; exact hk)] at hofQ
 first | refine l0 rfl rfl (List.mem_append_right _ (.head _)) ?_ | refine lA rfl rfl (List.mem_append_right _ (.head _)) ?_
 refine c0 rfl (hQ) rfl rfl rfl (c0 rfl (hofQ) rfl rfl rfl (mT rfl (ex (v := .s (.int _ _)) rfl rfl (ex (v := .s (.int _ _)) rfl rfl (mI rfl (mI rfl (nl (sq (sq (os (mI rfl (bi rfl rfl (eql_no1 (by decide)) (mB rfl (gt rfl (mI rfl (gt rfl (bi rfl rfl (eql_no1 (by decide)) (pB rfl rfl (nl (cd rfl (fun h => nomatch h) (fun _ => sk (sq (os ?_)))))))))))))))))))))))
 refine mI rfl (mI rfl (bi rfl rfl (eql_yes1 rfl) (mB rfl (gt rfl (mI rfl (gt rfl (mI rfl (gt rfl (bi rfl rfl (eql_yes1 rfl) (pB rfl rfl (mB rfl (nl (rt (⟨_, RS_tmp (v := .s (.bool _)) rfl (RS_nil), ?_⟩))))))))))))))
 rfl
theorem EndsOnly_run (P : Nat → Int) (hz : ∀ i, 133 ≤ i → P i = 0) : WR AM 5 [.agg 133 (ia P)] [] (fun v _ _ => v = .s (.bool true)) := by
 cases hp : posM P with
 | false => exact EndsOnly_V0 P hz hp
 | true =>
  by_cases hl : 0 < (movesM P).length
  ·exact EndsOnly_V1 P hz hp hl
  ·cases hk : checkM P (P 128) with
   | false => exact EndsOnly_V4 P hz hp hl hk
   | true =>
    rcases (right_is2 (pos_right hp)).2 with hd | hd
    ·exact EndsOnly_V2 P hz hp hl hk hd
    ·exact EndsOnly_V3 P hz hp hl hk hd
end Go.Proofs.YtlkighkfkdpncaaGreat
