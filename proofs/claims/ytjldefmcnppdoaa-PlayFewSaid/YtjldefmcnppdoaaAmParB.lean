/- Operations whose order Go leaves open: the state when some of them have been carried out. -/
import Derived.Test.YtjldefmcnppdoaaAmPar
namespace Go.Am
open Go

/-! ### The run in the text's order, step by step -/

structure Tr (run : Runner) (is : List I) (e0 : Env) (σ0 : Heap) (tr : Nat → Env × Heap) : Prop where
  zero : tr 0 = (e0, σ0)
  step : ∀ (k : Nat) i, is[k]? = some i → ∃ x, stepV run i (tr k).1 (tr k).2 = some (x, (tr (k + 1)).2) ∧ (tr (k + 1)).1 = putT (tr k).1 i.dst x

theorem trace {run : Runner} : ∀ {is : List I} {e0 e' : Env} {σ0 σ' : Heap}, opsV run is e0 σ0 = some (e', σ') → ∃ tr, Tr run is e0 σ0 tr ∧ tr is.length = (e', σ')
  | [], e0, e', σ0, σ', h => by
    simp only [opsV, Option.some.injEq] at h
    exact ⟨fun _ => (e0, σ0), ⟨rfl, fun k i hi => by simp at hi⟩, h⟩
  | i :: is, e0, e', σ0, σ', h => by
    simp only [opsV, Option.bind_eq_some_iff] at h
    obtain ⟨⟨e1, σ1⟩, h1, h2⟩ := h
    obtain ⟨tr, ht, hl⟩ := trace h2
    rw [stepI_stepV] at h1
    simp only [Option.map_eq_some_iff] at h1
    obtain ⟨⟨x, σx⟩, hx, h1⟩ := h1
    injection h1 with h3 h4
    refine ⟨fun k => match k with | 0 => (e0, σ0) | k + 1 => tr k, ⟨rfl, fun k j hj => ?_⟩, hl⟩
    cases k with
    | zero =>
      simp at hj
      subst hj
      refine ⟨x, ?_, ?_⟩
      · show stepV run i e0 σ0 = some (x, (tr 0).2)
        rw [ht.zero]
        simp only at h4
        rw [hx, h4]
      · show (tr 0).1 = putT e0 i.dst x
        rw [ht.zero, h3]
    | succ k =>
      simp at hj
      exact ht.step k j hj

theorem putT_len (e : Env) (d : Option Nat) (x : V) : (putT e d x).length = e.length := by cases d <;> simp [putT]

theorem putT_other {e : Env} {d : Option Nat} {x : V} {t : Nat} (h : d ≠ some t) : (putT e d x).getD t .undef = e.getD t .undef := by
  cases d with
  | none => rfl
  | some d =>
    have hne : d ≠ t := fun q => h (by rw [q])
    simp only [putT, List.getD_eq_getElem?_getD, List.getElem?_set_ne hne]

theorem putT_same {e f : Env} {d : Nat} {x : V} (h : e.length = f.length) : (putT e (some d) x).getD d .undef = (putT f (some d) x).getD d .undef := by
  simp only [putT, List.getD_eq_getElem?_getD, List.getElem?_set_self']
  by_cases hd : d < e.length
  · rw [List.getElem?_eq_getElem hd, List.getElem?_eq_getElem (by omega)]; rfl
  · rw [List.getElem?_eq_none (by omega), List.getElem?_eq_none (by omega)]

section
variable {run : Runner} {is : List I} {e0 : Env} {σ0 : Heap} {tr : Nat → Env × Heap}

theorem Tr.elen (h : Tr run is e0 σ0 tr) : ∀ k, k ≤ is.length → (tr k).1.length = e0.length
  | 0, _ => by rw [h.zero]
  | k + 1, hk => by
    obtain ⟨x, _, hx⟩ := h.step k _ (List.getElem?_eq_getElem (by omega))
    rw [hx, putT_len]
    exact h.elen k (by omega)

theorem Tr.hlen (h : Tr run is e0 σ0 tr) {k : Nat} : ∀ j, k + j ≤ is.length → (tr k).2.length ≤ (tr (k + j)).2.length
  | 0, _ => Nat.le_refl _
  | j + 1, hj => by
    obtain ⟨x, hx, _⟩ := h.step (k + j) _ (List.getElem?_eq_getElem (by omega))
    exact Nat.le_trans (h.hlen j (by omega)) (stepV_len hx)

theorem Tr.hle (h : Tr run is e0 σ0 tr) {k k' : Nat} (hk : k ≤ k') (hk' : k' ≤ is.length) : (tr k).2.length ≤ (tr k').2.length := by
  have := h.hlen (k := k) (k' - k) (by omega)
  rwa [show k + (k' - k) = k' by omega] at this

theorem Tr.hext (h : Tr run is e0 σ0 tr) {k : Nat} : ∀ j, k + j ≤ is.length → (∀ i I, is[i]? = some I → k ≤ i → i < k + j → I.ins.kd ≠ .eff) → ∃ new, (tr (k + j)).2 = (tr k).2 ++ new
  | 0, _, _ => ⟨[], by simp⟩
  | j + 1, hj, hq => by
    obtain ⟨new, hnew⟩ := h.hext j (by omega) (fun i I hi h1 h2 => hq i I hi h1 (by omega))
    have hI := List.getElem?_eq_getElem (show k + j < is.length by omega)
    obtain ⟨x, hx, _⟩ := h.step (k + j) _ hI
    obtain ⟨more, hmore⟩ := stepV_ext (hq (k + j) _ hI (by omega) (by omega)) hx
    exact ⟨new ++ more, by rw [← Nat.add_assoc, hmore, hnew, List.append_assoc]⟩

theorem Tr.same (h : Tr run is e0 σ0 tr) {k t : Nat} : ∀ j, k + j ≤ is.length → (∀ i I, is[i]? = some I → k ≤ i → i < k + j → I.dst ≠ some t) → (tr (k + j)).1.getD t .undef = (tr k).1.getD t .undef
  | 0, _, _ => rfl
  | j + 1, hj, hq => by
    have hI := List.getElem?_eq_getElem (show k + j < is.length by omega)
    obtain ⟨x, _, hx⟩ := h.step (k + j) _ hI
    rw [← Nat.add_assoc, hx, putT_other (hq (k + j) _ hI (by omega) (by omega))]
    exact h.same j (by omega) (fun i I hi h1 h2 => hq i I hi h1 (by omega))

end

/-! ### What the look at a region says -/

theorem parOne_spec {m : List Nat} {i : Nat} {x : I} : ∀ {r : List I} {k : Nat}, parOne m i x (r.zipIdx k) = true → ∀ (j : Nat) y, r[j]? = some y → ((m.getD (k + j) 0).testBit i = true ∨ (tmpFree x y = true ∧ kdFree x y = true)) ∧ ¬ (x.dst.isSome = true ∧ x.dst = y.dst)
  | [], k, _, j, y, hj => by simp at hj
  | z :: r, k, h, j, y, hj => by
    rw [List.zipIdx_cons] at h
    simp only [parOne, Bool.and_eq_true, Bool.or_eq_true, Bool.not_eq_true', Bool.and_eq_false_iff] at h
    cases j with
    | zero =>
      simp at hj
      subst hj
      refine ⟨h.1.1, fun ⟨h1, h2⟩ => ?_⟩
      rcases h.1.2 with h3 | h3
      · rw [h1] at h3; simp at h3
      · rw [h2] at h3; simp at h3
    | succ j =>
      simp at hj
      have := parOne_spec h.2 j y hj
      rwa [show k + 1 + j = k + (j + 1) by omega] at this

theorem parAll_spec {m : List Nat} : ∀ {r : List I} {k : Nat}, parAll m (r.zipIdx k) = true → ∀ (i j : Nat) x y, i < j → r[i]? = some x → r[j]? = some y → ((m.getD (k + j) 0).testBit (k + i) = true ∨ (tmpFree x y = true ∧ kdFree x y = true)) ∧ ¬ (x.dst.isSome = true ∧ x.dst = y.dst)
  | [], k, _, i, j, x, y, _, hi, _ => by simp at hi
  | z :: r, k, h, i, j, x, y, hij, hi, hj => by
    rw [List.zipIdx_cons] at h
    simp only [parAll, Bool.and_eq_true] at h
    obtain ⟨j, rfl⟩ : ∃ j', j = j' + 1 := ⟨j - 1, by omega⟩
    simp at hj
    cases i with
    | zero =>
      simp at hi
      subst hi
      have := parOne_spec h.1 j y hj
      rwa [show k + 1 + j = k + (j + 1) by omega] at this
    | succ i =>
      simp at hi
      have := parAll_spec h.2 i j x y (by omega) hi hj
      rwa [show k + 1 + j = k + (j + 1) by omega, show k + 1 + i = k + (i + 1) by omega] at this

theorem bm_bit {acc : List Nat} {i : Nat} : ∀ {es : List Edge}, (bm acc es).testBit i = true → ∃ e ∈ es, Region.binds .any e = true ∧ (i = e.on ∨ (acc.getD e.on 0).testBit i = true)
  | [], h => by simp [bm] at h
  | e :: r, h => by
    unfold bm at h
    split at h
    · rename_i hb
      simp only [Nat.testBit_or, Bool.or_eq_true, Nat.testBit_two_pow, decide_eq_true_eq] at h
      rcases h with (h | h) | h
      · exact ⟨e, by simp, hb, .inl h.symm⟩
      · exact ⟨e, by simp, hb, .inr h⟩
      · obtain ⟨e', h1, h2⟩ := bm_bit h
        exact ⟨e', by simp [h1], h2⟩
    · obtain ⟨e', h1, h2⟩ := bm_bit h
      exact ⟨e', by simp [h1], h2⟩

theorem bmasks_spec : ∀ {L : List Oper} {acc : List Nat}, (∀ i, i < acc.length → (bmasks L acc).getD i 0 = acc.getD i 0) ∧
    ∀ (j : Nat) o, L[j]? = some o → ∃ acc', (bmasks L acc).getD (acc.length + j) 0 = bm acc' o.after.toList ∧ ∀ i, i < acc.length + j → acc'.getD i 0 = (bmasks L acc).getD i 0
  | [], acc => ⟨fun i _ => rfl, fun j o h => by simp at h⟩
  | o :: L, acc => by
    have ih := bmasks_spec (L := L) (acc := acc ++ [bm acc o.after.toList])
    have hlen : (acc ++ [bm acc o.after.toList]).length = acc.length + 1 := by simp
    have h1 : ∀ i, i < acc.length → (bmasks (o :: L) acc).getD i 0 = acc.getD i 0 := by
      intro i hi
      show (bmasks L (acc ++ [bm acc o.after.toList])).getD i 0 = _
      rw [ih.1 i (by omega)]
      simp only [List.getD_eq_getElem?_getD, List.getElem?_append_left hi]
    refine ⟨h1, fun j o' hj => ?_⟩
    cases j with
    | zero =>
      simp at hj
      subst hj
      refine ⟨acc, ?_, fun i hi => (h1 i (by omega)).symm⟩
      show (bmasks L (acc ++ [bm acc o.after.toList])).getD acc.length 0 = _
      rw [ih.1 acc.length (by omega)]
      simp
    | succ j =>
      simp at hj
      obtain ⟨acc', h2, h3⟩ := ih.2 j o' hj
      rw [hlen] at h2 h3
      exact ⟨acc', by rw [show acc.length + (j + 1) = acc.length + 1 + j by omega]; exact h2, fun i hi => h3 i (by omega)⟩

theorem edgesOK_spec : ∀ {L : List Oper} {k : Nat}, edgesOK (L.zipIdx k) = true → ∀ (j : Nat) o, L[j]? = some o → ∀ e ∈ o.after.toList, Region.binds .any e = true → e.on < k + j
  | [], k, _, j, o, h => by simp at h
  | z :: L, k, h, j, o, hj => by
    rw [List.zipIdx_cons] at h
    simp only [edgesOK, Bool.and_eq_true, List.all_eq_true, Bool.or_eq_true, Bool.not_eq_true', decide_eq_true_eq] at h
    cases j with
    | zero =>
      simp at hj
      subst hj
      intro e he hb
      rcases h.1 e he with h1 | h1
      · rw [hb] at h1; simp at h1
      · omega
    | succ j =>
      simp at hj
      intro e he hb
      have := edgesOK_spec h.2 j o hj e he hb
      omega

/-- All that has been carried out had its turn. -/
def Closed (L : List Oper) (lst : Nat → Bool) : Prop := ∀ (j : Nat) o, L[j]? = some o → lst j = true → ∀ e ∈ o.after.toList, Region.binds .any e = true → lst e.on = true

theorem closed_mask {L : List Oper} (hedge : edgesOK (L.zipIdx 0) = true) {lst : Nat → Bool} (hc : Closed L lst) : ∀ (n j : Nat) o, j ≤ n → L[j]? = some o → (∀ e ∈ o.after.toList, Region.binds .any e = true → lst e.on = true) →
    ∀ i, ((bmasks L []).getD j 0).testBit i = true → lst i = true := by
  intro n
  induction n with
  | zero =>
    intro j o hj ho hr i hi
    obtain ⟨acc', h1, h2⟩ := (bmasks_spec (L := L) (acc := [])).2 j o ho
    simp only [List.length_nil, Nat.zero_add] at h1
    rw [h1] at hi
    obtain ⟨e, he, hb, hor⟩ := bm_bit hi
    have := edgesOK_spec hedge j o ho e he hb
    omega
  | succ n ih =>
    intro j o hj ho hr i hi
    obtain ⟨acc', h1, h2⟩ := (bmasks_spec (L := L) (acc := [])).2 j o ho
    simp only [List.length_nil, Nat.zero_add] at h1 h2
    rw [h1] at hi
    obtain ⟨e, he, hb, hor⟩ := bm_bit hi
    have hlt := edgesOK_spec hedge j o ho e he hb
    have hl := hr e he hb
    rcases hor with rfl | hor
    · exact hl
    · rw [h2 e.on (by omega)] at hor
      have hjl : j < L.length := by
        rcases Nat.lt_or_ge j L.length with q | q
        · exact q
        · rw [List.getElem?_eq_none q] at ho; simp at ho
      have hoe := List.getElem?_eq_getElem (show e.on < L.length by omega)
      exact ih e.on _ (by omega) hoe (fun e' he' hb' => hc e.on _ hoe hl e' he' hb') i hor

theorem compPar_spec {P : Program} {ops : List Oper} {m : List Nat} : ∀ {L : List Oper} {k : Nat} {is : List I}, compPar P ops m (L.zipIdx k) = some is → is.length = L.length ∧ ∀ (j : Nat) o, L[j]? = some o → ∃ q i, is[j]? = some i ∧ compI P ops q o = some i
  | [], k, is, h => by simp [compPar] at h; subst h; simp
  | z :: L, k, is, h => by
    rw [List.zipIdx_cons] at h
    simp only [compPar] at h
    split at h
    · rename_i i r h1 h2
      injection h with h
      subst h
      obtain ⟨e1, e2⟩ := compPar_spec h2
      refine ⟨by simp [e1], fun j o hj => ?_⟩
      cases j with
      | zero => simp at hj; subst hj; exact ⟨_, i, rfl, h1⟩
      | succ j => simp at hj; simpa using e2 j o hj
    · simp at h

theorem compH_eff {P : Program} {q : Bool} {op : Op} {i : HIns} (h : compH P q op = some i) (hk : i.kd = .eff) : compH P false op = some i := by
  cases op with
  | call c =>
    simp only [compH] at h ⊢
    split at h
    · split at h
      · injection h with h
        subst h
        cases q
        · simp_all
        · simp [HIns.kd] at hk
      · simp at h
    · exact h
    · simp at h
  | makeMap t r => cases r <;> exact h
  | _ => exact h

theorem compIns_eff {P : Program} {q : Bool} {op : Op} {i : Ins} (h : compIns P q op = some i) (hk : i.kd = .eff) : compIns P false op = some i := by
  unfold compIns at h ⊢
  split at h
  · injection h with h; subst h; simp [Ins.kd] at hk
  · rename_i hn
    simp only [Option.map_eq_some_iff] at h ⊢
    obtain ⟨j, hj, rfl⟩ := h
    exact ⟨j, compH_eff hj hk, rfl⟩

/-! ### One operation, with its guard -/

theorem step_q {P : Program} {run : Runner} (hrun : RunOK P run) {ops : Array Oper} {o : Oper} {q : Bool} {i : I} (hc : compI P ops.toList q o = some i) (hk : i.ins.kd ≠ .eff) {ι : Inj} {σ : Heap} {W : World} {e : Env} {a : Act} {x : V} {σ' : Heap}
    (hE : EnvR ι e a.tmps) (hR : RelW ι σ W) (hv : stepV run i e σ = some (x, σ')) (hnone : ∀ b, σ.length ≤ b → b < σ'.length → ι b = none) {K : Act → World → Prop} {Q : Exit → Act → World → Prop}
    (hK : ∀ v W' ι', VR ι' x v → QPost ι σ W ι' σ' W' → K (a.put o.dst v) W') : (if Region.wanted o (yielded ops a.tmps) then o.wp P a W K Q else K (a.put o.dst Go.undef) W) := by
  obtain ⟨hd, hg, hi⟩ := compI_parts hc
  have hw := guard_sound hE hg
  unfold stepV at hv
  split at hv
  · rename_i hgn
    rw [if_pos (hw.1 hgn)]
    exact ins_quiet hrun hi hk hE hR hv hnone hK
  · rename_i t want hgs
    split at hv
    · rename_i b hb
      rw [hw.2 t want hgs b hb]
      cases hbw : b == want
      · rw [hbw] at hv
        simp only [cond_false, Option.some.injEq, Prod.mk.injEq] at hv
        obtain ⟨rfl, rfl⟩ := hv
        simp only [Bool.false_eq_true, if_false]
        exact hK _ W ι (vr_skip ι) (QPost.refl hR)
      · rw [hbw] at hv
        simp only [cond_true] at hv
        simp only [if_true]
        exact ins_quiet hrun hi hk hE hR hv hnone hK
    · rename_i hb
      rw [guard_skip hE hg hgs hb]
      simp only [Option.some.injEq, Prod.mk.injEq] at hv
      obtain ⟨rfl, rfl⟩ := hv
      simp only [Bool.false_eq_true, if_false]
      exact hK _ W ι (vr_skip ι) (QPost.refl hR)
    · simp at hv

theorem step_e {P : Program} {run : Runner} (hrun : RunOK P run) {ops : Array Oper} {o : Oper} {q : Bool} {i : I} (hc : compI P ops.toList q o = some i) (hk : i.ins.kd = .eff) {ι : Inj} {σ : Heap} {W : World} {e : Env} {a : Act} {x : V} {σ' : Heap}
    (hE : EnvR ι e a.tmps) (hR : RelW ι σ W) (hD : Dom ι σ) (hv : stepV run i e σ = some (x, σ')) {K : Act → World → Prop} {Q : Exit → Act → World → Prop}
    (hK : ∀ v W' ι', VR ι' x v → Post ι σ W ι' σ' W' → K (a.put o.dst v) W') : (if Region.wanted o (yielded ops a.tmps) then o.wp P a W K Q else K (a.put o.dst Go.undef) W) := by
  obtain ⟨hd, hg, hi⟩ := compI_parts hc
  have hi' := compIns_eff hi hk
  have hw := guard_sound hE hg
  unfold stepV at hv
  split at hv
  · rename_i hgn
    rw [if_pos (hw.1 hgn)]
    exact ins_eff hrun hi' hE hR hD hv hK
  · rename_i t want hgs
    split at hv
    · rename_i b hb
      rw [hw.2 t want hgs b hb]
      cases hbw : b == want
      · rw [hbw] at hv
        simp only [cond_false, Option.some.injEq, Prod.mk.injEq] at hv
        obtain ⟨rfl, rfl⟩ := hv
        simp only [Bool.false_eq_true, if_false]
        exact hK _ W ι (vr_skip ι) (QPost.refl hR).post
      · rw [hbw] at hv
        simp only [cond_true] at hv
        simp only [if_true]
        exact ins_eff hrun hi' hE hR hD hv hK
    · rename_i hb
      rw [guard_skip hE hg hgs hb]
      simp only [Option.some.injEq, Prod.mk.injEq] at hv
      obtain ⟨rfl, rfl⟩ := hv
      simp only [Bool.false_eq_true, if_false]
      exact hK _ W ι (vr_skip ι) (QPost.refl hR).post
    · simp at hv

end Go.Am
