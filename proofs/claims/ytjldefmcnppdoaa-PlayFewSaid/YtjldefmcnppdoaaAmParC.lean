/- Operations whose order Go leaves open: every order. -/
import Derived.Test.YtjldefmcnppdoaaAmParB
namespace Go.Am
open Go

/-- More blocks behind: what is placed is as it was. -/
theorem RelW.front {ι : Inj} {σ : Heap} {W : World} {more : List Blk} (h : RelW ι (σ ++ more) W) : RelW ι σ W := by
  have hl : ∀ (b : Nat) (x : Blk), σ[b]? = some x → (σ ++ more)[b]? = some x := fun b x hx => by
    have hlt : b < σ.length := by
      rcases Nat.lt_or_ge b σ.length with q | q
      · exact q
      · rw [List.getElem?_eq_none q] at hx; simp at hx
    rw [List.getElem?_append_left hlt]
    exact hx
  exact ⟨h.lt, fun b p x hp hx => h.blk b p x hp (hl b x hx), fun b b' p p' hp hp' hne ⟨x, hx, hm⟩ ⟨y, hy, hl'⟩ => h.sep b b' p p' hp hp' hne ⟨x, hl b x hx, hm⟩ ⟨y, hl b' y hy, hl'⟩⟩

theorem RelW.behind {ι : Inj} {σ : Heap} {W : World} {more : List Blk} (h : RelW ι σ W) (hD : Dom ι σ) : RelW ι (σ ++ more) W := by
  refine ⟨h.lt, fun b p x hp hx => ?_, fun b b' p p' hp hp' hne ⟨x, hx, hm⟩ ⟨y, hy, hl'⟩ => ?_⟩
  · rw [List.getElem?_append_left (hD b p hp)] at hx
    exact h.blk b p x hp hx
  · rw [List.getElem?_append_left (hD b p hp)] at hx
    rw [List.getElem?_append_left (hD b' p' hp')] at hy
    exact h.sep b b' p p' hp hp' hne ⟨x, hx, hm⟩ ⟨y, hy, hl'⟩

/-- A quiet step at an earlier place of a heap that has grown since. -/
theorem QPost.later {ι ι' : Inj} {σ σ' : Heap} {W W' : World} {more : List Blk} (hR : RelW ι (σ' ++ more) W) (h : QPost ι σ W ι' σ' W') : RelW ι' (σ' ++ more) W' := by
  have hold : ∀ b p, ι' b = some p → ι b = some p ∨ (ι b = none ∧ b < σ'.length ∧ W.heap.size ≤ p.c) := by
    intro b p hp
    cases hn : ι b with
    | none => have := h.fresh b p hp hn; exact .inr ⟨rfl, this.1.2, this.2⟩
    | some q => have := h.ext b q hn; rw [hp] at this; injection this with this; subst this; exact .inl rfl
  have hlow : ∀ (b : Nat) (x : Blk), b < σ'.length → (σ' ++ more)[b]? = some x → σ'[b]? = some x := fun b x hb hx => by rw [List.getElem?_append_left hb] at hx; exact hx
  refine ⟨h.rel.lt, fun b p x hp hx => ?_, fun b b' p p' hp hp' hne h1 h2 => ?_⟩
  · rcases hold b p hp with ho | ⟨_, hb, _⟩
    · exact (hR.blk b p x ho hx).keep h.ext (h.frame _ (hR.lt b p ho))
    · exact h.rel.blk b p x hp (hlow b x hb hx)
  · rcases hold b p hp with ho | ⟨_, hb, hc⟩ <;> rcases hold b' p' hp' with ho' | ⟨_, hb', hc'⟩
    · exact hR.sep b b' p p' ho ho' hne h1 h2
    · have := hR.lt b p ho; omega
    · have := hR.lt b' p' ho'; omega
    · obtain ⟨x, hx, hm⟩ := h1
      obtain ⟨y, hy, hl⟩ := h2
      exact h.rel.sep b b' p p' hp hp' hne ⟨x, hlow b x hb hx, hm⟩ ⟨y, hlow b' y hb' hy, hl⟩

/-- How many are still to come. -/
def unl (lst : Nat → Bool) : Nat → Nat
  | 0 => 0
  | n + 1 => unl lst n + if lst n then 0 else 1

theorem unl_zero {lst : Nat → Bool} : ∀ {n : Nat}, unl lst n = 0 → ∀ i, i < n → lst i = true
  | 0, _, i, hi => by omega
  | n + 1, h, i, hi => by
    simp only [unl] at h
    by_cases e : i = n
    · subst e
      cases hl : lst i
      · rw [hl] at h; simp at h
      · rfl
    · exact unl_zero (n := n) (by omega) i (by omega)

theorem unl_set {lst lst' : Nat → Bool} {i : Nat} (h : lst i = false) (h' : lst' i = true) (ho : ∀ j, j ≠ i → lst' j = lst j) : ∀ {n : Nat}, (n ≤ i → unl lst' n = unl lst n) ∧ (i < n → unl lst' n + 1 = unl lst n)
  | 0 => ⟨fun _ => rfl, fun h => by omega⟩
  | n + 1 => by
    have ih := unl_set h h' ho (n := n)
    simp only [unl]
    refine ⟨fun hn => ?_, fun hn => ?_⟩
    · rw [ih.1 (by omega), ho n (by omega)]
    · by_cases e : n = i
      · subst e
        rw [ih.1 (Nat.le_refl _), h, h']
        simp
      · rw [ho n e, ← ih.2 (by omega)]
        omega

structure Inv (is : List I) (L : List Oper) (e0 : Env) (σ0 : Heap) (ι0 : Inj) (W0 : World) (d0 : List Deferred) (tr : Nat → Env × Heap) (lst : Nat → Bool) (a : Act) (W : World) (ι : Inj) (k : Nat) (es : Env) : Prop where
  closed : Closed L lst
  env : EnvR ι es a.tmps
  elen : es.length = e0.length
  w1 : ∀ (i : Nat) I d, is[i]? = some I → lst i = true → I.dst = some d → es.getD d .undef = (tr (i + 1)).1.getD d .undef
  w2 : ∀ t, (∀ (i : Nat) I, is[i]? = some I → lst i = true → I.dst ≠ some t) → es.getD t .undef = e0.getD t .undef
  kle : k ≤ is.length
  f1 : ∀ (i : Nat) I, is[i]? = some I → i < k → I.ins.kd = .eff → lst i = true
  f2 : k < is.length → ∃ I, is[k]? = some I ∧ I.ins.kd = .eff ∧ lst k = false
  rel : RelW ι (tr k).2 W
  dom : ∀ b p, ι b = some p → b < σ0.length ∨ ∃ i, i < is.length ∧ lst i = true ∧ (tr i).2.length ≤ b ∧ b < (tr (i + 1)).2.length
  same : Same W0 W
  ext : Ext ι0 ι
  frame : ∀ c, c < W0.heap.size → (∀ b p, ι0 b = some p → mutb σ0 b → p.c ≠ c) → W.heap[c]? = W0.heap[c]?
  fresh : ∀ b p, ι b = some p → ι0 b = none → σ0.length ≤ b ∧ (W0.heap.size ≤ p.c ∨ ∃ b0 p0, ι0 b0 = some p0 ∧ mutb σ0 b0 ∧ p0.c = p.c)
  mono : ∀ b, b < σ0.length → mutb (tr k).2 b → mutb σ0 b
  lives : ∀ b, b < σ0.length → liveb (tr k).2 b → liveb σ0 b
  defers : a.defers = d0

theorem tmpFree_spec {x y : I} (h : tmpFree x y = true) : (∀ d, x.dst = some d → d ∉ y.reads ∧ y.dst ≠ some d) ∧ (∀ d, y.dst = some d → d ∉ x.reads) := by
  unfold tmpFree at h
  simp only [Bool.and_eq_true] at h
  refine ⟨fun d hd => ?_, fun d hd => ?_⟩
  · have h1 := h.1
    rw [hd] at h1
    simp at h1
    exact ⟨h1.1, h1.2⟩
  · have h2 := h.2
    rw [hd] at h2
    simpa using h2

section
variable {P : Program} {run : Runner} {ops : Array Oper} {is : List I} {e0 : Env} {σ0 : Heap} {ι0 : Inj} {W0 : World} {d0 : List Deferred} {tr : Nat → Env × Heap}

/-- The first operation that writes and is still to come. -/
theorem frontier (is : List I) (lst : Nat → Bool) : ∀ (n k : Nat), k + n = is.length → ∃ k', k ≤ k' ∧ k' ≤ is.length ∧ (∀ (i : Nat) I, is[i]? = some I → k ≤ i → i < k' → I.ins.kd = .eff → lst i = true) ∧ (k' < is.length → ∃ I, is[k']? = some I ∧ I.ins.kd = .eff ∧ lst k' = false)
  | 0, k, h => ⟨k, Nat.le_refl _, by omega, fun i I _ h1 h2 => by omega, fun h1 => by omega⟩
  | n + 1, k, h => by
    have hk := List.getElem?_eq_getElem (show k < is.length by omega)
    by_cases hq : (is[k]'(by omega)).ins.kd = .eff ∧ lst k = false
    · exact ⟨k, Nat.le_refl _, by omega, fun i I _ h1 h2 => by omega, fun _ => ⟨_, hk, hq⟩⟩
    · obtain ⟨k', h1, h2, h3, h4⟩ := frontier is lst n (k + 1) (by omega)
      refine ⟨k', by omega, h2, fun i I hi g1 g2 g3 => ?_, h4⟩
      by_cases e : i = k
      · subst e
        rw [hk] at hi
        injection hi with hi
        subst hi
        cases hl : lst i
        · exact absurd ⟨g3, hl⟩ hq
        · rfl
      · exact h3 i I hi (by omega) g2 g3

set_option maxHeartbeats 2000000 in
/-- One more operation. -/
theorem inv_step (hrun : RunOK P run) (hedge : edgesOK (ops.toList.zipIdx 0) = true) (hpar : parAll (bmasks ops.toList []) (is.zipIdx 0) = true) (hcl : is.length = ops.toList.length) (hcomp : ∀ (j : Nat) o, ops.toList[j]? = some o → ∃ q i, is[j]? = some i ∧ compI P ops.toList q o = some i)
    (hD0 : Dom ι0 σ0) (ht : Tr run is e0 σ0 tr) {lst lst' : Nat → Bool} {a : Act} {W : World} {ι : Inj} {k : Nat} {es : Env} (hI : Inv is ops.toList e0 σ0 ι0 W0 d0 tr lst a W ι k es)
    {i : Nat} {o : Oper} (hio : ops[i]? = some o) (hil : lst i = false) (hready : ∀ e ∈ o.after.toList, Region.binds .any e = true → lst e.on = true) (hlst : lst' i = true) (hlst' : ∀ j, j ≠ i → lst' j = lst j)
    {K : Act → World → Prop} {Q : Exit → Act → World → Prop} (hK : ∀ a' W' ι' k' es', Inv is ops.toList e0 σ0 ι0 W0 d0 tr lst' a' W' ι' k' es' → K a' W') :
    (if Region.wanted o (yielded ops a.tmps) then o.wp P a W K Q else K (a.put o.dst Go.undef) W) := by
  have hio' : ops.toList[i]? = some o := by simpa using hio
  obtain ⟨q, X, hX, hcI⟩ := hcomp i o hio'
  have hin : i < is.length := by
    rcases Nat.lt_or_ge i is.length with h | h
    · exact h
    · rw [List.getElem?_eq_none h] at hX; simp at hX
  have hXd := (compI_parts hcI).1
  obtain ⟨x, hx, hxe⟩ := ht.step i X hX
  have hmask : ∀ j, ((bmasks ops.toList []).getD i 0).testBit j = true → lst j = true := closed_mask hedge hI.closed i i o (Nat.le_refl _) hio' hready
  have hmaskl : ∀ (j : Nat), lst j = true → j < is.length → ∀ j', ((bmasks ops.toList []).getD j 0).testBit j' = true → lst j' = true := by
    intro j hj hjl j' hb
    have hoj := List.getElem?_eq_getElem (show j < ops.toList.length by omega)
    exact closed_mask hedge hI.closed j j _ (Nat.le_refl _) hoj (hI.closed j _ hoj hj) j' hb
  have hpair : ∀ (i j : Nat) x y, i < j → is[i]? = some x → is[j]? = some y → (((bmasks ops.toList []).getD j 0).testBit i = true ∨ (tmpFree x y = true ∧ kdFree x y = true)) ∧ ¬ (x.dst.isSome = true ∧ x.dst = y.dst) := by
    intro i j x y hij hi hj
    have := parAll_spec hpar i j x y hij hi hj
    simpa only [Nat.zero_add] using this
  -- each temporary has one writer
  have huniq : ∀ (j j' : Nat) Y Y' d, is[j]? = some Y → is[j']? = some Y' → Y.dst = some d → Y'.dst = some d → j = j' := by
    intro j j' Y Y' d h1 h2 h3 h4
    rcases Nat.lt_trichotomy j j' with h | h | h
    · exact absurd ⟨by rw [h3]; rfl, by rw [h3, h4]⟩ (hpair j j' Y Y' h h1 h2).2
    · exact h
    · exact absurd ⟨by rw [h4]; rfl, by rw [h3, h4]⟩ (hpair j' j Y' Y h h2 h1).2
  -- what it reads stands as in the text's order
  have hagree : Agree X.reads (tr i).1 es := by
    intro t htr
    by_cases hex : ∃ (j : Nat) (Y : I), is[j]? = some Y ∧ lst j = true ∧ Y.dst = some t
    · obtain ⟨j, Y, hj, hjl, hjd⟩ := hex
      rw [hI.w1 j Y t hj hjl hjd]
      have hjn : j < is.length := by
        rcases Nat.lt_or_ge j is.length with h | h
        · exact h
        · rw [List.getElem?_eq_none h] at hj; simp at hj
      rcases Nat.lt_trichotomy j i with h | h | h
      · have := ht.same (k := j + 1) (t := t) (i - (j + 1)) (by omega) (fun i' Y' hi' g1 g2 hd => by
          have := huniq j i' Y Y' t hj hi' hjd hd
          omega)
        rw [show j + 1 + (i - (j + 1)) = i by omega] at this
        exact this
      · subst h; rw [hil] at hjl; simp at hjl
      · rcases (hpair i j X Y h hX hj).1 with hb | ⟨hf, _⟩
        · have := hmaskl j hjl hjn i hb
          rw [hil] at this; simp at this
        · exact absurd htr ((tmpFree_spec hf).2 t hjd)
    · rw [hI.w2 t (fun j Y h1 h2 h3 => hex ⟨j, Y, h1, h2, h3⟩)]
      have := ht.same (k := 0) (t := t) i (by omega) (fun i' Y' hi' g1 g2 hd => by
        rw [Nat.zero_add] at g2
        rcases (hpair i' i Y' X g2 hi' hX).1 with hb | ⟨hf, _⟩
        · exact hex ⟨i', Y', hi', hmask i' hb, hd⟩
        · exact absurd htr ((tmpFree_spec hf).1 t hd).1)
      rw [Nat.zero_add, ht.zero] at this
      exact this
  have hx' : stepV run X es (tr i).2 = some (x, (tr (i + 1)).2) := by rw [← stepV_agree _ hagree]; exact hx
  -- the parts of the new state that don't hang on the kind
  have hclosed' : Closed ops.toList lst' := by
    intro j oj hj hjl e he hb
    have hw : lst e.on = true := by
      by_cases hji : j = i
      · subst hji
        rw [hio'] at hj
        injection hj with hj
        subst hj
        exact hready e he hb
      · rw [hlst' j hji] at hjl
        exact hI.closed j oj hj hjl e he hb
    by_cases hei : e.on = i
    · rw [hei]; exact hlst
    · rw [hlst' _ hei]; exact hw
  have helen : (tr i).1.length = e0.length := ht.elen i (by omega)
  have hw1 : ∀ (j : Nat) Y d, is[j]? = some Y → lst' j = true → Y.dst = some d → (putT es X.dst x).getD d .undef = (tr (j + 1)).1.getD d .undef := by
    intro j Y d hj hjl hjd
    by_cases hji : j = i
    · subst hji
      rw [hX] at hj
      injection hj with hj
      subst hj
      rw [hxe, hjd]
      exact putT_same (by rw [hI.elen, helen])
    · rw [hlst' j hji] at hjl
      rw [putT_other (fun hd => hji (huniq j i Y X d hj hX hjd hd))]
      exact hI.w1 j Y d hj hjl hjd
  have hw2 : ∀ t, (∀ (j : Nat) Y, is[j]? = some Y → lst' j = true → Y.dst ≠ some t) → (putT es X.dst x).getD t .undef = e0.getD t .undef := by
    intro t h
    rw [putT_other (h i X hX hlst)]
    refine hI.w2 t (fun j Y hj hjl => ?_)
    have hji : j ≠ i := fun e => by subst e; rw [hil] at hjl; simp at hjl
    exact h j Y hj (by rw [hlst' j hji]; exact hjl)
  have hdom' : ∀ b p, ι b = some p → b < σ0.length ∨ ∃ j, j < is.length ∧ lst' j = true ∧ (tr j).2.length ≤ b ∧ b < (tr (j + 1)).2.length := by
    intro b p hb
    rcases hI.dom b p hb with h | ⟨j, h1, h2, h3⟩
    · exact .inl h
    · have hji : j ≠ i := fun e => by subst e; rw [hil] at h2; simp at h2
      exact .inr ⟨j, h1, by rw [hlst' j hji]; exact h2, h3⟩
  have h0le : ∀ j, j ≤ is.length → σ0.length ≤ (tr j).2.length := fun j hj => by
    have := ht.hle (k := 0) (k' := j) (by omega) hj
    rwa [ht.zero] at this
  have hset0 : ∀ (b : Nat) (p : Place), ι b = some p → (tr i).2.length ≤ b → b < (tr (i + 1)).2.length → False := by
    intro b p hb h1 h2
    rcases hI.dom b p hb with h | ⟨j, g1, g2, g3, g4⟩
    · have := h0le i (by omega); omega
    · have hji : j ≠ i := fun e => by subst e; rw [hil] at g2; simp at g2
      rcases Nat.lt_or_gt_of_ne hji with h | h
      · have := ht.hle (k := j + 1) (k' := i) (by omega) (by omega); omega
      · have := ht.hle (k := i + 1) (k' := j) (by omega) (by omega); omega
  -- the frontier stays where the operation writes nothing old
  have hf1' : ∀ (j : Nat) Y, is[j]? = some Y → j < k → Y.ins.kd = .eff → lst' j = true := by
    intro j Y hj hjk hke
    by_cases hji : j = i
    · rw [hji]; exact hlst
    · rw [hlst' j hji]; exact hI.f1 j Y hj hjk hke
  have quietEnd : X.ins.kd ≠ .eff → ∀ v W' ι', VR ι' x v → Same W W' → Ext ι ι' → RelW ι' (tr k).2 W' → (∀ c, c < W.heap.size → W'.heap[c]? = W.heap[c]?) →
      (∀ b p, ι' b = some p → ι b = none → ((tr i).2.length ≤ b ∧ b < (tr (i + 1)).2.length) ∧ W.heap.size ≤ p.c) → K (a.put o.dst v) W' := by
    intro hk v W' ι' hv hs hext hrel hfr hfresh
    refine hK _ W' ι' k (putT es X.dst x) ⟨hclosed', ?_, by rw [putT_len, hI.elen], hw1, hw2, hI.kle, hf1', fun hkl => ?_, hrel, fun b p hb => ?_, hI.same.trans hs, hI.ext.trans hext, fun c hc hm => ?_, fun b p hb hn => ?_, hI.mono, hI.lives, by rw [put_defers, hI.defers]⟩
    · rw [hXd]; exact EnvR.put (hI.env.ext hext) o.dst hv
    · obtain ⟨Y, h1, h2, h3⟩ := hI.f2 hkl
      have hki : k ≠ i := fun e => by subst e; rw [hX] at h1; injection h1 with h1; subst h1; exact hk h2
      exact ⟨Y, h1, h2, by rw [hlst' k hki]; exact h3⟩
    · cases hn : ι b with
      | some r =>
        have := hext b r hn
        rw [hb] at this
        injection this with this
        subst this
        exact hdom' b p hn
      | none =>
        have := hfresh b p hb hn
        exact .inr ⟨i, hin, hlst, this.1⟩
    · rw [hfr c (Nat.lt_of_lt_of_le hc hI.same.size), hI.frame c hc hm]
    · cases hn1 : ι b with
      | some r =>
        have := hext b r hn1
        rw [hb] at this
        injection this with this
        subst this
        exact hI.fresh b p hn1 hn
      | none =>
        have := hfresh b p hb hn1
        have h0 := h0le i (by omega)
        have hsz := hI.same.size
        exact ⟨by omega, .inl (by omega)⟩
  by_cases hkp : X.ins.kd = .pure
  · -- without memory
    have hnk : X.ins.kd ≠ .eff := by rw [hkp]; simp
    obtain ⟨_, hany⟩ := stepV_pure hkp hx'
    refine step_q hrun hcI hnk hI.env hI.rel (hany (tr k).2) (fun b h1 h2 => by omega) (fun v W' ι' hv hq => ?_)
    refine quietEnd hnk v W' ι' hv hq.same hq.ext hq.rel hq.frame (fun b p hb hn => ?_)
    have := hq.fresh b p hb hn
    omega
  · by_cases hke : X.ins.kd = .eff
    · -- it writes: all others that touch memory are done, or to come
      have hkfree : ∀ (Y : I), Y.ins.kd ≠ .pure → kdFree X Y = false ∧ kdFree Y X = false := by
        intro Y hY
        unfold kdFree
        rw [hke]
        cases hy : Y.ins.kd with
        | pure => exact absurd hy hY
        | quiet => exact ⟨rfl, rfl⟩
        | eff => exact ⟨rfl, rfl⟩
      have hbefore : ∀ (j : Nat) Y, is[j]? = some Y → j < i → Y.ins.kd ≠ .pure → lst j = true := by
        intro j Y hj hji hY
        rcases (hpair j i Y X hji hj hX).1 with hb | ⟨_, hf⟩
        · exact hmask j hb
        · rw [(hkfree Y hY).2] at hf; simp at hf
      have hafter : ∀ (j : Nat) Y, is[j]? = some Y → i < j → Y.ins.kd ≠ .pure → lst j = false := by
        intro j Y hj hji hY
        rcases (hpair i j X Y hji hX hj).1 with hb | ⟨_, hf⟩
        · cases hl : lst j
          · rfl
          · have hjn : j < is.length := by
              rcases Nat.lt_or_ge j is.length with h | h
              · exact h
              · rw [List.getElem?_eq_none h] at hj; simp at hj
            have := hmaskl j hl hjn i hb
            rw [hil] at this; simp at this
        · rw [(hkfree Y hY).1] at hf; simp at hf
      have hki : k = i := by
        rcases Nat.lt_trichotomy k i with h | h | h
        · obtain ⟨Y, h1, h2, h3⟩ := hI.f2 (by omega)
          have := hbefore k Y h1 h (by rw [h2]; simp)
          rw [h3] at this; simp at this
        · exact h
        · have := hI.f1 i X hX h hke
          rw [hil] at this; simp at this
      have hDi : Dom ι (tr i).2 := by
        intro b p hb
        rcases hI.dom b p hb with h | ⟨j, g1, g2, g3, g4⟩
        · have := h0le i (by omega); omega
        · have hji : j ≠ i := fun e => by subst e; rw [hil] at g2; simp at g2
          rcases Nat.lt_or_gt_of_ne hji with h | h
          · have := ht.hle (k := j + 1) (k' := i) (by omega) (by omega); omega
          · have hYj := List.getElem?_eq_getElem g1
            by_cases hjp : (is[j]).ins.kd = .pure
            · obtain ⟨y, hy, _⟩ := ht.step j _ hYj
              have := (stepV_pure hjp hy).1
              rw [this] at g4
              omega
            · have := hafter j _ hYj h hjp
              rw [this] at g2; simp at g2
      refine step_e hrun hcI hke hI.env (by rw [← hki]; exact hI.rel) hDi hx' (fun v W' ι' hv hp => ?_)
      obtain ⟨k', hk1, hk2, hk3, hk4⟩ := frontier is lst' (is.length - (i + 1)) (i + 1) (by omega)
      have hnoeff : ∀ (j : Nat) Y, is[j]? = some Y → i + 1 ≤ j → j < k' → Y.ins.kd ≠ .eff := by
        intro j Y hj g1 g2 g3
        have h1 := hk3 j Y hj g1 g2 g3
        rw [hlst' j (by omega)] at h1
        have := hafter j Y hj (by omega) (by rw [g3]; simp)
        rw [this] at h1; simp at h1
      obtain ⟨new, hnew⟩ := ht.hext (k := i + 1) (k' - (i + 1)) (by omega) (fun j Y hj g1 g2 => hnoeff j Y hj g1 (by omega))
      rw [show i + 1 + (k' - (i + 1)) = k' by omega] at hnew
      have hDi' : Dom ι' (tr (i + 1)).2 := hp.dom hDi
      have hback : ∀ b, b < σ0.length → ∀ (y : Blk), (tr k').2[b]? = some y → (tr (i + 1)).2[b]? = some y := by
        intro b hb y hy
        have := h0le (i + 1) (by omega)
        rw [hnew, List.getElem?_append_left (by omega)] at hy
        exact hy
      have hframeS : ∀ c, c < W0.heap.size → (∀ b p, ι0 b = some p → mutb σ0 b → p.c ≠ c) → ∀ b p, ι b = some p → mutb (tr i).2 b → p.c ≠ c := by
        intro c hc hm b p hb hmb
        cases hn0 : ι0 b with
        | some r =>
          have := hI.ext b r hn0
          rw [hb] at this
          injection this with this
          subst this
          exact hm b p hn0 (hI.mono b (hD0 b p hn0) (by rw [hki]; exact hmb))
        | none =>
          rcases (hI.fresh b p hb hn0).2 with h | ⟨b0, p0, h1, h2, h3⟩
          · omega
          · rw [← h3]; exact hm b0 p0 h1 h2
      refine hK _ W' ι' k' (putT es X.dst x) ⟨hclosed', ?_, by rw [putT_len, hI.elen], hw1, hw2, hk2, fun j Y hj hjk hje => ?_, hk4, by rw [hnew]; exact hp.rel.behind hDi', fun b p hb => ?_, hI.same.trans hp.same, hI.ext.trans hp.ext, fun c hc hm => ?_, fun b p hb hn => ?_, fun b hb hm => ?_, fun b hb hl => ?_, by rw [put_defers, hI.defers]⟩
      · rw [hXd]; exact EnvR.put (hI.env.ext hp.ext) o.dst hv
      · by_cases hji : j = i
        · rw [hji]; exact hlst
        · rcases Nat.lt_or_gt_of_ne hji with h | h
          · rw [hlst' j hji]; exact hbefore j Y hj h (by rw [hje]; simp)
          · exact absurd hje (hnoeff j Y hj (by omega) hjk)
      · cases hn : ι b with
        | some r =>
          have := hp.ext b r hn
          rw [hb] at this
          injection this with this
          subst this
          exact hdom' b p hn
        | none => exact .inr ⟨i, hin, hlst, (hp.fresh b p hb hn).1⟩
      · rw [hp.frame c (Nat.lt_of_lt_of_le hc hI.same.size) (hframeS c hc hm), hI.frame c hc hm]
      · cases hn1 : ι b with
        | some r =>
          have := hp.ext b r hn1
          rw [hb] at this
          injection this with this
          subst this
          exact hI.fresh b p hn1 hn
        | none =>
          obtain ⟨⟨h1, h2⟩, h3⟩ := hp.fresh b p hb hn1
          have h0 := h0le i (by omega)
          have hsz := hI.same.size
          refine ⟨by omega, ?_⟩
          rcases h3 with h | ⟨b1, p1, g1, g2, g3⟩
          · exact .inl (by omega)
          · cases hn0 : ι0 b1 with
            | some r =>
              have := hI.ext b1 r hn0
              rw [g1] at this
              injection this with this
              subst this
              exact .inr ⟨b1, p1, hn0, hI.mono b1 (hD0 b1 p1 hn0) (by rw [hki]; exact g2), g3⟩
            | none =>
              rcases (hI.fresh b1 p1 g1 hn0).2 with h | ⟨b2, p2, q1, q2, q3⟩
              · exact .inl (by omega)
              · exact .inr ⟨b2, p2, q1, q2, q3.trans g3⟩
      · obtain ⟨y, hy, hym⟩ := hm
        have h0 := h0le i (by omega)
        exact hI.mono b hb (by rw [hki]; exact hp.mono b (by omega) ⟨y, hback b hb y hy, hym⟩)
      · obtain ⟨y, hy, hym⟩ := hl
        have h0 := h0le i (by omega)
        exact hI.lives b hb (by rw [hki]; exact hp.lives b (by omega) ⟨y, hback b hb y hy, hym⟩)
    · -- it reads, or makes memory
      have hkq : X.ins.kd = .quiet := by cases hq : X.ins.kd <;> simp_all
      have heffX : ∀ (Y : I), Y.ins.kd = .eff → kdFree X Y = false ∧ kdFree Y X = false := by
        intro Y hY
        unfold kdFree
        rw [hkq, hY]
        exact ⟨rfl, rfl⟩
      have hafter : ∀ (j : Nat) Y, is[j]? = some Y → i < j → Y.ins.kd = .eff → lst j = false := by
        intro j Y hj hji hY
        rcases (hpair i j X Y hji hX hj).1 with hb | ⟨_, hf⟩
        · cases hl : lst j
          · rfl
          · have hjn : j < is.length := by
              rcases Nat.lt_or_ge j is.length with h | h
              · exact h
              · rw [List.getElem?_eq_none h] at hj; simp at hj
            have := hmaskl j hl hjn i hb
            rw [hil] at this; simp at this
        · rw [(heffX Y hY).1] at hf; simp at hf
      have hbefore : ∀ (j : Nat) Y, is[j]? = some Y → j < i → Y.ins.kd = .eff → lst j = true := by
        intro j Y hj hji hY
        rcases (hpair j i Y X hji hj hX).1 with hb | ⟨_, hf⟩
        · exact hmask j hb
        · rw [(heffX Y hY).2] at hf; simp at hf
      have hik : i < k := by
        rcases Nat.lt_or_ge i k with h | h
        · exact h
        · have hkl : k < is.length := by omega
          obtain ⟨Y, h1, h2, h3⟩ := hI.f2 hkl
          have hki : k ≠ i := fun e => by subst e; rw [hX] at h1; injection h1 with h1; subst h1; exact hke h2
          have := hbefore k Y h1 (by omega) h2
          rw [h3] at this; simp at this
      have hnoeff : ∀ (j : Nat) Y, is[j]? = some Y → i ≤ j → j < k → Y.ins.kd ≠ .eff := by
        intro j Y hj g1 g2 g3
        have h1 := hI.f1 j Y hj g2 g3
        by_cases hji : j = i
        · subst hji; rw [hil] at h1; simp at h1
        · have := hafter j Y hj (by omega) g3
          rw [this] at h1; simp at h1
      have hkle := hI.kle
      obtain ⟨n1, hn1⟩ := ht.hext (k := i) 1 (by omega) (fun j Y hj g1 g2 => hnoeff j Y hj g1 (by omega))
      obtain ⟨n2, hn2⟩ := ht.hext (k := i + 1) (k - (i + 1)) (by omega) (fun j Y hj g1 g2 => hnoeff j Y hj (by omega) (by omega))
      rw [show i + 1 + (k - (i + 1)) = k by omega] at hn2
      have hRi : RelW ι (tr i).2 W := by
        have h1 := hI.rel
        rw [hn2] at h1
        have h2 := h1.front
        rw [hn1] at h2
        exact h2.front
      refine step_q hrun hcI hke hI.env hRi hx' (fun b h1 h2 => ?_) (fun v W' ι' hv hq => ?_)
      · cases hb : ι b with
        | none => rfl
        | some p => exact (hset0 b p hb h1 h2).elim
      · refine quietEnd hke v W' ι' hv hq.same hq.ext ?_ hq.frame (fun b p hb hn => hq.fresh b p hb hn)
        have h1 := hI.rel
        rw [hn2] at h1 ⊢
        exact hq.later h1

end

/-- Whatever the order: the region comes to what the text's order comes to. -/
theorem par_sound {P : Program} {run : Runner} (hrun : RunOK P run) (hm : P.follows .mixedOrders = true) {ops : Array Oper} {is : List I} (hc : compPar P ops.toList (bmasks ops.toList []) ops.toList.zipIdx = some is) (hpar : parAll (bmasks ops.toList []) is.zipIdx = true) (hedge : edgesOK ops.toList.zipIdx = true)
    {ι : Inj} {σ : Heap} {W : World} {e e' : Env} {a : Act} {σ' : Heap} (hE : EnvR ι e a.tmps) (hR : RelW ι σ W) (hD : Dom ι σ) (hv : opsV run is e σ = some (e', σ')) {Q : Exit → Act → World → Prop} (id : Nat)
    (hQ : ∀ a' W' ι', EnvR ι' e' a'.tmps → Post ι σ W ι' σ' W' → a'.defers = a.defers → Q .normal a' W') : (Code.region id ops true).wp P Q a W := by
  obtain ⟨hcl, hcomp⟩ := compPar_spec hc
  obtain ⟨tr, ht, hend⟩ := trace hv
  have hsz : is.length = ops.size := by rw [hcl]; simp
  -- all that stand listed
  have main : ∀ (fuel : Nat) (listed : Array Bool) (a' : Act) (W' : World), listed.size = ops.size → unl (fun i => listed.getD i false) ops.size ≤ fuel →
      (∃ ι' k es, Inv is ops.toList e σ ι W a.defers tr (fun i => listed.getD i false) a' W' ι' k es) → wpAny P .any ops Q fuel listed a' W' := by
    have fin : ∀ (listed : Array Bool) (a' : Act) (W' : World), listed.size = ops.size → (∀ i, i < ops.size → listed.getD i false = true) → (∃ ι' k es, Inv is ops.toList e σ ι W a.defers tr (fun i => listed.getD i false) a' W' ι' k es) → Q .normal a' W' := by
      rintro listed a' W' hls hall ⟨ι', k, es, hI⟩
      have hk : k = is.length := by
        rcases Nat.lt_or_ge k is.length with h | h
        · obtain ⟨Y, _, _, h3⟩ := hI.f2 h
          have := hall k (by omega)
          rw [this] at h3; simp at h3
        · have := hI.kle; omega
      have hes : es = e' := by
        have he' : e' = (tr is.length).1 := by rw [hend]
        have hl : es.length = e'.length := by rw [he', ht.elen _ (Nat.le_refl _), hI.elen]
        apply List.ext_getElem?
        intro t
        have hg : es.getD t .undef = e'.getD t .undef := by
          by_cases hex : ∃ (j : Nat) (Y : I), is[j]? = some Y ∧ Y.dst = some t
          · obtain ⟨j, Y, hj, hjd⟩ := hex
            have hjn : j < is.length := by
              rcases Nat.lt_or_ge j is.length with h | h
              · exact h
              · rw [List.getElem?_eq_none h] at hj; simp at hj
            rw [hI.w1 j Y t hj (hall j (by omega)) hjd, he']
            have := ht.same (k := j + 1) (t := t) (is.length - (j + 1)) (by omega) (fun i' Y' hi' g1 g2 hd => by
              have := (parAll_spec (k := 0) hpar j i' Y Y' (by omega) hj hi').2
              exact this ⟨by rw [hjd]; rfl, by rw [hjd, hd]⟩)
            rw [show j + 1 + (is.length - (j + 1)) = is.length by omega] at this
            exact this.symm
          · rw [hI.w2 t (fun j Y h1 _ h3 => hex ⟨j, Y, h1, h3⟩), he']
            have := ht.same (k := 0) (t := t) is.length (by omega) (fun i' Y' hi' _ _ hd => hex ⟨i', Y', hi', hd⟩)
            rw [Nat.zero_add, ht.zero] at this
            exact this.symm
        simp only [List.getD_eq_getElem?_getD] at hg
        by_cases htl : t < es.length
        · rw [List.getElem?_eq_getElem htl, List.getElem?_eq_getElem (by omega)] at hg ⊢
          simp only [Option.getD_some] at hg
          rw [hg]
        · rw [List.getElem?_eq_none (by omega), List.getElem?_eq_none (by omega)]
      subst hes
      subst hk
      have hs' : (tr is.length).2 = σ' := by rw [hend]
      have hrel := hI.rel
      rw [hs'] at hrel
      have h0 := ht.hle (k := 0) (k' := is.length) (by omega) (Nat.le_refl _)
      rw [ht.zero, hs'] at h0
      refine hQ a' W' ι' hI.env ⟨hI.same, hI.ext, hrel, h0, hI.frame, fun b p hb hn => ?_, fun b hb hm => hI.mono b hb (by rw [hs']; exact hm), fun b hb hm => hI.lives b hb (by rw [hs']; exact hm)⟩ hI.defers
      obtain ⟨h1, h2⟩ := hI.fresh b p hb hn
      refine ⟨⟨h1, ?_⟩, h2⟩
      rcases hI.dom b p hb with h | ⟨i, g1, _, _, g4⟩
      · omega
      · have := ht.hle (k := i + 1) (k' := is.length) (by omega) (Nat.le_refl _)
        rw [hs'] at this
        omega
    have allOf : ∀ (listed : Array Bool), listed.size = ops.size → Region.ready .any ops listed = [] → ∀ i, i < ops.size → listed.getD i false = true := by
      intro listed hls hr
      -- the first one that stands unlisted would be ready
      have : ∀ n i, i ≤ n → i < ops.size → listed.getD i false = true := by
        intro n
        induction n with
        | zero =>
          intro i hi hil
          cases hl : listed.getD i false with
          | true => rfl
          | false =>
            exfalso
            have hmem : i ∈ Region.ready .any ops listed := by
              unfold Region.ready
              simp only [List.mem_filter, List.mem_range, Bool.and_eq_true, Bool.not_eq_true']
              refine ⟨hil, ?_, ?_⟩
              · have : listed.getD i true = listed.getD i false := by simp [show i < listed.size by omega]
                rw [this, hl]
              · have ho := Array.getElem?_eq_getElem hil
                rw [ho]
                simp only [Option.map_some, Option.getD_some]
                rw [Array.all_eq_true_iff_forall_mem]
                intro ed hed
                simp only [Bool.or_eq_true, Bool.not_eq_true']
                cases hb : Region.binds .any ed with
                | false => exact .inl rfl
                | true =>
                  have := edgesOK_spec (k := 0) hedge i _ (show ops.toList[i]? = some _ from by rw [Array.getElem?_toList]; exact ho) ed (by simpa using hed) hb
                  omega
            rw [hr] at hmem
            simp at hmem
        | succ n ih =>
          intro i hi hil
          cases hl : listed.getD i false with
          | true => rfl
          | false =>
            exfalso
            have hmem : i ∈ Region.ready .any ops listed := by
              unfold Region.ready
              simp only [List.mem_filter, List.mem_range, Bool.and_eq_true, Bool.not_eq_true']
              refine ⟨hil, ?_, ?_⟩
              · have : listed.getD i true = listed.getD i false := by simp [show i < listed.size by omega]
                rw [this, hl]
              · have ho := Array.getElem?_eq_getElem hil
                rw [ho]
                simp only [Option.map_some, Option.getD_some]
                rw [Array.all_eq_true_iff_forall_mem]
                intro ed hed
                simp only [Bool.or_eq_true, Bool.not_eq_true']
                cases hb : Region.binds .any ed with
                | false => exact .inl rfl
                | true =>
                  have := edgesOK_spec (k := 0) hedge i _ (show ops.toList[i]? = some _ from by rw [Array.getElem?_toList]; exact ho) ed (by simpa using hed) hb
                  exact .inr (ih ed.on (by omega) (by omega))
            rw [hr] at hmem
            simp at hmem
      exact fun i hi => this i i (Nat.le_refl _) hi
    intro fuel
    induction fuel with
    | zero =>
      intro listed a' W' hls hu hI
      have hall := unl_zero (n := ops.size) (Nat.le_zero.1 hu)
      refine ⟨?_, fin listed a' W' hls hall hI⟩
      apply List.eq_nil_iff_forall_not_mem.2
      intro i hi
      unfold Region.ready at hi
      simp only [List.mem_filter, List.mem_range, Bool.and_eq_true, Bool.not_eq_true'] at hi
      have h1 := hall i hi.1
      have : listed.getD i true = listed.getD i false := by simp [show i < listed.size by omega]
      rw [this] at hi
      rw [h1] at hi
      simp at hi
    | succ fuel ih =>
      intro listed a' W' hls hu hI
      refine ⟨fun hr => fin listed a' W' hls (allOf listed hls hr) hI, fun i hi => ?_⟩
      obtain ⟨ι', k, es, hI⟩ := hI
      unfold Region.ready at hi
      simp only [List.mem_filter, List.mem_range, Bool.and_eq_true, Bool.not_eq_true'] at hi
      obtain ⟨hil, hnl, hrd⟩ := hi
      have hnl' : listed.getD i false = false := by
        have : listed.getD i true = listed.getD i false := by simp [show i < listed.size by omega]
        rw [← this]; exact hnl
      have ho := Array.getElem?_eq_getElem hil
      have hset : ∀ j, j ≠ i → (listed.setIfInBounds i true).getD j false = listed.getD j false := fun j hj => by
        simp only [Array.getD_eq_getD_getElem?, Array.getElem?_setIfInBounds]
        rw [if_neg (Ne.symm hj)]
      have hseti : (listed.setIfInBounds i true).getD i false = true := by
        simp [Array.getD_eq_getD_getElem?, show i < listed.size by omega]
      unfold wpOp
      rw [ho]
      simp only
      have hready : ∀ ed ∈ (ops[i]).after.toList, Region.binds .any ed = true → listed.getD ed.on false = true := by
        intro ed hed hb
        rw [ho] at hrd
        simp only [Option.map_some, Option.getD_some] at hrd
        rw [Array.all_eq_true_iff_forall_mem] at hrd
        have := hrd ed (by simpa using hed)
        simpa [hb] using this
      have hstep := inv_step (lst' := fun j => (listed.setIfInBounds i true).getD j false) (K := wpAny P .any ops Q fuel (listed.setIfInBounds i true)) (Q := Q) hrun hedge hpar hcl hcomp hD ht hI ho hnl' hready hseti hset (fun a2 W2 ι2 k2 es2 hI2 => ih _ a2 W2 (by simpa using hls) ?_ ⟨ι2, k2, es2, hI2⟩)
      · split
        · rename_i hw
          rw [if_pos hw] at hstep
          exact .inl hstep
        · rename_i hw
          rw [if_neg hw] at hstep
          exact hstep
      · have := (unl_set (lst := fun j => listed.getD j false) (lst' := fun j => (listed.setIfInBounds i true).getD j false) hnl' hseti hset (n := ops.size)).2 hil
        omega
  refine wp_region_any hm ?_
  refine main ops.size _ a _ (by simp) ?_ ⟨ι, ?_⟩
  · have : ∀ n, unl (fun i => (Array.replicate ops.size false).getD i false) n ≤ n := by
      intro n
      induction n with
      | zero => exact Nat.le_refl _
      | succ n ih =>
        simp only [unl]
        split <;> omega
    exact this _
  · have hfalse : ∀ i, (Array.replicate ops.size false).getD i false = false := by
      intro i
      simp [Array.getD_eq_getD_getElem?, Array.getElem?_replicate]
      split <;> rfl
    obtain ⟨k, h1, h2, h3, h4⟩ := frontier is (fun i => (Array.replicate ops.size false).getD i false) is.length 0 (by omega)
    have hnoeff : ∀ (j : Nat) Y, is[j]? = some Y → 0 ≤ j → j < 0 + k → Y.ins.kd ≠ .eff := by
      intro j Y hj g1 g2 g3
      have := h3 j Y hj g1 (by omega) g3
      rw [hfalse] at this; simp at this
    obtain ⟨new, hnew⟩ := ht.hext (k := 0) k (by omega) hnoeff
    rw [Nat.zero_add, ht.zero] at hnew
    have hR' : RelW ι σ W.drew := hR.toDrew
    refine ⟨k, e, fun j o _ hjl => by rw [hfalse] at hjl; simp at hjl, hE, rfl, fun i I d _ hl => by rw [hfalse] at hl; simp at hl, fun t _ => rfl, h2, fun i I hi hik hie => h3 i I hi (by omega) hik hie, h4, by rw [hnew]; exact hR'.behind hD, fun b p hb => .inl (hD b p hb), ⟨rfl, rfl, rfl, Nat.le_refl _⟩, .refl ι, fun c _ _ => rfl, fun b p hb hn => by rw [hb] at hn; simp at hn, fun b hb hm => ?_, fun b hb hm => ?_, rfl⟩
    · obtain ⟨y, hy, hym⟩ := hm
      rw [hnew, List.getElem?_append_left hb] at hy
      exact ⟨y, hy, hym⟩
    · obtain ⟨y, hy, hym⟩ := hm
      rw [hnew, List.getElem?_append_left hb] at hy
      exact ⟨y, hy, hym⟩

end Go.Am
