/- Operations whose order Go leaves open, fresh cells laid among them: one step more; all of them. -/
import Derived.Test.YtjldefmcnppdoaaAmIni
namespace Go.Am
open Go

structure Inv2 (prs : List Pr) (is : List I) (L : List Oper) (e0 : Env) (σ0 : Heap) (ι0 : Inj) (W0 : World) (d0 : List Deferred) (tr : Nat → Env × Heap) (lst : Nat → Bool) (a : Act) (W : World) (ι : Inj) (es : Env) : Prop where
  closed : Closed L lst
  env : EnvR ι es a.tmps
  elen : es.length = e0.length
  w1 : ∀ (i : Nat) I d, is[i]? = some I → lst i = true → I.dst = some d → es.getD d .undef = (tr (i + 1)).1.getD d .undef
  w2 : ∀ t, (∀ (i : Nat) I, is[i]? = some I → lst i = true → I.dst ≠ some t) → es.getD t .undef = e0.getD t .undef
  rel : RelW ι (tr is.length).2 W
  dom : ∀ b p, ι b = some p → b < σ0.length ∨ ∃ i, i < is.length ∧ lst i = true ∧ (tr i).2.length ≤ b ∧ b < (tr (i + 1)).2.length
  same : Same W0 W
  ext : Ext ι0 ι
  frame : ∀ c, c < W0.heap.size → (∀ b p, ι0 b = some p → mutb σ0 b → p.c ≠ c) → W.heap[c]? = W0.heap[c]?
  fresh : ∀ b p, ι b = some p → ι0 b = none → σ0.length ≤ b ∧ W0.heap.size ≤ p.c
  defers : a.defers = d0
  cells : ∀ r ∈ prs, lst r.i = true → ∃ p, Cell W0 W ι (tr r.i).2.length r.n p ∧ (∃ g, Cells W p r.n g) ∧ (lst r.j = true → ∀ g, (r.x.ev (tr r.j).1).scells r.n = some g → Cells W p r.n g)

section
variable {P : Program} {run : Runner} {ops : Array Oper} {is l1 : List I} {prs : List Pr} {e0 : Env} {σ0 : Heap} {ι0 : Inj} {W0 : World} {d0 : List Deferred} {tr : Nat → Env × Heap}

/-- Nothing old is written in the text's order. -/
theorem ini_ext (hH : IniH prs is l1) (ht : Tr run l1 e0 σ0 tr) {k : Nat} : ∀ j, k + j ≤ l1.length → ∃ new, (tr (k + j)).2 = (tr k).2 ++ new
  | 0, _ => ⟨[], by simp⟩
  | j + 1, hj => by
    obtain ⟨new, hnew⟩ := ini_ext hH ht (k := k) j (by omega)
    have hlen := hH.len
    have hY := List.getElem?_eq_getElem (show k + j < l1.length by omega)
    obtain ⟨x, hx, _⟩ := ht.step (k + j) _ hY
    have hone : ∃ m, (tr (k + j + 1)).2 = (tr (k + j)).2 ++ m := by
      rcases hH.role (k + j) _ (List.getElem?_eq_getElem (show k + j < is.length by omega)) with ⟨r, _, _, _, h2⟩ | ⟨r, _, _, _, h2⟩ | ⟨h1, h2, _⟩
      · rw [hY] at h2
        injection h2 with h2
        rw [h2] at hx
        simp only [stepV, insV, heapV, Option.some.injEq, Prod.mk.injEq] at hx
        exact ⟨_, hx.2.symm⟩
      · rw [hY] at h2
        injection h2 with h2
        rw [h2] at hx
        simp only [stepV, insV, heapV] at hx
        split at hx
        · split at hx
          · injection hx with hx; injection hx with h3 h4
            exact ⟨[], by rw [← h4]; simp⟩
          · cases hx
        · cases hx
      · rw [hY] at h2
        injection h2 with h2
        rw [h2] at hx
        exact stepV_ext h1 hx
    obtain ⟨m, hm⟩ := hone
    exact ⟨new ++ m, by rw [← Nat.add_assoc, hm, hnew, List.append_assoc]⟩

set_option maxHeartbeats 2000000 in
/-- One more operation. -/
theorem ini_step (hrun : RunOK P run) (hedge : edgesOK (ops.toList.zipIdx 0) = true) (hH : IniH prs is l1) (hpar : parAll0 (bmasks ops.toList []) (l1.zipIdx 0) = true) (hcl : is.length = ops.toList.length) (hcomp : ∀ (j : Nat) o, ops.toList[j]? = some o → ∃ q i, is[j]? = some i ∧ compI P ops.toList q o = some i)
    (hD0 : Dom ι0 σ0) (ht : Tr run l1 e0 σ0 tr) {lst lst' : Nat → Bool} {a : Act} {W : World} {ι : Inj} {es : Env} (hI : Inv2 prs l1 ops.toList e0 σ0 ι0 W0 d0 tr lst a W ι es)
    {i : Nat} {o : Oper} (hio : ops[i]? = some o) (hil : lst i = false) (hready : ∀ e ∈ o.after.toList, Region.binds .any e = true → lst e.on = true) (hlst : lst' i = true) (hlst' : ∀ j, j ≠ i → lst' j = lst j)
    {K : Act → World → Prop} {Q : Exit → Act → World → Prop} (hK : ∀ a' W' ι' es', Inv2 prs l1 ops.toList e0 σ0 ι0 W0 d0 tr lst' a' W' ι' es' → K a' W') :
    (if Region.wanted o (yielded ops a.tmps) then o.wp P a W K Q else K (a.put o.dst Go.undef) W) := by
  have hio' : ops.toList[i]? = some o := by simpa using hio
  obtain ⟨q, X0, hX0, hcI⟩ := hcomp i o hio'
  have hlen := hH.len
  have hin : i < l1.length := by
    rcases Nat.lt_or_ge i is.length with h | h
    · omega
    · rw [List.getElem?_eq_none h] at hX0; simp at hX0
  obtain ⟨X, hX⟩ : ∃ X, l1[i]? = some X := ⟨_, List.getElem?_eq_getElem hin⟩
  have hXX : X.dst = X0.dst := by
    rcases hH.role i X0 hX0 with ⟨r, _, _, ⟨z, g, h1, _⟩, h2⟩ | ⟨r, _, _, h1, h2⟩ | ⟨_, h2, _⟩
    · rw [hX] at h2; injection h2 with h2; rw [h1, h2]
    · rw [hX] at h2; injection h2 with h2; rw [h1, h2]
    · rw [hX] at h2; injection h2 with h2; rw [h2]
  have hXd : X.dst = o.dst := hXX.trans (compI_parts hcI).1
  obtain ⟨x, hx, hxe⟩ := ht.step i X hX
  have hmask : ∀ j, ((bmasks ops.toList []).getD i 0).testBit j = true → lst j = true := closed_mask hedge hI.closed i i o (Nat.le_refl _) hio' hready
  have hmaskl : ∀ (j : Nat), lst j = true → j < l1.length → ∀ j', ((bmasks ops.toList []).getD j 0).testBit j' = true → lst j' = true := by
    intro j hj hjl j' hb
    have hoj := List.getElem?_eq_getElem (show j < ops.toList.length by omega)
    exact closed_mask hedge hI.closed j j _ (Nat.le_refl _) hoj (hI.closed j _ hoj hj) j' hb
  have hpair : ∀ (i j : Nat) x y, i < j → l1[i]? = some x → l1[j]? = some y → (((bmasks ops.toList []).getD j 0).testBit i = true ∨ tmpFree x y = true) ∧ ¬ (x.dst.isSome = true ∧ x.dst = y.dst) := by
    intro i j x y hij hi hj
    have := parAll0_spec hpar i j x y hij hi hj
    simpa only [Nat.zero_add] using this
  have huniq : ∀ (j j' : Nat) Y Y' d, l1[j]? = some Y → l1[j']? = some Y' → Y.dst = some d → Y'.dst = some d → j = j' := by
    intro j j' Y Y' d h1 h2 h3 h4
    rcases Nat.lt_trichotomy j j' with h | h | h
    · exact absurd ⟨by rw [h3]; rfl, by rw [h3, h4]⟩ (hpair j j' Y Y' h h1 h2).2
    · exact h
    · exact absurd ⟨by rw [h4]; rfl, by rw [h3, h4]⟩ (hpair j' j Y' Y h h2 h1).2
  have hagree : Agree X.reads (tr i).1 es := by
    intro t htr
    by_cases hex : ∃ (j : Nat) (Y : I), l1[j]? = some Y ∧ lst j = true ∧ Y.dst = some t
    · obtain ⟨j, Y, hj, hjl, hjd⟩ := hex
      rw [hI.w1 j Y t hj hjl hjd]
      have hjn : j < l1.length := by
        rcases Nat.lt_or_ge j l1.length with h | h
        · exact h
        · rw [List.getElem?_eq_none h] at hj; simp at hj
      rcases Nat.lt_trichotomy j i with h | h | h
      · have := ht.same (k := j + 1) (t := t) (i - (j + 1)) (by omega) (fun i' Y' hi' g1 g2 hd => by
          have := huniq j i' Y Y' t hj hi' hjd hd
          omega)
        rw [show j + 1 + (i - (j + 1)) = i by omega] at this
        exact this
      · subst h; rw [hil] at hjl; simp at hjl
      · rcases (hpair i j X Y h hX hj).1 with hb | hf
        · have := hmaskl j hjl hjn i hb
          rw [hil] at this; simp at this
        · exact absurd htr ((tmpFree_spec hf).2 t hjd)
    · rw [hI.w2 t (fun j Y h1 h2 h3 => hex ⟨j, Y, h1, h2, h3⟩)]
      have := ht.same (k := 0) (t := t) i (by omega) (fun i' Y' hi' g1 g2 hd => by
        rw [Nat.zero_add] at g2
        rcases (hpair i' i Y' X g2 hi' hX).1 with hb | hf
        · exact hex ⟨i', Y', hi', hmask i' hb, hd⟩
        · exact absurd htr ((tmpFree_spec hf).1 t hd).1)
      rw [Nat.zero_add, ht.zero] at this
      exact this
  have hx' : stepV run X es (tr i).2 = some (x, (tr (i + 1)).2) := by rw [← stepV_agree _ hagree]; exact hx
  have hclosed' : Closed ops.toList lst' := by
    intro j oj hj hjl e he hb
    have hw : lst e.on = true := by
      by_cases hji : j = i
      · subst hji
        rw [hio'] at hj
        injection hj with hj
        subst hj
        exact hready e he hb
      · rw [hlst' j hji] at hjl
        exact hI.closed j oj hj hjl e he hb
    by_cases hei : e.on = i
    · rw [hei]; exact hlst
    · rw [hlst' _ hei]; exact hw
  have helen : (tr i).1.length = e0.length := ht.elen i (by omega)
  have hw1 : ∀ (j : Nat) Y d, l1[j]? = some Y → lst' j = true → Y.dst = some d → (putT es X.dst x).getD d .undef = (tr (j + 1)).1.getD d .undef := by
    intro j Y d hj hjl hjd
    by_cases hji : j = i
    · subst hji
      rw [hX] at hj
      injection hj with hj
      subst hj
      rw [hxe, hjd]
      exact putT_same (by rw [hI.elen, helen])
    · rw [hlst' j hji] at hjl
      rw [putT_other (fun hd => hji (huniq j i Y X d hj hX hjd hd))]
      exact hI.w1 j Y d hj hjl hjd
  have hw2 : ∀ t, (∀ (j : Nat) Y, l1[j]? = some Y → lst' j = true → Y.dst ≠ some t) → (putT es X.dst x).getD t .undef = e0.getD t .undef := by
    intro t h
    rw [putT_other (h i X hX hlst)]
    refine hI.w2 t (fun j Y hj hjl => ?_)
    have hji : j ≠ i := fun e => by subst e; rw [hil] at hjl; simp at hjl
    exact h j Y hj (by rw [hlst' j hji]; exact hjl)
  have hdom' : ∀ b p, ι b = some p → b < σ0.length ∨ ∃ j, j < l1.length ∧ lst' j = true ∧ (tr j).2.length ≤ b ∧ b < (tr (j + 1)).2.length := by
    intro b p hb
    rcases hI.dom b p hb with h | ⟨j, h1, h2, h3⟩
    · exact .inl h
    · have hji : j ≠ i := fun e => by subst e; rw [hil] at h2; simp at h2
      exact .inr ⟨j, h1, by rw [hlst' j hji]; exact h2, h3⟩
  have h0le : ∀ j, j ≤ l1.length → σ0.length ≤ (tr j).2.length := fun j hj => by
    have := ht.hle (k := 0) (k' := j) (by omega) hj
    rwa [ht.zero] at this
  have hset0 : ∀ (b : Nat) (p : Place), ι b = some p → (tr i).2.length ≤ b → b < (tr (i + 1)).2.length → False := by
    intro b p hb h1 h2
    rcases hI.dom b p hb with h | ⟨j, g1, g2, g3, g4⟩
    · have := h0le i (by omega); omega
    · have hji : j ≠ i := fun e => by subst e; rw [hil] at g2; simp at g2
      rcases Nat.lt_or_gt_of_ne hji with h | h
      · have := ht.hle (k := j + 1) (k' := i) (by omega) (by omega); omega
      · have := ht.hle (k := i + 1) (k' := j) (by omega) (by omega); omega
  obtain ⟨n1, hn1⟩ := ini_ext hH ht (k := i) 1 (by omega)
  obtain ⟨n2, hn2⟩ := ini_ext hH ht (k := i + 1) (l1.length - (i + 1)) (by omega)
  rw [show i + 1 + (l1.length - (i + 1)) = l1.length by omega] at hn2
  have hRi : RelW ι (tr i).2 W := by
    have h1 := hI.rel
    rw [hn2] at h1
    have h2 := h1.front
    rw [hn1] at h2
    exact h2.front
  -- what no step writes
  have quietEnd : ∀ v W' ι', VR ι' x v → QPost ι (tr i).2 W ι' (tr (i + 1)).2 W' → (∀ r ∈ prs, r.j ≠ i) → (∀ r ∈ prs, r.i = i → ∃ p, Cell W0 W' ι' (tr r.i).2.length r.n p ∧ ∃ g, Cells W' p r.n g) → K (a.put o.dst v) W' := by
    intro v W' ι' hv hq hnj hnew
    have hnone : ∀ b p, ι' b = some p → ι b = none → ((tr i).2.length ≤ b ∧ b < (tr (i + 1)).2.length) ∧ W.heap.size ≤ p.c := hq.fresh
    refine hK _ W' ι' (putT es X.dst x) ⟨hclosed', ?_, by rw [putT_len, hI.elen], hw1, hw2, ?_, fun b p hb => ?_, hI.same.trans hq.same, hI.ext.trans hq.ext, fun c hc hm => ?_, fun b p hb hn => ?_, by rw [put_defers, hI.defers], fun r hr hri => ?_⟩
    · rw [hXd]; exact EnvR.put (hI.env.ext hq.ext) o.dst hv
    · have h1 := hI.rel
      rw [hn2] at h1 ⊢
      exact hq.later h1
    · cases hn : ι b with
      | some r =>
        have := hq.ext b r hn
        rw [hb] at this
        injection this with this
        subst this
        exact hdom' b p hn
      | none => exact .inr ⟨i, hin, hlst, (hnone b p hb hn).1⟩
    · rw [hq.frame c (Nat.lt_of_lt_of_le hc hI.same.size), hI.frame c hc hm]
    · cases hn1 : ι b with
      | some r =>
        have := hq.ext b r hn1
        rw [hb] at this
        injection this with this
        subst this
        exact hI.fresh b p hn1 hn
      | none =>
        have := hnone b p hb hn1
        have h0 := h0le i (by omega)
        have hsz := hI.same.size
        exact ⟨by omega, by omega⟩
    · have hij := hnj r hr
      by_cases hii : r.i = i
      · obtain ⟨p, h1, h2⟩ := hnew r hr hii
        refine ⟨p, h1, h2, fun hl => ?_⟩
        rw [hlst' r.j hij] at hl
        -- it can't have been laid before it was made
        have hpr := hH.pair r hr
        rcases (hpair r.i r.j _ _ hpr.1 hpr.2.1 hpr.2.2).1 with hb | hf
        · have hjn : r.j < l1.length := by
            rcases Nat.lt_or_ge r.j l1.length with h | h
            · exact h
            · have := hpr.2.2; rw [List.getElem?_eq_none h] at this; simp at this
          have := hmaskl r.j hl hjn r.i hb
          rw [hii, hil] at this; simp at this
        · exact absurd (by simp [I.reads, HIns.reads, oT]) ((tmpFree_spec hf).1 r.d rfl).1
      · rw [hlst' r.i hii] at hri
        obtain ⟨p, h1, ⟨g, h2⟩, h3⟩ := hI.cells r hr hri
        have hlt := hI.rel.lt _ p h1.here
        have hfr := hq.frame p.c hlt
        refine ⟨p, h1.keep hfr hq.ext (fun b' p' hb hn => ?_), ⟨g, h2.keep hfr⟩, fun hl g hg => ?_⟩
        · have := hnone b' p' hb hn; omega
        · rw [hlst' r.j hij] at hl
          exact (h3 hl g hg).keep hfr
  rcases hH.role i X0 hX0 with ⟨r, hr, hri, ⟨z, g, h1, hz, hzs⟩, h2⟩ | ⟨r, hr, hrj, h1, h2⟩ | ⟨h1, h2, h3⟩
  · -- fresh cells
    rw [hX] at h2
    injection h2 with h2
    subst h2; subst h1
    have hx2 : x = .ptr (tr i).2.length 0 r.n ∧ (tr (i + 1)).2 = (tr i).2 ++ [.dead] := by
      simp only [stepV, insV, heapV, Option.some.injEq, Prod.mk.injEq] at hx'
      exact ⟨hx'.1.symm, hx'.2.symm⟩
    obtain ⟨hxv, hxh⟩ := hx2
    have hxa : stepV run ⟨some r.d, none, .h (.alloc z)⟩ es (tr i).2 = some (.ptr (tr i).2.length 0 r.n, (tr i).2 ++ [.sc .var r.n g]) := by
      simp only [stepV, insV, heapV, hz, hzs]
    refine step_q hrun hcI (by simp [Ins.kd, HIns.kd]) hI.env hRi hxa (fun b h1 h2 => ?_) (fun v W' ι' hv hq => ?_)
    · cases hb : ι b with
      | none => rfl
      | some p =>
        refine (hset0 b p hb h1 ?_).elim
        rw [hxh]
        simpa using h2
    · have hqd : QPost ι (tr i).2 W ι' (tr (i + 1)).2 W' := by rw [hxh]; exact hq.kill
      refine quietEnd v W' ι' (by rw [hxv]; exact hv) hqd (fun r' hr' e => hH.ij r hr r' hr' (hri.trans e.symm)) (fun r' hr' e => ?_)
      have := hH.ui r' hr' r hr (e.trans hri.symm)
      subst this
      simp only [VR] at hv
      obtain ⟨p, hp, _, _⟩ := hv
      have hnn : ι (tr i).2.length = none := by
        cases hb : ι (tr i).2.length with
        | none => rfl
        | some p => exact (hset0 _ p hb (Nat.le_refl _) (by rw [hxh]; simp)).elim
      have hfp := (hq.fresh _ p hp hnn).2
      have hblk := hq.rel.blk (tr i).2.length p (.sc .var r'.n g) hp (by simp)
      rw [hri]
      refine ⟨p, ⟨hp, hblk.1.symm, hblk.2.2, Nat.le_trans hI.same.size hfp, fun b' p' hb' hne => ?_⟩, g, hblk.2.1⟩
      cases hn : ι b' with
      | some q' =>
        have := hq.ext b' q' hn
        rw [hb'] at this
        injection this with this
        subst this
        have := hI.rel.lt b' p' hn
        omega
      | none =>
        have := (hq.fresh b' p' hb' hn).1
        simp at this
        omega
  · -- they are laid
    rw [hX] at h2
    injection h2 with h2
    subst h2; subst h1
    have hpr := hH.pair r hr
    have hrl : lst r.i = true := by
      rcases (hpair r.i r.j _ _ hpr.1 hpr.2.1 hpr.2.2).1 with hb | hf
      · rw [hrj] at hb; exact hmask r.i hb
      · exact absurd (by simp [I.reads, HIns.reads, oT]) ((tmpFree_spec hf).1 r.d rfl).1
    have hril : r.i < l1.length := by have := hpr.1; omega
    -- where they lie
    obtain ⟨y, hy, hye⟩ := ht.step r.i _ hpr.2.1
    have hdv : es.getD r.d .undef = .ptr (tr r.i).2.length 0 r.n := by
      rw [hI.w1 r.i _ r.d hpr.2.1 hrl rfl, hye]
      simp only [stepV, insV, heapV, Option.some.injEq, Prod.mk.injEq] at hy
      rw [← hy.1]
      have hdl : r.d < (tr r.i).1.length := by
        rcases Nat.lt_or_ge r.d (tr r.i).1.length with h | h
        · exact h
        · exfalso
          have e1 : es.getD r.d .undef = .undef := by
            rw [List.getD_eq_getElem?_getD, List.getElem?_eq_none (by rw [hI.elen, ← ht.elen r.i (by omega)]; exact h)]; rfl
          simp only [stepV, insV, heapV] at hx'
          simp only [O.ev, e1] at hx'
          cases hx'
      simp only [putT, List.getD_eq_getElem?_getD, List.getElem?_set_self hdl]
      rfl
    obtain ⟨p, hcell, ⟨g0, hg0⟩, _⟩ := hI.cells r hr hrl
    have hxv : x = .undef ∧ (tr (i + 1)).2 = (tr i).2 ∧ ∃ g, (r.x.ev es).scells r.n = some g ∧ (tr i).2[(tr r.i).2.length]? = some .dead := by
      simp only [stepV, insV, heapV] at hx'
      have : (O.t r.d).ev es = .ptr (tr r.i).2.length 0 r.n := hdv
      rw [this] at hx'
      split at hx'
      · rename_i b o' z' g heq hg
        injection heq with e1 e2 e3
        subst e1
        split at hx'
        · rename_i hdead
          injection hx' with hx'
          injection hx' with e4 e5
          exact ⟨e4.symm, e5.symm, g, hg, hdead⟩
        · cases hx'
      · cases hx'
    obtain ⟨rfl, hsame, g, hg, hdead⟩ := hxv
    have hDn : (tr l1.length).2[(tr r.i).2.length]? = some .dead := by
      rw [hn2, hsame]
      rw [List.getElem?_append_left]
      · exact hdead
      · rcases Nat.lt_or_ge (tr r.i).2.length (tr i).2.length with h | h
        · exact h
        · rw [List.getElem?_eq_none h] at hdead; cases hdead
    have hbl : (tr r.i).2.length < (tr l1.length).2.length := by
      rcases Nat.lt_or_ge (tr r.i).2.length (tr l1.length).2.length with h | h
      · exact h
      · rw [List.getElem?_eq_none h] at hDn; cases hDn
    have hR1 := hI.rel.revive hcell hg0
    have hDom : Dom ι ((tr l1.length).2.set (tr r.i).2.length (.sc .var r.n g0)) := by
      intro b p' hb
      rw [List.length_set]
      rcases hI.dom b p' hb with h | ⟨j, g1, _, _, g4⟩
      · have := h0le l1.length (Nat.le_refl _); omega
      · have := ht.hle (k := j + 1) (k' := l1.length) (by omega) (Nat.le_refl _); omega
    have hstore : stepV run ⟨none, none, .h (.store r.n (.t r.d) r.x)⟩ es ((tr l1.length).2.set (tr r.i).2.length (.sc .var r.n g0)) = some (.undef, ((tr l1.length).2.set (tr r.i).2.length (.sc .var r.n g0)).set (tr r.i).2.length (.sc .var r.n (over g0 0 r.n g))) := by
      have h9 : (O.t r.d).ev es = .ptr (tr r.i).2.length 0 r.n := hdv
      simp only [stepV, insV, heapV, h9, Nat.le_refl, if_true, wrV, List.getElem?_set_self hbl, Md.mut, hg, Option.map_some]
    refine step_e hrun hcI (by simp [Ins.kd, HIns.kd]) hI.env hR1 hDom hstore (fun v W' ι' hv hp => ?_)
    have hιι : ∀ b p', ι' b = some p' → ι b = some p' := fun b p' hb => by
      cases hn : ι b with
      | some q' =>
        have := hp.ext b q' hn
        rw [hb] at this
        rw [this]
      | none =>
        have := (hp.fresh b p' hb hn).1
        simp at this
        omega
    have hrel : RelW ι' (tr l1.length).2 W' := by
      have h9 := hp.rel.kill (tr r.i).2.length
      have e9 : (((tr l1.length).2.set (tr r.i).2.length (.sc .var r.n g0)).set (tr r.i).2.length (.sc .var r.n (over g0 0 r.n g))).set (tr r.i).2.length .dead = (tr l1.length).2 := by
        rw [List.set_set, List.set_set]
        refine List.ext_getElem? fun c => ?_
        by_cases e : (tr r.i).2.length = c
        · subst e; rw [List.getElem?_set_self hbl, hDn]
        · rw [List.getElem?_set_ne e]
      rw [e9] at h9
      exact h9
    have hnewc : Cells W' p r.n g := by
      have hb9 := hp.rel.blk (tr r.i).2.length p (.sc .var r.n (over g0 0 r.n g)) (hp.ext _ _ hcell.here) (by simp [hbl])
      intro q' hq'
      rw [hb9.2.1 q' hq']
      unfold over
      rw [show Nat.ble 0 q' = true from Nat.ble_eq_true_of_le (Nat.zero_le _), show Nat.blt q' (0 + r.n) = true from Nat.ble_eq_true_of_le (by omega)]
      rfl
    have hown : Own .var W' p := (hp.rel.blk (tr r.i).2.length p (.sc .var r.n (over g0 0 r.n g)) (hp.ext _ _ hcell.here) (by simp [hbl])).2.2
    -- what else stays
    have hkeep : ∀ c, c < W.heap.size → c ≠ p.c → (∀ b' p', ι b' = some p' → mutb (tr l1.length).2 b' → p'.c ≠ c) → W'.heap[c]? = W.heap[c]? := fun c hc hne hm => hp.frame c hc fun b' p' hb' ⟨y', hy', hm'⟩ => by
      by_cases e : (tr r.i).2.length = b'
      · subst e
        rw [hcell.here] at hb'
        injection hb' with hb'
        rw [← hb']
        exact Ne.symm hne
      · rw [List.getElem?_set_ne e] at hy'
        exact hm b' p' hb' ⟨y', hy', hm'⟩
    have hback : ∀ b, b < σ0.length → ∀ y', (tr l1.length).2[b]? = some y' → σ0[b]? = some y' := fun b hb y' hy' => by
      obtain ⟨nw, hnw⟩ := ini_ext hH ht (k := 0) l1.length (by omega)
      rw [Nat.zero_add, ht.zero] at hnw
      rw [hnw, List.getElem?_append_left hb] at hy'
      exact hy'
    refine hK _ W' ι' (putT es (none : Option Nat) .undef) ⟨hclosed', ?_, hI.elen, hw1, hw2, hrel, fun b p' hb => hdom' b p' (hιι b p' hb), hI.same.trans hp.same, hI.ext.trans hp.ext, fun c hc hm => ?_, fun b p' hb hn => hI.fresh b p' (hιι b p' hb) hn, by rw [put_defers, hI.defers], fun r' hr' hri' => ?_⟩
    · have h9 := EnvR.put (hI.env.ext hp.ext) (none : Option Nat) hv
      rw [← hXd]
      exact h9
    · rw [hkeep c (Nat.lt_of_lt_of_le hc hI.same.size) (by have := hcell.new; omega) (fun b' p' hb' ⟨y', hy', hm'⟩ => ?_), hI.frame c hc hm]
      cases hn0 : ι0 b' with
      | some q' =>
        have := hI.ext b' q' hn0
        rw [hb'] at this
        injection this with this
        subst this
        exact hm b' p' hn0 ⟨y', hback b' (hD0 b' p' hn0) y' hy', hm'⟩
      | none => have := (hI.fresh b' p' hb' hn0).2; omega
    · by_cases hrr : r' = r
      · subst hrr
        refine ⟨p, ⟨hp.ext _ _ hcell.here, hcell.size, hown, hcell.new, fun b' p' hb' hne => hcell.apart b' p' (hιι b' p' hb') hne⟩, ⟨g, hnewc⟩, fun _ g' hg' => ?_⟩
        have hag : r'.x.ev (tr i).1 = r'.x.ev es := ev_agree fun t htt => hagree t (by simp only [I.reads, HIns.reads]; exact List.mem_append_right _ (List.mem_append_right _ htt))
        rw [hrj, hag, hg] at hg'
        injection hg' with hg'
        rw [← hg']
        exact hnewc
      · have hii : r'.i ≠ i := fun e => hH.ij r' hr' r hr (e.trans hrj.symm)
        have hjj : r'.j ≠ i := fun e => hrr (hH.uj r' hr' r hr (e.trans hrj.symm))
        rw [hlst' r'.i hii] at hri'
        obtain ⟨p', h1, ⟨g1, h2⟩, h3⟩ := hI.cells r' hr' hri'
        have hbne : (tr r'.i).2.length ≠ (tr r.i).2.length := by
          have hl1 : ∀ (r1 r2 : Pr), r1 ∈ prs → r2 ∈ prs → r1.i < r2.i → (tr r1.i).2.length < (tr r2.i).2.length := fun r1 r2 m1 m2 hlt => by
            have hp1 := hH.pair r1 m1
            have hp2 := hH.pair r2 m2
            obtain ⟨y1, hy1, _⟩ := ht.step r1.i _ hp1.2.1
            simp only [stepV, insV, heapV, Option.some.injEq, Prod.mk.injEq] at hy1
            have e1 : (tr (r1.i + 1)).2.length = (tr r1.i).2.length + 1 := by rw [← hy1.2]; simp
            have hlen2 : r2.i < l1.length := by
              rcases Nat.lt_or_ge r2.i l1.length with h | h
              · exact h
              · have := hp2.2.1; rw [List.getElem?_eq_none h] at this; simp at this
            have := ht.hle (k := r1.i + 1) (k' := r2.i) (by omega) (by omega)
            omega
          rcases Nat.lt_trichotomy r'.i r.i with h | h | h
          · have := hl1 r' r hr' hr h; omega
          · exact absurd (hH.ui r' hr' r hr h) hrr
          · have := hl1 r r' hr hr' h; omega
        have hpc : p'.c ≠ p.c := hcell.apart _ p' h1.here hbne
        have hfr : W'.heap[p'.c]? = W.heap[p'.c]? := hkeep p'.c (hI.rel.lt _ _ h1.here) hpc fun b' p2 hb' ⟨y', hy', hm'⟩ => by
          by_cases e : b' = (tr r'.i).2.length
          · subst e
            have hp1 := hH.pair r' hr'
            obtain ⟨y1, hy1, _⟩ := ht.step r'.i _ hp1.2.1
            simp only [stepV, insV, heapV, Option.some.injEq, Prod.mk.injEq] at hy1
            have hlen2 : r'.i < l1.length := by
              rcases Nat.lt_or_ge r'.i l1.length with h | h
              · exact h
              · have := hp1.2.1; rw [List.getElem?_eq_none h] at this; simp at this
            obtain ⟨nw, hnw⟩ := ini_ext hH ht (k := r'.i + 1) (l1.length - (r'.i + 1)) (by omega)
            rw [show r'.i + 1 + (l1.length - (r'.i + 1)) = l1.length by omega, ← hy1.2] at hnw
            rw [hnw, List.append_assoc, List.getElem?_append_right (Nat.le_refl _)] at hy'
            simp at hy'
            subst hy'
            cases hm'
          · exact h1.apart b' p2 hb' e
        refine ⟨p', h1.keep hfr hp.ext (fun b' p2 hb' hn => ?_), ⟨g1, h2.keep hfr⟩, fun hl g' hg' => ?_⟩
        · have := hιι b' p2 hb'; rw [hn] at this; cases this
        · rw [hlst' r'.j hjj] at hl
          exact (h3 hl g' hg').keep hfr
  · rw [hX] at h2
    injection h2 with h2
    subst h2
    refine step_q hrun hcI h1 hI.env hRi hx' (fun b h1 h2 => ?_) (fun v W' ι' hv hq => ?_)
    · cases hb : ι b with
      | none => rfl
      | some p => exact (hset0 b p hb h1 h2).elim
    · exact quietEnd v W' ι' hv hq (fun r hr => (h3 r hr).2) (fun r hr e => absurd e (h3 r hr).1)

theorem opsV_append {run : Runner} : ∀ {l l2 : List I} {e : Env} {σ : Heap} {r : Env × Heap}, opsV run (l ++ l2) e σ = some r → ∃ e1 σ1, opsV run l e σ = some (e1, σ1) ∧ opsV run l2 e1 σ1 = some r
  | [], _, e, σ, r, h => ⟨e, σ, rfl, h⟩
  | i :: l, l2, e, σ, r, h => by
    simp only [List.cons_append, opsV, Option.bind_eq_some_iff] at h
    obtain ⟨⟨e1, σ1⟩, h1, h2⟩ := h
    obtain ⟨e2, σ2, h3, h4⟩ := opsV_append h2
    exact ⟨e2, σ2, by simp only [opsV, h1, Option.bind_some]; exact h3, h4⟩

/-- The cells are told anew. -/
theorem rev_sound {ι : Inj} {W0 W : World} {e1 : Env} : ∀ {l : List Pr} {σ1 : Heap} {e' : Env} {σ' : Heap} (bl : Pr → Nat), (∀ r ∈ l, ∃ p, e1.getD r.d .undef = .ptr (bl r) 0 r.n ∧ Cell W0 W ι (bl r) r.n p ∧ ∀ g, (r.x.ev e1).scells r.n = some g → Cells W p r.n g) → RelW ι σ1 W → opsV run (revs l) e1 σ1 = some (e', σ') →
    e' = e1 ∧ RelW ι σ' W ∧ σ'.length = σ1.length ∧ ∀ b, (∀ r ∈ l, bl r ≠ b) → σ'[b]? = σ1[b]?
  | [], σ1, e', σ', bl, _, hR, h => by
    simp only [revs, List.map_nil, opsV, Option.some.injEq, Prod.mk.injEq] at h
    obtain ⟨rfl, rfl⟩ := h
    exact ⟨rfl, hR, rfl, fun _ _ => rfl⟩
  | r :: l, σ1, e', σ', bl, hl, hR, h => by
    simp only [revs, List.map_cons, opsV, Option.bind_eq_some_iff] at h
    obtain ⟨⟨e2, σ2⟩, h1, h2⟩ := h
    obtain ⟨p, hp1, hp2, hp3⟩ := hl r (.head _)
    have hd : (O.t r.d).ev e1 = .ptr (bl r) 0 r.n := hp1
    simp only [stepI, insV, heapV, hd, Option.map_eq_some_iff] at h1
    obtain ⟨⟨y, τ⟩, h3, h4⟩ := h1
    split at h3
    · rename_i b o z g heq hg
      injection heq with q1 _ _
      subst q1
      split at h3
      · injection h3 with h3
        injection h3 with h5 h6
        injection h4 with h7 h8
        have e2e : e2 = e1 := h7.symm
        have s2e : σ2 = σ1.set (bl r) (.sc .var r.n g) := by rw [← h8, ← h6]
        rw [e2e, s2e] at h2
        obtain ⟨a1, a2, a3, a4⟩ := rev_sound bl (fun r' hr' => hl r' (.tail _ hr')) (hR.revive hp2 (hp3 g hg)) h2
        refine ⟨a1, a2, by rw [a3]; simp, fun b' hb' => ?_⟩
        rw [a4 b' (fun r' hr' => hb' r' (.tail _ hr')), List.getElem?_set_ne (hb' r (.head _))]
      · cases h3
    · cases h3

/-- Whatever the order: the region comes to what the text's order comes to. -/
theorem par_ini (hrun : RunOK P run) (hm : P.follows .mixedOrders = true) (hc : compPar P ops.toList (bmasks ops.toList []) ops.toList.zipIdx = some is) (hok : iniOK (bmasks ops.toList []) (iniPrs is.zipIdx is.zipIdx) is = true) (hedge : edgesOK ops.toList.zipIdx = true)
    {ι : Inj} {σ : Heap} {W : World} {e e' : Env} {a : Act} {σ' : Heap} (hE : EnvR ι e a.tmps) (hR : RelW ι σ W) (hD : Dom ι σ) (hv0 : opsV run (iniL (iniPrs is.zipIdx is.zipIdx) is ++ revs (iniPrs is.zipIdx is.zipIdx)) e σ = some (e', σ')) {Q : Exit → Act → World → Prop} (id : Nat)
    (hQ : ∀ a' W' ι', EnvR ι' e' a'.tmps → Post ι σ W ι' σ' W' → a'.defers = a.defers → Q .normal a' W') : (Code.region id ops true).wp P Q a W := by
  obtain ⟨hcl, hcomp⟩ := compPar_spec hc
  obtain ⟨hH, hpar⟩ := iniH_of hok
  revert hH hpar hv0
  generalize iniPrs is.zipIdx is.zipIdx = prs
  generalize iniL prs is = l1
  intro hv0 hH hpar
  obtain ⟨e1, σ1, hv, hrev⟩ := opsV_append hv0
  obtain ⟨tr, ht, hend⟩ := trace hv
  have hlen := hH.len
  have hsz : l1.length = ops.size := by rw [hlen, hcl]; simp
  have huniq : ∀ (j j' : Nat) Y Y' d, l1[j]? = some Y → l1[j']? = some Y' → Y.dst = some d → Y'.dst = some d → j = j' := by
    intro j j' Y Y' d h1 h2 h3 h4
    rcases Nat.lt_trichotomy j j' with h | h | h
    · exact absurd ⟨by rw [h3]; rfl, by rw [h3, h4]⟩ (parAll0_spec hpar j j' Y Y' h h1 h2).2
    · exact h
    · exact absurd ⟨by rw [h4]; rfl, by rw [h3, h4]⟩ (parAll0_spec hpar j' j Y' Y h h2 h1).2
  have main : ∀ (fuel : Nat) (listed : Array Bool) (a' : Act) (W' : World), listed.size = ops.size → unl (fun i => listed.getD i false) ops.size ≤ fuel →
      (∃ ι' es, Inv2 prs l1 ops.toList e σ ι W a.defers tr (fun i => listed.getD i false) a' W' ι' es) → wpAny P .any ops Q fuel listed a' W' := by
    have fin : ∀ (listed : Array Bool) (a' : Act) (W' : World), listed.size = ops.size → (∀ i, i < ops.size → listed.getD i false = true) → (∃ ι' es, Inv2 prs l1 ops.toList e σ ι W a.defers tr (fun i => listed.getD i false) a' W' ι' es) → Q .normal a' W' := by
      rintro listed a' W' hls hall ⟨ι', es, hI⟩
      have he1 : e1 = (tr l1.length).1 := by rw [hend]
      have hlt : ∀ (j : Nat) (Y : I), l1[j]? = some Y → j < l1.length := fun j Y hj => by
        rcases Nat.lt_or_ge j l1.length with h | h
        · exact h
        · rw [List.getElem?_eq_none h] at hj; simp at hj
      have hes : es = e1 := by
        have hl : es.length = e1.length := by rw [he1, ht.elen _ (Nat.le_refl _), hI.elen]
        apply List.ext_getElem?
        intro t
        have hg : es.getD t .undef = e1.getD t .undef := by
          by_cases hex : ∃ (j : Nat) (Y : I), l1[j]? = some Y ∧ Y.dst = some t
          · obtain ⟨j, Y, hj, hjd⟩ := hex
            have hjn := hlt j Y hj
            rw [hI.w1 j Y t hj (hall j (by omega)) hjd, he1]
            have := ht.same (k := j + 1) (t := t) (l1.length - (j + 1)) (by omega) (fun i' Y' hi' g1 g2 hd => by
              have := huniq j i' Y Y' t hj hi' hjd hd
              omega)
            rw [show j + 1 + (l1.length - (j + 1)) = l1.length by omega] at this
            exact this.symm
          · rw [hI.w2 t (fun j Y h1 _ h3 => hex ⟨j, Y, h1, h3⟩), he1]
            have := ht.same (k := 0) (t := t) l1.length (by omega) (fun i' Y' hi' _ _ hd => hex ⟨i', Y', hi', hd⟩)
            rw [Nat.zero_add, ht.zero] at this
            exact this.symm
        simp only [List.getD_eq_getElem?_getD] at hg
        by_cases htl : t < es.length
        · rw [List.getElem?_eq_getElem htl, List.getElem?_eq_getElem (by omega)] at hg ⊢
          simp only [Option.getD_some] at hg
          rw [hg]
        · rw [List.getElem?_eq_none (by omega), List.getElem?_eq_none (by omega)]
      subst hes
      have hs' : (tr l1.length).2 = σ1 := by rw [hend]
      have hrel := hI.rel
      rw [hs'] at hrel
      have h0 := ht.hle (k := 0) (k' := l1.length) (by omega) (Nat.le_refl _)
      rw [ht.zero, hs'] at h0
      have hrl : ∀ r ∈ prs, r.j < l1.length ∧ r.i < l1.length := fun r hr => by
        have hp := hH.pair r hr
        have := hlt r.j _ hp.2.2
        exact ⟨this, by have := hp.1; omega⟩
      obtain ⟨a1, a2, a3, a4⟩ := rev_sound (W0 := W) (fun r => (tr r.i).2.length) (fun r hr => by
        have hp := hH.pair r hr
        have hl := hrl r hr
        obtain ⟨p, c1, _, c3⟩ := hI.cells r hr (hall r.i (by omega))
        refine ⟨p, ?_, c1, fun g hg => c3 (hall r.j (by omega)) g ?_⟩
        · obtain ⟨y, hy, hye⟩ := ht.step r.i _ hp.2.1
          obtain ⟨y2, hy2, _⟩ := ht.step r.j _ hp.2.2
          simp only [stepV, insV, heapV, Option.some.injEq, Prod.mk.injEq] at hy
          rw [hI.w1 r.i _ r.d hp.2.1 (hall r.i (by omega)) rfl, hye, ← hy.1]
          have hdl : r.d < (tr r.i).1.length := by
            rcases Nat.lt_or_ge r.d (tr r.i).1.length with h | h
            · exact h
            · exfalso
              have e9 : (tr r.j).1.getD r.d .undef = .undef := by
                rw [List.getD_eq_getElem?_getD, List.getElem?_eq_none (by rw [ht.elen r.j (by omega), ← ht.elen r.i (by omega)]; exact h)]; rfl
              simp only [stepV, insV, heapV, O.ev, e9] at hy2
              cases hy2
          simp only [putT, List.getD_eq_getElem?_getD, List.getElem?_set_self hdl]
          rfl
        · have hx9 : r.x.ev es = r.x.ev (tr r.j).1 := by
            cases hx : r.x with
            | k v => rfl
            | t s =>
              show es.getD s .undef = (tr r.j).1.getD s .undef
              rw [he1]
              have := ht.same (k := r.j) (t := s) (l1.length - r.j) (by omega) (fun i' Y' hi' g1 g2 => hH.later r hr i' Y' hi' g1 s hx)
              rw [show r.j + (l1.length - r.j) = l1.length by omega] at this
              exact this
          rw [← hx9]; exact hg) hrel hrev
      subst a1
      have hlow : ∀ b, b < σ.length → σ'[b]? = σ[b]? := fun b hb => by
        rw [a4 b (fun r hr => ?_)]
        · obtain ⟨nw, hnw⟩ := ini_ext hH ht (k := 0) l1.length (by omega)
          rw [Nat.zero_add, ht.zero, hs'] at hnw
          rw [hnw, List.getElem?_append_left hb]
        · have := ht.hle (k := 0) (k' := r.i) (by omega) (by have := hrl r hr; omega)
          rw [ht.zero] at this
          show (tr r.i).2.length ≠ b
          have : σ.length ≤ (tr r.i).2.length := this
          omega
      refine hQ a' W' ι' hI.env ⟨hI.same, hI.ext, a2, by rw [a3]; exact h0, hI.frame, fun b p hb hn => ?_, fun b hb ⟨y, hy, hmm⟩ => ⟨y, by rw [← hlow b hb]; exact hy, hmm⟩, fun b hb ⟨y, hy, hmm⟩ => ⟨y, by rw [← hlow b hb]; exact hy, hmm⟩⟩ hI.defers
      obtain ⟨h1, h2⟩ := hI.fresh b p hb hn
      refine ⟨⟨h1, ?_⟩, .inl h2⟩
      rw [a3]
      rcases hI.dom b p hb with h | ⟨i, g1, _, _, g4⟩
      · omega
      · have := ht.hle (k := i + 1) (k' := l1.length) (by omega) (Nat.le_refl _)
        rw [hs'] at this
        omega
    have allOf : ∀ (listed : Array Bool), listed.size = ops.size → Region.ready .any ops listed = [] → ∀ i, i < ops.size → listed.getD i false = true := by
      intro listed hls hr
      have : ∀ n i, i ≤ n → i < ops.size → listed.getD i false = true := by
        intro n
        induction n using Nat.strongRecOn with
        | ind n ih =>
          intro i hi hil
          cases hl : listed.getD i false with
          | true => rfl
          | false =>
            exfalso
            have hmem : i ∈ Region.ready .any ops listed := by
              unfold Region.ready
              simp only [List.mem_filter, List.mem_range, Bool.and_eq_true, Bool.not_eq_true']
              refine ⟨hil, ?_, ?_⟩
              · have : listed.getD i true = listed.getD i false := by simp [show i < listed.size by omega]
                rw [this, hl]
              · have ho := Array.getElem?_eq_getElem hil
                rw [ho]
                simp only [Option.map_some, Option.getD_some]
                rw [Array.all_eq_true_iff_forall_mem]
                intro ed hed
                simp only [Bool.or_eq_true, Bool.not_eq_true']
                cases hb : Region.binds .any ed with
                | false => exact .inl rfl
                | true =>
                  have := edgesOK_spec (k := 0) hedge i _ (show ops.toList[i]? = some _ from by rw [Array.getElem?_toList]; exact ho) ed (by simpa using hed) hb
                  exact .inr (ih ed.on (by omega) ed.on (Nat.le_refl _) (by omega))
            rw [hr] at hmem
            simp at hmem
      exact fun i hi => this i i (Nat.le_refl _) hi
    intro fuel
    induction fuel with
    | zero =>
      intro listed a' W' hls hu hI
      have hall := unl_zero (n := ops.size) (Nat.le_zero.1 hu)
      refine ⟨?_, fin listed a' W' hls hall hI⟩
      apply List.eq_nil_iff_forall_not_mem.2
      intro i hi
      unfold Region.ready at hi
      simp only [List.mem_filter, List.mem_range, Bool.and_eq_true, Bool.not_eq_true'] at hi
      have h1 := hall i hi.1
      have : listed.getD i true = listed.getD i false := by simp [show i < listed.size by omega]
      rw [this] at hi
      rw [h1] at hi
      simp at hi
    | succ fuel ih =>
      intro listed a' W' hls hu hI
      refine ⟨fun hr => fin listed a' W' hls (allOf listed hls hr) hI, fun i hi => ?_⟩
      obtain ⟨ι', es, hI⟩ := hI
      unfold Region.ready at hi
      simp only [List.mem_filter, List.mem_range, Bool.and_eq_true, Bool.not_eq_true'] at hi
      obtain ⟨hil, hnl, hrd⟩ := hi
      have hnl' : listed.getD i false = false := by
        have : listed.getD i true = listed.getD i false := by simp [show i < listed.size by omega]
        rw [← this]; exact hnl
      have ho := Array.getElem?_eq_getElem hil
      have hset : ∀ j, j ≠ i → (listed.setIfInBounds i true).getD j false = listed.getD j false := fun j hj => by
        simp only [Array.getD_eq_getD_getElem?, Array.getElem?_setIfInBounds]
        rw [if_neg (Ne.symm hj)]
      have hseti : (listed.setIfInBounds i true).getD i false = true := by
        simp [Array.getD_eq_getD_getElem?, show i < listed.size by omega]
      unfold wpOp
      rw [ho]
      simp only
      have hready : ∀ ed ∈ (ops[i]).after.toList, Region.binds .any ed = true → listed.getD ed.on false = true := by
        intro ed hed hb
        rw [ho] at hrd
        simp only [Option.map_some, Option.getD_some] at hrd
        rw [Array.all_eq_true_iff_forall_mem] at hrd
        have := hrd ed (by simpa using hed)
        simpa [hb] using this
      have hstep := ini_step (lst' := fun j => (listed.setIfInBounds i true).getD j false) (K := wpAny P .any ops Q fuel (listed.setIfInBounds i true)) (Q := Q) hrun hedge hH hpar hcl hcomp hD ht hI ho hnl' hready hseti hset (fun a2 W2 ι2 es2 hI2 => ih _ a2 W2 (by simpa using hls) ?_ ⟨ι2, es2, hI2⟩)
      · split
        · rename_i hw
          rw [if_pos hw] at hstep
          exact .inl hstep
        · rename_i hw
          rw [if_neg hw] at hstep
          exact hstep
      · have := (unl_set (lst := fun j => listed.getD j false) (lst' := fun j => (listed.setIfInBounds i true).getD j false) hnl' hseti hset (n := ops.size)).2 hil
        omega
  refine wp_region_any hm ?_
  refine main ops.size _ a _ (by simp) ?_ ⟨ι, ?_⟩
  · have : ∀ n, unl (fun i => (Array.replicate ops.size false).getD i false) n ≤ n := by
      intro n
      induction n with
      | zero => exact Nat.le_refl _
      | succ n ih =>
        simp only [unl]
        split <;> omega
    exact this _
  · have hfalse : ∀ i, (Array.replicate ops.size false).getD i false = false := by
      intro i
      simp [Array.getD_eq_getD_getElem?, Array.getElem?_replicate]
      split <;> rfl
    obtain ⟨new, hnew⟩ := ini_ext hH ht (k := 0) l1.length (by omega)
    rw [Nat.zero_add, ht.zero] at hnew
    have hR' : RelW ι σ W.drew := hR.toDrew
    exact ⟨e, fun j o _ hjl => by rw [hfalse] at hjl; simp at hjl, hE, rfl, fun i I d _ hl => by rw [hfalse] at hl; simp at hl, fun t _ => rfl, by rw [hnew]; exact hR'.behind hD, fun b p hb => .inl (hD b p hb), ⟨rfl, rfl, rfl, Nat.le_refl _⟩, .refl ι, fun c _ _ => rfl, fun b p hb hn => by rw [hb] at hn; simp at hn, rfl, fun r hr hl => by rw [hfalse] at hl; simp at hl⟩

end
end Go.Am
