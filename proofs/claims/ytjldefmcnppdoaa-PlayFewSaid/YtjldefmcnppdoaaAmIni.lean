/- Operations whose order Go leaves open, fresh cells laid among them: every order. -/
import Derived.Test.YtjldefmcnppdoaaAmParC
namespace Go.Am
open Go

theorem RelW.kill {ι : Inj} {σ : Heap} {W : World} (h : RelW ι σ W) (b : Nat) : RelW ι (σ.set b .dead) W := by
  have hk : ∀ (c : Nat) (x : Blk), (σ.set b .dead)[c]? = some x → x = Blk.dead ∨ σ[c]? = some x := fun c x hx => by
    by_cases e : b = c
    · subst e
      by_cases hl : b < σ.length
      · rw [List.getElem?_set_self hl] at hx; injection hx with hx; exact .inl hx.symm
      · rw [List.getElem?_eq_none (by simpa using hl)] at hx; cases hx
    · rw [List.getElem?_set_ne e] at hx; exact .inr hx
  refine ⟨h.lt, fun c p x hc hx => ?_, fun b1 b2 p1 p2 e1 e2 hne ⟨x, hx, hm⟩ ⟨y, hy, hl⟩ => ?_⟩
  · rcases hk c x hx with rfl | hx
    · trivial
    · exact h.blk c p x hc hx
  · rcases hk b1 x hx with rfl | hx
    · cases hm
    · rcases hk b2 y hy with rfl | hy
      · cases hl
      · exact h.sep b1 b2 p1 p2 e1 e2 hne ⟨x, hx, hm⟩ ⟨y, hy, hl⟩

theorem QPost.kill {ι ι' : Inj} {σ : Heap} {W W' : World} {B : Blk} (h : QPost ι σ W ι' (σ ++ [B]) W') : QPost ι σ W ι' (σ ++ [.dead]) W' := by
  have e : (σ ++ [B]).set σ.length .dead = σ ++ [.dead] := by simp
  exact ⟨h.same, h.ext, by rw [← e]; exact h.rel.kill _, ⟨[.dead], rfl⟩, h.frame, fun b p hb hn => by simpa using h.fresh b p hb hn⟩

/-- A block of cells whose content the machine does not tell, apart from all others. -/
structure Cell (W0 W : World) (ι : Inj) (b n : Nat) (p : Place) : Prop where
  here : ι b = some p
  size : p.n = n
  own : Own .var W p
  new : W0.heap.size ≤ p.c
  apart : ∀ b' p', ι b' = some p' → b' ≠ b → p'.c ≠ p.c

def Cells (W : World) (p : Place) (n : Nat) (g : Nat → S) : Prop := ∀ q, q < n → W.cell? ⟨p.c, p.base + q, none⟩ = some (g q).val

theorem RelW.revive {ι : Inj} {σ : Heap} {W W0 : World} {b n : Nat} {p : Place} {g : Nat → S} (h : RelW ι σ W) (hc : Cell W0 W ι b n p) (hg : Cells W p n g) : RelW ι (σ.set b (.sc .var n g)) W := by
  have hk : ∀ c x, (σ.set b (.sc .var n g))[c]? = some x → (c = b ∧ x = .sc .var n g) ∨ (c ≠ b ∧ σ[c]? = some x) := fun c x hx => by
    by_cases e : b = c
    · subst e
      by_cases hl : b < σ.length
      · rw [List.getElem?_set_self hl] at hx; injection hx with hx; exact .inl ⟨rfl, hx.symm⟩
      · rw [List.getElem?_eq_none (by simpa using hl)] at hx; cases hx
    · rw [List.getElem?_set_ne e] at hx; exact .inr ⟨Ne.symm e, hx⟩
  refine ⟨h.lt, fun c q x hq hx => ?_, fun b1 b2 p1 p2 e1 e2 hne ⟨x, hx, hm⟩ ⟨y, hy, hl⟩ => ?_⟩
  · rcases hk c x hx with ⟨rfl, rfl⟩ | ⟨_, hx⟩
    · have := hc.here
      rw [hq] at this
      injection this with this
      subst this
      exact ⟨hc.size.symm, hg, hc.own⟩
    · exact h.blk c q x hq hx
  · by_cases f1 : b1 = b
    · subst f1
      have := hc.here
      rw [e1] at this
      injection this with this
      subst this
      exact (hc.apart b2 p2 e2 (Ne.symm hne)).symm
    · by_cases f2 : b2 = b
      · subst f2
        have := hc.here
        rw [e2] at this
        injection this with this
        subst this
        exact hc.apart b1 p1 e1 hne
      · rcases hk b1 x hx with ⟨q, _⟩ | ⟨_, hx⟩
        · exact absurd q f1
        · rcases hk b2 y hy with ⟨q, _⟩ | ⟨_, hy⟩
          · exact absurd q f2
          · exact h.sep b1 b2 p1 p2 e1 e2 hne ⟨x, hx, hm⟩ ⟨y, hy, hl⟩

theorem Own.keep {W W' : World} {p : Place} (h : Own .var W p) (e : W'.heap[p.c]? = W.heap[p.c]?) : Own .var W' p := fun hm => by
  obtain ⟨h1, h2, cs, T, h3, h4⟩ := h hm
  exact ⟨h1, h2, cs, T, by rw [e]; exact h3, h4⟩

theorem Cells.keep {W W' : World} {p : Place} {n : Nat} {g : Nat → S} (h : Cells W p n g) (e : W'.heap[p.c]? = W.heap[p.c]?) : Cells W' p n g := fun q hq => by
  have : W'.cell? ⟨p.c, p.base + q, none⟩ = W.cell? ⟨p.c, p.base + q, none⟩ := by simp [World.cell?, e]
  rw [this]; exact h q hq

theorem Cell.keep {W0 W W' : World} {ι ι' : Inj} {b n : Nat} {p : Place} (h : Cell W0 W ι b n p) (e : W'.heap[p.c]? = W.heap[p.c]?) (hx : Ext ι ι') (hf : ∀ b' p', ι' b' = some p' → ι b' = none → p'.c ≠ p.c) : Cell W0 W' ι' b n p :=
  ⟨hx _ _ h.here, h.size, h.own.keep e, h.new, fun b' p' hb hne => by
    cases hn : ι b' with
    | none => exact hf b' p' hb hn
    | some q =>
      have := hx _ _ hn
      rw [hb] at this
      injection this with this
      subst this
      exact h.apart b' p' hn hne⟩

/-! ### What the look says -/

theorem allocOf_spec {d n : Nat} : ∀ {l : List I} {k i : Nat}, allocOf d n (l.zipIdx k) = some i → k ≤ i ∧ ∃ z, l[i - k]? = some ⟨some d, none, .h (.alloc z)⟩ ∧ z.size = n ∧ z.isSc = true
  | [], _, _, h => by simp [allocOf] at h
  | y :: l, k, i, h => by
    have rec_ : allocOf d n (l.zipIdx (k + 1)) = some i → k ≤ i ∧ ∃ z, (y :: l)[i - k]? = some ⟨some d, none, .h (.alloc z)⟩ ∧ z.size = n ∧ z.isSc = true := fun h => by
      obtain ⟨h1, z, h2, h3⟩ := allocOf_spec h
      refine ⟨by omega, z, ?_, h3⟩
      rw [show i - k = (i - (k + 1)) + 1 by omega]
      simpa using h2
    rw [List.zipIdx_cons] at h
    unfold allocOf at h
    split at h
    · cases h
    · rename_i d' z' k' r' heq
      injection heq with h1 h2
      injection h1 with h3 h4
      subst h3; subst h4; subst h2
      split at h
      · rename_i hc
        injection h with h
        subst h
        exact ⟨Nat.le_refl _, z', by simp [hc.1], hc.2.1, hc.2.2⟩
      · exact rec_ h
    · rename_i heq
      injection heq with h1 h2
      subst h2
      exact rec_ h

theorem iniPrs_spec {is : List I} : ∀ {l : List I} {k : Nat} {r : Pr}, r ∈ iniPrs (is.zipIdx 0) (l.zipIdx k) → k ≤ r.j ∧ l[r.j - k]? = some ⟨none, none, .h (.store r.n (.t r.d) r.x)⟩ ∧ ∃ z, is[r.i]? = some ⟨some r.d, none, .h (.alloc z)⟩ ∧ z.size = r.n ∧ z.isSc = true
  | [], _, _, h => by simp [iniPrs] at h
  | y :: l, k, r, h => by
    have rec_ : r ∈ iniPrs (is.zipIdx 0) (l.zipIdx (k + 1)) → k ≤ r.j ∧ (y :: l)[r.j - k]? = some ⟨none, none, .h (.store r.n (.t r.d) r.x)⟩ ∧ ∃ z, is[r.i]? = some ⟨some r.d, none, .h (.alloc z)⟩ ∧ z.size = r.n ∧ z.isSc = true := fun h => by
      obtain ⟨h1, h2, h3⟩ := iniPrs_spec h
      refine ⟨by omega, ?_, h3⟩
      rw [show r.j - k = (r.j - (k + 1)) + 1 by omega]
      simpa using h2
    rw [List.zipIdx_cons] at h
    unfold iniPrs at h
    split at h
    · cases h
    · rename_i n d x j r' heq
      injection heq with h1 h2
      injection h1 with h3 h4
      subst h3; subst h4; subst h2
      split at h
      · rename_i i hi
        rcases List.mem_cons.1 h with rfl | h
        · obtain ⟨_, z, hz1, hz2⟩ := allocOf_spec hi
          exact ⟨Nat.le_refl _, by simp, z, by simpa using hz1, hz2⟩
        · exact rec_ h
      · exact rec_ h
    · rename_i heq
      injection heq with h1 h2
      subst h2
      exact rec_ h

theorem parOne0_spec {m : List Nat} {i : Nat} {x : I} : ∀ {r : List I} {k : Nat}, parOne0 m i x (r.zipIdx k) = true → ∀ (j : Nat) y, r[j]? = some y → ((m.getD (k + j) 0).testBit i = true ∨ tmpFree x y = true) ∧ ¬ (x.dst.isSome = true ∧ x.dst = y.dst)
  | [], k, _, j, y, hj => by simp at hj
  | z :: r, k, h, j, y, hj => by
    rw [List.zipIdx_cons] at h
    simp only [parOne0, Bool.and_eq_true, Bool.or_eq_true, Bool.not_eq_true', Bool.and_eq_false_iff] at h
    cases j with
    | zero =>
      simp at hj
      subst hj
      refine ⟨h.1.1, fun ⟨h1, h2⟩ => ?_⟩
      rcases h.1.2 with h3 | h3
      · rw [h1] at h3; simp at h3
      · rw [h2] at h3; simp at h3
    | succ j =>
      simp at hj
      have := parOne0_spec h.2 j y hj
      rwa [show k + 1 + j = k + (j + 1) by omega] at this

theorem parAll0_spec {m : List Nat} : ∀ {r : List I} {k : Nat}, parAll0 m (r.zipIdx k) = true → ∀ (i j : Nat) x y, i < j → r[i]? = some x → r[j]? = some y → ((m.getD (k + j) 0).testBit (k + i) = true ∨ tmpFree x y = true) ∧ ¬ (x.dst.isSome = true ∧ x.dst = y.dst)
  | [], k, _, i, j, x, y, _, hi, _ => by simp at hi
  | z :: r, k, h, i, j, x, y, hij, hi, hj => by
    rw [List.zipIdx_cons] at h
    simp only [parAll0, Bool.and_eq_true] at h
    obtain ⟨j, rfl⟩ : ∃ j', j = j' + 1 := ⟨j - 1, by omega⟩
    simp at hj
    cases i with
    | zero =>
      simp at hi
      subst hi
      have := parOne0_spec h.1 j y hj
      rwa [show k + 1 + j = k + (j + 1) by omega] at this
    | succ i =>
      simp at hi
      have := parAll0_spec h.2 i j x y (by omega) hi hj
      rwa [show k + 1 + j = k + (j + 1) by omega, show k + 1 + i = k + (i + 1) by omega] at this

theorem distinct_spec {α : Type} {f : α → Nat} : ∀ {l : List α}, distinct (l.map f) = true → ∀ {x y : α}, x ∈ l → y ∈ l → f x = f y → x = y
  | [], _, x, y, hx, _, _ => by cases hx
  | z :: l, h, x, y, hx, hy, e => by
    simp only [List.map_cons, distinct, Bool.and_eq_true, Bool.not_eq_true'] at h
    have hz : ∀ w, w ∈ l → f w ≠ f z := fun w hw he => by
      have : (l.map f).contains (f z) = true := by rw [← he]; simp only [List.contains_iff_mem]; exact List.mem_map.2 ⟨w, hw, rfl⟩
      rw [this] at h
      simp at h
    rcases List.mem_cons.1 hx with q | hx2
    · rcases List.mem_cons.1 hy with p | hy2
      · rw [q, p]
      · rw [q] at e; exact absurd e.symm (hz y hy2)
    · rcases List.mem_cons.1 hy with p | hy2
      · rw [p] at e; exact absurd e (hz x hx2)
      · exact distinct_spec h.2 hx2 hy2 e

/-- What is known of a region with fresh cells: is, its operations; l1, what the machine runs. -/
structure IniH (prs : List Pr) (is l1 : List I) : Prop where
  len : l1.length = is.length
  role : ∀ (j : Nat) X0, is[j]? = some X0 → (∃ r ∈ prs, r.i = j ∧ (∃ z g, X0 = ⟨some r.d, none, .h (.alloc z)⟩ ∧ z.blk = .sc .var r.n g ∧ z.size = r.n) ∧ l1[j]? = some ⟨some r.d, none, .h (.allocd r.n)⟩) ∨
    (∃ r ∈ prs, r.j = j ∧ X0 = ⟨none, none, .h (.store r.n (.t r.d) r.x)⟩ ∧ l1[j]? = some ⟨none, none, .h (.init0 r.n (.t r.d) r.x)⟩) ∨ (X0.ins.kd ≠ .eff ∧ l1[j]? = some X0 ∧ ∀ r ∈ prs, r.i ≠ j ∧ r.j ≠ j)
  pair : ∀ r ∈ prs, r.i < r.j ∧ l1[r.i]? = some ⟨some r.d, none, .h (.allocd r.n)⟩ ∧ l1[r.j]? = some ⟨none, none, .h (.init0 r.n (.t r.d) r.x)⟩
  ui : ∀ r ∈ prs, ∀ r' ∈ prs, r.i = r'.i → r = r'
  uj : ∀ r ∈ prs, ∀ r' ∈ prs, r.j = r'.j → r = r'
  ij : ∀ r ∈ prs, ∀ r' ∈ prs, r.i ≠ r'.j
  later : ∀ r ∈ prs, ∀ (k : Nat) Y, l1[k]? = some Y → r.j ≤ k → ∀ s, r.x = .t s → Y.dst ≠ some s

theorem isSc_spec {z : Z} (h : z.isSc = true) : ∃ g, z.blk = .sc .var z.size g := by
  cases z with
  | ints n => exact ⟨_, rfl⟩
  | scl l => exact ⟨_, rfl⟩
  | vl l => simp [Z.isSc, Z.blk] at h
  | one v => cases v with
    | s x => exact ⟨_, rfl⟩
    | _ => simp [Z.isSc, Z.blk] at h

theorem iniH_of {m : List Nat} {is : List I} (h : iniOK m (iniPrs is.zipIdx is.zipIdx) is = true) : IniH (iniPrs is.zipIdx is.zipIdx) is (iniL (iniPrs is.zipIdx is.zipIdx) is) ∧ parAll0 m (iniL (iniPrs is.zipIdx is.zipIdx) is).zipIdx = true := by
  have hs : ∀ r, r ∈ iniPrs is.zipIdx is.zipIdx → is[r.j]? = some ⟨none, none, .h (.store r.n (.t r.d) r.x)⟩ ∧ ∃ z, is[r.i]? = some ⟨some r.d, none, .h (.alloc z)⟩ ∧ z.size = r.n ∧ z.isSc = true := fun r hr => by
    obtain ⟨_, h1, h2⟩ := iniPrs_spec (k := 0) hr
    exact ⟨by simpa using h1, h2⟩
  revert h hs
  generalize iniPrs is.zipIdx is.zipIdx = prs
  intro h hs
  unfold iniOK at h
  simp only [Bool.and_eq_true] at h
  obtain ⟨⟨⟨⟨h1, h2⟩, h3⟩, h4⟩, h5⟩ := h
  have hui : ∀ r ∈ prs, ∀ r' ∈ prs, r.i = r'.i → r = r' := fun r hr r' hr' e => distinct_spec (f := Pr.i) h4 hr hr' e
  have huj : ∀ r ∈ prs, ∀ r' ∈ prs, r.j = r'.j → r = r' := fun r hr r' hr' e => distinct_spec (f := Pr.j) h5 hr hr' e
  have hij : ∀ r ∈ prs, ∀ r' ∈ prs, r.i ≠ r'.j := fun r hr r' hr' e => by
    have a := (hs r' hr').1
    obtain ⟨z, b, _⟩ := (hs r hr).2
    rw [← e, b] at a
    injection a with a
    injection a with a _ _
    cases a
  have hlen : (iniL prs is).length = is.length := by simp [iniL]
  have hat : ∀ (j : Nat), (iniL prs is)[j]? = (is[j]?).map fun y => iniI prs y j := fun j => by
    simp [iniL, List.getElem?_map, List.getElem?_zipIdx, Option.map_map, Function.comp_def]
  have hfi : ∀ r ∈ prs, ∀ y, iniI prs y r.i = ⟨some r.d, none, .h (.allocd r.n)⟩ := fun r hr y => by
    unfold iniI
    cases hf : prs.find? (fun p => p.i == r.i) with
    | none =>
      have := List.find?_eq_none.1 hf r hr
      simp at this
    | some p =>
      have e := List.find?_some hf
      have hp := List.mem_of_find?_eq_some hf
      have := hui p hp r hr (by simpa using e)
      subst this
      rfl
  have hfj : ∀ r ∈ prs, ∀ y, iniI prs y r.j = ⟨none, none, .h (.init0 r.n (.t r.d) r.x)⟩ := fun r hr y => by
    unfold iniI
    cases hf : prs.find? (fun p => p.i == r.j) with
    | some p =>
      have e := List.find?_some hf
      have hp := List.mem_of_find?_eq_some hf
      exact absurd (by simpa using e) (hij p hp r hr)
    | none =>
      simp only
      cases hg : prs.find? (fun p => p.j == r.j) with
      | none =>
        have := List.find?_eq_none.1 hg r hr
        simp at this
      | some p =>
        have e := List.find?_some hg
        have hp := List.mem_of_find?_eq_some hg
        have := huj p hp r hr (by simpa using e)
        subst this
        rfl
  refine ⟨⟨hlen, fun j X0 hX => ?_, fun r hr => ?_, hui, huj, hij, fun r hr k Y hY hk s hsx => ?_⟩, h1⟩
  · by_cases c1 : ∃ r ∈ prs, r.i = j
    · obtain ⟨r, hr, rfl⟩ := c1
      obtain ⟨z, a, b, c⟩ := (hs r hr).2
      rw [hX] at a
      injection a with a
      subst a
      obtain ⟨g, hg⟩ := isSc_spec c
      rw [b] at hg
      exact .inl ⟨r, hr, rfl, ⟨z, g, rfl, hg, b⟩, by rw [hat, hX, Option.map_some, hfi r hr]⟩
    · by_cases c2 : ∃ r ∈ prs, r.j = j
      · obtain ⟨r, hr, rfl⟩ := c2
        have a := (hs r hr).1
        rw [hX] at a
        injection a with a
        subst a
        exact .inr (.inl ⟨r, hr, rfl, rfl, by rw [hat, hX, Option.map_some, hfj r hr]⟩)
      · have n1 : ∀ r ∈ prs, r.i ≠ j ∧ r.j ≠ j := fun r hr => ⟨fun e => c1 ⟨r, hr, e⟩, fun e => c2 ⟨r, hr, e⟩⟩
        refine .inr (.inr ⟨fun hk => ?_, ?_, n1⟩)
        · rw [List.all_eq_true] at h2
          have := h2 (X0, j) (by rw [List.mem_zipIdx_iff_getElem?]; exact hX)
          simp only [Bool.or_eq_true, Bool.not_eq_true', List.any_eq_true] at this
          rcases this with this | ⟨p, hp, e⟩
          · unfold isEff at this
            rw [hk] at this
            cases this
          · exact (n1 p hp).2 (by simpa using e)
        · rw [hat, hX, Option.map_some]
          unfold iniI
          have e1 : prs.find? (fun p => p.i == j) = none := List.find?_eq_none.2 fun p hp => by simpa using (n1 p hp).1
          have e2 : prs.find? (fun p => p.j == j) = none := List.find?_eq_none.2 fun p hp => by simpa using (n1 p hp).2
          rw [e1, e2]
  · rw [List.all_eq_true] at h3
    have := h3 r hr
    simp only [Bool.and_eq_true] at this
    obtain ⟨z, a, _⟩ := (hs r hr).2
    exact ⟨Nat.le_of_ble_eq_true this.1, by rw [hat, a, Option.map_some, hfi r hr], by rw [hat, (hs r hr).1, Option.map_some, hfj r hr]⟩
  · rw [List.all_eq_true] at h3
    have := h3 r hr
    simp only [Bool.and_eq_true] at this
    have h6 := this.2
    unfold laterOK at h6
    rw [hsx] at h6
    simp only [List.all_eq_true, Bool.or_eq_true, Bool.not_eq_true'] at h6
    rcases h6 (Y, k) (by rw [List.mem_zipIdx_iff_getElem?]; exact hY) with h7 | h7
    · have : k + 1 ≤ r.j := Nat.le_of_ble_eq_true h7
      omega
    · intro e
      rw [e] at h7
      simp at h7

end Go.Am
