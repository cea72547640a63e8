/- The abstract machine's calls: what the caller's blocks are behind a call. -/
import Derived.Test.YtjldefmcnppdoaaAmCall
namespace Go.Am
open Go

section
variable {ι ι1 : Inj} {σ σ0 σ1 : Heap} {W W1 : World} {rs ns : List Nat} {q : Bool}

theorem rs_lt (hp : pickB q (pos · rs) σ rs = some σ0) {i b : Nat} (h : rs[i]? = some b) : b < σ.length := by
  obtain ⟨_, hget⟩ := pickB_get hp
  obtain ⟨x, _, hx, _⟩ := hget i b h
  rcases Nat.lt_or_ge b σ.length with h | h
  · exact h
  · rw [List.getElem?_eq_none h] at hx; simp at hx

theorem old_same (hp : pickB q (pos · rs) σ rs = some σ0) (hpost : Post (subInj ι rs) σ0 W ι1 σ1 W1) {i : Nat} (hi : i < rs.length) : ι1 i = subInj ι rs i := by
  have hlen := (pickB_get hp).1
  cases h : subInj ι rs i with
  | some p => exact hpost.ext i p h
  | none =>
    cases h1 : ι1 i with
    | none => rfl
    | some p =>
      have := (hpost.fresh i p h1 h).1.1
      omega

theorem back_inj (hp : pickB q (pos · rs) σ rs = some σ0) (hpost : Post (subInj ι rs) σ0 W ι1 σ1 W1) : ∀ b i, backF rs ns σ.length rs.length b = some i → backInj ι ι1 σ.length ns i = ι1 b := by
  intro b i h
  unfold backF at h
  cases hb : Nat.blt b rs.length
  · rw [hb] at h
    simp only [cond_false, Option.map_eq_some_iff] at h
    obtain ⟨j, hj, rfl⟩ := h
    unfold backInj
    rw [if_neg (by omega), show σ.length + j - σ.length = j by omega, pos_get hj]
  · rw [hb] at h
    simp only [cond_true] at h
    rw [Nat.blt_eq] at hb
    unfold backInj
    rw [if_pos (rs_lt hp h), old_same hp hpost hb]
    simp [subInj, h]

/-- Where a placed block of the caller's comes from. -/
theorem back_orig {b : Nat} {p : Place} (h : backInj ι ι1 σ.length ns b = some p) : (b < σ.length ∧ ι b = some p) ∨ (σ.length ≤ b ∧ ∃ i, ns[b - σ.length]? = some i ∧ ι1 i = some p) ∨ (σ.length ≤ b ∧ ns[b - σ.length]? = none ∧ ι b = some p) := by
  unfold backInj at h
  split at h
  · rename_i hlt; exact .inl ⟨hlt, h⟩
  · rename_i hge
    split at h
    · rename_i i hi; exact .inr (.inl ⟨by omega, i, hi, h⟩)
    · rename_i hi; exact .inr (.inr ⟨by omega, hi, h⟩)

/-- A new block of the callee's lies apart from what the call did not reach. -/
theorem new_apart (hR : RelW ι σ W) (hp : pickB q (pos · rs) σ rs = some σ0) (hn : nodup rs = true) (hpost : Post (subInj ι rs) σ0 W ι1 σ1 W1) {i b : Nat} {p p' : Place} (hi : rs.length ≤ i) (h1 : ι1 i = some p) (hb : ι b = some p') (hbrs : ∀ j : Nat, rs[j]? ≠ some b) (hl : liveb σ b) : p.c ≠ p'.c := by
  obtain ⟨_, _, hmut, _⟩ := subInj_rel hR hp hn
  have h0 : subInj ι rs i = none := by simp [subInj, hi]
  rcases (hpost.fresh i p h1 h0).2 with h | ⟨j, p0, hj, hjm, he⟩
  · have := hR.lt b p' hb; omega
  · obtain ⟨_, b0, hb0, hm0⟩ := hmut j hjm
    have hj' : ι b0 = some p0 := by simpa [subInj, hb0] using hj
    rw [← he]
    exact hR.sep b0 b p0 p' hj' hb (fun e => hbrs j (by rw [hb0, e])) hm0 hl

theorem call_eff (hR : RelW ι σ W) (hD : Dom ι σ) (hp : pickB q (pos · rs) σ rs = some σ0) (hn : nodup rs = true) (hpost : Post (subInj ι rs) σ0 W ι1 σ1 W1) (hnn : nodup ns = true) (hns : ∀ (j i : Nat), ns[j]? = some i → rs.length ≤ i)
    {old new : List Blk} (hold : pickB false (backF rs ns σ.length rs.length) σ1 (List.range rs.length) = some old) (hnew : pickB false (backF rs ns σ.length rs.length) σ1 ns = some new) :
    Post ι σ W (backInj ι ι1 σ.length ns) (putB σ rs old ++ new) W1 := by
  obtain ⟨hR0, hD0, hmut0, hlive0⟩ := subInj_rel hR hp hn
  obtain ⟨ol, og⟩ := pickB_get hold
  obtain ⟨nl, ng⟩ := pickB_get hnew
  have hbk := back_inj (ns := ns) hp hpost
  rw [List.length_range] at ol
  have hlen0 := (pickB_get hp).1
  -- the block at a place of the caller's behind the call
  have hat : ∀ (b i : Nat), rs[i]? = some b → ∃ x y, σ1[i]? = some x ∧ Blk.ren false (backF rs ns σ.length rs.length) x = some y ∧ (putB σ rs old ++ new)[b]? = some y := by
    intro b i hi
    have hil : i < rs.length := by
      rcases Nat.lt_or_ge i rs.length with h | h
      · exact h
      · rw [List.getElem?_eq_none h] at hi; simp at hi
    obtain ⟨x, y, h1, h2, h3⟩ := og i i (List.getElem?_range hil)
    refine ⟨x, y, h1, h2, ?_⟩
    rw [List.getElem?_append_left (by rw [putB_len]; exact rs_lt hp hi), putB_at rs old σ hn ol.symm i b hi (rs_lt hp hi)]
    exact h3
  have hother : ∀ b, b < σ.length → (∀ i : Nat, rs[i]? ≠ some b) → (putB σ rs old ++ new)[b]? = σ[b]? := by
    intro b hb hno
    rw [List.getElem?_append_left (by rw [putB_len]; exact hb), putB_other rs old σ b hno]
  have hnewat : ∀ (j i : Nat), ns[j]? = some i → ∃ x y, σ1[i]? = some x ∧ Blk.ren false (backF rs ns σ.length rs.length) x = some y ∧ (putB σ rs old ++ new)[σ.length + j]? = some y := by
    intro j i hj
    obtain ⟨x, y, h1, h2, h3⟩ := ng j i hj
    refine ⟨x, y, h1, h2, ?_⟩
    rw [List.getElem?_append_right (by rw [putB_len]; omega), putB_len, show σ.length + j - σ.length = j by omega]
    exact h3
  have hmutat : ∀ b i : Nat, rs[i]? = some b → mutb (putB σ rs old ++ new) b → mutb σ1 i := by
    rintro b i hi ⟨y', hy', hm⟩
    obtain ⟨x, y, h1, h2, h3⟩ := hat b i hi
    rw [h3] at hy'
    injection hy' with hy'
    subst hy'
    exact ⟨x, h1, (blkRen_mut h2 hm).1⟩
  have hliveat : ∀ b i : Nat, rs[i]? = some b → liveb (putB σ rs old ++ new) b → liveb σ1 i := by
    rintro b i hi ⟨y', hy', hm⟩
    obtain ⟨x, y, h1, h2, h3⟩ := hat b i hi
    rw [h3] at hy'
    injection hy' with hy'
    subst hy'
    exact ⟨x, h1, blkRen_live h2 hm⟩
  have hmutnew : ∀ j i : Nat, ns[j]? = some i → mutb (putB σ rs old ++ new) (σ.length + j) → mutb σ1 i := by
    rintro j i hi ⟨y', hy', hm⟩
    obtain ⟨x, y, h1, h2, h3⟩ := hnewat j i hi
    rw [h3] at hy'
    injection hy' with hy'
    subst hy'
    exact ⟨x, h1, (blkRen_mut h2 hm).1⟩
  have hlivenew : ∀ j i : Nat, ns[j]? = some i → liveb (putB σ rs old ++ new) (σ.length + j) → liveb σ1 i := by
    rintro j i hi ⟨y', hy', hm⟩
    obtain ⟨x, y, h1, h2, h3⟩ := hnewat j i hi
    rw [h3] at hy'
    injection hy' with hy'
    subst hy'
    exact ⟨x, h1, blkRen_live h2 hm⟩
  have hmuto : ∀ b, b < σ.length → (∀ i : Nat, rs[i]? ≠ some b) → mutb (putB σ rs old ++ new) b → mutb σ b := fun b hb hno ⟨y, hy, hm⟩ => ⟨y, by rw [← hother b hb hno]; exact hy, hm⟩
  have hliveo : ∀ b, b < σ.length → (∀ i : Nat, rs[i]? ≠ some b) → liveb (putB σ rs old ++ new) b → liveb σ b := fun b hb hno ⟨y, hy, hm⟩ => ⟨y, by rw [← hother b hb hno]; exact hy, hm⟩
  have hsub : ∀ b i p, rs[i]? = some b → ι b = some p → subInj ι rs i = some p := fun b i p h hb => by simp [subInj, h, hb]
  have hilt : ∀ i b : Nat, rs[i]? = some b → i < rs.length := fun i b hi => by
    rcases Nat.lt_or_ge i rs.length with h | h
    · exact h
    · rw [List.getElem?_eq_none h] at hi; simp at hi
  -- a placed block: of the callee's, or left alone
  have hcase : ∀ b p, backInj ι ι1 σ.length ns b = some p → (∃ i, ι1 i = some p ∧ (rs[i]? = some b ∨ (σ.length ≤ b ∧ ns[b - σ.length]? = some i))) ∨ (b < σ.length ∧ ι b = some p ∧ ∀ i : Nat, rs[i]? ≠ some b) := by
    intro b p h
    rcases back_orig h with ⟨hb, h1⟩ | ⟨hb, i, hi, h1⟩ | ⟨hb, _, h1⟩
    · by_cases hex : ∃ i : Nat, rs[i]? = some b
      · obtain ⟨i, hi⟩ := hex
        exact .inl ⟨i, hpost.ext i p (hsub b i p hi h1), .inl hi⟩
      · exact .inr ⟨hb, h1, fun i hi => hex ⟨i, hi⟩⟩
    · exact .inl ⟨i, h1, .inr ⟨hb, hi⟩⟩
    · exact absurd (hD b p h1) (by omega)
  have hmutc : ∀ b i : Nat, (rs[i]? = some b ∨ (σ.length ≤ b ∧ ns[b - σ.length]? = some i)) → mutb (putB σ rs old ++ new) b → mutb σ1 i := by
    rintro b i (hi | ⟨hb, hi⟩) hm
    · exact hmutat b i hi hm
    · have := hmutnew _ i hi
      rw [show σ.length + (b - σ.length) = b by omega] at this
      exact this hm
  have hlivec : ∀ b i : Nat, (rs[i]? = some b ∨ (σ.length ≤ b ∧ ns[b - σ.length]? = some i)) → liveb (putB σ rs old ++ new) b → liveb σ1 i := by
    rintro b i (hi | ⟨hb, hi⟩) hm
    · exact hliveat b i hi hm
    · have := hlivenew _ i hi
      rw [show σ.length + (b - σ.length) = b by omega] at this
      exact this hm
  -- a callee's block against one left alone
  have hcross : ∀ (b b' i : Nat) (p p' : Place), ι1 i = some p → (rs[i]? = some b ∨ (σ.length ≤ b ∧ ns[b - σ.length]? = some i)) → ι b' = some p' → (∀ j : Nat, rs[j]? ≠ some b') →
      ((mutb σ1 i ∧ liveb σ b') ∨ (liveb σ1 i ∧ mutb σ b')) → p.c ≠ p'.c := by
    intro b b' i p p' h1 hi hb' hno hml
    rcases hi with hi | ⟨hb, hi⟩
    · have h0 : subInj ι rs i = some p := by rw [← old_same hp hpost (hilt i b hi)]; exact h1
      have hbp : ι b = some p := by simpa [subInj, hi] using h0
      have hne : b ≠ b' := fun e => hno i (by rw [hi, e])
      have hi0 : i < σ0.length := by rw [hlen0]; exact hilt i b hi
      rcases hml with ⟨hm, hl⟩ | ⟨hl, hm⟩
      · obtain ⟨_, c, hc, hcm⟩ := hmut0 i (hpost.mono i hi0 hm)
        rw [hi] at hc
        injection hc with hc
        subst hc
        exact hR.sep b b' p p' hbp hb' hne hcm hl
      · obtain ⟨c, hc, hcl⟩ := hlive0 i (hpost.lives i hi0 hl)
        rw [hi] at hc
        injection hc with hc
        subst hc
        exact fun e => hR.sep b' b p' p hb' hbp (Ne.symm hne) hm hcl e.symm
    · exact new_apart hR hp hn hpost (hns _ i hi) h1 hb' hno (hml.elim (·.2) (·.2.live))
  refine ⟨hpost.same, fun b p h => ?_, ⟨fun b p h => ?_, fun b p y h hy => ?_, fun b b' p p' h h' hne h1 h2 => ?_⟩, by simp [putB_len], fun c hc hm => ?_, fun b p h hnone => ?_, fun b hb hm => ?_, fun b hb hm => ?_⟩
  · unfold backInj
    rw [if_pos (hD b p h)]
    exact h
  · rcases hcase b p h with ⟨i, hi, _⟩ | ⟨_, hb, _⟩
    · exact hpost.rel.lt i p hi
    · exact Nat.lt_of_lt_of_le (hR.lt b p hb) hpost.same.size
  · rcases hcase b p h with ⟨i, hi, hio⟩ | ⟨hb, hbp, hno⟩
    · rcases hio with hi' | ⟨hb, hi'⟩
      · obtain ⟨x, y', h1, h2, h3⟩ := hat b i hi'
        rw [h3] at hy
        injection hy with hy
        subst hy
        exact blkRen_R hbk h2 (hpost.rel.blk i p x hi h1)
      · obtain ⟨x, y', h1, h2, h3⟩ := hnewat _ i hi'
        rw [show σ.length + (b - σ.length) = b by omega, hy] at h3
        injection h3 with h3
        subst h3
        exact blkRen_R hbk h2 (hpost.rel.blk i p x hi h1)
    · rw [hother b hb hno] at hy
      cases hyl : y.live with
      | false => cases y <;> simp [Blk.live] at hyl; trivial
      | true =>
        refine (hR.blk b p y hbp hy).keep (fun c r hc => ?_) (hpost.frame _ (hR.lt b p hbp) (fun i p0 hi hm => ?_))
        · unfold backInj; rw [if_pos (hD c r hc)]; exact hc
        · obtain ⟨_, c, hc, hcm⟩ := hmut0 i hm
          have hcp : ι c = some p0 := by simpa [subInj, hc] using hi
          exact hR.sep c b p0 p hcp hbp (fun e => hno i (by rw [hc, e])) hcm ⟨y, hy, hyl⟩
  · rcases hcase b p h with ⟨i, hi, hio⟩ | ⟨hb, hbp, hno⟩ <;> rcases hcase b' p' h' with ⟨j, hj, hjo⟩ | ⟨hb', hbp', hno'⟩
    · refine hpost.rel.sep i j p p' hi hj (fun e => ?_) (hmutc b i hio h1) (hlivec b' j hjo h2)
      subst e
      rcases hio with q1 | ⟨g1, q1⟩ <;> rcases hjo with q2 | ⟨g2, q2⟩
      · rw [q1] at q2; injection q2 with q2; exact hne q2
      · have := hns _ i q2; have := hilt i b q1; omega
      · have := hns _ i q1; have := hilt i b' q2; omega
      · have := nodup_ne hnn q1 q2; omega
    · exact hcross b b' i p p' hi hio hbp' hno' (.inl ⟨hmutc b i hio h1, hliveo b' hb' hno' h2⟩)
    · exact fun e => hcross b' b j p' p hj hjo hbp hno (.inr ⟨hlivec b' j hjo h2, hmuto b hb hno h1⟩) e.symm
    · exact hR.sep b b' p p' hbp hbp' hne (hmuto b hb hno h1) (hliveo b' hb' hno' h2)
  · refine hpost.frame c hc (fun i p hi hm' => ?_)
    obtain ⟨_, b, hb, hbm⟩ := hmut0 i hm'
    exact hm b p (by simpa [subInj, hb] using hi) hbm
  · rcases back_orig h with ⟨hb, h1⟩ | ⟨hb, i, hi, h1⟩ | ⟨hb, _, h1⟩
    · rw [h1] at hnone; simp at hnone
    · have hjl : b - σ.length < ns.length := by
        rcases Nat.lt_or_ge (b - σ.length) ns.length with h | h
        · exact h
        · rw [List.getElem?_eq_none h] at hi; simp at hi
      refine ⟨⟨hb, by simp [putB_len, nl]; omega⟩, ?_⟩
      have hki := hns _ i hi
      have h0 : subInj ι rs i = none := by simp [subInj, hki]
      rcases (hpost.fresh i p h1 h0).2 with h | ⟨j, p0, hj, hjm, he⟩
      · exact .inl h
      · obtain ⟨_, b0, hb0, hm0⟩ := hmut0 j hjm
        exact .inr ⟨b0, p0, by simpa [subInj, hb0] using hj, hm0, he⟩
    · rw [h1] at hnone; simp at hnone
  · by_cases hex : ∃ i : Nat, rs[i]? = some b
    · obtain ⟨i, hi⟩ := hex
      obtain ⟨_, c, hc, hcm⟩ := hmut0 i (hpost.mono i (by rw [hlen0]; exact hilt i b hi) (hmutat b i hi hm))
      rw [hi] at hc
      injection hc with hc
      subst hc
      exact hcm
    · exact hmuto b hb (fun i hi => hex ⟨i, hi⟩) hm
  · by_cases hex : ∃ i : Nat, rs[i]? = some b
    · obtain ⟨i, hi⟩ := hex
      obtain ⟨c, hc, hcm⟩ := hlive0 i (hpost.lives i (by rw [hlen0]; exact hilt i b hi) (hliveat b i hi hm))
      rw [hi] at hc
      injection hc with hc
      subst hc
      exact hcm
    · exact hliveo b hb (fun i hi => hex ⟨i, hi⟩) hm

/-- A call that may write nothing old. -/
theorem call_quiet (hR : RelW ι σ W) (hp : pickB true (pos · rs) σ rs = some σ0) (hn : nodup rs = true) (hpost : Post (subInj ι rs) σ0 W ι1 σ1 W1) (hnn : nodup ns = true) (hns : ∀ (j i : Nat), ns[j]? = some i → rs.length ≤ i)
    {new : List Blk} (hnew : pickB false (backF rs ns σ.length rs.length) σ1 ns = some new) (hnone : ∀ b, σ.length ≤ b → b < (σ ++ new).length → ι b = none) :
    QPost ι σ W (backInj ι ι1 σ.length ns) (σ ++ new) W1 := by
  obtain ⟨hR0, hD0, hmut0, hlive0⟩ := subInj_rel hR hp hn
  obtain ⟨nl, ng⟩ := pickB_get hnew
  have hbk := back_inj (ns := ns) hp hpost
  have hnomut : ∀ i, ¬ mutb σ0 i := fun i hm => by have := (hmut0 i hm).1; simp at this
  have hframe : ∀ c, c < W.heap.size → W1.heap[c]? = W.heap[c]? := fun c hc => hpost.frame c hc (fun i p _ hm => absurd hm (hnomut i))
  have hext : Ext ι (backInj ι ι1 σ.length ns) := by
    intro b p hb
    unfold backInj
    split
    · exact hb
    · split
      · rename_i i hi
        have hjl : b - σ.length < ns.length := by
          rcases Nat.lt_or_ge (b - σ.length) ns.length with h | h
          · exact h
          · rw [List.getElem?_eq_none h] at hi; simp at hi
        have := hnone b (by omega) (by simp [nl]; omega)
        rw [this] at hb
        simp at hb
      · exact hb
  have hnewat : ∀ (j i : Nat), ns[j]? = some i → ∃ x y, σ1[i]? = some x ∧ Blk.ren false (backF rs ns σ.length rs.length) x = some y ∧ (σ ++ new)[σ.length + j]? = some y := by
    intro j i hj
    obtain ⟨x, y, h1, h2, h3⟩ := ng j i hj
    refine ⟨x, y, h1, h2, ?_⟩
    rw [List.getElem?_append_right (by omega), show σ.length + j - σ.length = j by omega]
    exact h3
  have hbig : ∀ i p, ι1 i = some p → rs.length ≤ i → W.heap.size ≤ p.c := by
    intro i p h1 hi
    have h0 : subInj ι rs i = none := by simp [subInj, hi]
    rcases (hpost.fresh i p h1 h0).2 with h | ⟨j, p0, hj, hjm, he⟩
    · exact h
    · exact absurd hjm (hnomut j)
  have hcase : ∀ b p, backInj ι ι1 σ.length ns b = some p → (∃ i, σ.length ≤ b ∧ ns[b - σ.length]? = some i ∧ ι1 i = some p) ∨ (ι b = some p ∧ (b < σ.length ∨ (σ ++ new)[b]? = none)) := by
    intro b p h
    rcases back_orig h with ⟨hb, h1⟩ | ⟨hb, i, hi, h1⟩ | ⟨hb, hi, h1⟩
    · exact .inr ⟨h1, .inl hb⟩
    · exact .inl ⟨i, hb, hi, h1⟩
    · refine .inr ⟨h1, .inr ?_⟩
      rw [List.getElem?_eq_none_iff] at hi ⊢
      simp [nl]
      omega
  have hold : ∀ b y, (σ ++ new)[b]? = some y → b < σ.length → σ[b]? = some y := fun b y hy hb => by rw [List.getElem?_append_left hb] at hy; exact hy
  refine ⟨hpost.same, hext, ⟨fun b p h => ?_, fun b p y h hy => ?_, fun b b' p p' h h' hne h1 h2 => ?_⟩, ⟨new, rfl⟩, hframe, fun b p h hno => ?_⟩
  · rcases hcase b p h with ⟨i, _, _, hi⟩ | ⟨hb, _⟩
    · exact hpost.rel.lt i p hi
    · exact Nat.lt_of_lt_of_le (hR.lt b p hb) hpost.same.size
  · rcases hcase b p h with ⟨i, hb, hi, h1⟩ | ⟨hb, hlt | hnon⟩
    · obtain ⟨x, y', e1, e2, e3⟩ := hnewat _ i hi
      rw [show σ.length + (b - σ.length) = b by omega, hy] at e3
      injection e3 with e3
      subst e3
      exact blkRen_R hbk e2 (hpost.rel.blk i p x h1 e1)
    · exact (hR.blk b p y hb (hold b y hy hlt)).keep hext (hframe _ (hR.lt b p hb))
    · rw [hnon] at hy; simp at hy
  · rcases hcase b p h with ⟨i, hb, hi, g1⟩ | ⟨hb, hlt⟩ <;> rcases hcase b' p' h' with ⟨j, hb', hj, g2⟩ | ⟨hb', hlt'⟩
    · obtain ⟨x, y, e1, e2, e3⟩ := hnewat _ i hi
      obtain ⟨x', y', f1, f2, f3⟩ := hnewat _ j hj
      rw [show σ.length + (b - σ.length) = b by omega] at e3
      rw [show σ.length + (b' - σ.length) = b' by omega] at f3
      obtain ⟨z, hz, hzm⟩ := h1
      obtain ⟨z', hz', hzl⟩ := h2
      rw [e3] at hz; injection hz with hz; subst hz
      rw [f3] at hz'; injection hz' with hz'; subst hz'
      refine hpost.rel.sep i j p p' g1 g2 (fun e => ?_) ⟨x, e1, (blkRen_mut e2 hzm).1⟩ ⟨x', f1, blkRen_live f2 hzl⟩
      subst e
      have := nodup_ne hnn hi hj
      omega
    · have := hbig i p g1 (hns _ i hi)
      have := hR.lt b' p' hb'
      omega
    · have := hbig j p' g2 (hns _ j hj)
      have := hR.lt b p hb
      omega
    · obtain ⟨z, hz, hzm⟩ := h1
      obtain ⟨z', hz', hzl⟩ := h2
      rcases hlt with hlt | hlt
      · rcases hlt' with hlt' | hlt'
        · exact hR.sep b b' p p' hb hb' hne ⟨z, hold b z hz hlt, hzm⟩ ⟨z', hold b' z' hz' hlt', hzl⟩
        · rw [hlt'] at hz'; simp at hz'
      · rw [hlt] at hz; simp at hz
  · rcases hcase b p h with ⟨i, hb, hi, g1⟩ | ⟨hb, _⟩
    · have hjl : b - σ.length < ns.length := by
        rcases Nat.lt_or_ge (b - σ.length) ns.length with h | h
        · exact h
        · rw [List.getElem?_eq_none h] at hi; simp at hi
      exact ⟨⟨hb, by simp [nl]; omega⟩, hbig i p g1 (hns _ i hi)⟩
    · rw [hb] at hno; simp at hno

end

/-- The call as the model makes it. -/
theorem run_callF {P : Program} {c : Call} {fo : Operand} {a : Act} {o : Oper} (ho : o.op = .call c) (hc : c.callee = .value fo) {f : FuncId} {cs : List Value} (hf : a.eval fo = .func (.func f) #[] cs.toArray)
    (hcall : ∃ fn, P.funcs[f]? = some fn ∧ fn.body.isSome = true ∧ fn.name ≠ "runtime.NumGoroutine") (W : World) : (execOp a.eval o).run P W = .ok (.enter f (c.args.toList.map a.eval ++ cs).toArray) W := by
  obtain ⟨fn, h1, h2, h3⟩ := hcall
  have hb : fn.body ≠ none := fun e => by rw [e] at h2; simp at h2
  have he : c.args.map a.eval ++ cs.toArray = (c.args.toList.map a.eval ++ cs).toArray := Array.toList_inj.1 (by simp)
  simp [execOp, ho, resolve, hc, hf, Deferred.ofValue, invoke, callFunc, h1, he]
  rw [if_neg h3, if_neg hb]

/-- A call of the machine's, and the model's. -/
theorem callWith_sound {P : Program} {run : Runner} (hrun : RunOK P run) {q : Bool} {v : V} {args : List V} {σ : Heap} {x : V} {σ' : Heap} (h : callWith run q v args σ = some (x, σ')) {ι : Inj} {W : World} {fv : Value} {as : List Value}
    (hR : RelW ι σ W) (hD : q = false → Dom ι σ) (hnone : q = true → ∀ b, σ.length ≤ b → b < σ'.length → ι b = none) (hv : VR ι v fv) (ha : VRL ι args as) :
    ∃ f cs, fv = .func (.func f) #[] cs.toArray ∧ (∃ fn, P.funcs[f]? = some fn ∧ fn.body.isSome = true ∧ fn.name ≠ "runtime.NumGoroutine") ∧
      Calls P f (as ++ cs).toArray W fun e W' => ∃ ι' v', e = .returned v' ∧ VR ι' x v' ∧ (q = false → Post ι σ W ι' σ' W') ∧ (q = true → QPost ι σ W ι' σ' W') := by
  unfold callWith at h
  split at h
  · rename_i f caps
    simp only [VR] at hv
    obtain ⟨cs, rfl, hcs⟩ := hv
    refine ⟨f, cs, rfl, ?_⟩
    simp only [Option.bind_eq_some_iff] at h
    obtain ⟨⟨rs, as0, σ0⟩, hent, ⟨r, σ1⟩, hrr, h⟩ := h
    unfold enterC at hent
    dsimp only at hent
    generalize hrs : reach σ 64 (V.refsL (args ++ caps)) [] = rs' at hent
    split at hent
    · rename_i as1 σ2 hren hpick
      injection hent with hent
      simp only [Prod.mk.injEq] at hent
      obtain ⟨e1, e2, e3⟩ := hent
      subst e1; subst e2; subst e3
      simp only at hrr h
      unfold leaveC at h
      dsimp only at h
      generalize hns : newIds q rs'.length r σ1 = ns at h
      cases hnd : nodup rs' && nodup ns && Nat.ble rs'.length σ1.length
      · rw [hnd] at h; simp at h
      · rw [hnd] at h
        simp only [cond_true] at h
        simp only [Bool.and_eq_true] at hnd
        have hnsk : ∀ (j i : Nat), ns[j]? = some i → rs'.length ≤ i := by
          intro j i hj
          have := List.mem_of_getElem? hj
          rw [← hns] at this
          have h2 := (List.mem_filter.1 this).2
          rwa [Nat.ble_eq] at h2
        obtain ⟨hcallee, hsim⟩ := hrun f as1 σ2 r σ1 hrr
        refine ⟨hcallee, ?_⟩
        obtain ⟨hR0, hD0, _, _⟩ := subInj_rel hR hpick hnd.1.1
        have hpos : ∀ b i, pos b rs' = some i → subInj ι rs' i = ι b := fun b i h => by simp [subInj, pos_get h]
        refine (hsim (subInj ι rs') W (as ++ cs) hR0 hD0 (renL_R hpos _ _ _ hren (VRL.append ha hcs))).mono ?_
        rintro e W' ⟨ι1, v', rfl, hvr, hpost⟩
        have hbk := back_inj (ns := ns) hpick hpost
        split at h
        · rename_i r' new hr' hnew
          cases q
          · simp only [cond_false] at h
            split at h
            · rename_i old hold
              injection h with h
              injection h with h1 h2
              subst h1; subst h2
              exact ⟨_, v', rfl, ren_R hbk r r' v' hr' hvr, fun _ => call_eff hR (hD rfl) hpick hnd.1.1 hpost hnd.1.2 hnsk hold hnew, fun h => by simp at h⟩
            · simp at h
          · simp only [cond_true] at h
            injection h with h
            injection h with h1 h2
            subst h1; subst h2
            exact ⟨_, v', rfl, ren_R hbk r r' v' hr' hvr, fun h => by simp at h, fun _ => call_quiet hR hpick hnd.1.1 hpost hnd.1.2 hnsk hnew (hnone rfl)⟩
        · simp at h
    · simp at hent
  · simp at h

end Go.Am
