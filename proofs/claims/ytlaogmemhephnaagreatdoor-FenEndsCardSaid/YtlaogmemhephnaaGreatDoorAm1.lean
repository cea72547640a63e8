/- Texts of this seat, joined. -/
import Derived.Orders
import Derived.LoopN
import Derived.Below
import Derived.Test.YtlaogmemhephnaaGreatDoorAm0
namespace Go.Am
open Go
section
variable {ι ι1 : Inj} {σ σ0 σ1 : Heap} {W W1 : World} {rs ns : List Nat} {q : Bool}
theorem rs_lt (hp : pickB q (pos · rs) σ rs = some σ0) {i b : Nat} (h : rs[i]? = some b) : b < σ.length := by
 obtain ⟨_, hget⟩ := pickB_get hp
 obtain ⟨x, _, hx, _⟩ := hget i b h
 rcases Nat.lt_or_ge b σ.length with h | h
 ·exact h
 ·rw [List.getElem?_eq_none h] at hx; simp at hx
theorem old_same [Bas] (hp : pickB q (pos · rs) σ rs = some σ0) (hpost : Post (subInj ι rs) σ0 W ι1 σ1 W1) {i : Nat} (hi : i < rs.length) : ι1 i = subInj ι rs i := by
 have hlen := (pickB_get hp).1
 cases h : subInj ι rs i with
 | some p => exact hpost.ext i p h
 | none =>
  cases h1 : ι1 i with
  | none => rfl
  | some p =>
   have := (hpost.fresh i p h1 h).1.1
   omega
theorem back_inj [Bas] (hp : pickB q (pos · rs) σ rs = some σ0) (hpost : Post (subInj ι rs) σ0 W ι1 σ1 W1) : ∀ b i, backF rs ns σ.length rs.length b = some i → backInj ι ι1 σ.length ns i = ι1 b := by
 intro b i h
 unfold backF at h
 cases hb : Nat.blt b rs.length
 ·rw [hb] at h
  simp only [cond_false, Option.map_eq_some_iff] at h
  obtain ⟨j, hj, rfl⟩ := h
  unfold backInj
  rw [if_neg (by omega), show σ.length + j - σ.length = j by omega, pos_get hj]
 ·rw [hb] at h
  simp only [cond_true] at h
  rw [Nat.blt_eq] at hb
  unfold backInj
  rw [if_pos (rs_lt hp h), old_same hp hpost hb]
  simp [subInj, h]
theorem back_orig {b : Nat} {p : Place} (h : backInj ι ι1 σ.length ns b = some p) : (b < σ.length ∧ ι b = some p) ∨ (σ.length ≤ b ∧ ∃ i, ns[b - σ.length]? = some i ∧ ι1 i = some p) ∨ (σ.length ≤ b ∧ ns[b - σ.length]? = none ∧ ι b = some p) := by
 unfold backInj at h
 split at h
 ·rename_i hlt; exact .inl ⟨hlt, h⟩
 ·rename_i hge
  split at h
  ·rename_i i hi; exact .inr (.inl ⟨by omega, i, hi, h⟩)
  ·rename_i hi; exact .inr (.inr ⟨by omega, hi, h⟩)
theorem new_apart [Bas] (hR : RelW ι σ W) (hp : pickB q (pos · rs) σ rs = some σ0) (hn : nodup rs = true) (hpost : Post (subInj ι rs) σ0 W ι1 σ1 W1) {i b : Nat} {p p' : Place} (hi : rs.length ≤ i) (h1 : ι1 i = some p) (hb : ι b = some p') (hbrs : ∀ j : Nat, rs[j]? ≠ some b) (hl : liveb σ b) : p.c ≠ p'.c := by
 obtain ⟨_, _, hmut, _⟩ := subInj_rel hR hp hn
 have h0 : subInj ι rs i = none := by simp [subInj, hi]
 rcases (hpost.fresh i p h1 h0).2 with h | ⟨j, p0, hj, hjm, he⟩
 ·have := hR.lt b p' hb; omega
 ·obtain ⟨_, b0, hb0, hm0⟩ := hmut j hjm
  have hj' : ι b0 = some p0 := by simpa [subInj, hb0] using hj
  rw [← he]
  exact hR.sep b0 b p0 p' hj' hb (fun e => hbrs j (by rw [hb0, e])) hm0 hl
theorem call_eff [Bas] (hR : RelW ι σ W) (hD : Dom ι σ) (hp : pickB q (pos · rs) σ rs = some σ0) (hn : nodup rs = true) (hpost : Post (subInj ι rs) σ0 W ι1 σ1 W1) (hnn : nodup ns = true) (hns : ∀ (j i : Nat), ns[j]? = some i → rs.length ≤ i)
  {old new : List Blk} (hold : pickB false (backF rs ns σ.length rs.length) σ1 (List.range rs.length) = some old) (hnew : pickB false (backF rs ns σ.length rs.length) σ1 ns = some new) :
  Post ι σ W (backInj ι ι1 σ.length ns) (putB σ rs old ++ new) W1 := by
 obtain ⟨hR0, hD0, hmut0, hlive0⟩ := subInj_rel hR hp hn
 obtain ⟨ol, og⟩ := pickB_get hold
 obtain ⟨nl, ng⟩ := pickB_get hnew
 have hbk := back_inj (ns := ns) hp hpost
 rw [List.length_range] at ol
 have hlen0 := (pickB_get hp).1
 have hat : ∀ (b i : Nat), rs[i]? = some b → ∃ x y, σ1[i]? = some x ∧ Blk.ren false (backF rs ns σ.length rs.length) x = some y ∧ (putB σ rs old ++ new)[b]? = some y := by
  intro b i hi
  have hil : i < rs.length := by
   rcases Nat.lt_or_ge i rs.length with h | h
   ·exact h
   ·rw [List.getElem?_eq_none h] at hi; simp at hi
  obtain ⟨x, y, h1, h2, h3⟩ := og i i (List.getElem?_range hil)
  refine ⟨x, y, h1, h2, ?_⟩
  rw [List.getElem?_append_left (by rw [putB_len]; exact rs_lt hp hi), putB_at rs old σ hn ol.symm i b hi (rs_lt hp hi)]
  exact h3
 have hother : ∀ b, b < σ.length → (∀ i : Nat, rs[i]? ≠ some b) → (putB σ rs old ++ new)[b]? = σ[b]? := by
  intro b hb hno
  rw [List.getElem?_append_left (by rw [putB_len]; exact hb), putB_other rs old σ b hno]
 have hnewat : ∀ (j i : Nat), ns[j]? = some i → ∃ x y, σ1[i]? = some x ∧ Blk.ren false (backF rs ns σ.length rs.length) x = some y ∧ (putB σ rs old ++ new)[σ.length + j]? = some y := by
  intro j i hj
  obtain ⟨x, y, h1, h2, h3⟩ := ng j i hj
  refine ⟨x, y, h1, h2, ?_⟩
  rw [List.getElem?_append_right (by rw [putB_len]; omega), putB_len, show σ.length + j - σ.length = j by omega]
  exact h3
 have hmutat : ∀ b i : Nat, rs[i]? = some b → mutb (putB σ rs old ++ new) b → mutb σ1 i := by
  rintro b i hi ⟨y', hy', hm⟩
  obtain ⟨x, y, h1, h2, h3⟩ := hat b i hi
  rw [h3] at hy'
  injection hy' with hy'
  subst hy'
  exact ⟨x, h1, (blkRen_mut h2 hm).1⟩
 have hliveat : ∀ b i : Nat, rs[i]? = some b → liveb (putB σ rs old ++ new) b → liveb σ1 i := by
  rintro b i hi ⟨y', hy', hm⟩
  obtain ⟨x, y, h1, h2, h3⟩ := hat b i hi
  rw [h3] at hy'
  injection hy' with hy'
  subst hy'
  exact ⟨x, h1, blkRen_live h2 hm⟩
 have hmutnew : ∀ j i : Nat, ns[j]? = some i → mutb (putB σ rs old ++ new) (σ.length + j) → mutb σ1 i := by
  rintro j i hi ⟨y', hy', hm⟩
  obtain ⟨x, y, h1, h2, h3⟩ := hnewat j i hi
  rw [h3] at hy'
  injection hy' with hy'
  subst hy'
  exact ⟨x, h1, (blkRen_mut h2 hm).1⟩
 have hlivenew : ∀ j i : Nat, ns[j]? = some i → liveb (putB σ rs old ++ new) (σ.length + j) → liveb σ1 i := by
  rintro j i hi ⟨y', hy', hm⟩
  obtain ⟨x, y, h1, h2, h3⟩ := hnewat j i hi
  rw [h3] at hy'
  injection hy' with hy'
  subst hy'
  exact ⟨x, h1, blkRen_live h2 hm⟩
 have hmuto : ∀ b, b < σ.length → (∀ i : Nat, rs[i]? ≠ some b) → mutb (putB σ rs old ++ new) b → mutb σ b := fun b hb hno ⟨y, hy, hm⟩ => ⟨y, by rw [← hother b hb hno]; exact hy, hm⟩
 have hliveo : ∀ b, b < σ.length → (∀ i : Nat, rs[i]? ≠ some b) → liveb (putB σ rs old ++ new) b → liveb σ b := fun b hb hno ⟨y, hy, hm⟩ => ⟨y, by rw [← hother b hb hno]; exact hy, hm⟩
 have hsub : ∀ b i p, rs[i]? = some b → ι b = some p → subInj ι rs i = some p := fun b i p h hb => by simp [subInj, h, hb]
 have hilt : ∀ i b : Nat, rs[i]? = some b → i < rs.length := fun i b hi => by
  rcases Nat.lt_or_ge i rs.length with h | h
  ·exact h
  ·rw [List.getElem?_eq_none h] at hi; simp at hi
 have hcase : ∀ b p, backInj ι ι1 σ.length ns b = some p → (∃ i, ι1 i = some p ∧ (rs[i]? = some b ∨ (σ.length ≤ b ∧ ns[b - σ.length]? = some i))) ∨ (b < σ.length ∧ ι b = some p ∧ ∀ i : Nat, rs[i]? ≠ some b) := by
  intro b p h
  rcases back_orig h with ⟨hb, h1⟩ | ⟨hb, i, hi, h1⟩ | ⟨hb, _, h1⟩
  ·by_cases hex : ∃ i : Nat, rs[i]? = some b
   ·obtain ⟨i, hi⟩ := hex
    exact .inl ⟨i, hpost.ext i p (hsub b i p hi h1), .inl hi⟩
   ·exact .inr ⟨hb, h1, fun i hi => hex ⟨i, hi⟩⟩
  ·exact .inl ⟨i, h1, .inr ⟨hb, hi⟩⟩
  ·exact absurd (hD b p h1) (by omega)
 have hmutc : ∀ b i : Nat, (rs[i]? = some b ∨ (σ.length ≤ b ∧ ns[b - σ.length]? = some i)) → mutb (putB σ rs old ++ new) b → mutb σ1 i := by
  rintro b i (hi | ⟨hb, hi⟩) hm
  ·exact hmutat b i hi hm
  ·have := hmutnew _ i hi
   rw [show σ.length + (b - σ.length) = b by omega] at this
   exact this hm
 have hlivec : ∀ b i : Nat, (rs[i]? = some b ∨ (σ.length ≤ b ∧ ns[b - σ.length]? = some i)) → liveb (putB σ rs old ++ new) b → liveb σ1 i := by
  rintro b i (hi | ⟨hb, hi⟩) hm
  ·exact hliveat b i hi hm
  ·have := hlivenew _ i hi
   rw [show σ.length + (b - σ.length) = b by omega] at this
   exact this hm
 have hcross : ∀ (b b' i : Nat) (p p' : Place), ι1 i = some p → (rs[i]? = some b ∨ (σ.length ≤ b ∧ ns[b - σ.length]? = some i)) → ι b' = some p' → (∀ j : Nat, rs[j]? ≠ some b') →
   ((mutb σ1 i ∧ liveb σ b') ∨ (liveb σ1 i ∧ mutb σ b')) → p.c ≠ p'.c := by
  intro b b' i p p' h1 hi hb' hno hml
  rcases hi with hi | ⟨hb, hi⟩
  ·have h0 : subInj ι rs i = some p := by rw [← old_same hp hpost (hilt i b hi)]; exact h1
   have hbp : ι b = some p := by simpa [subInj, hi] using h0
   have hne : b ≠ b' := fun e => hno i (by rw [hi, e])
   have hi0 : i < σ0.length := by rw [hlen0]; exact hilt i b hi
   rcases hml with ⟨hm, hl⟩ | ⟨hl, hm⟩
   ·obtain ⟨_, c, hc, hcm⟩ := hmut0 i (hpost.mono i hi0 hm)
    rw [hi] at hc
    injection hc with hc
    subst hc
    exact hR.sep b b' p p' hbp hb' hne hcm hl
   ·obtain ⟨c, hc, hcl⟩ := hlive0 i (hpost.lives i hi0 hl)
    rw [hi] at hc
    injection hc with hc
    subst hc
    exact fun e => hR.sep b' b p' p hb' hbp (Ne.symm hne) hm hcl e.symm
  ·exact new_apart hR hp hn hpost (hns _ i hi) h1 hb' hno (hml.elim (·.2) (·.2.live))
 refine ⟨hpost.same, fun b p h => ?_, ⟨fun b p h => ?_, fun b p y h hy => ?_, fun b b' p p' h h' hne h1 h2 => ?_, fun b p h hm => ?_, hpost.rel.bsz, hpost.rel.bas⟩, by simp [putB_len], fun c hc hm => ?_, fun b p h hnone => ?_, fun b hb hm => ?_, fun b hb hm => ?_⟩
 ·unfold backInj
  rw [if_pos (hD b p h)]
  exact h
 ·rcases hcase b p h with ⟨i, hi, _⟩ | ⟨_, hb, _⟩
  ·exact hpost.rel.lt i p hi
  ·exact Nat.lt_of_lt_of_le (hR.lt b p hb) hpost.same.size
 ·rcases hcase b p h with ⟨i, hi, hio⟩ | ⟨hb, hbp, hno⟩
  ·rcases hio with hi' | ⟨hb, hi'⟩
   ·obtain ⟨x, y', h1, h2, h3⟩ := hat b i hi'
    rw [h3] at hy
    injection hy with hy
    subst hy
    exact blkRen_R hbk h2 (hpost.rel.blk i p x hi h1)
   ·obtain ⟨x, y', h1, h2, h3⟩ := hnewat _ i hi'
    rw [show σ.length + (b - σ.length) = b by omega, hy] at h3
    injection h3 with h3
    subst h3
    exact blkRen_R hbk h2 (hpost.rel.blk i p x hi h1)
  ·rw [hother b hb hno] at hy
   cases hyl : y.live with
   | false => cases y <;> simp [Blk.live] at hyl; trivial
   | true =>
    refine (hR.blk b p y hbp hy).keep (fun c r hc => ?_) (hpost.frame _ (hR.lt b p hbp) (fun i p0 hi hm => ?_))
    ·unfold backInj; rw [if_pos (hD c r hc)]; exact hc
    ·obtain ⟨_, c, hc, hcm⟩ := hmut0 i hm
     have hcp : ι c = some p0 := by simpa [subInj, hc] using hi
     exact hR.sep c b p0 p hcp hbp (fun e => hno i (by rw [hc, e])) hcm ⟨y, hy, hyl⟩
 ·rcases hcase b p h with ⟨i, hi, hio⟩ | ⟨hb, hbp, hno⟩ <;> rcases hcase b' p' h' with ⟨j, hj, hjo⟩ | ⟨hb', hbp', hno'⟩
  ·refine hpost.rel.sep i j p p' hi hj (fun e => ?_) (hmutc b i hio h1) (hlivec b' j hjo h2)
   subst e
   rcases hio with q1 | ⟨g1, q1⟩ <;> rcases hjo with q2 | ⟨g2, q2⟩
   ·rw [q1] at q2; injection q2 with q2; exact hne q2
   ·have := hns _ i q2; have := hilt i b q1; omega
   ·have := hns _ i q1; have := hilt i b' q2; omega
   ·have := nodup_ne hnn q1 q2; omega
  ·exact hcross b b' i p p' hi hio hbp' hno' (.inl ⟨hmutc b i hio h1, hliveo b' hb' hno' h2⟩)
  ·exact fun e => hcross b' b j p' p hj hjo hbp hno (.inr ⟨hlivec b' j hjo h2, hmuto b hb hno h1⟩) e.symm
  ·exact hR.sep b b' p p' hbp hbp' hne (hmuto b hb hno h1) (hliveo b' hb' hno' h2)
 ·rcases hcase b p h with ⟨i, hi, hio⟩ | ⟨hb, hbp, hno⟩
  ·exact hpost.rel.gap i p hi (hmutc b i hio hm)
  ·exact hR.gap b p hbp (hmuto b hb hno hm)
 ·refine hpost.frame c hc (fun i p hi hm' => ?_)
  obtain ⟨_, b, hb, hbm⟩ := hmut0 i hm'
  exact hm b p (by simpa [subInj, hb] using hi) hbm
 ·rcases back_orig h with ⟨hb, h1⟩ | ⟨hb, i, hi, h1⟩ | ⟨hb, _, h1⟩
  ·rw [h1] at hnone; simp at hnone
  ·have hjl : b - σ.length < ns.length := by
    rcases Nat.lt_or_ge (b - σ.length) ns.length with h | h
    ·exact h
    ·rw [List.getElem?_eq_none h] at hi; simp at hi
   refine ⟨⟨hb, by simp [putB_len, nl]; omega⟩, ?_⟩
   have hki := hns _ i hi
   have h0 : subInj ι rs i = none := by simp [subInj, hki]
   rcases (hpost.fresh i p h1 h0).2 with h | ⟨j, p0, hj, hjm, he⟩
   ·exact .inl h
   ·obtain ⟨_, b0, hb0, hm0⟩ := hmut0 j hjm
    exact .inr ⟨b0, p0, by simpa [subInj, hb0] using hj, hm0, he⟩
  ·rw [h1] at hnone; simp at hnone
 ·by_cases hex : ∃ i : Nat, rs[i]? = some b
  ·obtain ⟨i, hi⟩ := hex
   obtain ⟨_, c, hc, hcm⟩ := hmut0 i (hpost.mono i (by rw [hlen0]; exact hilt i b hi) (hmutat b i hi hm))
   rw [hi] at hc
   injection hc with hc
   subst hc
   exact hcm
  ·exact hmuto b hb (fun i hi => hex ⟨i, hi⟩) hm
 ·by_cases hex : ∃ i : Nat, rs[i]? = some b
  ·obtain ⟨i, hi⟩ := hex
   obtain ⟨c, hc, hcm⟩ := hlive0 i (hpost.lives i (by rw [hlen0]; exact hilt i b hi) (hliveat b i hi hm))
   rw [hi] at hc
   injection hc with hc
   subst hc
   exact hcm
  ·exact hliveo b hb (fun i hi => hex ⟨i, hi⟩) hm
theorem call_quiet [Bas] (hR : RelW ι σ W) (hp : pickB true (pos · rs) σ rs = some σ0) (hn : nodup rs = true) (hpost : Post (subInj ι rs) σ0 W ι1 σ1 W1) (hnn : nodup ns = true) (hns : ∀ (j i : Nat), ns[j]? = some i → rs.length ≤ i)
  {new : List Blk} (hnew : pickB false (backF rs ns σ.length rs.length) σ1 ns = some new) (hnone : ∀ b, σ.length ≤ b → b < (σ ++ new).length → ι b = none) :
  QPost ι σ W (backInj ι ι1 σ.length ns) (σ ++ new) W1 := by
 obtain ⟨hR0, hD0, hmut0, hlive0⟩ := subInj_rel hR hp hn
 obtain ⟨nl, ng⟩ := pickB_get hnew
 have hbk := back_inj (ns := ns) hp hpost
 have hnomut : ∀ i, ¬ mutb σ0 i := fun i hm => by have := (hmut0 i hm).1; simp at this
 have hframe : ∀ c, c < W.heap.size → W1.heap[c]? = W.heap[c]? := fun c hc => hpost.frame c hc (fun i p _ hm => absurd hm (hnomut i))
 have hext : Ext ι (backInj ι ι1 σ.length ns) := by
  intro b p hb
  unfold backInj
  split
  ·exact hb
  ·split
   ·rename_i i hi
    have hjl : b - σ.length < ns.length := by
     rcases Nat.lt_or_ge (b - σ.length) ns.length with h | h
     ·exact h
     ·rw [List.getElem?_eq_none h] at hi; simp at hi
    have := hnone b (by omega) (by simp [nl]; omega)
    rw [this] at hb
    simp at hb
   ·exact hb
 have hnewat : ∀ (j i : Nat), ns[j]? = some i → ∃ x y, σ1[i]? = some x ∧ Blk.ren false (backF rs ns σ.length rs.length) x = some y ∧ (σ ++ new)[σ.length + j]? = some y := by
  intro j i hj
  obtain ⟨x, y, h1, h2, h3⟩ := ng j i hj
  refine ⟨x, y, h1, h2, ?_⟩
  rw [List.getElem?_append_right (by omega), show σ.length + j - σ.length = j by omega]
  exact h3
 have hbig : ∀ i p, ι1 i = some p → rs.length ≤ i → W.heap.size ≤ p.c := by
  intro i p h1 hi
  have h0 : subInj ι rs i = none := by simp [subInj, hi]
  rcases (hpost.fresh i p h1 h0).2 with h | ⟨j, p0, hj, hjm, he⟩
  ·exact h
  ·exact absurd hjm (hnomut j)
 have hcase : ∀ b p, backInj ι ι1 σ.length ns b = some p → (∃ i, σ.length ≤ b ∧ ns[b - σ.length]? = some i ∧ ι1 i = some p) ∨ (ι b = some p ∧ (b < σ.length ∨ (σ ++ new)[b]? = none)) := by
  intro b p h
  rcases back_orig h with ⟨hb, h1⟩ | ⟨hb, i, hi, h1⟩ | ⟨hb, hi, h1⟩
  ·exact .inr ⟨h1, .inl hb⟩
  ·exact .inl ⟨i, hb, hi, h1⟩
  ·refine .inr ⟨h1, .inr ?_⟩
   rw [List.getElem?_eq_none_iff] at hi ⊢
   simp [nl]
   omega
 have hold : ∀ b y, (σ ++ new)[b]? = some y → b < σ.length → σ[b]? = some y := fun b y hy hb => by rw [List.getElem?_append_left hb] at hy; exact hy
 refine ⟨hpost.same, hext, ⟨fun b p h => ?_, fun b p y h hy => ?_, fun b b' p p' h h' hne h1 h2 => ?_, fun b p h hm => ?_, hpost.rel.bsz, hpost.rel.bas⟩, ⟨new, rfl⟩, hframe, fun b p h hno => ?_⟩
 ·rcases hcase b p h with ⟨i, _, _, hi⟩ | ⟨hb, _⟩
  ·exact hpost.rel.lt i p hi
  ·exact Nat.lt_of_lt_of_le (hR.lt b p hb) hpost.same.size
 ·rcases hcase b p h with ⟨i, hb, hi, h1⟩ | ⟨hb, hlt | hnon⟩
  ·obtain ⟨x, y', e1, e2, e3⟩ := hnewat _ i hi
   rw [show σ.length + (b - σ.length) = b by omega, hy] at e3
   injection e3 with e3
   subst e3
   exact blkRen_R hbk e2 (hpost.rel.blk i p x h1 e1)
  ·exact (hR.blk b p y hb (hold b y hy hlt)).keep hext (hframe _ (hR.lt b p hb))
  ·rw [hnon] at hy; simp at hy
 ·rcases hcase b p h with ⟨i, hb, hi, g1⟩ | ⟨hb, hlt⟩ <;> rcases hcase b' p' h' with ⟨j, hb', hj, g2⟩ | ⟨hb', hlt'⟩
  ·obtain ⟨x, y, e1, e2, e3⟩ := hnewat _ i hi
   obtain ⟨x', y', f1, f2, f3⟩ := hnewat _ j hj
   rw [show σ.length + (b - σ.length) = b by omega] at e3
   rw [show σ.length + (b' - σ.length) = b' by omega] at f3
   obtain ⟨z, hz, hzm⟩ := h1
   obtain ⟨z', hz', hzl⟩ := h2
   rw [e3] at hz; injection hz with hz; subst hz
   rw [f3] at hz'; injection hz' with hz'; subst hz'
   refine hpost.rel.sep i j p p' g1 g2 (fun e => ?_) ⟨x, e1, (blkRen_mut e2 hzm).1⟩ ⟨x', f1, blkRen_live f2 hzl⟩
   subst e
   have := nodup_ne hnn hi hj
   omega
  ·have := hbig i p g1 (hns _ i hi)
   have := hR.lt b' p' hb'
   omega
  ·have := hbig j p' g2 (hns _ j hj)
   have := hR.lt b p hb
   omega
  ·obtain ⟨z, hz, hzm⟩ := h1
   obtain ⟨z', hz', hzl⟩ := h2
   rcases hlt with hlt | hlt
   ·rcases hlt' with hlt' | hlt'
    ·exact hR.sep b b' p p' hb hb' hne ⟨z, hold b z hz hlt, hzm⟩ ⟨z', hold b' z' hz' hlt', hzl⟩
    ·rw [hlt'] at hz'; simp at hz'
   ·rw [hlt] at hz; simp at hz
 ·rcases hcase b p h with ⟨i, hb, hi, g1⟩ | ⟨hb, hlt⟩
  ·exact Nat.le_trans hR.bsz (hbig i p g1 (hns _ i hi))
  ·obtain ⟨z, hz, hzm⟩ := hm
   rcases hlt with hlt | hlt
   ·exact hR.gap b p hb ⟨z, hold b z hz hlt, hzm⟩
   ·rw [hlt] at hz; simp at hz
 ·rcases hcase b p h with ⟨i, hb, hi, g1⟩ | ⟨hb, _⟩
  ·have hjl : b - σ.length < ns.length := by
    rcases Nat.lt_or_ge (b - σ.length) ns.length with h | h
    ·exact h
    ·rw [List.getElem?_eq_none h] at hi; simp at hi
   exact ⟨⟨hb, by simp [nl]; omega⟩, hbig i p g1 (hns _ i hi)⟩
  ·rw [hb] at hno; simp at hno
end
theorem run_callF {P : Program} {c : Call} {fo : Operand} {a : Act} {o : Oper} (ho : o.op = .call c) (hc : c.callee = .value fo) {f : FuncId} {first cs : List Value} (hf : a.eval fo = .func (.func f) first.toArray cs.toArray)
  (hcall : ∃ fn, P.funcs[f]? = some fn ∧ fn.body.isSome = true ∧ fn.name ≠ "runtime.NumGoroutine") (W : World) : (execOp a.eval o).run P W = .ok (.enter f (first ++ c.args.toList.map a.eval ++ cs).toArray) W := by
 obtain ⟨fn, h1, h2, h3⟩ := hcall
 have hb : fn.body ≠ none := fun e => by rw [e] at h2; simp at h2
 have he : first.toArray ++ c.args.map a.eval ++ cs.toArray = (first ++ c.args.toList.map a.eval ++ cs).toArray := Array.toList_inj.1 (by simp)
 simp [execOp, ho, resolve, hc, hf, Deferred.ofValue, invoke, callFunc, h1]
 rw [if_neg h3, if_neg hb]
 simp
theorem target_R {v : V} {args : List V} {f : FuncId} {all : List V} (h : target v args = some (f, all)) {ι : Inj} {fv : Value} {as : List Value} (hv : VR ι v fv) (ha : VRL ι args as) :
  ∃ first cs : List Value, fv = .func (.func f) first.toArray cs.toArray ∧ VRL ι all (first ++ as ++ cs) := by
 unfold target at h
 split at h
 ·rename_i g caps
  injection h with h
  injection h with h1 h2
  subst h1; subst h2
  simp only [VR] at hv
  obtain ⟨cs, rfl, hcs⟩ := hv
  exact ⟨[], cs, rfl, VRL.append ha hcs⟩
 ·rename_i g x
  injection h with h
  injection h with h1 h2
  subst h1; subst h2
  simp only [VR] at hv
  obtain ⟨u, rfl, hu⟩ := hv
  exact ⟨[u], [], rfl, by simp only [List.append_nil, List.singleton_append, VRL]; exact ⟨u, as, rfl, hu, ha⟩⟩
 ·simp at h
theorem ran_sound [Bas] {P : Program} {run : Runner} (hrun : RunOK P run) {q : Bool} {f : FuncId} {all : List V} {σ : Heap} {rs : List Nat} {as0 : List V} {σ0 : Heap} {r r0 : V} {σ1 : Heap} {x : V} {σ' : Heap}
  (hent : enterC q all σ = some (rs, as0, σ0)) (hrr : run f as0 σ0 = some (r, σ1)) (h : leaveC q σ rs r0 σ1 = some (x, σ')) {E : Value → Ending} (hr0 : ∀ ι1 e, EndR ι1 r e → ∃ u, e = E u ∧ VR ι1 r0 u)
  {ι : Inj} {W : World} {as : List Value} (hR : RelW ι σ W) (hD : q = false → Dom ι σ) (hnone : q = true → ∀ b, σ.length ≤ b → b < σ'.length → ι b = none) (ha : VRL ι all as) :
  (∃ fn, P.funcs[f]? = some fn ∧ fn.body.isSome = true ∧ fn.name ≠ "runtime.NumGoroutine") ∧
   Calls P f as.toArray W fun e W' => ∃ ι' u, e = E u ∧ VR ι' x u ∧ (q = false → Post ι σ W ι' σ' W') ∧ (q = true → QPost ι σ W ι' σ' W') := by
 unfold enterC at hent
 dsimp only at hent
 generalize hrs : reach σ 64 (V.refsL all) [] = rs' at hent
 split at hent
 ·rename_i as1 σ2 hren hpick
  injection hent with hent
  simp only [Prod.mk.injEq] at hent
  obtain ⟨e1, e2, e3⟩ := hent
  subst e1; subst e2; subst e3
  unfold leaveC at h
  dsimp only at h
  generalize hns : newIds q rs'.length r0 σ1 = ns at h
  cases hnd : nodup rs' && nodup ns && Nat.ble rs'.length σ1.length
  ·rw [hnd] at h; simp at h
  ·rw [hnd] at h
   simp only [cond_true] at h
   simp only [Bool.and_eq_true] at hnd
   have hnsk : ∀ (j i : Nat), ns[j]? = some i → rs'.length ≤ i := by
    intro j i hj
    have := List.mem_of_getElem? hj
    rw [← hns] at this
    have h2 := (List.mem_filter.1 this).2
    rwa [Nat.ble_eq] at h2
   obtain ⟨hcallee, hsim⟩ := hrun f as1 σ2 r σ1 hrr
   refine ⟨hcallee, ?_⟩
   obtain ⟨hR0, hD0, _, _⟩ := subInj_rel hR hpick hnd.1.1
   have hpos : ∀ b i, pos b rs' = some i → subInj ι rs' i = ι b := fun b i h => by simp [subInj, pos_get h]
   refine (hsim (subInj ι rs') W as hR0 hD0 (renL_R hpos _ _ _ hren ha)).mono ?_
   rintro e W' ⟨ι1, hend, hpost⟩
   obtain ⟨v', rfl, hvr⟩ := hr0 ι1 e hend
   have hbk := back_inj (ns := ns) hpick hpost
   split at h
   ·rename_i r' new hr' hnew
    cases q
    ·simp only [cond_false] at h
     split at h
     ·rename_i old hold
      injection h with h
      injection h with h1 h2
      subst h1; subst h2
      exact ⟨_, v', rfl, ren_R hbk r0 r' v' hr' hvr, fun _ => call_eff hR (hD rfl) hpick hnd.1.1 hpost hnd.1.2 hnsk hold hnew, fun h => by simp at h⟩
     ·simp at h
    ·simp only [cond_true] at h
     injection h with h
     injection h with h1 h2
     subst h1; subst h2
     exact ⟨_, v', rfl, ren_R hbk r0 r' v' hr' hvr, fun h => by simp at h, fun _ => call_quiet hR hpick hnd.1.1 hpost hnd.1.2 hnsk hnew (hnone rfl)⟩
   ·simp at h
 ·simp at hent
theorem leave_pan {q : Bool} {σ : Heap} {rs : List Nat} {p : V} {σ1 : Heap} : leaveC q σ rs (.pan p) σ1 = none := by
 unfold leaveC
 dsimp only
 cases (nodup rs && nodup (newIds q rs.length (.pan p) σ1) && Nat.ble rs.length σ1.length) with
 | false => rfl
 | true => simp only [V.ren, cond_true]
theorem callWith_sound [Bas] {P : Program} {run : Runner} (hrun : RunOK P run) {q : Bool} {v : V} {args : List V} {σ : Heap} {x : V} {σ' : Heap} (h : callWith run q v args σ = some (x, σ')) {ι : Inj} {W : World} {fv : Value} {as : List Value}
  (hR : RelW ι σ W) (hD : q = false → Dom ι σ) (hnone : q = true → ∀ b, σ.length ≤ b → b < σ'.length → ι b = none) (hv : VR ι v fv) (ha : VRL ι args as) :
  ∃ (f : FuncId) (first cs : List Value), fv = .func (.func f) first.toArray cs.toArray ∧ (∃ fn, P.funcs[f]? = some fn ∧ fn.body.isSome = true ∧ fn.name ≠ "runtime.NumGoroutine") ∧
   Calls P f (first ++ as ++ cs).toArray W fun e W' => ∃ ι' v', e = .returned v' ∧ VR ι' x v' ∧ (q = false → Post ι σ W ι' σ' W') ∧ (q = true → QPost ι σ W ι' σ' W') := by
 unfold callWith at h
 simp only [Option.bind_eq_some_iff] at h
 obtain ⟨⟨f, all⟩, ht, ⟨rs, as0, σ0⟩, hent, ⟨r, σ1⟩, hrr, h⟩ := h
 obtain ⟨first, cs, rfl, hall⟩ := target_R ht hv ha
 have hnp : ∀ p, r ≠ .pan p := fun p e => by subst e; rw [leave_pan] at h; cases h
 obtain ⟨h1, h2⟩ := ran_sound hrun hent hrr h (E := .returned) (fun ι1 e he => he.ret hnp) hR hD hnone hall
 exact ⟨f, first, cs, rfl, h1, h2⟩
theorem callPan_sound [Bas] {P : Program} {run : Runner} (hrun : RunOK P run) {v : V} {args : List V} {σ : Heap} {x : V} {σ' : Heap} (h : callPan run v args σ = some (x, σ')) {ι : Inj} {W : World} {fv : Value} {as : List Value}
  (hR : RelW ι σ W) (hD : Dom ι σ) (hv : VR ι v fv) (ha : VRL ι args as) :
  ∃ (f : FuncId) (first cs : List Value), fv = .func (.func f) first.toArray cs.toArray ∧ (∃ fn, P.funcs[f]? = some fn ∧ fn.body.isSome = true ∧ fn.name ≠ "runtime.NumGoroutine") ∧
   Calls P f (first ++ as ++ cs).toArray W fun e W' => ∃ ι' u, e = .panicked [{ v := u, recovered := false }] ∧ VR ι' x u ∧ Post ι σ W ι' σ' W' := by
 unfold callPan at h
 simp only [Option.bind_eq_some_iff] at h
 obtain ⟨⟨f, all⟩, ht, ⟨rs, as0, σ0⟩, hent, ⟨r, σ1⟩, hrr, h⟩ := h
 obtain ⟨first, cs, rfl, hall⟩ := target_R ht hv ha
 simp only at h
 split at h
 ·rename_i p
  obtain ⟨h1, h2⟩ := ran_sound hrun hent hrr h (E := fun u => .panicked [{ v := u, recovered := false }]) (fun ι1 e he => he) hR (fun _ => hD) (fun h => by simp at h) hall
  refine ⟨f, first, cs, rfl, h1, h2.mono ?_⟩
  rintro e W' ⟨ι', u, rfl, hu, hp, _⟩
  exact ⟨ι', u, rfl, hu, hp rfl⟩
 ·simp at h
end Go.Am
namespace Go.Am
open Go
theorem compH_cases [Bas] {P : Program} {run : Runner} {q : Bool} {op : Op} {i : HIns} (h : compH P q op = some i) :
  (QuietOK P run op i ∧ i.kd = .quiet) ∨ (EffOK P run op i ∧ i.kd = .eff) ∨
  (∃ c fo f as, op = .call c ∧ c.callee = .value fo ∧ opd fo = some f ∧ opds c.args.toList = some as ∧ i = bif q then .callq f as else .call f as) := by
 cases op with
 | alloc t =>
  simp only [compH, Option.map_eq_some_iff] at h
  obtain ⟨z, hz, rfl⟩ := h
  cases z with
  | vl l => exact .inl ⟨quiet_alloct hz, rfl⟩
  | _ => exact .inl ⟨quiet_alloc hz, rfl⟩
 | range t x =>
  simp only [compH] at h
  split at h
  ·rename_i hu
   simp only [Option.map_eq_some_iff] at h
   obtain ⟨o, ho, rfl⟩ := h
   exact .inl ⟨quiet_rng hu ho, rfl⟩
  ·simp at h
 | next x b =>
  cases b with
  | true =>
   simp only [compH, Option.map_eq_some_iff] at h
   obtain ⟨o, ho, rfl⟩ := h
   exact .inr (.inl ⟨eff_nxt ho, rfl⟩)
  | false => simp [compH] at h
 | panic x =>
  simp only [compH, Option.map_eq_some_iff] at h
  obtain ⟨o, ho, rfl⟩ := h
  exact .inr (.inl ⟨fun _ _ _ _ _ _ _ _ _ _ _ _ hv => by simp [heapV] at hv, rfl⟩)
 | box t x =>
  simp only [compH, Option.map_eq_some_iff] at h
  obtain ⟨z, hz, rfl⟩ := h
  exact .inl ⟨quiet_box hz, rfl⟩
 | buildSlice t len parts =>
  simp only [compH] at h
  split at h
  ·rename_i e hu
   split at h
   ·rename_i n z ps h1 h2 h3
    split at h
    ·rename_i hn
     injection h with h
     subst h
     exact .inl ⟨quiet_mksl hu h1 h2 h3 hn, rfl⟩
    ·simp at h
   ·simp at h
  ·simp at h
 | load t a =>
  simp only [compH] at h
  split at h
  ·rename_i g n h1 h2
   split at h
   ·rename_i hg
    simp only [Option.map_eq_some_iff] at h
    obtain ⟨z, hz, rfl⟩ := h
    exact .inl ⟨quiet_load h1 h2 hg hz, rfl⟩
   ·simp at h
  ·simp at h
 | store t a x =>
  simp only [compH] at h
  split at h
  ·rename_i h1 h2 h3
   injection h with h
   subst h
   exact .inr (.inl ⟨eff_store h1 h2 h3, rfl⟩)
  ·simp at h
 | convert s d x =>
  simp only [compH] at h
  split at h
  ·rename_i e h1 h2
   split at h
   ·rename_i h3
    simp only [Option.map_eq_some_iff] at h
    obtain ⟨z, hz, rfl⟩ := h
    exact .inl ⟨quiet_b2s h1 h2 h3 hz, rfl⟩
   ·simp at h
  ·simp at h
 | makeSlice t l c =>
  simp only [compH] at h
  split at h
  ·rename_i e hu
   split at h
   ·rename_i n b z l' c' h1 h2 h3 h4 h5
    split at h
    ·simp at h
    ·rename_i hn
     injection h with h
     subst h
     exact .inl ⟨quiet_mkslice hu h1 h2 h3 h4 h5 hn, rfl⟩
   ·simp at h
  ·simp at h
 | makeMap t r =>
  cases r with
  | none =>
   simp only [compH, Option.some.injEq] at h
   subst h
   exact .inl ⟨quiet_mkmap, rfl⟩
  | some r => simp [compH] at h
 | insert t m k v =>
  simp only [compH] at h
  split at h
  ·rename_i kt et hu
   split at h
   ·rename_i hk
    split at h
    ·rename_i h1 h2 h3
     injection h with h
     subst h
     exact .inr (.inl ⟨eff_mput (.inl rfl) hu hk h1 h2 h3, rfl⟩)
    ·simp at h
   ·simp at h
  ·simp at h
 | mapUpdate t m k v =>
  simp only [compH] at h
  split at h
  ·rename_i kt et hu
   split at h
   ·rename_i hk
    split at h
    ·rename_i h1 h2 h3
     injection h with h
     subst h
     exact .inr (.inl ⟨eff_mput (.inr rfl) hu hk h1 h2 h3, rfl⟩)
    ·simp at h
   ·simp at h
  ·simp at h
 | lookup t m k ok =>
  simp only [compH] at h
  split at h
  ·rename_i kt et hu
   split at h
   ·rename_i hk
    split at h
    ·rename_i h1 h2 h3
     injection h with h
     subst h
     exact .inl ⟨quiet_mget hu hk h1 h2 h3, rfl⟩
    ·simp at h
   ·simp at h
  ·simp at h
 | call c =>
  simp only [compH] at h
  split at h
  ·rename_i fo hc
   split at h
   ·rename_i f as h1 h2
    injection h with h
    subst h
    exact .inr (.inr ⟨c, fo, f, as, rfl, hc, h1, h2, rfl⟩)
   ·simp at h
  ·rename_i hc
   split at h
   ·rename_i t u s x h1 h2 h3
    split at h
    ·rename_i e e' hu hu'
     split at h
     ·rename_i n b s' x' h4 h5 h6 h7
      split at h
      ·simp at h
      ·rename_i hn
       injection h with h
       subst h
       have hat : c.argTypes = #[t, t] := Classical.byContradiction fun hq => hn (.inr (.inr (.inl hq)))
       have hz : (zeroT P e).map Z.size = some n := Classical.byContradiction fun hq => hn (.inr (.inr (.inr hq)))
       have hb0 : b ≠ 0 := fun hq => hn (.inr (.inl hq))
       cases hzt : zeroT P e with
       | none => rw [hzt] at hz; simp at hz
       | some z =>
        rw [hzt] at hz
        simp at hz
        exact .inr (.inl ⟨eff_append hc hat h3 hu h4 h5 hzt hz hb0 h6 h7, rfl⟩)
     ·simp at h
    ·rename_i e hu hu'
     split at h
     ·rename_i b s' x' h4 h5 h6 h7
      split at h
      ·simp at h
      ·rename_i hn
       injection h with h
       subst h
       have hat : c.argTypes = #[t, u] := Classical.byContradiction fun hq => hn (.inr (.inl hq))
       have hsz : sizeT P e = some 1 := Classical.byContradiction fun hq => hn (.inr (.inr (.inl hq)))
       have hz : (zeroT P e).map Z.size = some 1 := Classical.byContradiction fun hq => hn (.inr (.inr (.inr hq)))
       have hb0 : b ≠ 0 := fun hq => hn (.inl hq)
       cases hzt : zeroT P e with
       | none => rw [hzt] at hz; simp at hz
       | some z =>
        rw [hzt] at hz
        simp at hz
        exact .inr (.inl ⟨eff_appendb hc hat h3 hu hu' h4 hsz h5 hzt hz hb0 h6 h7, rfl⟩)
     ·simp at h
    ·simp at h
   ·simp at h
  ·simp at h
 | _ => simp [compH] at h
theorem ins_eff [Bas] {P : Program} {run : Runner} (hrun : RunOK P run) {o : Oper} {i : Ins} (hc : compIns P false o.op = i) {ι : Inj} {σ : Heap} {W : World} {e : Env} {a : Act} {x : V} {σ' : Heap}
  (hE : EnvR ι e a.tmps) (hR : RelW ι σ W) (hD : Dom ι σ) (hv : insV run i e σ = some (x, σ')) {K : Act → World → Prop} {Q : Exit → Act → World → Prop}
  (hK : ∀ v W' ι', VR ι' x v → Post ι σ W ι' σ' W' → K (a.put o.dst v) W') : o.wp P a W K Q := by
 unfold compIns at hc
 split at hc
 ·rename_i p hp
  subst hc
  simp only [insV, Option.map_eq_some_iff] at hv
  obtain ⟨y, hy, hv⟩ := hv
  injection hv with h1 h2
  subst h1; subst h2
  obtain ⟨v, hr, hx⟩ := compP_sound hp ι e a y o rfl hE hy
  unfold Oper.wp
  rw [hx W]
  exact hK v W ι hr (QPost.refl hR).post
 ·split at hc
  rotate_left
  ·subst hc; simp [insV, heapV] at hv
  rename_i h hh
  subst hc
  simp only [insV] at hv
  rcases compH_cases (run := run) hh with ⟨hq, _⟩ | ⟨hq, _⟩ | ⟨c, fo, f, as, hop, hcal, hf, has, rfl⟩
  ·obtain ⟨v, W', ι', hr, hp, hx⟩ := hq ι σ W e a x σ' o rfl hE hR hv (fun b hb _ => by
    cases hn : ι b with
    | none => rfl
    | some p => have := hD b p hn; omega)
   unfold Oper.wp
   rw [hx]
   exact hK v W' ι' hr hp.post
  ·obtain ⟨r, W', ι', hp, hx, hr⟩ := hq ι σ W e a x σ' o rfl hE hR hD hv
   unfold Oper.wp
   rw [hx]
   rcases hr with ⟨rfl, rfl⟩ | ⟨v, rfl, hr⟩
   ·exact hK Go.undef W' ι' trivial hp
   ·exact hK v W' ι' hr hp
  ·simp only [cond_false, heapV] at hv
   have rf := opd_R hf hE
   have ra := opds_R hE has
   obtain ⟨fid, first, cs, hfv, hcallee, hcalls⟩ := callWith_sound hrun hv hR (fun _ => hD) (fun h => by simp at h) rf ra
   unfold Oper.wp
   rw [run_callF hop hcal hfv hcallee W]
   refine hcalls.mono ?_
   rintro en W' ⟨ι', v', rfl, hr, hp, _⟩
   exact hK v' W' ι' hr (hp rfl)
theorem ins_quiet [Bas] {P : Program} {run : Runner} (hrun : RunOK P run) {o : Oper} {q : Bool} {i : Ins} (hc : compIns P q o.op = i) (hk : i.kd ≠ .eff) {ι : Inj} {σ : Heap} {W : World} {e : Env} {a : Act} {x : V} {σ' : Heap}
  (hE : EnvR ι e a.tmps) (hR : RelW ι σ W) (hv : insV run i e σ = some (x, σ')) (hnone : ∀ b, σ.length ≤ b → b < σ'.length → ι b = none) {K : Act → World → Prop} {Q : Exit → Act → World → Prop}
  (hK : ∀ v W' ι', VR ι' x v → QPost ι σ W ι' σ' W' → K (a.put o.dst v) W') : o.wp P a W K Q := by
 unfold compIns at hc
 split at hc
 ·rename_i p hp
  subst hc
  simp only [insV, Option.map_eq_some_iff] at hv
  obtain ⟨y, hy, hv⟩ := hv
  injection hv with h1 h2
  subst h1; subst h2
  obtain ⟨v, hr, hx⟩ := compP_sound hp ι e a y o rfl hE hy
  unfold Oper.wp
  rw [hx W]
  exact hK v W ι hr (QPost.refl hR)
 ·split at hc
  rotate_left
  ·subst hc; simp [insV, heapV] at hv
  rename_i h hh
  subst hc
  simp only [insV] at hv
  simp only [Ins.kd] at hk
  rcases compH_cases (run := run) hh with ⟨hq, _⟩ | ⟨_, hq⟩ | ⟨c, fo, f, as, hop, hcal, hf, has, rfl⟩
  ·obtain ⟨v, W', ι', hr, hp, hx⟩ := hq ι σ W e a x σ' o rfl hE hR hv hnone
   unfold Oper.wp
   rw [hx]
   exact hK v W' ι' hr hp
  ·exact absurd hq hk
  ·cases q
   ·simp [HIns.kd] at hk
   ·simp only [cond_true, heapV] at hv
    have rf := opd_R hf hE
    have ra := opds_R hE has
    obtain ⟨fid, first, cs, hfv, hcallee, hcalls⟩ := callWith_sound hrun hv hR (fun h => by simp at h) (fun _ => hnone) rf ra
    unfold Oper.wp
    rw [run_callF hop hcal hfv hcallee W]
    refine hcalls.mono ?_
    rintro en W' ⟨ι', v', rfl, hr, _, hp⟩
    exact hK v' W' ι' hr (hp rfl)
theorem EnvR.bool {ι : Inj} {e : Env} {tmps : Array Value} (h : EnvR ι e tmps) {t : Nat} {b : Bool} (ht : e.getD t .undef = .s (.bool b)) : tmps[t]? = some (.bool b) := by
 have := h.get t
 rw [ht] at this
 simp only [VR, S.val] at this
 cases hx : tmps[t]? with
 | none => simp [Go.undef, hx] at this
 | some v => simp [hx] at this; rw [this]
theorem guard_sound {ι : Inj} {e : Env} {a : Act} (hE : EnvR ι e a.tmps) {ops : Array Oper} {o : Oper} {g : Option (Nat × Bool)} (hg : compG ops.toList o.guard = some g) :
  (g = none → Region.wanted o (yielded ops a.tmps) = true) ∧ (∀ t want, g = some (t, want) → ∀ b, e.getD t .undef = .s (.bool b) → Region.wanted o (yielded ops a.tmps) = (b == want)) := by
 unfold compG at hg
 split at hg
 ·rename_i hn
  injection hg with hg
  subst hg
  exact ⟨fun _ => by simp [Region.wanted, hn], fun t want h => by simp at h⟩
 ·rename_i j want hj
  split at hg
  ·rename_i oj hoj
   simp only [Option.map_eq_some_iff] at hg
   obtain ⟨d, hd, rfl⟩ := hg
   refine ⟨fun h => by simp at h, fun t want' h b hb => ?_⟩
   simp only [Option.some.injEq, Prod.mk.injEq] at h
   obtain ⟨rfl, rfl⟩ := h
   have ht := hE.bool hb
   have hoj' : ops[j]? = some oj := by simpa using hoj
   simp only [Region.wanted, hj, yielded, hoj', Option.bind_some, hd, ht]
   rfl
  ·simp at hg
theorem vr_skip (ι : Inj) : VR ι (.tup []) Go.undef := by
 simp only [VR]
 exact ⟨[], rfl, rfl⟩
theorem guard_skip {ι : Inj} {e : Env} {a : Act} (hE : EnvR ι e a.tmps) {ops : Array Oper} {o : Oper} {g : Option (Nat × Bool)} (hg : compG ops.toList o.guard = some g) {t : Nat} {want : Bool} (h : g = some (t, want)) (hb : e.getD t .undef = .tup []) : Region.wanted o (yielded ops a.tmps) = false := by
 unfold compG at hg
 split at hg
 ·injection hg with hg
  subst hg
  cases h
 ·rename_i j want' hj
  split at hg
  ·rename_i oj hoj
   simp only [Option.map_eq_some_iff] at hg
   obtain ⟨d, hd, rfl⟩ := hg
   simp only [Option.some.injEq, Prod.mk.injEq] at h
   obtain ⟨rfl, rfl⟩ := h
   have ht := hE.get d
   rw [hb] at ht
   simp only [VR] at ht
   obtain ⟨cs, hcs, hl⟩ := ht
   simp only [VRL] at hl
   subst hl
   have hoj' : ops[j]? = some oj := by simpa using hoj
   have hy : yielded ops a.tmps j = none := by
    simp only [yielded, hoj', Option.bind_some, hd]
    cases hq : a.tmps[d]? with
    | none => rfl
    | some v =>
     have : v = .tuple #[] := by simpa [hq] using hcs
     subst this
     rfl
   simp only [Region.wanted, hj, hy]
   cases want' <;> rfl
  ·simp at hg
theorem compI_parts {P : Program} {ops : List Oper} {q : Bool} {o : Oper} {i : I} (h : compI P ops q o = some i) : i.dst = o.dst ∧ compG ops o.guard = some i.g ∧ compIns P q o.op = i.ins := by
 unfold compI at h
 split at h
 ·rename_i g h1
  injection h with h
  subst h
  exact ⟨rfl, h1, rfl⟩
 ·simp at h
theorem put_defers (a : Act) (d : Option Tmp) (v : Value) : (a.put d v).defers = a.defers := by cases d <;> rfl
theorem step_eff [Bas] {P : Program} {run : Runner} (hrun : RunOK P run) {ops : Array Oper} {o : Oper} {i : I} (hc : compI P ops.toList false o = some i) {ι : Inj} {σ : Heap} {W : World} {e e' : Env} {a : Act} {σ' : Heap}
  (hE : EnvR ι e a.tmps) (hR : RelW ι σ W) (hD : Dom ι σ) (hv : stepI run i e σ = some (e', σ')) {K : Act → World → Prop} {Q : Exit → Act → World → Prop}
  (hK : ∀ a' W' ι', EnvR ι' e' a'.tmps → Post ι σ W ι' σ' W' → a'.defers = a.defers → K a' W') : (if Region.wanted o (yielded ops a.tmps) then o.wp P a W K Q else K (a.put o.dst Go.undef) W) := by
 obtain ⟨hd, hg, hi⟩ := compI_parts hc
 have hw := guard_sound hE hg
 have main : ∀ x σ1, insV run i.ins e σ = some (x, σ1) → e' = putT e i.dst x → σ' = σ1 → o.wp P a W K Q := by
  intro x σ1 hx he hs
  subst he; subst hs
  refine ins_eff hrun hi hE hR hD hx (fun v W' ι' hr hp => hK _ W' ι' ?_ hp (put_defers _ _ _))
  rw [hd]
  exact EnvR.put (hE.ext hp.ext) o.dst hr
 unfold stepI at hv
 split at hv
 ·rename_i hgn
  rw [if_pos (hw.1 hgn)]
  simp only [Option.map_eq_some_iff] at hv
  obtain ⟨⟨x, σ1⟩, hx, hv⟩ := hv
  injection hv with h1 h2
  exact main x σ1 hx h1.symm h2.symm
 ·rename_i t want hgs
  split at hv
  ·rename_i b hb
   rw [hw.2 t want hgs b hb]
   cases hbw : b == want
   ·rw [hbw] at hv
    simp only [cond_false, Option.some.injEq, Prod.mk.injEq] at hv
    obtain ⟨rfl, rfl⟩ := hv
    simp only [Bool.false_eq_true, if_false]
    refine hK _ W ι ?_ (QPost.refl hR).post (put_defers _ _ _)
    rw [hd]
    exact EnvR.put hE o.dst (vr_skip ι)
   ·rw [hbw] at hv
    simp only [cond_true, Option.map_eq_some_iff] at hv
    obtain ⟨⟨x, σ1⟩, hx, hv⟩ := hv
    injection hv with h1 h2
    simp only [if_true]
    exact main x σ1 hx h1.symm h2.symm
  ·rename_i hb
   rw [guard_skip hE hg hgs hb]
   simp only [Option.some.injEq, Prod.mk.injEq] at hv
   obtain ⟨rfl, rfl⟩ := hv
   simp only [Bool.false_eq_true, if_false]
   refine hK _ W ι ?_ (QPost.refl hR).post (put_defers _ _ _)
   rw [hd]
   exact EnvR.put hE o.dst (vr_skip ι)
  ·simp at hv
theorem compH_call {P : Program} {op : Op} {f : O} {l : List O} (h : compH P false op = some (.call f l)) : ∃ c fo, op = .call c ∧ c.callee = .value fo ∧ opd fo = some f ∧ opds c.args.toList = some l := by
 cases op with
 | call c =>
  simp only [compH] at h
  split at h
  ·rename_i fo hc
   split at h
   ·rename_i f' l' h1 h2
    simp only [cond_false, Option.some.injEq, HIns.call.injEq] at h
    obtain ⟨rfl, rfl⟩ := h
    exact ⟨c, fo, rfl, hc, h1, h2⟩
   ·simp at h
  ·repeat (first | split at h | simp at h)
  ·simp at h
 | makeMap t r => cases r <;> simp [compH] at h
 | next x b => cases b <;> simp [compH] at h
 | alloc t =>
  simp only [compH, Option.map_eq_some_iff] at h
  obtain ⟨z, _, h⟩ := h
  cases z <;> simp at h
 | _ =>
  simp only [compH] at h
  repeat (first | split at h | simp at h)
theorem compH_pnc {P : Program} {op : Op} {x' : O} (h : compH P false op = some (.pnc x')) : ∃ x, op = .panic x ∧ opd x = some x' := by
 cases op with
 | panic x =>
  simp only [compH, Option.map_eq_some_iff, HIns.pnc.injEq] at h
  obtain ⟨y, hy, rfl⟩ := h
  exact ⟨x, rfl, hy⟩
 | call c =>
  simp only [compH] at h
  split at h
  ·split at h
   ·simp at h
   ·simp at h
  ·repeat (first | split at h | simp at h)
  ·simp at h
 | makeMap t r => cases r <;> simp [compH] at h
 | next x b => cases b <;> simp [compH] at h
 | alloc t =>
  simp only [compH, Option.map_eq_some_iff] at h
  obtain ⟨z, _, h⟩ := h
  cases z <;> simp at h
 | _ =>
  simp only [compH] at h
  repeat (first | split at h | simp at h)
def chain1 (u : Value) : List PanicEntry := [{ v := u, recovered := false }]
theorem step_pan [Bas] {P : Program} {run : Runner} (hrun : RunOK P run) {ops : Array Oper} {o : Oper} {i : I} (hc : compI P ops.toList false o = some i) {ι : Inj} {σ : Heap} {W : World} {e : Env} {a : Act} {x : V} {σ' : Heap}
  (hE : EnvR ι e a.tmps) (hR : RelW ι σ W) (hD : Dom ι σ) (hv : panI run i e σ = some (x, σ')) {K : Act → World → Prop} {Q : Exit → Act → World → Prop}
  (hQ : ∀ W' ι' u, VR ι' x u → Post ι σ W ι' σ' W' → Q (.panic (chain1 u)) a W') : (if Region.wanted o (yielded ops a.tmps) then o.wp P a W K Q else K (a.put o.dst Go.undef) W) := by
 obtain ⟨hd, hg, hi⟩ := compI_parts hc
 have hw := guard_sound hE hg
 have hwant : Region.wanted o (yielded ops a.tmps) = true ∧ (match i.ins with
  | .h (.call f args) => callPan run (f.ev e) (args.map (·.ev e)) σ
  | .h (.pnc x) => match x.ev e with
   | .iface t y => some (.iface t y, σ)
   | _ => none
  | _ => none) = some (x, σ') := by
  unfold panI guardOK at hv
  cases hgi : i.g with
  | none =>
   rw [hgi] at hv
   exact ⟨hw.1 hgi, hv⟩
  | some p =>
   obtain ⟨t, want⟩ := p
   rw [hgi] at hv
   simp only at hv
   split at hv
   ·rename_i b hb
    cases hbw : b == want with
    | false => rw [hbw] at hv; simp at hv
    | true =>
     rw [hbw] at hv
     exact ⟨by rw [hw.2 t want hgi b hb, hbw], hv⟩
   ·simp at hv
 rw [if_pos hwant.1]
 have hv := hwant.2
 split at hv
 ·rename_i f args hins
  have hcomp : compH P false o.op = some (.call f args) := by
   rw [hins] at hi
   unfold compIns at hi
   split at hi
   ·cases hi
   ·split at hi
    ·rename_i j hj
     injection hi with hi
     rw [hj, hi]
    ·injection hi with hi; cases hi
  obtain ⟨c, fo, hop, hcal, hf, has⟩ := compH_call hcomp
  have rf := opd_R hf hE
  have ra := opds_R hE has
  obtain ⟨fid, first, cs, hfv, hcallee, hcalls⟩ := callPan_sound hrun hv hR hD rf ra
  unfold Oper.wp
  rw [run_callF hop hcal hfv hcallee W]
  refine hcalls.mono ?_
  rintro en W' ⟨ι', u, rfl, hr, hp⟩
  exact hQ W' ι' u hr hp
 ·rename_i y hins
  have hcomp : compH P false o.op = some (.pnc y) := by
   rw [hins] at hi
   unfold compIns at hi
   split at hi
   ·cases hi
   ·split at hi
    ·rename_i j hj
     injection hi with hi
     rw [hj, hi]
    ·injection hi with hi; cases hi
  obtain ⟨xo, hop, hx⟩ := compH_pnc hcomp
  have rx := opd_R hx hE
  split at hv
  ·rename_i t z hz
   injection hv with hv
   injection hv with h1 h2
   subst h1; subst h2
   rw [hz] at rx
   have rx' := rx
   simp only [VR] at rx
   obtain ⟨u, hu, _⟩ := rx
   unfold Oper.wp
   have : (execOp a.eval o).run P W = .halt (.panic (.iface t u)) W := by
    simp [execOp, hop, hu, Instr.panic, goPanic, Sem.run]
   rw [this, Oper.upon_panic]
   exact hQ W ι (.iface t u) (by rw [← hu]; exact rx') (QPost.refl hR).post
  ·simp at hv
 ·simp at hv
def ExR (ι : Inj) (x : Ex) (y : Exit) : Prop :=
 match x with
 | .normal => y = .normal
 | .exit id => y = .exit id
 | .ret => y = .ret
 | .panic v => ∃ u, y = .panic (chain1 u) ∧ VR ι v u
theorem seqX_sound [Bas] {P : Program} {run : Runner} (hrun : RunOK P run) {ops : Array Oper} {Q : Exit → Act → World → Prop} : ∀ {l : List Oper} {is : List I} {ι : Inj} {σ : Heap} {W : World} {e e' : Env} {a : Act} {σ' : Heap} {ex : Ex},
  compL P ops.toList l = some is → EnvR ι e a.tmps → RelW ι σ W → Dom ι σ → opsX run is e σ = some (ex, e', σ') →
  (∀ a' W' ι' y, ExR ι' ex y → EnvR ι' e' a'.tmps → Post ι σ W ι' σ' W' → a'.defers = a.defers → Q y a' W') → wpList P ops Q l a W
 | [], is, ι, σ, W, e, e', a, σ', ex, hc, hE, hR, hD, hv, hQ => by
  simp [compL] at hc
  subst hc
  simp only [opsX, Option.some.injEq, Prod.mk.injEq] at hv
  obtain ⟨rfl, rfl, rfl⟩ := hv
  exact hQ a W ι .normal rfl hE (QPost.refl hR).post rfl
 | o :: l, is, ι, σ, W, e, e', a, σ', ex, hc, hE, hR, hD, hv, hQ => by
  unfold compL at hc
  split at hc
  ·rename_i i r h1 h2
   injection hc with hc
   subst hc
   simp only [opsX] at hv
   refine wpList_step (fun K hK => ?_)
   split at hv
   ·rename_i r hs
    obtain ⟨e1, σ1⟩ := r
    refine step_eff hrun h1 hE hR hD hs (fun a1 W1 ι1 hE1 hp1 hd1 => hK a1 W1 ?_)
    exact seqX_sound hrun h2 hE1 hp1.rel (hp1.dom hD) hv (fun a2 W2 ι2 y hy hE2 hp2 hd2 => hQ a2 W2 ι2 y hy hE2 (hp1.trans hD hp2) (hd2.trans hd1))
   ·simp only [Option.map_eq_some_iff] at hv
    obtain ⟨⟨x, σ1⟩, hp, hv⟩ := hv
    simp only [Prod.mk.injEq] at hv
    obtain ⟨rfl, rfl, rfl⟩ := hv
    exact step_pan hrun h1 hE hR hD hp (fun W' ι' u hu hp => hQ a W' ι' _ ⟨u, rfl, hu⟩ (hE.ext hp.ext) hp rfl)
  ·simp at hc
end Go.Am
namespace Go.Am
open Go
def Agree (ts : List Nat) (e f : Env) : Prop := ∀ t, t ∈ ts → e.getD t .undef = f.getD t .undef
theorem Agree.left {a b : List Nat} {e f : Env} (h : Agree (a ++ b) e f) : Agree a e f := fun t ht => h t (List.mem_append.2 (.inl ht))
theorem Agree.right {a b : List Nat} {e f : Env} (h : Agree (a ++ b) e f) : Agree b e f := fun t ht => h t (List.mem_append.2 (.inr ht))
theorem ev_agree {x : O} {e f : Env} (h : Agree (oT x) e f) : x.ev e = x.ev f := by
 cases x with
 | t n => exact h n (by simp [oT])
 | k v => rfl
theorem evs_agree : ∀ {l : List O} {e f : Env}, Agree (oTs l) e f → l.map (·.ev e) = l.map (·.ev f)
 | [], _, _, _ => rfl
 | x :: l, e, f, h => by
  simp only [oTs, List.flatMap_cons] at h
  rw [List.map_cons, List.map_cons, ev_agree h.left, evs_agree h.right]
theorem bound_agree {x : Option O} {e f : Env} (h : Agree (oTo x) e f) (d : Nat) : bound e x d = bound f x d := by
 cases x with
 | none => rfl
 | some x => simp only [bound, ev_agree (x := x) h]
theorem fillS_agree : ∀ {ps : List (Nat × Nat × O)} {e f : Env} (g : Nat → S), Agree (ps.flatMap fun p => oT p.2.2) e f → fillS e ps g = fillS f ps g
 | [], _, _, _, _ => rfl
 | (a, b, x) :: ps, e, f, g, h => by
  simp only [List.flatMap_cons] at h
  simp only [fillS, ev_agree h.left]
  split
  ·exact fillS_agree _ h.right
  ·rfl
theorem fillV_agree : ∀ {ps : List (Nat × Nat × O)} {e f : Env} (l : List V), Agree (ps.flatMap fun p => oT p.2.2) e f → fillV e ps l = fillV f ps l
 | [], _, _, _, _ => rfl
 | (a, b, x) :: ps, e, f, l, h => by
  simp only [List.flatMap_cons] at h
  simp only [fillV, ev_agree h.left]
  split
  ·split
   ·exact fillV_agree _ h.right
   ·rfl
  ·rfl
theorem pureV_agree {i : PIns} {e f : Env} (h : Agree i.reads e f) : pureV i e = pureV i f := by
 cases i with
 | mv x => simp only [pureV, ev_agree h]
 | pick c a b =>
  have h1 := h.left.left
  have h2 := h.left.right
  have h3 := h.right
  simp only [pureV, ev_agree h1, ev_agree h2, ev_agree h3]
 | build z ps =>
  have e1 : fillS e ps = fillS f ps := funext fun g => fillS_agree g h
  simp only [pureV, ebuild, e1, fillV_agree _ h]
 | nilck x => simp only [pureV, ev_agree h]
 | bin op x y => simp only [pureV, ev_agree h.left, ev_agree h.right]
 | eqb n x y => simp only [pureV, ev_agree h.left, ev_agree h.right]
 | eqa n k x y => simp only [pureV, ev_agree h.left, ev_agree h.right]
 | eqn n x y => simp only [pureV, ev_agree h.left, ev_agree h.right]
 | un op x => simp only [pureV, ev_agree h]
 | conv k x => simp only [pureV, ev_agree h]
 | mkfn g l => simp only [pureV, evs_agree h]
 | mkb g x => simp only [pureV, ev_agree h]
 | mkif t x => simp only [pureV, ev_agree h]
 | capN x => simp only [pureV, ev_agree h]
 | fa o z x => simp only [pureV, ev_agree h]
 | fld a o n x => simp only [pureV, ev_agree h]
 | ixa l z x y => simp only [pureV, ev_agree h.left, ev_agree h.right]
 | ixs z x y => simp only [pureV, ev_agree h.left, ev_agree h.right]
 | ix l z a x y => simp only [pureV, ev_agree h.left, ev_agree h.right]
 | ixstr x y => simp only [pureV, ev_agree h.left, ev_agree h.right]
 | slS x lo hi => simp only [pureV, ev_agree h.left.left, bound_agree h.left.right, bound_agree h.right]
 | slV z x lo hi => simp only [pureV, ev_agree h.left.left, bound_agree h.left.right, bound_agree h.right]
 | slA n z x lo hi => simp only [pureV, ev_agree h.left.left, bound_agree h.left.right, bound_agree h.right]
 | ext x k => simp only [pureV, ev_agree h]
 | len x => simp only [pureV, ev_agree h]
 | lenS x => simp only [pureV, ev_agree h]
 | lenK n => rfl
 | mn l => simp only [pureV, evs_agree h]
 | mx l => simp only [pureV, evs_agree h]
theorem fillRow_agree {ps : List (Nat × Nat × O)} {e f : Env} (b : Blk) (h : Agree (ps.flatMap fun p => oT p.2.2) e f) : fillRow e b ps = fillRow f b ps := by
 cases b with
 | sc m n g => simp only [fillRow, fillS_agree g h]
 | vs m l => simp only [fillRow, fillV_agree l h]
 | mp m l => rfl
 | dead => rfl
 | sit s k => rfl
theorem heapV_agree {run : Runner} {i : HIns} {e f : Env} (h : Agree i.reads e f) (σ : Heap) : heapV run i e σ = heapV run i f σ := by
 cases i with
 | alloc z => rfl
 | box x => simp only [heapV, ev_agree h]
 | mksl l z zz ps =>
  have h' : Agree ((ps.map fun p => (p.1 * z, z, p.2)).flatMap fun p => oT p.2.2) e f := by
   intro t ht
   refine h t ?_
   rw [List.flatMap_map] at ht
   exact ht
  simp only [heapV, fillRow_agree _ h']
 | load a n x => simp only [heapV, ev_agree h]
 | store n a x => simp only [heapV, ev_agree h.left, ev_agree h.right]
 | call g l => simp only [heapV, ev_agree h.left, evs_agree h.right]
 | callq g l => simp only [heapV, ev_agree h.left, evs_agree h.right]
 | append z b s x => simp only [heapV, ev_agree h.left, ev_agree h.right]
 | mkslice z b zz l c => simp only [heapV, ev_agree h.left, ev_agree h.right]
 | b2s x => simp only [heapV, ev_agree h]
 | mkmap => rfl
 | mput m k v => simp only [heapV, ev_agree h.left.left, ev_agree h.left.right, ev_agree h.right]
 | mget z ok m k => simp only [heapV, ev_agree h.left, ev_agree h.right]
 | allocd n => rfl
 | init0 n a x => simp only [heapV, ev_agree h.left, ev_agree h.right]
 | revive n a x => simp only [heapV, ev_agree h.left, ev_agree h.right]
 | alloct t l => rfl
 | appendb el b s x => simp only [heapV, ev_agree h.left, ev_agree h.right]
 | rng x => simp only [heapV, ev_agree h]
 | nxt x => simp only [heapV, ev_agree h]
 | pnc x => rfl
 | bad => rfl
theorem insV_agree {run : Runner} {i : Ins} {e f : Env} (σ : Heap) (h : Agree (match i with | .p p => p.reads | .h h => h.reads) e f) : insV run i e σ = insV run i f σ := by
 cases i with
 | p i => simp only [insV, pureV_agree h]
 | h i => exact heapV_agree h σ
def stepV (run : Runner) (o : I) (e : Env) (σ : Heap) : Option (V × Heap) :=
 match o.g with
 | none => insV run o.ins e σ
 | some (t, want) => match e.getD t .undef with
  | .s (.bool b) => bif b == want then insV run o.ins e σ else some (.tup [], σ)
  | .tup [] => some (.tup [], σ)
  | _ => none
theorem stepI_stepV (run : Runner) (o : I) (e : Env) (σ : Heap) : stepI run o e σ = (stepV run o e σ).map fun r => (putT e o.dst r.1, r.2) := by
 obtain ⟨dst, g, ins⟩ := o
 cases g with
 | none => rfl
 | some p =>
  obtain ⟨t, want⟩ := p
  simp only [stepI, stepV]
  generalize e.getD t .undef = v
  cases v with
  | s x =>
   cases x with
   | bool b =>
    simp only
    cases b == want <;> rfl
   | _ => rfl
  | tup l => cases l <;> rfl
  | _ => rfl
theorem stepV_agree {run : Runner} {i : I} {e f : Env} (σ : Heap) (h : Agree i.reads e f) : stepV run i e σ = stepV run i f σ := by
 obtain ⟨dst, g, ins⟩ := i
 unfold I.reads at h
 have h2 := insV_agree (run := run) (i := ins) σ h.right
 cases g with
 | none => exact h2
 | some p =>
  obtain ⟨t, want⟩ := p
  have h1 := h.left t (by simp)
  simp only [stepV, h1, h2]
theorem quiet_ext {run : Runner} {i : Ins} (hk : i.kd ≠ .eff) {e : Env} {σ : Heap} {x : V} {σ' : Heap} (h : insV run i e σ = some (x, σ')) : ∃ new, σ' = σ ++ new := by
 cases i with
 | p i =>
  simp only [insV, Option.map_eq_some_iff] at h
  obtain ⟨y, _, h⟩ := h
  injection h with h1 h2
  exact ⟨[], by simp [h2]⟩
 | h i =>
  simp only [insV] at h
  cases i with
  | alloc z => simp only [heapV, Option.some.injEq, Prod.mk.injEq] at h; exact ⟨_, h.2.symm⟩
  | box y =>
   simp only [heapV] at h
   split at h
   ·injection h with h; injection h with h1 h2; exact ⟨_, h2.symm⟩
   ·injection h with h; injection h with h1 h2; exact ⟨_, h2.symm⟩
   ·simp at h
  | mksl l z zz ps =>
   simp only [heapV, Option.map_eq_some_iff] at h
   obtain ⟨b, _, h⟩ := h
   injection h with h1 h2
   exact ⟨_, h2.symm⟩
  | load a n y =>
   simp only [heapV] at h
   split at h
   ·split at h
    ·simp only [Option.map_eq_some_iff] at h
     obtain ⟨b, _, h⟩ := h
     injection h with h1 h2
     exact ⟨[], by simp [h2]⟩
    ·simp at h
   ·simp at h
  | store n a y => exact absurd rfl hk
  | call g l => exact absurd rfl hk
  | callq g l =>
   simp only [heapV, callWith, Option.bind_eq_some_iff] at h
   obtain ⟨w, _, y, _, z, _, h⟩ := h
   unfold leaveC at h
   dsimp only at h
   revert h
   generalize (nodup _ && nodup _ && Nat.ble _ _) = c
   intro h
   cases c
   ·simp at h
   ·simp only [cond_true] at h
    split at h
    ·injection h with h; injection h with h1 h2; exact ⟨_, h2.symm⟩
    ·simp at h
  | append z b s y => exact absurd rfl hk
  | mkslice z b zz l c =>
   simp only [heapV] at h
   split at h
   ·split at h
    ·revert h
     generalize roomy _ _ = c
     intro h
     cases c
     ·simp at h
     ·simp only [cond_true] at h
      injection h with h; injection h with h1 h2; exact ⟨_, h2.symm⟩
    ·simp at h
   ·simp at h
  | b2s y =>
   simp only [heapV] at h
   split at h
   ·split at h
    ·split at h
     ·revert h
      generalize allB _ _ = c
      intro h
      cases c
      ·simp at h
      ·simp only [cond_true] at h
       injection h with h; injection h with h1 h2; exact ⟨[], by simp [h2]⟩
     ·simp at h
    ·simp at h
   ·injection h with h; injection h with h1 h2; exact ⟨[], by simp [h2]⟩
   ·simp at h
  | mkmap => simp only [heapV, Option.some.injEq, Prod.mk.injEq] at h; exact ⟨_, h.2.symm⟩
  | mput m k v => exact absurd rfl hk
  | mget z ok m k =>
   simp only [heapV] at h
   split at h
   ·split at h
    ·revert h
     generalize List.all _ _ = c
     intro h
     cases c
     ·simp at h
     ·simp only [cond_true] at h
      split at h
      ·injection h with h; injection h with h1 h2; exact ⟨[], by simp [h2]⟩
      ·injection h with h; injection h with h1 h2; exact ⟨[], by simp [h2]⟩
    ·simp at h
   ·simp at h
  | allocd n => simp only [heapV, Option.some.injEq, Prod.mk.injEq] at h; exact ⟨_, h.2.symm⟩
  | init0 n a x => exact absurd rfl hk
  | revive n a x => exact absurd rfl hk
  | alloct t l => simp only [heapV, Option.some.injEq, Prod.mk.injEq] at h; exact ⟨_, h.2.symm⟩
  | appendb el b s x => exact absurd rfl hk
  | rng x =>
   simp only [heapV] at h
   split at h
   ·injection h with h; injection h with h1 h2; exact ⟨_, h2.symm⟩
   ·simp at h
  | nxt x => exact absurd rfl hk
  | pnc x => exact absurd rfl hk
  | bad => exact absurd rfl hk
theorem wrV_len {σ σ' : Heap} {b o n : Nat} {x : V} (h : wrV σ b o n x = some σ') : σ'.length = σ.length := by
 unfold wrV at h
 split at h
 ·split at h
  ·simp only [Option.map_eq_some_iff] at h
   obtain ⟨g, _, rfl⟩ := h
   simp
  ·simp at h
 ·split at h
  ·simp only [Option.bind_eq_some_iff] at h
   obtain ⟨g, _, h⟩ := h
   split at h
   ·injection h with h; subst h; simp
   ·simp at h
  ·simp at h
 ·simp at h
theorem eff_len {run : Runner} {i : Ins} {e : Env} {σ : Heap} {x : V} {σ' : Heap} (h : insV run i e σ = some (x, σ')) : σ.length ≤ σ'.length := by
 by_cases hk : i.kd = .eff
 ·cases i with
  | p i => simp [Ins.kd] at hk
  | h i =>
   simp only [insV] at h
   cases i <;> simp [Ins.kd, HIns.kd] at hk
   ·rename_i n a y
    simp only [heapV] at h
    split at h
    ·split at h
     ·simp only [Option.map_eq_some_iff] at h
      obtain ⟨s, hs, h⟩ := h
      injection h with h1 h2
      subst h2
      rw [wrV_len hs]
      exact Nat.le_refl _
     ·simp at h
    ·simp at h
   ·simp only [heapV, callWith, Option.bind_eq_some_iff] at h
    obtain ⟨w, _, y, _, z, _, h⟩ := h
    unfold leaveC at h
    dsimp only at h
    revert h
    generalize (nodup _ && nodup _ && Nat.ble _ _) = c
    intro h
    cases c
    ·simp at h
    ·simp only [cond_true] at h
     split at h
     ·simp only [cond_false] at h
      split at h
      ·injection h with h; injection h with h1 h2; subst h2; simp [putB_len]
      ·simp at h
     ·simp at h
   ·simp only [heapV, appendV] at h
    split at h
    ·simp at h
    ·split at h
     ·split at h
      ·injection h with h; injection h with h1 h2; subst h2; exact Nat.le_refl _
      ·revert h
       generalize roomy _ _ = c
       intro h
       cases c
       ·simp at h
       ·simp only [cond_true, Option.map_eq_some_iff] at h
        obtain ⟨b, _, h⟩ := h
        injection h with h1 h2
        subst h2
        simp
     ·split at h
      ·split at h
       ·split at h
        ·simp only [Option.map_eq_some_iff] at h
         obtain ⟨b, hb, h⟩ := h
         injection h with h1 h2
         subst h2
         rw [wrV_len hb]
         exact Nat.le_refl _
        ·simp only [Option.map_eq_some_iff] at h
         obtain ⟨b, hb, h⟩ := h
         injection h with h1 h2
         subst h2
         rw [wrV_len hb]
         exact Nat.le_refl _
       ·revert h
        generalize roomy _ _ = c
        intro h
        cases c
        ·simp at h
        ·simp only [cond_true] at h
         split at h
         ·simp only [Option.map_eq_some_iff] at h
          obtain ⟨b, _, h⟩ := h
          injection h with h1 h2
          subst h2
          simp
         ·simp at h
      ·simp at h
     ·split at h
      ·revert h
       generalize roomy _ _ = c
       intro h
       cases c
       ·simp at h
       ·simp only [cond_true] at h
        split at h
        ·simp only [Option.map_eq_some_iff] at h
         obtain ⟨b, _, h⟩ := h
         injection h with h1 h2
         subst h2
         simp [kill]
        ·simp only [Option.map_eq_some_iff] at h
         obtain ⟨b, _, h⟩ := h
         injection h with h1 h2
         subst h2
         simp [kill]
        ·simp at h
      ·simp at h
     ·simp at h
   ·simp only [heapV] at h
    split at h
    ·split at h
     ·split at h
      ·revert h
       generalize (List.all _ _ && _) = c
       intro h
       cases c
       ·simp at h
       ·simp only [cond_true] at h
        injection h with h; injection h with h1 h2; subst h2; simp
      ·simp at h
     ·simp at h
    ·simp at h
   ·simp only [heapV] at h
    split at h
    ·split at h
     ·injection h with h; injection h with h1 h2; subst h2; exact Nat.le_refl _
     ·simp at h
    ·simp at h
   ·simp only [heapV] at h
    split at h
    ·split at h
     ·injection h with h; injection h with h1 h2; subst h2; simp
     ·simp at h
    ·simp at h
   ·simp only [heapV, appendB] at h
    split at h
    ·split at h
     ·split at h
      ·injection h with h; injection h with h1 h2; subst h2; exact Nat.le_refl _
      ·revert h
       generalize roomy _ _ = c
       intro h
       cases c
       ·simp at h
       ·simp only [cond_true] at h
        injection h with h; injection h with h1 h2; subst h2; simp
     ·split at h
      ·split at h
       ·revert h
        generalize roomy _ _ = c
        intro h
        cases c
        ·simp at h
        ·simp only [cond_true] at h
         injection h with h; injection h with h1 h2; subst h2; simp [kill]
       ·simp at h
      ·simp at h
     ·simp at h
    ·simp at h
   ·simp only [heapV] at h
    split at h
    ·split at h
     ·split at h
      ·split at h
       ·injection h with h; injection h with h1 h2; subst h2; simp
       ·simp at h
      ·injection h with h; injection h with h1 h2; subst h2; exact Nat.le_refl _
     ·simp at h
    ·simp at h
   ·simp [heapV] at h
   ·simp [heapV] at h
 ·obtain ⟨new, rfl⟩ := quiet_ext hk h
  simp
theorem stepV_len {run : Runner} {o : I} {e : Env} {σ : Heap} {x : V} {σ' : Heap} (h : stepV run o e σ = some (x, σ')) : σ.length ≤ σ'.length := by
 unfold stepV at h
 split at h
 ·exact eff_len h
 ·split at h
  ·rename_i t want _ _ b _
   cases hb : b == want
   ·rw [hb] at h; simp only [cond_false] at h; injection h with h; injection h with h1 h2; subst h2; exact Nat.le_refl _
   ·rw [hb] at h; exact eff_len h
  ·injection h with h; injection h with h1 h2; subst h2; exact Nat.le_refl _
  ·simp at h
theorem stepV_ext {run : Runner} {o : I} (hk : o.ins.kd ≠ .eff) {e : Env} {σ : Heap} {x : V} {σ' : Heap} (h : stepV run o e σ = some (x, σ')) : ∃ new, σ' = σ ++ new := by
 unfold stepV at h
 split at h
 ·exact quiet_ext hk h
 ·split at h
  ·rename_i t want _ _ b _
   cases hb : b == want
   ·rw [hb] at h; simp only [cond_false] at h; injection h with h; injection h with h1 h2; exact ⟨[], by simp [h2]⟩
   ·rw [hb] at h; exact quiet_ext hk h
  ·injection h with h; injection h with h1 h2; exact ⟨[], by simp [h2]⟩
  ·simp at h
theorem stepV_pure {run : Runner} {o : I} (hk : o.ins.kd = .pure) {e : Env} {σ : Heap} {x : V} {σ' : Heap} (h : stepV run o e σ = some (x, σ')) : σ' = σ ∧ ∀ τ, stepV run o e τ = some (x, τ) := by
 have main : ∀ σ x σ', insV run o.ins e σ = some (x, σ') → σ' = σ ∧ ∀ τ, insV run o.ins e τ = some (x, τ) := by
  intro σ x σ' h
  cases hi : o.ins with
  | p i =>
   rw [hi] at h
   simp only [insV, Option.map_eq_some_iff] at h
   obtain ⟨y, hy, h⟩ := h
   injection h with h1 h2
   subst h1
   exact ⟨h2.symm, fun τ => by simp [insV, hy]⟩
  | h i =>
   rw [hi] at hk
   simp only [Ins.kd] at hk
   cases i <;> simp [HIns.kd] at hk
 unfold stepV at h ⊢
 split at h
 ·rename_i hg
  obtain ⟨h1, h2⟩ := main _ _ _ h
  exact ⟨h1, fun τ => by simp only [h2 τ]⟩
 ·rename_i t want hg
  split at h
  ·rename_i b hb
   cases hbw : b == want
   ·rw [hbw] at h; simp only [cond_false] at h; injection h with h; injection h with h1 h2
    subst h1; subst h2
    exact ⟨rfl, fun τ => by simp only [cond_false]⟩
   ·rw [hbw] at h
    simp only [cond_true] at h
    obtain ⟨h1, h2⟩ := main _ _ _ h
    exact ⟨h1, fun τ => by simp only [cond_true, h2 τ]⟩
  ·injection h with h; injection h with h1 h2
   subst h1; subst h2
   exact ⟨rfl, fun τ => rfl⟩
  ·simp at h
end Go.Am
namespace Go.Am
open Go
structure Tr (run : Runner) (is : List I) (e0 : Env) (σ0 : Heap) (tr : Nat → Env × Heap) : Prop where
 zero : tr 0 = (e0, σ0)
 step : ∀ (k : Nat) i, is[k]? = some i → ∃ x, stepV run i (tr k).1 (tr k).2 = some (x, (tr (k + 1)).2) ∧ (tr (k + 1)).1 = putT (tr k).1 i.dst x
theorem trace {run : Runner} : ∀ {is : List I} {e0 e' : Env} {σ0 σ' : Heap}, opsV run is e0 σ0 = some (e', σ') → ∃ tr, Tr run is e0 σ0 tr ∧ tr is.length = (e', σ')
 | [], e0, e', σ0, σ', h => by
  simp only [opsV, Option.some.injEq] at h
  exact ⟨fun _ => (e0, σ0), ⟨rfl, fun k i hi => by simp at hi⟩, h⟩
 | i :: is, e0, e', σ0, σ', h => by
  simp only [opsV, Option.bind_eq_some_iff] at h
  obtain ⟨⟨e1, σ1⟩, h1, h2⟩ := h
  obtain ⟨tr, ht, hl⟩ := trace h2
  rw [stepI_stepV] at h1
  simp only [Option.map_eq_some_iff] at h1
  obtain ⟨⟨x, σx⟩, hx, h1⟩ := h1
  injection h1 with h3 h4
  refine ⟨fun k => match k with | 0 => (e0, σ0) | k + 1 => tr k, ⟨rfl, fun k j hj => ?_⟩, hl⟩
  cases k with
  | zero =>
   simp at hj
   subst hj
   refine ⟨x, ?_, ?_⟩
   ·show stepV run i e0 σ0 = some (x, (tr 0).2)
    rw [ht.zero]
    simp only at h4
    rw [hx, h4]
   ·show (tr 0).1 = putT e0 i.dst x
    rw [ht.zero, h3]
  | succ k =>
   simp at hj
   exact ht.step k j hj
theorem putT_len (e : Env) (d : Option Nat) (x : V) : (putT e d x).length = e.length := by cases d <;> simp [putT]
theorem putT_other {e : Env} {d : Option Nat} {x : V} {t : Nat} (h : d ≠ some t) : (putT e d x).getD t .undef = e.getD t .undef := by
 cases d with
 | none => rfl
 | some d =>
  have hne : d ≠ t := fun q => h (by rw [q])
  simp only [putT, List.getD_eq_getElem?_getD, List.getElem?_set_ne hne]
theorem putT_same {e f : Env} {d : Nat} {x : V} (h : e.length = f.length) : (putT e (some d) x).getD d .undef = (putT f (some d) x).getD d .undef := by
 simp only [putT, List.getD_eq_getElem?_getD, List.getElem?_set_self']
 by_cases hd : d < e.length
 ·rw [List.getElem?_eq_getElem hd, List.getElem?_eq_getElem (by omega)]; rfl
 ·rw [List.getElem?_eq_none (by omega), List.getElem?_eq_none (by omega)]
section
variable {run : Runner} {is : List I} {e0 : Env} {σ0 : Heap} {tr : Nat → Env × Heap}
theorem Tr.elen (h : Tr run is e0 σ0 tr) : ∀ k, k ≤ is.length → (tr k).1.length = e0.length
 | 0, _ => by rw [h.zero]
 | k + 1, hk => by
  obtain ⟨x, _, hx⟩ := h.step k _ (List.getElem?_eq_getElem (by omega))
  rw [hx, putT_len]
  exact h.elen k (by omega)
theorem Tr.hlen (h : Tr run is e0 σ0 tr) {k : Nat} : ∀ j, k + j ≤ is.length → (tr k).2.length ≤ (tr (k + j)).2.length
 | 0, _ => Nat.le_refl _
 | j + 1, hj => by
  obtain ⟨x, hx, _⟩ := h.step (k + j) _ (List.getElem?_eq_getElem (by omega))
  exact Nat.le_trans (h.hlen j (by omega)) (stepV_len hx)
theorem Tr.hle (h : Tr run is e0 σ0 tr) {k k' : Nat} (hk : k ≤ k') (hk' : k' ≤ is.length) : (tr k).2.length ≤ (tr k').2.length := by
 have := h.hlen (k := k) (k' - k) (by omega)
 rwa [show k + (k' - k) = k' by omega] at this
theorem Tr.hext (h : Tr run is e0 σ0 tr) {k : Nat} : ∀ j, k + j ≤ is.length → (∀ i I, is[i]? = some I → k ≤ i → i < k + j → I.ins.kd ≠ .eff) → ∃ new, (tr (k + j)).2 = (tr k).2 ++ new
 | 0, _, _ => ⟨[], by simp⟩
 | j + 1, hj, hq => by
  obtain ⟨new, hnew⟩ := h.hext j (by omega) (fun i I hi h1 h2 => hq i I hi h1 (by omega))
  have hI := List.getElem?_eq_getElem (show k + j < is.length by omega)
  obtain ⟨x, hx, _⟩ := h.step (k + j) _ hI
  obtain ⟨more, hmore⟩ := stepV_ext (hq (k + j) _ hI (by omega) (by omega)) hx
  exact ⟨new ++ more, by rw [← Nat.add_assoc, hmore, hnew, List.append_assoc]⟩
theorem Tr.same (h : Tr run is e0 σ0 tr) {k t : Nat} : ∀ j, k + j ≤ is.length → (∀ i I, is[i]? = some I → k ≤ i → i < k + j → I.dst ≠ some t) → (tr (k + j)).1.getD t .undef = (tr k).1.getD t .undef
 | 0, _, _ => rfl
 | j + 1, hj, hq => by
  have hI := List.getElem?_eq_getElem (show k + j < is.length by omega)
  obtain ⟨x, _, hx⟩ := h.step (k + j) _ hI
  rw [← Nat.add_assoc, hx, putT_other (hq (k + j) _ hI (by omega) (by omega))]
  exact h.same j (by omega) (fun i I hi h1 h2 => hq i I hi h1 (by omega))
end
theorem parOne_spec {m : List Nat} {i : Nat} {x : I} : ∀ {r : List I} {k : Nat}, parOne m i x (r.zipIdx k) = true → ∀ (j : Nat) y, r[j]? = some y → ((m.getD (k + j) 0).testBit i = true ∨ (tmpFree x y = true ∧ kdFree x y = true)) ∧ ¬ (x.dst.isSome = true ∧ x.dst = y.dst)
 | [], k, _, j, y, hj => by simp at hj
 | z :: r, k, h, j, y, hj => by
  rw [List.zipIdx_cons] at h
  simp only [parOne, Bool.and_eq_true, Bool.or_eq_true, Bool.not_eq_true', Bool.and_eq_false_iff] at h
  cases j with
  | zero =>
   simp at hj
   subst hj
   refine ⟨h.1.1, fun ⟨h1, h2⟩ => ?_⟩
   rcases h.1.2 with h3 | h3
   ·rw [h1] at h3; simp at h3
   ·rw [h2] at h3; simp at h3
  | succ j =>
   simp at hj
   have := parOne_spec h.2 j y hj
   rwa [show k + 1 + j = k + (j + 1) by omega] at this
theorem parAll_spec {m : List Nat} : ∀ {r : List I} {k : Nat}, parAll m (r.zipIdx k) = true → ∀ (i j : Nat) x y, i < j → r[i]? = some x → r[j]? = some y → ((m.getD (k + j) 0).testBit (k + i) = true ∨ (tmpFree x y = true ∧ kdFree x y = true)) ∧ ¬ (x.dst.isSome = true ∧ x.dst = y.dst)
 | [], k, _, i, j, x, y, _, hi, _ => by simp at hi
 | z :: r, k, h, i, j, x, y, hij, hi, hj => by
  rw [List.zipIdx_cons] at h
  simp only [parAll, Bool.and_eq_true] at h
  obtain ⟨j, rfl⟩ : ∃ j', j = j' + 1 := ⟨j - 1, by omega⟩
  simp at hj
  cases i with
  | zero =>
   simp at hi
   subst hi
   have := parOne_spec h.1 j y hj
   rwa [show k + 1 + j = k + (j + 1) by omega] at this
  | succ i =>
   simp at hi
   have := parAll_spec h.2 i j x y (by omega) hi hj
   rwa [show k + 1 + j = k + (j + 1) by omega, show k + 1 + i = k + (i + 1) by omega] at this
theorem bm_bit {acc : List Nat} {i : Nat} : ∀ {es : List Edge}, (bm acc es).testBit i = true → ∃ e ∈ es, Region.binds .any e = true ∧ (i = e.on ∨ (acc.getD e.on 0).testBit i = true)
 | [], h => by simp [bm] at h
 | e :: r, h => by
  unfold bm at h
  split at h
  ·rename_i hb
   simp only [Nat.testBit_or, Bool.or_eq_true, Nat.testBit_two_pow, decide_eq_true_eq] at h
   rcases h with (h | h) | h
   ·exact ⟨e, by simp, hb, .inl h.symm⟩
   ·exact ⟨e, by simp, hb, .inr h⟩
   ·obtain ⟨e', h1, h2⟩ := bm_bit h
    exact ⟨e', by simp [h1], h2⟩
  ·obtain ⟨e', h1, h2⟩ := bm_bit h
   exact ⟨e', by simp [h1], h2⟩
theorem bmasks_spec : ∀ {L : List Oper} {acc : List Nat}, (∀ i, i < acc.length → (bmasks L acc).getD i 0 = acc.getD i 0) ∧
  ∀ (j : Nat) o, L[j]? = some o → ∃ acc', (bmasks L acc).getD (acc.length + j) 0 = bm acc' o.after.toList ∧ ∀ i, i < acc.length + j → acc'.getD i 0 = (bmasks L acc).getD i 0
 | [], acc => ⟨fun i _ => rfl, fun j o h => by simp at h⟩
 | o :: L, acc => by
  have ih := bmasks_spec (L := L) (acc := acc ++ [bm acc o.after.toList])
  have hlen : (acc ++ [bm acc o.after.toList]).length = acc.length + 1 := by simp
  have h1 : ∀ i, i < acc.length → (bmasks (o :: L) acc).getD i 0 = acc.getD i 0 := by
   intro i hi
   show (bmasks L (acc ++ [bm acc o.after.toList])).getD i 0 = _
   rw [ih.1 i (by omega)]
   simp only [List.getD_eq_getElem?_getD, List.getElem?_append_left hi]
  refine ⟨h1, fun j o' hj => ?_⟩
  cases j with
  | zero =>
   simp at hj
   subst hj
   refine ⟨acc, ?_, fun i hi => (h1 i (by omega)).symm⟩
   show (bmasks L (acc ++ [bm acc o.after.toList])).getD acc.length 0 = _
   rw [ih.1 acc.length (by omega)]
   simp
  | succ j =>
   simp at hj
   obtain ⟨acc', h2, h3⟩ := ih.2 j o' hj
   rw [hlen] at h2 h3
   exact ⟨acc', by rw [show acc.length + (j + 1) = acc.length + 1 + j by omega]; exact h2, fun i hi => h3 i (by omega)⟩
theorem edgesOK_spec : ∀ {L : List Oper} {k : Nat}, edgesOK (L.zipIdx k) = true → ∀ (j : Nat) o, L[j]? = some o → ∀ e ∈ o.after.toList, Region.binds .any e = true → e.on < k + j
 | [], k, _, j, o, h => by simp at h
 | z :: L, k, h, j, o, hj => by
  rw [List.zipIdx_cons] at h
  simp only [edgesOK, Bool.and_eq_true, List.all_eq_true, Bool.or_eq_true, Bool.not_eq_true', decide_eq_true_eq] at h
  cases j with
  | zero =>
   simp at hj
   subst hj
   intro e he hb
   rcases h.1 e he with h1 | h1
   ·rw [hb] at h1; simp at h1
   ·omega
  | succ j =>
   simp at hj
   intro e he hb
   have := edgesOK_spec h.2 j o hj e he hb
   omega
def Closed (L : List Oper) (lst : Nat → Bool) : Prop := ∀ (j : Nat) o, L[j]? = some o → lst j = true → ∀ e ∈ o.after.toList, Region.binds .any e = true → lst e.on = true
theorem closed_mask {L : List Oper} (hedge : edgesOK (L.zipIdx 0) = true) {lst : Nat → Bool} (hc : Closed L lst) : ∀ (n j : Nat) o, j ≤ n → L[j]? = some o → (∀ e ∈ o.after.toList, Region.binds .any e = true → lst e.on = true) →
  ∀ i, ((bmasks L []).getD j 0).testBit i = true → lst i = true := by
 intro n
 induction n with
 | zero =>
  intro j o hj ho hr i hi
  obtain ⟨acc', h1, h2⟩ := (bmasks_spec (L := L) (acc := [])).2 j o ho
  simp only [List.length_nil, Nat.zero_add] at h1
  rw [h1] at hi
  obtain ⟨e, he, hb, hor⟩ := bm_bit hi
  have := edgesOK_spec hedge j o ho e he hb
  omega
 | succ n ih =>
  intro j o hj ho hr i hi
  obtain ⟨acc', h1, h2⟩ := (bmasks_spec (L := L) (acc := [])).2 j o ho
  simp only [List.length_nil, Nat.zero_add] at h1 h2
  rw [h1] at hi
  obtain ⟨e, he, hb, hor⟩ := bm_bit hi
  have hlt := edgesOK_spec hedge j o ho e he hb
  have hl := hr e he hb
  rcases hor with rfl | hor
  ·exact hl
  ·rw [h2 e.on (by omega)] at hor
   have hjl : j < L.length := by
    rcases Nat.lt_or_ge j L.length with q | q
    ·exact q
    ·rw [List.getElem?_eq_none q] at ho; simp at ho
   have hoe := List.getElem?_eq_getElem (show e.on < L.length by omega)
   exact ih e.on _ (by omega) hoe (fun e' he' hb' => hc e.on _ hoe hl e' he' hb') i hor
theorem compPar_spec {P : Program} {ops : List Oper} {m : List Nat} : ∀ {L : List Oper} {k : Nat} {is : List I}, compPar P ops m (L.zipIdx k) = some is → is.length = L.length ∧ ∀ (j : Nat) o, L[j]? = some o → ∃ q i, is[j]? = some i ∧ compI P ops q o = some i
 | [], k, is, h => by simp [compPar] at h; subst h; simp
 | z :: L, k, is, h => by
  rw [List.zipIdx_cons] at h
  simp only [compPar] at h
  split at h
  ·rename_i i r h1 h2
   injection h with h
   subst h
   obtain ⟨e1, e2⟩ := compPar_spec h2
   refine ⟨by simp [e1], fun j o hj => ?_⟩
   cases j with
   | zero => simp at hj; subst hj; exact ⟨_, i, rfl, h1⟩
   | succ j => simp at hj; simpa using e2 j o hj
  ·simp at h
theorem compH_eff {P : Program} {q : Bool} {op : Op} {i : HIns} (h : compH P q op = some i) (hk : i.kd = .eff) : compH P false op = some i := by
 cases op with
 | call c =>
  simp only [compH] at h ⊢
  split at h
  ·split at h
   ·injection h with h
    subst h
    cases q
    ·simp_all
    ·simp [HIns.kd] at hk
   ·simp at h
  ·exact h
  ·simp at h
 | makeMap t r => cases r <;> exact h
 | next x b => cases b <;> exact h
 | _ => exact h
theorem compH_none {P : Program} {q : Bool} {op : Op} (h : compH P q op = none) : compH P false op = none := by
 cases op with
 | call c =>
  simp only [compH] at h ⊢
  split at h
  ·split at h
   ·simp at h
   ·rfl
  ·exact h
  ·rfl
 | makeMap t r => cases r <;> exact h
 | next x b => cases b <;> exact h
 | _ => exact h
theorem compIns_eff {P : Program} {q : Bool} {op : Op} {i : Ins} (h : compIns P q op = i) (hk : i.kd = .eff) : compIns P false op = i := by
 unfold compIns at h ⊢
 split at h
 ·subst h; simp [Ins.kd] at hk
 ·split at h
  ·rename_i j hj
   subst h
   rw [compH_eff hj hk]
  ·rename_i hj
   rw [compH_none hj]
   exact h
theorem step_q [Bas] {P : Program} {run : Runner} (hrun : RunOK P run) {ops : Array Oper} {o : Oper} {q : Bool} {i : I} (hc : compI P ops.toList q o = some i) (hk : i.ins.kd ≠ .eff) {ι : Inj} {σ : Heap} {W : World} {e : Env} {a : Act} {x : V} {σ' : Heap}
  (hE : EnvR ι e a.tmps) (hR : RelW ι σ W) (hv : stepV run i e σ = some (x, σ')) (hnone : ∀ b, σ.length ≤ b → b < σ'.length → ι b = none) {K : Act → World → Prop} {Q : Exit → Act → World → Prop}
  (hK : ∀ v W' ι', VR ι' x v → QPost ι σ W ι' σ' W' → K (a.put o.dst v) W') : (if Region.wanted o (yielded ops a.tmps) then o.wp P a W K Q else K (a.put o.dst Go.undef) W) := by
 obtain ⟨hd, hg, hi⟩ := compI_parts hc
 have hw := guard_sound hE hg
 unfold stepV at hv
 split at hv
 ·rename_i hgn
  rw [if_pos (hw.1 hgn)]
  exact ins_quiet hrun hi hk hE hR hv hnone hK
 ·rename_i t want hgs
  split at hv
  ·rename_i b hb
   rw [hw.2 t want hgs b hb]
   cases hbw : b == want
   ·rw [hbw] at hv
    simp only [cond_false, Option.some.injEq, Prod.mk.injEq] at hv
    obtain ⟨rfl, rfl⟩ := hv
    simp only [Bool.false_eq_true, if_false]
    exact hK _ W ι (vr_skip ι) (QPost.refl hR)
   ·rw [hbw] at hv
    simp only [cond_true] at hv
    simp only [if_true]
    exact ins_quiet hrun hi hk hE hR hv hnone hK
  ·rename_i hb
   rw [guard_skip hE hg hgs hb]
   simp only [Option.some.injEq, Prod.mk.injEq] at hv
   obtain ⟨rfl, rfl⟩ := hv
   simp only [Bool.false_eq_true, if_false]
   exact hK _ W ι (vr_skip ι) (QPost.refl hR)
  ·simp at hv
theorem step_e [Bas] {P : Program} {run : Runner} (hrun : RunOK P run) {ops : Array Oper} {o : Oper} {q : Bool} {i : I} (hc : compI P ops.toList q o = some i) (hk : i.ins.kd = .eff) {ι : Inj} {σ : Heap} {W : World} {e : Env} {a : Act} {x : V} {σ' : Heap}
  (hE : EnvR ι e a.tmps) (hR : RelW ι σ W) (hD : Dom ι σ) (hv : stepV run i e σ = some (x, σ')) {K : Act → World → Prop} {Q : Exit → Act → World → Prop}
  (hK : ∀ v W' ι', VR ι' x v → Post ι σ W ι' σ' W' → K (a.put o.dst v) W') : (if Region.wanted o (yielded ops a.tmps) then o.wp P a W K Q else K (a.put o.dst Go.undef) W) := by
 obtain ⟨hd, hg, hi⟩ := compI_parts hc
 have hi' := compIns_eff hi hk
 have hw := guard_sound hE hg
 unfold stepV at hv
 split at hv
 ·rename_i hgn
  rw [if_pos (hw.1 hgn)]
  exact ins_eff hrun hi' hE hR hD hv hK
 ·rename_i t want hgs
  split at hv
  ·rename_i b hb
   rw [hw.2 t want hgs b hb]
   cases hbw : b == want
   ·rw [hbw] at hv
    simp only [cond_false, Option.some.injEq, Prod.mk.injEq] at hv
    obtain ⟨rfl, rfl⟩ := hv
    simp only [Bool.false_eq_true, if_false]
    exact hK _ W ι (vr_skip ι) (QPost.refl hR).post
   ·rw [hbw] at hv
    simp only [cond_true] at hv
    simp only [if_true]
    exact ins_eff hrun hi' hE hR hD hv hK
  ·rename_i hb
   rw [guard_skip hE hg hgs hb]
   simp only [Option.some.injEq, Prod.mk.injEq] at hv
   obtain ⟨rfl, rfl⟩ := hv
   simp only [Bool.false_eq_true, if_false]
   exact hK _ W ι (vr_skip ι) (QPost.refl hR).post
  ·simp at hv
end Go.Am
namespace Go.Am
open Go
theorem RelW.front [Bas] {ι : Inj} {σ : Heap} {W : World} {more : List Blk} (h : RelW ι (σ ++ more) W) : RelW ι σ W := by
 have hl : ∀ (b : Nat) (x : Blk), σ[b]? = some x → (σ ++ more)[b]? = some x := fun b x hx => by
  have hlt : b < σ.length := by
   rcases Nat.lt_or_ge b σ.length with q | q
   ·exact q
   ·rw [List.getElem?_eq_none q] at hx; simp at hx
  rw [List.getElem?_append_left hlt]
  exact hx
 exact ⟨h.lt, fun b p x hp hx => h.blk b p x hp (hl b x hx), fun b b' p p' hp hp' hne ⟨x, hx, hm⟩ ⟨y, hy, hl'⟩ => h.sep b b' p p' hp hp' hne ⟨x, hl b x hx, hm⟩ ⟨y, hl b' y hy, hl'⟩, fun b p hp ⟨x, hx, hm⟩ => h.gap b p hp ⟨x, hl b x hx, hm⟩, h.bsz, h.bas⟩
theorem RelW.behind [Bas] {ι : Inj} {σ : Heap} {W : World} {more : List Blk} (h : RelW ι σ W) (hD : Dom ι σ) : RelW ι (σ ++ more) W := by
 refine ⟨h.lt, fun b p x hp hx => ?_, fun b b' p p' hp hp' hne ⟨x, hx, hm⟩ ⟨y, hy, hl'⟩ => ?_, fun b p hp ⟨x, hx, hm⟩ => h.gap b p hp ⟨x, by rw [List.getElem?_append_left (hD b p hp)] at hx; exact hx, hm⟩, h.bsz, h.bas⟩
 ·rw [List.getElem?_append_left (hD b p hp)] at hx
  exact h.blk b p x hp hx
 ·rw [List.getElem?_append_left (hD b p hp)] at hx
  rw [List.getElem?_append_left (hD b' p' hp')] at hy
  exact h.sep b b' p p' hp hp' hne ⟨x, hx, hm⟩ ⟨y, hy, hl'⟩
theorem QPost.later [Bas] {ι ι' : Inj} {σ σ' : Heap} {W W' : World} {more : List Blk} (hR : RelW ι (σ' ++ more) W) (h : QPost ι σ W ι' σ' W') : RelW ι' (σ' ++ more) W' := by
 have hold : ∀ b p, ι' b = some p → ι b = some p ∨ (ι b = none ∧ b < σ'.length ∧ W.heap.size ≤ p.c) := by
  intro b p hp
  cases hn : ι b with
  | none => have := h.fresh b p hp hn; exact .inr ⟨rfl, this.1.2, this.2⟩
  | some q => have := h.ext b q hn; rw [hp] at this; injection this with this; subst this; exact .inl rfl
 have hlow : ∀ (b : Nat) (x : Blk), b < σ'.length → (σ' ++ more)[b]? = some x → σ'[b]? = some x := fun b x hb hx => by rw [List.getElem?_append_left hb] at hx; exact hx
 refine ⟨h.rel.lt, fun b p x hp hx => ?_, fun b b' p p' hp hp' hne h1 h2 => ?_, fun b p hp hm => ?_, h.rel.bsz, h.rel.bas⟩
 case refine_3 =>
  rcases hold b p hp with ho | ⟨_, hb, hc⟩
  ·exact hR.gap b p ho hm
  ·exact Nat.le_trans hR.bsz hc
 ·rcases hold b p hp with ho | ⟨_, hb, _⟩
  ·exact (hR.blk b p x ho hx).keep h.ext (h.frame _ (hR.lt b p ho))
  ·exact h.rel.blk b p x hp (hlow b x hb hx)
 ·rcases hold b p hp with ho | ⟨_, hb, hc⟩ <;> rcases hold b' p' hp' with ho' | ⟨_, hb', hc'⟩
  ·exact hR.sep b b' p p' ho ho' hne h1 h2
  ·have := hR.lt b p ho; omega
  ·have := hR.lt b' p' ho'; omega
  ·obtain ⟨x, hx, hm⟩ := h1
   obtain ⟨y, hy, hl⟩ := h2
   exact h.rel.sep b b' p p' hp hp' hne ⟨x, hlow b x hb hx, hm⟩ ⟨y, hlow b' y hb' hy, hl⟩
def unl (lst : Nat → Bool) : Nat → Nat
 | 0 => 0
 | n + 1 => unl lst n + if lst n then 0 else 1
theorem unl_zero {lst : Nat → Bool} : ∀ {n : Nat}, unl lst n = 0 → ∀ i, i < n → lst i = true
 | 0, _, i, hi => by omega
 | n + 1, h, i, hi => by
  simp only [unl] at h
  by_cases e : i = n
  ·subst e
   cases hl : lst i
   ·rw [hl] at h; simp at h
   ·rfl
  ·exact unl_zero (n := n) (by omega) i (by omega)
theorem unl_set {lst lst' : Nat → Bool} {i : Nat} (h : lst i = false) (h' : lst' i = true) (ho : ∀ j, j ≠ i → lst' j = lst j) : ∀ {n : Nat}, (n ≤ i → unl lst' n = unl lst n) ∧ (i < n → unl lst' n + 1 = unl lst n)
 | 0 => ⟨fun _ => rfl, fun h => by omega⟩
 | n + 1 => by
  have ih := unl_set h h' ho (n := n)
  simp only [unl]
  refine ⟨fun hn => ?_, fun hn => ?_⟩
  ·rw [ih.1 (by omega), ho n (by omega)]
  ·by_cases e : n = i
   ·subst e
    rw [ih.1 (Nat.le_refl _), h, h']
    simp
   ·rw [ho n e, ← ih.2 (by omega)]
    omega
structure Inv [Bas] (is : List I) (L : List Oper) (e0 : Env) (σ0 : Heap) (ι0 : Inj) (W0 : World) (d0 : List Deferred) (tr : Nat → Env × Heap) (lst : Nat → Bool) (a : Act) (W : World) (ι : Inj) (k : Nat) (es : Env) : Prop where
 closed : Closed L lst
 env : EnvR ι es a.tmps
 elen : es.length = e0.length
 w1 : ∀ (i : Nat) I d, is[i]? = some I → lst i = true → I.dst = some d → es.getD d .undef = (tr (i + 1)).1.getD d .undef
 w2 : ∀ t, (∀ (i : Nat) I, is[i]? = some I → lst i = true → I.dst ≠ some t) → es.getD t .undef = e0.getD t .undef
 kle : k ≤ is.length
 f1 : ∀ (i : Nat) I, is[i]? = some I → i < k → I.ins.kd = .eff → lst i = true
 f2 : k < is.length → ∃ I, is[k]? = some I ∧ I.ins.kd = .eff ∧ lst k = false
 rel : RelW ι (tr k).2 W
 dom : ∀ b p, ι b = some p → b < σ0.length ∨ ∃ i, i < is.length ∧ lst i = true ∧ (tr i).2.length ≤ b ∧ b < (tr (i + 1)).2.length
 same : Same W0 W
 ext : Ext ι0 ι
 frame : ∀ c, c < W0.heap.size → (∀ b p, ι0 b = some p → mutb σ0 b → p.c ≠ c) → W.heap[c]? = W0.heap[c]?
 fresh : ∀ b p, ι b = some p → ι0 b = none → σ0.length ≤ b ∧ (W0.heap.size ≤ p.c ∨ ∃ b0 p0, ι0 b0 = some p0 ∧ mutb σ0 b0 ∧ p0.c = p.c)
 mono : ∀ b, b < σ0.length → mutb (tr k).2 b → mutb σ0 b
 lives : ∀ b, b < σ0.length → liveb (tr k).2 b → liveb σ0 b
 defers : a.defers = d0
theorem tmpFree_spec {x y : I} (h : tmpFree x y = true) : (∀ d, x.dst = some d → d ∉ y.reads ∧ y.dst ≠ some d) ∧ (∀ d, y.dst = some d → d ∉ x.reads) := by
 unfold tmpFree at h
 simp only [Bool.and_eq_true] at h
 refine ⟨fun d hd => ?_, fun d hd => ?_⟩
 ·have h1 := h.1
  rw [hd] at h1
  simp at h1
  exact ⟨h1.1, h1.2⟩
 ·have h2 := h.2
  rw [hd] at h2
  simpa using h2
section
variable {P : Program} {run : Runner} {ops : Array Oper} {is : List I} {e0 : Env} {σ0 : Heap} {ι0 : Inj} {W0 : World} {d0 : List Deferred} {tr : Nat → Env × Heap}
theorem frontier (is : List I) (lst : Nat → Bool) : ∀ (n k : Nat), k + n = is.length → ∃ k', k ≤ k' ∧ k' ≤ is.length ∧ (∀ (i : Nat) I, is[i]? = some I → k ≤ i → i < k' → I.ins.kd = .eff → lst i = true) ∧ (k' < is.length → ∃ I, is[k']? = some I ∧ I.ins.kd = .eff ∧ lst k' = false)
 | 0, k, h => ⟨k, Nat.le_refl _, by omega, fun i I _ h1 h2 => by omega, fun h1 => by omega⟩
 | n + 1, k, h => by
  have hk := List.getElem?_eq_getElem (show k < is.length by omega)
  by_cases hq : (is[k]'(by omega)).ins.kd = .eff ∧ lst k = false
  ·exact ⟨k, Nat.le_refl _, by omega, fun i I _ h1 h2 => by omega, fun _ => ⟨_, hk, hq⟩⟩
  ·obtain ⟨k', h1, h2, h3, h4⟩ := frontier is lst n (k + 1) (by omega)
   refine ⟨k', by omega, h2, fun i I hi g1 g2 g3 => ?_, h4⟩
   by_cases e : i = k
   ·subst e
    rw [hk] at hi
    injection hi with hi
    subst hi
    cases hl : lst i
    ·exact absurd ⟨g3, hl⟩ hq
    ·rfl
   ·exact h3 i I hi (by omega) g2 g3
set_option maxHeartbeats 2000000 in
theorem inv_step [Bas] (hrun : RunOK P run) (hedge : edgesOK (ops.toList.zipIdx 0) = true) (hpar : parAll (bmasks ops.toList []) (is.zipIdx 0) = true) (hcl : is.length = ops.toList.length) (hcomp : ∀ (j : Nat) o, ops.toList[j]? = some o → ∃ q i, is[j]? = some i ∧ compI P ops.toList q o = some i)
   (hD0 : Dom ι0 σ0) (ht : Tr run is e0 σ0 tr) {lst lst' : Nat → Bool} {a : Act} {W : World} {ι : Inj} {k : Nat} {es : Env} (hI : Inv is ops.toList e0 σ0 ι0 W0 d0 tr lst a W ι k es)
   {i : Nat} {o : Oper} (hio : ops[i]? = some o) (hil : lst i = false) (hready : ∀ e ∈ o.after.toList, Region.binds .any e = true → lst e.on = true) (hlst : lst' i = true) (hlst' : ∀ j, j ≠ i → lst' j = lst j)
   {K : Act → World → Prop} {Q : Exit → Act → World → Prop} (hK : ∀ a' W' ι' k' es', Inv is ops.toList e0 σ0 ι0 W0 d0 tr lst' a' W' ι' k' es' → K a' W') :
   (if Region.wanted o (yielded ops a.tmps) then o.wp P a W K Q else K (a.put o.dst Go.undef) W) := by
 have hio' : ops.toList[i]? = some o := by simpa using hio
 obtain ⟨q, X, hX, hcI⟩ := hcomp i o hio'
 have hin : i < is.length := by
   rcases Nat.lt_or_ge i is.length with h | h
   · exact h
   · rw [List.getElem?_eq_none h] at hX; simp at hX
 have hXd := (compI_parts hcI).1
 obtain ⟨x, hx, hxe⟩ := ht.step i X hX
 have hmask : ∀ j, ((bmasks ops.toList []).getD i 0).testBit j = true → lst j = true := closed_mask hedge hI.closed i i o (Nat.le_refl _) hio' hready
 have hmaskl : ∀ (j : Nat), lst j = true → j < is.length → ∀ j', ((bmasks ops.toList []).getD j 0).testBit j' = true → lst j' = true := by
   intro j hj hjl j' hb
   have hoj := List.getElem?_eq_getElem (show j < ops.toList.length by omega)
   exact closed_mask hedge hI.closed j j _ (Nat.le_refl _) hoj (hI.closed j _ hoj hj) j' hb
 have hpair : ∀ (i j : Nat) x y, i < j → is[i]? = some x → is[j]? = some y → (((bmasks ops.toList []).getD j 0).testBit i = true ∨ (tmpFree x y = true ∧ kdFree x y = true)) ∧ ¬ (x.dst.isSome = true ∧ x.dst = y.dst) := by
   intro i j x y hij hi hj
   have := parAll_spec hpar i j x y hij hi hj
   simpa only [Nat.zero_add] using this
 have huniq : ∀ (j j' : Nat) Y Y' d, is[j]? = some Y → is[j']? = some Y' → Y.dst = some d → Y'.dst = some d → j = j' := by
   intro j j' Y Y' d h1 h2 h3 h4
   rcases Nat.lt_trichotomy j j' with h | h | h
   · exact absurd ⟨by rw [h3]; rfl, by rw [h3, h4]⟩ (hpair j j' Y Y' h h1 h2).2
   · exact h
   · exact absurd ⟨by rw [h4]; rfl, by rw [h3, h4]⟩ (hpair j' j Y' Y h h2 h1).2
 have hagree : Agree X.reads (tr i).1 es := by
   intro t htr
   by_cases hex : ∃ (j : Nat) (Y : I), is[j]? = some Y ∧ lst j = true ∧ Y.dst = some t
   · obtain ⟨j, Y, hj, hjl, hjd⟩ := hex
     rw [hI.w1 j Y t hj hjl hjd]
     have hjn : j < is.length := by
      rcases Nat.lt_or_ge j is.length with h | h
      ·exact h
      ·rw [List.getElem?_eq_none h] at hj; simp at hj
     rcases Nat.lt_trichotomy j i with h | h | h
     ·have := ht.same (k := j + 1) (t := t) (i - (j + 1)) (by omega) (fun i' Y' hi' g1 g2 hd => by
       have := huniq j i' Y Y' t hj hi' hjd hd
       omega)
      rw [show j + 1 + (i - (j + 1)) = i by omega] at this
      exact this
     ·subst h; rw [hil] at hjl; simp at hjl
     ·rcases (hpair i j X Y h hX hj).1 with hb | ⟨hf, _⟩
      ·have := hmaskl j hjl hjn i hb
       rw [hil] at this; simp at this
      ·exact absurd htr ((tmpFree_spec hf).2 t hjd)
   · rw [hI.w2 t (fun j Y h1 h2 h3 => hex ⟨j, Y, h1, h2, h3⟩)]
     have := ht.same (k := 0) (t := t) i (by omega) (fun i' Y' hi' g1 g2 hd => by
      rw [Nat.zero_add] at g2
      rcases (hpair i' i Y' X g2 hi' hX).1 with hb | ⟨hf, _⟩
      ·exact hex ⟨i', Y', hi', hmask i' hb, hd⟩
      ·exact absurd htr ((tmpFree_spec hf).1 t hd).1)
     rw [Nat.zero_add, ht.zero] at this
     exact this
 have hx' : stepV run X es (tr i).2 = some (x, (tr (i + 1)).2) := by rw [← stepV_agree _ hagree]; exact hx
 have hclosed' : Closed ops.toList lst' := by
   intro j oj hj hjl e he hb
   have hw : lst e.on = true := by
     by_cases hji : j = i
     ·subst hji
      rw [hio'] at hj
      injection hj with hj
      subst hj
      exact hready e he hb
     ·rw [hlst' j hji] at hjl
      exact hI.closed j oj hj hjl e he hb
   by_cases hei : e.on = i
   · rw [hei]; exact hlst
   · rw [hlst' _ hei]; exact hw
 have helen : (tr i).1.length = e0.length := ht.elen i (by omega)
 have hw1 : ∀ (j : Nat) Y d, is[j]? = some Y → lst' j = true → Y.dst = some d → (putT es X.dst x).getD d .undef = (tr (j + 1)).1.getD d .undef := by
   intro j Y d hj hjl hjd
   by_cases hji : j = i
   · subst hji
     rw [hX] at hj
     injection hj with hj
     subst hj
     rw [hxe, hjd]
     exact putT_same (by rw [hI.elen, helen])
   · rw [hlst' j hji] at hjl
     rw [putT_other (fun hd => hji (huniq j i Y X d hj hX hjd hd))]
     exact hI.w1 j Y d hj hjl hjd
 have hw2 : ∀ t, (∀ (j : Nat) Y, is[j]? = some Y → lst' j = true → Y.dst ≠ some t) → (putT es X.dst x).getD t .undef = e0.getD t .undef := by
   intro t h
   rw [putT_other (h i X hX hlst)]
   refine hI.w2 t (fun j Y hj hjl => ?_)
   have hji : j ≠ i := fun e => by subst e; rw [hil] at hjl; simp at hjl
   exact h j Y hj (by rw [hlst' j hji]; exact hjl)
 have hdom' : ∀ b p, ι b = some p → b < σ0.length ∨ ∃ j, j < is.length ∧ lst' j = true ∧ (tr j).2.length ≤ b ∧ b < (tr (j + 1)).2.length := by
   intro b p hb
   rcases hI.dom b p hb with h | ⟨j, h1, h2, h3⟩
   · exact .inl h
   · have hji : j ≠ i := fun e => by subst e; rw [hil] at h2; simp at h2
     exact .inr ⟨j, h1, by rw [hlst' j hji]; exact h2, h3⟩
 have h0le : ∀ j, j ≤ is.length → σ0.length ≤ (tr j).2.length := fun j hj => by
   have := ht.hle (k := 0) (k' := j) (by omega) hj
   rwa [ht.zero] at this
 have hset0 : ∀ (b : Nat) (p : Place), ι b = some p → (tr i).2.length ≤ b → b < (tr (i + 1)).2.length → False := by
   intro b p hb h1 h2
   rcases hI.dom b p hb with h | ⟨j, g1, g2, g3, g4⟩
   · have := h0le i (by omega); omega
   · have hji : j ≠ i := fun e => by subst e; rw [hil] at g2; simp at g2
     rcases Nat.lt_or_gt_of_ne hji with h | h
     ·have := ht.hle (k := j + 1) (k' := i) (by omega) (by omega); omega
     ·have := ht.hle (k := i + 1) (k' := j) (by omega) (by omega); omega
 have hf1' : ∀ (j : Nat) Y, is[j]? = some Y → j < k → Y.ins.kd = .eff → lst' j = true := by
   intro j Y hj hjk hke
   by_cases hji : j = i
   · rw [hji]; exact hlst
   · rw [hlst' j hji]; exact hI.f1 j Y hj hjk hke
 have quietEnd : X.ins.kd ≠ .eff → ∀ v W' ι', VR ι' x v → Same W W' → Ext ι ι' → RelW ι' (tr k).2 W' → (∀ c, c < W.heap.size → W'.heap[c]? = W.heap[c]?) →
     (∀ b p, ι' b = some p → ι b = none → ((tr i).2.length ≤ b ∧ b < (tr (i + 1)).2.length) ∧ W.heap.size ≤ p.c) → K (a.put o.dst v) W' := by
   intro hk v W' ι' hv hs hext hrel hfr hfresh
   refine hK _ W' ι' k (putT es X.dst x) ⟨hclosed', ?_, by rw [putT_len, hI.elen], hw1, hw2, hI.kle, hf1', fun hkl => ?_, hrel, fun b p hb => ?_, hI.same.trans hs, hI.ext.trans hext, fun c hc hm => ?_, fun b p hb hn => ?_, hI.mono, hI.lives, by rw [put_defers, hI.defers]⟩
   · rw [hXd]; exact EnvR.put (hI.env.ext hext) o.dst hv
   · obtain ⟨Y, h1, h2, h3⟩ := hI.f2 hkl
     have hki : k ≠ i := fun e => by subst e; rw [hX] at h1; injection h1 with h1; subst h1; exact hk h2
     exact ⟨Y, h1, h2, by rw [hlst' k hki]; exact h3⟩
   · cases hn : ι b with
     | some r =>
      have := hext b r hn
      rw [hb] at this
      injection this with this
      subst this
      exact hdom' b p hn
     | none =>
      have := hfresh b p hb hn
      exact .inr ⟨i, hin, hlst, this.1⟩
   · rw [hfr c (Nat.lt_of_lt_of_le hc hI.same.size), hI.frame c hc hm]
   · cases hn1 : ι b with
     | some r =>
      have := hext b r hn1
      rw [hb] at this
      injection this with this
      subst this
      exact hI.fresh b p hn1 hn
     | none =>
      have := hfresh b p hb hn1
      have h0 := h0le i (by omega)
      have hsz := hI.same.size
      exact ⟨by omega, .inl (by omega)⟩
 by_cases hkp : X.ins.kd = .pure
 ·
   have hnk : X.ins.kd ≠ .eff := by rw [hkp]; simp
   obtain ⟨_, hany⟩ := stepV_pure hkp hx'
   refine step_q hrun hcI hnk hI.env hI.rel (hany (tr k).2) (fun b h1 h2 => by omega) (fun v W' ι' hv hq => ?_)
   refine quietEnd hnk v W' ι' hv hq.same hq.ext hq.rel hq.frame (fun b p hb hn => ?_)
   have := hq.fresh b p hb hn
   omega
 · by_cases hke : X.ins.kd = .eff
   ·
     have hkfree : ∀ (Y : I), Y.ins.kd ≠ .pure → kdFree X Y = false ∧ kdFree Y X = false := by
      intro Y hY
      unfold kdFree
      rw [hke]
      cases hy : Y.ins.kd with
      | pure => exact absurd hy hY
      | quiet => exact ⟨rfl, rfl⟩
      | eff => exact ⟨rfl, rfl⟩
     have hbefore : ∀ (j : Nat) Y, is[j]? = some Y → j < i → Y.ins.kd ≠ .pure → lst j = true := by
      intro j Y hj hji hY
      rcases (hpair j i Y X hji hj hX).1 with hb | ⟨_, hf⟩
      ·exact hmask j hb
      ·rw [(hkfree Y hY).2] at hf; simp at hf
     have hafter : ∀ (j : Nat) Y, is[j]? = some Y → i < j → Y.ins.kd ≠ .pure → lst j = false := by
      intro j Y hj hji hY
      rcases (hpair i j X Y hji hX hj).1 with hb | ⟨_, hf⟩
      ·cases hl : lst j
       ·rfl
       ·have hjn : j < is.length := by
         rcases Nat.lt_or_ge j is.length with h | h
         ·exact h
         ·rw [List.getElem?_eq_none h] at hj; simp at hj
        have := hmaskl j hl hjn i hb
        rw [hil] at this; simp at this
      ·rw [(hkfree Y hY).1] at hf; simp at hf
     have hki : k = i := by
      rcases Nat.lt_trichotomy k i with h | h | h
      ·obtain ⟨Y, h1, h2, h3⟩ := hI.f2 (by omega)
       have := hbefore k Y h1 h (by rw [h2]; simp)
       rw [h3] at this; simp at this
      ·exact h
      ·have := hI.f1 i X hX h hke
       rw [hil] at this; simp at this
     have hDi : Dom ι (tr i).2 := by
      intro b p hb
      rcases hI.dom b p hb with h | ⟨j, g1, g2, g3, g4⟩
      ·have := h0le i (by omega); omega
      ·have hji : j ≠ i := fun e => by subst e; rw [hil] at g2; simp at g2
       rcases Nat.lt_or_gt_of_ne hji with h | h
       ·have := ht.hle (k := j + 1) (k' := i) (by omega) (by omega); omega
       ·have hYj := List.getElem?_eq_getElem g1
        by_cases hjp : (is[j]).ins.kd = .pure
        ·obtain ⟨y, hy, _⟩ := ht.step j _ hYj
         have := (stepV_pure hjp hy).1
         rw [this] at g4
         omega
        ·have := hafter j _ hYj h hjp
         rw [this] at g2; simp at g2
     refine step_e hrun hcI hke hI.env (by rw [← hki]; exact hI.rel) hDi hx' (fun v W' ι' hv hp => ?_)
     obtain ⟨k', hk1, hk2, hk3, hk4⟩ := frontier is lst' (is.length - (i + 1)) (i + 1) (by omega)
     have hnoeff : ∀ (j : Nat) Y, is[j]? = some Y → i + 1 ≤ j → j < k' → Y.ins.kd ≠ .eff := by
      intro j Y hj g1 g2 g3
      have h1 := hk3 j Y hj g1 g2 g3
      rw [hlst' j (by omega)] at h1
      have := hafter j Y hj (by omega) (by rw [g3]; simp)
      rw [this] at h1; simp at h1
     obtain ⟨new, hnew⟩ := ht.hext (k := i + 1) (k' - (i + 1)) (by omega) (fun j Y hj g1 g2 => hnoeff j Y hj g1 (by omega))
     rw [show i + 1 + (k' - (i + 1)) = k' by omega] at hnew
     have hDi' : Dom ι' (tr (i + 1)).2 := hp.dom hDi
     have hback : ∀ b, b < σ0.length → ∀ (y : Blk), (tr k').2[b]? = some y → (tr (i + 1)).2[b]? = some y := by
      intro b hb y hy
      have := h0le (i + 1) (by omega)
      rw [hnew, List.getElem?_append_left (by omega)] at hy
      exact hy
     have hframeS : ∀ c, c < W0.heap.size → (∀ b p, ι0 b = some p → mutb σ0 b → p.c ≠ c) → ∀ b p, ι b = some p → mutb (tr i).2 b → p.c ≠ c := by
      intro c hc hm b p hb hmb
      cases hn0 : ι0 b with
      | some r =>
       have := hI.ext b r hn0
       rw [hb] at this
       injection this with this
       subst this
       exact hm b p hn0 (hI.mono b (hD0 b p hn0) (by rw [hki]; exact hmb))
      | none =>
       rcases (hI.fresh b p hb hn0).2 with h | ⟨b0, p0, h1, h2, h3⟩
       ·omega
       ·rw [← h3]; exact hm b0 p0 h1 h2
     refine hK _ W' ι' k' (putT es X.dst x) ⟨hclosed', ?_, by rw [putT_len, hI.elen], hw1, hw2, hk2, fun j Y hj hjk hje => ?_, hk4, by rw [hnew]; exact hp.rel.behind hDi', fun b p hb => ?_, hI.same.trans hp.same, hI.ext.trans hp.ext, fun c hc hm => ?_, fun b p hb hn => ?_, fun b hb hm => ?_, fun b hb hl => ?_, by rw [put_defers, hI.defers]⟩
     ·rw [hXd]; exact EnvR.put (hI.env.ext hp.ext) o.dst hv
     ·by_cases hji : j = i
      ·rw [hji]; exact hlst
      ·rcases Nat.lt_or_gt_of_ne hji with h | h
       ·rw [hlst' j hji]; exact hbefore j Y hj h (by rw [hje]; simp)
       ·exact absurd hje (hnoeff j Y hj (by omega) hjk)
     ·cases hn : ι b with
      | some r =>
       have := hp.ext b r hn
       rw [hb] at this
       injection this with this
       subst this
       exact hdom' b p hn
      | none => exact .inr ⟨i, hin, hlst, (hp.fresh b p hb hn).1⟩
     ·rw [hp.frame c (Nat.lt_of_lt_of_le hc hI.same.size) (hframeS c hc hm), hI.frame c hc hm]
     ·cases hn1 : ι b with
      | some r =>
       have := hp.ext b r hn1
       rw [hb] at this
       injection this with this
       subst this
       exact hI.fresh b p hn1 hn
      | none =>
       obtain ⟨⟨h1, h2⟩, h3⟩ := hp.fresh b p hb hn1
       have h0 := h0le i (by omega)
       have hsz := hI.same.size
       refine ⟨by omega, ?_⟩
       rcases h3 with h | ⟨b1, p1, g1, g2, g3⟩
       ·exact .inl (by omega)
       ·cases hn0 : ι0 b1 with
        | some r =>
         have := hI.ext b1 r hn0
         rw [g1] at this
         injection this with this
         subst this
         exact .inr ⟨b1, p1, hn0, hI.mono b1 (hD0 b1 p1 hn0) (by rw [hki]; exact g2), g3⟩
        | none =>
         rcases (hI.fresh b1 p1 g1 hn0).2 with h | ⟨b2, p2, q1, q2, q3⟩
         ·exact .inl (by omega)
         ·exact .inr ⟨b2, p2, q1, q2, q3.trans g3⟩
     ·obtain ⟨y, hy, hym⟩ := hm
      have h0 := h0le i (by omega)
      exact hI.mono b hb (by rw [hki]; exact hp.mono b (by omega) ⟨y, hback b hb y hy, hym⟩)
     ·obtain ⟨y, hy, hym⟩ := hl
      have h0 := h0le i (by omega)
      exact hI.lives b hb (by rw [hki]; exact hp.lives b (by omega) ⟨y, hback b hb y hy, hym⟩)
   ·
     have hkq : X.ins.kd = .quiet := by cases hq : X.ins.kd <;> simp_all
     have heffX : ∀ (Y : I), Y.ins.kd = .eff → kdFree X Y = false ∧ kdFree Y X = false := by
      intro Y hY
      unfold kdFree
      rw [hkq, hY]
      exact ⟨rfl, rfl⟩
     have hafter : ∀ (j : Nat) Y, is[j]? = some Y → i < j → Y.ins.kd = .eff → lst j = false := by
      intro j Y hj hji hY
      rcases (hpair i j X Y hji hX hj).1 with hb | ⟨_, hf⟩
      ·cases hl : lst j
       ·rfl
       ·have hjn : j < is.length := by
         rcases Nat.lt_or_ge j is.length with h | h
         ·exact h
         ·rw [List.getElem?_eq_none h] at hj; simp at hj
        have := hmaskl j hl hjn i hb
        rw [hil] at this; simp at this
      ·rw [(heffX Y hY).1] at hf; simp at hf
     have hbefore : ∀ (j : Nat) Y, is[j]? = some Y → j < i → Y.ins.kd = .eff → lst j = true := by
      intro j Y hj hji hY
      rcases (hpair j i Y X hji hj hX).1 with hb | ⟨_, hf⟩
      ·exact hmask j hb
      ·rw [(heffX Y hY).2] at hf; simp at hf
     have hik : i < k := by
      rcases Nat.lt_or_ge i k with h | h
      ·exact h
      ·have hkl : k < is.length := by omega
       obtain ⟨Y, h1, h2, h3⟩ := hI.f2 hkl
       have hki : k ≠ i := fun e => by subst e; rw [hX] at h1; injection h1 with h1; subst h1; exact hke h2
       have := hbefore k Y h1 (by omega) h2
       rw [h3] at this; simp at this
     have hnoeff : ∀ (j : Nat) Y, is[j]? = some Y → i ≤ j → j < k → Y.ins.kd ≠ .eff := by
      intro j Y hj g1 g2 g3
      have h1 := hI.f1 j Y hj g2 g3
      by_cases hji : j = i
      ·subst hji; rw [hil] at h1; simp at h1
      ·have := hafter j Y hj (by omega) g3
       rw [this] at h1; simp at h1
     have hkle := hI.kle
     obtain ⟨n1, hn1⟩ := ht.hext (k := i) 1 (by omega) (fun j Y hj g1 g2 => hnoeff j Y hj g1 (by omega))
     obtain ⟨n2, hn2⟩ := ht.hext (k := i + 1) (k - (i + 1)) (by omega) (fun j Y hj g1 g2 => hnoeff j Y hj (by omega) (by omega))
     rw [show i + 1 + (k - (i + 1)) = k by omega] at hn2
     have hRi : RelW ι (tr i).2 W := by
      have h1 := hI.rel
      rw [hn2] at h1
      have h2 := h1.front
      rw [hn1] at h2
      exact h2.front
     refine step_q hrun hcI hke hI.env hRi hx' (fun b h1 h2 => ?_) (fun v W' ι' hv hq => ?_)
     ·cases hb : ι b with
      | none => rfl
      | some p => exact (hset0 b p hb h1 h2).elim
     ·refine quietEnd hke v W' ι' hv hq.same hq.ext ?_ hq.frame (fun b p hb hn => hq.fresh b p hb hn)
      have h1 := hI.rel
      rw [hn2] at h1 ⊢
      exact hq.later h1
end
theorem par_sound [Bas] {P : Program} {run : Runner} (hrun : RunOK P run) (hm : P.follows .mixedOrders = true) {ops : Array Oper} {is : List I} (hc : compPar P ops.toList (bmasks ops.toList []) ops.toList.zipIdx = some is) (hpar : parAll (bmasks ops.toList []) is.zipIdx = true) (hedge : edgesOK ops.toList.zipIdx = true)
  {ι : Inj} {σ : Heap} {W : World} {e e' : Env} {a : Act} {σ' : Heap} (hE : EnvR ι e a.tmps) (hR : RelW ι σ W) (hD : Dom ι σ) (hv : opsV run is e σ = some (e', σ')) {Q : Exit → Act → World → Prop} (id : Nat)
  (hQ : ∀ a' W' ι', EnvR ι' e' a'.tmps → Post ι σ W ι' σ' W' → a'.defers = a.defers → Q .normal a' W') : (Code.region id ops true).wp P Q a W := by
 obtain ⟨hcl, hcomp⟩ := compPar_spec hc
 obtain ⟨tr, ht, hend⟩ := trace hv
 have hsz : is.length = ops.size := by rw [hcl]; simp
 have main : ∀ (fuel : Nat) (listed : Array Bool) (a' : Act) (W' : World), listed.size = ops.size → unl (fun i => listed.getD i false) ops.size ≤ fuel →
   (∃ ι' k es, Inv is ops.toList e σ ι W a.defers tr (fun i => listed.getD i false) a' W' ι' k es) → wpAny P .any ops Q fuel listed a' W' := by
  have fin : ∀ (listed : Array Bool) (a' : Act) (W' : World), listed.size = ops.size → (∀ i, i < ops.size → listed.getD i false = true) → (∃ ι' k es, Inv is ops.toList e σ ι W a.defers tr (fun i => listed.getD i false) a' W' ι' k es) → Q .normal a' W' := by
   rintro listed a' W' hls hall ⟨ι', k, es, hI⟩
   have hk : k = is.length := by
    rcases Nat.lt_or_ge k is.length with h | h
    ·obtain ⟨Y, _, _, h3⟩ := hI.f2 h
     have := hall k (by omega)
     rw [this] at h3; simp at h3
    ·have := hI.kle; omega
   have hes : es = e' := by
    have he' : e' = (tr is.length).1 := by rw [hend]
    have hl : es.length = e'.length := by rw [he', ht.elen _ (Nat.le_refl _), hI.elen]
    apply List.ext_getElem?
    intro t
    have hg : es.getD t .undef = e'.getD t .undef := by
     by_cases hex : ∃ (j : Nat) (Y : I), is[j]? = some Y ∧ Y.dst = some t
     ·obtain ⟨j, Y, hj, hjd⟩ := hex
      have hjn : j < is.length := by
       rcases Nat.lt_or_ge j is.length with h | h
       ·exact h
       ·rw [List.getElem?_eq_none h] at hj; simp at hj
      rw [hI.w1 j Y t hj (hall j (by omega)) hjd, he']
      have := ht.same (k := j + 1) (t := t) (is.length - (j + 1)) (by omega) (fun i' Y' hi' g1 g2 hd => by
       have := (parAll_spec (k := 0) hpar j i' Y Y' (by omega) hj hi').2
       exact this ⟨by rw [hjd]; rfl, by rw [hjd, hd]⟩)
      rw [show j + 1 + (is.length - (j + 1)) = is.length by omega] at this
      exact this.symm
     ·rw [hI.w2 t (fun j Y h1 _ h3 => hex ⟨j, Y, h1, h3⟩), he']
      have := ht.same (k := 0) (t := t) is.length (by omega) (fun i' Y' hi' _ _ hd => hex ⟨i', Y', hi', hd⟩)
      rw [Nat.zero_add, ht.zero] at this
      exact this.symm
    simp only [List.getD_eq_getElem?_getD] at hg
    by_cases htl : t < es.length
    ·rw [List.getElem?_eq_getElem htl, List.getElem?_eq_getElem (by omega)] at hg ⊢
     simp only [Option.getD_some] at hg
     rw [hg]
    ·rw [List.getElem?_eq_none (by omega), List.getElem?_eq_none (by omega)]
   subst hes
   subst hk
   have hs' : (tr is.length).2 = σ' := by rw [hend]
   have hrel := hI.rel
   rw [hs'] at hrel
   have h0 := ht.hle (k := 0) (k' := is.length) (by omega) (Nat.le_refl _)
   rw [ht.zero, hs'] at h0
   refine hQ a' W' ι' hI.env ⟨hI.same, hI.ext, hrel, h0, hI.frame, fun b p hb hn => ?_, fun b hb hm => hI.mono b hb (by rw [hs']; exact hm), fun b hb hm => hI.lives b hb (by rw [hs']; exact hm)⟩ hI.defers
   obtain ⟨h1, h2⟩ := hI.fresh b p hb hn
   refine ⟨⟨h1, ?_⟩, h2⟩
   rcases hI.dom b p hb with h | ⟨i, g1, _, _, g4⟩
   ·omega
   ·have := ht.hle (k := i + 1) (k' := is.length) (by omega) (Nat.le_refl _)
    rw [hs'] at this
    omega
  have allOf : ∀ (listed : Array Bool), listed.size = ops.size → Region.ready .any ops listed = [] → ∀ i, i < ops.size → listed.getD i false = true := by
   intro listed hls hr
   have : ∀ n i, i ≤ n → i < ops.size → listed.getD i false = true := by
    intro n
    induction n with
    | zero =>
     intro i hi hil
     cases hl : listed.getD i false with
     | true => rfl
     | false =>
      exfalso
      have hmem : i ∈ Region.ready .any ops listed := by
       unfold Region.ready
       simp only [List.mem_filter, List.mem_range, Bool.and_eq_true, Bool.not_eq_true']
       refine ⟨hil, ?_, ?_⟩
       ·have : listed.getD i true = listed.getD i false := by simp [show i < listed.size by omega]
        rw [this, hl]
       ·have ho := Array.getElem?_eq_getElem hil
        rw [ho]
        simp only [Option.map_some, Option.getD_some]
        rw [Array.all_eq_true_iff_forall_mem]
        intro ed hed
        simp only [Bool.or_eq_true, Bool.not_eq_true']
        cases hb : Region.binds .any ed with
        | false => exact .inl rfl
        | true =>
         have := edgesOK_spec (k := 0) hedge i _ (show ops.toList[i]? = some _ from by rw [Array.getElem?_toList]; exact ho) ed (by simpa using hed) hb
         omega
      rw [hr] at hmem
      simp at hmem
    | succ n ih =>
     intro i hi hil
     cases hl : listed.getD i false with
     | true => rfl
     | false =>
      exfalso
      have hmem : i ∈ Region.ready .any ops listed := by
       unfold Region.ready
       simp only [List.mem_filter, List.mem_range, Bool.and_eq_true, Bool.not_eq_true']
       refine ⟨hil, ?_, ?_⟩
       ·have : listed.getD i true = listed.getD i false := by simp [show i < listed.size by omega]
        rw [this, hl]
       ·have ho := Array.getElem?_eq_getElem hil
        rw [ho]
        simp only [Option.map_some, Option.getD_some]
        rw [Array.all_eq_true_iff_forall_mem]
        intro ed hed
        simp only [Bool.or_eq_true, Bool.not_eq_true']
        cases hb : Region.binds .any ed with
        | false => exact .inl rfl
        | true =>
         have := edgesOK_spec (k := 0) hedge i _ (show ops.toList[i]? = some _ from by rw [Array.getElem?_toList]; exact ho) ed (by simpa using hed) hb
         exact .inr (ih ed.on (by omega) (by omega))
      rw [hr] at hmem
      simp at hmem
   exact fun i hi => this i i (Nat.le_refl _) hi
  intro fuel
  induction fuel with
  | zero =>
   intro listed a' W' hls hu hI
   have hall := unl_zero (n := ops.size) (Nat.le_zero.1 hu)
   refine ⟨?_, fin listed a' W' hls hall hI⟩
   apply List.eq_nil_iff_forall_not_mem.2
   intro i hi
   unfold Region.ready at hi
   simp only [List.mem_filter, List.mem_range, Bool.and_eq_true, Bool.not_eq_true'] at hi
   have h1 := hall i hi.1
   have : listed.getD i true = listed.getD i false := by simp [show i < listed.size by omega]
   rw [this] at hi
   rw [h1] at hi
   simp at hi
  | succ fuel ih =>
   intro listed a' W' hls hu hI
   refine ⟨fun hr => fin listed a' W' hls (allOf listed hls hr) hI, fun i hi => ?_⟩
   obtain ⟨ι', k, es, hI⟩ := hI
   unfold Region.ready at hi
   simp only [List.mem_filter, List.mem_range, Bool.and_eq_true, Bool.not_eq_true'] at hi
   obtain ⟨hil, hnl, hrd⟩ := hi
   have hnl' : listed.getD i false = false := by
    have : listed.getD i true = listed.getD i false := by simp [show i < listed.size by omega]
    rw [← this]; exact hnl
   have ho := Array.getElem?_eq_getElem hil
   have hset : ∀ j, j ≠ i → (listed.setIfInBounds i true).getD j false = listed.getD j false := fun j hj => by
    simp only [Array.getD_eq_getD_getElem?, Array.getElem?_setIfInBounds]
    rw [if_neg (Ne.symm hj)]
   have hseti : (listed.setIfInBounds i true).getD i false = true := by
    simp [Array.getD_eq_getD_getElem?, show i < listed.size by omega]
   unfold wpOp
   rw [ho]
   simp only
   have hready : ∀ ed ∈ (ops[i]).after.toList, Region.binds .any ed = true → listed.getD ed.on false = true := by
    intro ed hed hb
    rw [ho] at hrd
    simp only [Option.map_some, Option.getD_some] at hrd
    rw [Array.all_eq_true_iff_forall_mem] at hrd
    have := hrd ed (by simpa using hed)
    simpa [hb] using this
   have hstep := inv_step (lst' := fun j => (listed.setIfInBounds i true).getD j false) (K := wpAny P .any ops Q fuel (listed.setIfInBounds i true)) (Q := Q) hrun hedge hpar hcl hcomp hD ht hI ho hnl' hready hseti hset (fun a2 W2 ι2 k2 es2 hI2 => ih _ a2 W2 (by simpa using hls) ?_ ⟨ι2, k2, es2, hI2⟩)
   ·split
    ·rename_i hw
     rw [if_pos hw] at hstep
     exact .inl hstep
    ·rename_i hw
     rw [if_neg hw] at hstep
     exact hstep
   ·have := (unl_set (lst := fun j => listed.getD j false) (lst' := fun j => (listed.setIfInBounds i true).getD j false) hnl' hseti hset (n := ops.size)).2 hil
    omega
 refine wp_region_any hm ?_
 refine main ops.size _ a _ (by simp) ?_ ⟨ι, ?_⟩
 ·have : ∀ n, unl (fun i => (Array.replicate ops.size false).getD i false) n ≤ n := by
   intro n
   induction n with
   | zero => exact Nat.le_refl _
   | succ n ih =>
    simp only [unl]
    split <;> omega
  exact this _
 ·have hfalse : ∀ i, (Array.replicate ops.size false).getD i false = false := by
   intro i
   simp [Array.getD_eq_getD_getElem?, Array.getElem?_replicate]
   split <;> rfl
  obtain ⟨k, h1, h2, h3, h4⟩ := frontier is (fun i => (Array.replicate ops.size false).getD i false) is.length 0 (by omega)
  have hnoeff : ∀ (j : Nat) Y, is[j]? = some Y → 0 ≤ j → j < 0 + k → Y.ins.kd ≠ .eff := by
   intro j Y hj g1 g2 g3
   have := h3 j Y hj g1 (by omega) g3
   rw [hfalse] at this; simp at this
  obtain ⟨new, hnew⟩ := ht.hext (k := 0) k (by omega) hnoeff
  rw [Nat.zero_add, ht.zero] at hnew
  have hR' : RelW ι σ W.drew := hR.toDrew
  refine ⟨k, e, fun j o _ hjl => by rw [hfalse] at hjl; simp at hjl, hE, rfl, fun i I d _ hl => by rw [hfalse] at hl; simp at hl, fun t _ => rfl, h2, fun i I hi hik hie => h3 i I hi (by omega) hik hie, h4, by rw [hnew]; exact hR'.behind hD, fun b p hb => .inl (hD b p hb), ⟨rfl, rfl, rfl, Nat.le_refl _⟩, .refl ι, fun c _ _ => rfl, fun b p hb hn => by rw [hb] at hn; simp at hn, fun b hb hm => ?_, fun b hb hm => ?_, rfl⟩
  ·obtain ⟨y, hy, hym⟩ := hm
   rw [hnew, List.getElem?_append_left hb] at hy
   exact ⟨y, hy, hym⟩
  ·obtain ⟨y, hy, hym⟩ := hm
   rw [hnew, List.getElem?_append_left hb] at hy
   exact ⟨y, hy, hym⟩
end Go.Am
namespace Go.Am
open Go
theorem RelW.kill [Bas] {ι : Inj} {σ : Heap} {W : World} (h : RelW ι σ W) (b : Nat) : RelW ι (σ.set b .dead) W := by
 have hk : ∀ (c : Nat) (x : Blk), (σ.set b .dead)[c]? = some x → x = Blk.dead ∨ σ[c]? = some x := fun c x hx => by
  by_cases e : b = c
  ·subst e
   by_cases hl : b < σ.length
   ·rw [List.getElem?_set_self hl] at hx; injection hx with hx; exact .inl hx.symm
   ·rw [List.getElem?_eq_none (by simpa using hl)] at hx; cases hx
  ·rw [List.getElem?_set_ne e] at hx; exact .inr hx
 refine ⟨h.lt, fun c p x hc hx => ?_, fun b1 b2 p1 p2 e1 e2 hne ⟨x, hx, hm⟩ ⟨y, hy, hl⟩ => ?_, fun c p hc ⟨x, hx, hm⟩ => ?_, h.bsz, h.bas⟩
 case refine_3 =>
  rcases hk c x hx with rfl | hx
  ·cases hm
  ·exact h.gap c p hc ⟨x, hx, hm⟩
 ·rcases hk c x hx with rfl | hx
  ·trivial
  ·exact h.blk c p x hc hx
 ·rcases hk b1 x hx with rfl | hx
  ·cases hm
  ·rcases hk b2 y hy with rfl | hy
   ·cases hl
   ·exact h.sep b1 b2 p1 p2 e1 e2 hne ⟨x, hx, hm⟩ ⟨y, hy, hl⟩
theorem QPost.kill [Bas] {ι ι' : Inj} {σ : Heap} {W W' : World} {B : Blk} (h : QPost ι σ W ι' (σ ++ [B]) W') : QPost ι σ W ι' (σ ++ [.dead]) W' := by
 have e : (σ ++ [B]).set σ.length .dead = σ ++ [.dead] := by simp
 exact ⟨h.same, h.ext, by rw [← e]; exact h.rel.kill _, ⟨[.dead], rfl⟩, h.frame, fun b p hb hn => by simpa using h.fresh b p hb hn⟩
structure Cell (W0 W : World) (ι : Inj) (b n : Nat) (p : Place) : Prop where
 here : ι b = some p
 size : p.n = n
 own : Own .var W p
 new : W0.heap.size ≤ p.c
 apart : ∀ b' p', ι b' = some p' → b' ≠ b → p'.c ≠ p.c
def Cells (W : World) (p : Place) (n : Nat) (g : Nat → S) : Prop := ∀ q, q < n → W.cell? ⟨p.c, p.base + q, none⟩ = some (g q).val
theorem RelW.revive [Bas] {ι : Inj} {σ : Heap} {W W0 : World} {b n : Nat} {p : Place} {g : Nat → S} (h : RelW ι σ W) (hc : Cell W0 W ι b n p) (hg : Cells W p n g) (h0 : Bas.w.heap.size ≤ W0.heap.size) : RelW ι (σ.set b (.sc .var n g)) W := by
 have hk : ∀ c x, (σ.set b (.sc .var n g))[c]? = some x → (c = b ∧ x = .sc .var n g) ∨ (c ≠ b ∧ σ[c]? = some x) := fun c x hx => by
  by_cases e : b = c
  ·subst e
   by_cases hl : b < σ.length
   ·rw [List.getElem?_set_self hl] at hx; injection hx with hx; exact .inl ⟨rfl, hx.symm⟩
   ·rw [List.getElem?_eq_none (by simpa using hl)] at hx; cases hx
  ·rw [List.getElem?_set_ne e] at hx; exact .inr ⟨Ne.symm e, hx⟩
 refine ⟨h.lt, fun c q x hq hx => ?_, fun b1 b2 p1 p2 e1 e2 hne ⟨x, hx, hm⟩ ⟨y, hy, hl⟩ => ?_, fun c q hq ⟨x, hx, hm⟩ => ?_, h.bsz, h.bas⟩
 case refine_3 =>
  rcases hk c x hx with ⟨rfl, rfl⟩ | ⟨_, hx⟩
  ·have := hc.here
   rw [hq] at this
   injection this with this
   subst this
   exact Nat.le_trans h0 hc.new
  ·exact h.gap c q hq ⟨x, hx, hm⟩
 ·rcases hk c x hx with ⟨rfl, rfl⟩ | ⟨_, hx⟩
  ·have := hc.here
   rw [hq] at this
   injection this with this
   subst this
   exact ⟨hc.size.symm, hg, hc.own⟩
  ·exact h.blk c q x hq hx
 ·by_cases f1 : b1 = b
  ·subst f1
   have := hc.here
   rw [e1] at this
   injection this with this
   subst this
   exact (hc.apart b2 p2 e2 (Ne.symm hne)).symm
  ·by_cases f2 : b2 = b
   ·subst f2
    have := hc.here
    rw [e2] at this
    injection this with this
    subst this
    exact hc.apart b1 p1 e1 hne
   ·rcases hk b1 x hx with ⟨q, _⟩ | ⟨_, hx⟩
    ·exact absurd q f1
    ·rcases hk b2 y hy with ⟨q, _⟩ | ⟨_, hy⟩
     ·exact absurd q f2
     ·exact h.sep b1 b2 p1 p2 e1 e2 hne ⟨x, hx, hm⟩ ⟨y, hy, hl⟩
theorem Own.keep {W W' : World} {p : Place} (h : Own .var W p) (e : W'.heap[p.c]? = W.heap[p.c]?) : Own .var W' p := fun hm => by
 obtain ⟨h1, h2, cs, T, h3, h4⟩ := h hm
 exact ⟨h1, h2, cs, T, by rw [e]; exact h3, h4⟩
theorem Cells.keep {W W' : World} {p : Place} {n : Nat} {g : Nat → S} (h : Cells W p n g) (e : W'.heap[p.c]? = W.heap[p.c]?) : Cells W' p n g := fun q hq => by
 have : W'.cell? ⟨p.c, p.base + q, none⟩ = W.cell? ⟨p.c, p.base + q, none⟩ := by simp [World.cell?, e]
 rw [this]; exact h q hq
theorem Cell.keep {W0 W W' : World} {ι ι' : Inj} {b n : Nat} {p : Place} (h : Cell W0 W ι b n p) (e : W'.heap[p.c]? = W.heap[p.c]?) (hx : Ext ι ι') (hf : ∀ b' p', ι' b' = some p' → ι b' = none → p'.c ≠ p.c) : Cell W0 W' ι' b n p :=
 ⟨hx _ _ h.here, h.size, h.own.keep e, h.new, fun b' p' hb hne => by
  cases hn : ι b' with
  | none => exact hf b' p' hb hn
  | some q =>
   have := hx _ _ hn
   rw [hb] at this
   injection this with this
   subst this
   exact h.apart b' p' hn hne⟩
theorem allocOf_spec {d n : Nat} : ∀ {l : List I} {k i : Nat}, allocOf d n (l.zipIdx k) = some i → k ≤ i ∧ ∃ z, l[i - k]? = some ⟨some d, none, .h (.alloc z)⟩ ∧ z.size = n ∧ z.isSc = true
 | [], _, _, h => by simp [allocOf] at h
 | y :: l, k, i, h => by
  have rec_ : allocOf d n (l.zipIdx (k + 1)) = some i → k ≤ i ∧ ∃ z, (y :: l)[i - k]? = some ⟨some d, none, .h (.alloc z)⟩ ∧ z.size = n ∧ z.isSc = true := fun h => by
   obtain ⟨h1, z, h2, h3⟩ := allocOf_spec h
   refine ⟨by omega, z, ?_, h3⟩
   rw [show i - k = (i - (k + 1)) + 1 by omega]
   simpa using h2
  rw [List.zipIdx_cons] at h
  unfold allocOf at h
  split at h
  ·cases h
  ·rename_i d' z' k' r' heq
   injection heq with h1 h2
   injection h1 with h3 h4
   subst h3; subst h4; subst h2
   split at h
   ·rename_i hc
    injection h with h
    subst h
    exact ⟨Nat.le_refl _, z', by simp [hc.1], hc.2.1, hc.2.2⟩
   ·exact rec_ h
  ·rename_i heq
   injection heq with h1 h2
   subst h2
   exact rec_ h
theorem iniPrs_spec {is : List I} : ∀ {l : List I} {k : Nat} {r : Pr}, r ∈ iniPrs (is.zipIdx 0) (l.zipIdx k) → k ≤ r.j ∧ l[r.j - k]? = some ⟨none, none, .h (.store r.n (.t r.d) r.x)⟩ ∧ ∃ z, is[r.i]? = some ⟨some r.d, none, .h (.alloc z)⟩ ∧ z.size = r.n ∧ z.isSc = true
 | [], _, _, h => by simp [iniPrs] at h
 | y :: l, k, r, h => by
  have rec_ : r ∈ iniPrs (is.zipIdx 0) (l.zipIdx (k + 1)) → k ≤ r.j ∧ (y :: l)[r.j - k]? = some ⟨none, none, .h (.store r.n (.t r.d) r.x)⟩ ∧ ∃ z, is[r.i]? = some ⟨some r.d, none, .h (.alloc z)⟩ ∧ z.size = r.n ∧ z.isSc = true := fun h => by
   obtain ⟨h1, h2, h3⟩ := iniPrs_spec h
   refine ⟨by omega, ?_, h3⟩
   rw [show r.j - k = (r.j - (k + 1)) + 1 by omega]
   simpa using h2
  rw [List.zipIdx_cons] at h
  unfold iniPrs at h
  split at h
  ·cases h
  ·rename_i n d x j r' heq
   injection heq with h1 h2
   injection h1 with h3 h4
   subst h3; subst h4; subst h2
   split at h
   ·rename_i i hi
    rcases List.mem_cons.1 h with rfl | h
    ·obtain ⟨_, z, hz1, hz2⟩ := allocOf_spec hi
     exact ⟨Nat.le_refl _, by simp, z, by simpa using hz1, hz2⟩
    ·exact rec_ h
   ·exact rec_ h
  ·rename_i heq
   injection heq with h1 h2
   subst h2
   exact rec_ h
theorem parOne0_spec {m : List Nat} {i : Nat} {x : I} : ∀ {r : List I} {k : Nat}, parOne0 m i x (r.zipIdx k) = true → ∀ (j : Nat) y, r[j]? = some y → ((m.getD (k + j) 0).testBit i = true ∨ tmpFree x y = true) ∧ ¬ (x.dst.isSome = true ∧ x.dst = y.dst)
 | [], k, _, j, y, hj => by simp at hj
 | z :: r, k, h, j, y, hj => by
  rw [List.zipIdx_cons] at h
  simp only [parOne0, Bool.and_eq_true, Bool.or_eq_true, Bool.not_eq_true', Bool.and_eq_false_iff] at h
  cases j with
  | zero =>
   simp at hj
   subst hj
   refine ⟨h.1.1, fun ⟨h1, h2⟩ => ?_⟩
   rcases h.1.2 with h3 | h3
   ·rw [h1] at h3; simp at h3
   ·rw [h2] at h3; simp at h3
  | succ j =>
   simp at hj
   have := parOne0_spec h.2 j y hj
   rwa [show k + 1 + j = k + (j + 1) by omega] at this
theorem parAll0_spec {m : List Nat} : ∀ {r : List I} {k : Nat}, parAll0 m (r.zipIdx k) = true → ∀ (i j : Nat) x y, i < j → r[i]? = some x → r[j]? = some y → ((m.getD (k + j) 0).testBit (k + i) = true ∨ tmpFree x y = true) ∧ ¬ (x.dst.isSome = true ∧ x.dst = y.dst)
 | [], k, _, i, j, x, y, _, hi, _ => by simp at hi
 | z :: r, k, h, i, j, x, y, hij, hi, hj => by
  rw [List.zipIdx_cons] at h
  simp only [parAll0, Bool.and_eq_true] at h
  obtain ⟨j, rfl⟩ : ∃ j', j = j' + 1 := ⟨j - 1, by omega⟩
  simp at hj
  cases i with
  | zero =>
   simp at hi
   subst hi
   have := parOne0_spec h.1 j y hj
   rwa [show k + 1 + j = k + (j + 1) by omega] at this
  | succ i =>
   simp at hi
   have := parAll0_spec h.2 i j x y (by omega) hi hj
   rwa [show k + 1 + j = k + (j + 1) by omega, show k + 1 + i = k + (i + 1) by omega] at this
theorem distinct_spec {α : Type} {f : α → Nat} : ∀ {l : List α}, distinct (l.map f) = true → ∀ {x y : α}, x ∈ l → y ∈ l → f x = f y → x = y
 | [], _, x, y, hx, _, _ => by cases hx
 | z :: l, h, x, y, hx, hy, e => by
  simp only [List.map_cons, distinct, Bool.and_eq_true, Bool.not_eq_true'] at h
  have hz : ∀ w, w ∈ l → f w ≠ f z := fun w hw he => by
   have : (l.map f).contains (f z) = true := by rw [← he]; simp only [List.contains_iff_mem]; exact List.mem_map.2 ⟨w, hw, rfl⟩
   rw [this] at h
   simp at h
  rcases List.mem_cons.1 hx with q | hx2
  ·rcases List.mem_cons.1 hy with p | hy2
   ·rw [q, p]
   ·rw [q] at e; exact absurd e.symm (hz y hy2)
  ·rcases List.mem_cons.1 hy with p | hy2
   ·rw [p] at e; exact absurd e (hz x hx2)
   ·exact distinct_spec h.2 hx2 hy2 e
structure IniH (prs : List Pr) (is l1 : List I) : Prop where
 len : l1.length = is.length
 role : ∀ (j : Nat) X0, is[j]? = some X0 → (∃ r ∈ prs, r.i = j ∧ (∃ z g, X0 = ⟨some r.d, none, .h (.alloc z)⟩ ∧ z.blk = .sc .var r.n g ∧ z.size = r.n) ∧ l1[j]? = some ⟨some r.d, none, .h (.allocd r.n)⟩) ∨
  (∃ r ∈ prs, r.j = j ∧ X0 = ⟨none, none, .h (.store r.n (.t r.d) r.x)⟩ ∧ l1[j]? = some ⟨none, none, .h (.init0 r.n (.t r.d) r.x)⟩) ∨ (X0.ins.kd ≠ .eff ∧ l1[j]? = some X0 ∧ ∀ r ∈ prs, r.i ≠ j ∧ r.j ≠ j)
 pair : ∀ r ∈ prs, r.i < r.j ∧ l1[r.i]? = some ⟨some r.d, none, .h (.allocd r.n)⟩ ∧ l1[r.j]? = some ⟨none, none, .h (.init0 r.n (.t r.d) r.x)⟩
 ui : ∀ r ∈ prs, ∀ r' ∈ prs, r.i = r'.i → r = r'
 uj : ∀ r ∈ prs, ∀ r' ∈ prs, r.j = r'.j → r = r'
 ij : ∀ r ∈ prs, ∀ r' ∈ prs, r.i ≠ r'.j
 later : ∀ r ∈ prs, ∀ (k : Nat) Y, l1[k]? = some Y → r.j ≤ k → ∀ s, r.x = .t s → Y.dst ≠ some s
theorem isSc_spec {z : Z} (h : z.isSc = true) : ∃ g, z.blk = .sc .var z.size g := by
 cases z with
 | ints n => exact ⟨_, rfl⟩
 | scl l => exact ⟨_, rfl⟩
 | vl l => simp [Z.isSc, Z.blk] at h
 | one v => cases v with
  | s x => exact ⟨_, rfl⟩
  | _ => simp [Z.isSc, Z.blk] at h
theorem iniH_of {m : List Nat} {is : List I} (h : iniOK m (iniPrs is.zipIdx is.zipIdx) is = true) : IniH (iniPrs is.zipIdx is.zipIdx) is (iniL (iniPrs is.zipIdx is.zipIdx) is) ∧ parAll0 m (iniL (iniPrs is.zipIdx is.zipIdx) is).zipIdx = true := by
 have hs : ∀ r, r ∈ iniPrs is.zipIdx is.zipIdx → is[r.j]? = some ⟨none, none, .h (.store r.n (.t r.d) r.x)⟩ ∧ ∃ z, is[r.i]? = some ⟨some r.d, none, .h (.alloc z)⟩ ∧ z.size = r.n ∧ z.isSc = true := fun r hr => by
  obtain ⟨_, h1, h2⟩ := iniPrs_spec (k := 0) hr
  exact ⟨by simpa using h1, h2⟩
 revert h hs
 generalize iniPrs is.zipIdx is.zipIdx = prs
 intro h hs
 unfold iniOK at h
 simp only [Bool.and_eq_true] at h
 obtain ⟨⟨⟨⟨h1, h2⟩, h3⟩, h4⟩, h5⟩ := h
 have hui : ∀ r ∈ prs, ∀ r' ∈ prs, r.i = r'.i → r = r' := fun r hr r' hr' e => distinct_spec (f := Pr.i) h4 hr hr' e
 have huj : ∀ r ∈ prs, ∀ r' ∈ prs, r.j = r'.j → r = r' := fun r hr r' hr' e => distinct_spec (f := Pr.j) h5 hr hr' e
 have hij : ∀ r ∈ prs, ∀ r' ∈ prs, r.i ≠ r'.j := fun r hr r' hr' e => by
  have a := (hs r' hr').1
  obtain ⟨z, b, _⟩ := (hs r hr).2
  rw [← e, b] at a
  injection a with a
  injection a with a _ _
  cases a
 have hlen : (iniL prs is).length = is.length := by simp [iniL]
 have hat : ∀ (j : Nat), (iniL prs is)[j]? = (is[j]?).map fun y => iniI prs y j := fun j => by
  simp [iniL, List.getElem?_map, List.getElem?_zipIdx, Option.map_map, Function.comp_def]
 have hfi : ∀ r ∈ prs, ∀ y, iniI prs y r.i = ⟨some r.d, none, .h (.allocd r.n)⟩ := fun r hr y => by
  unfold iniI
  cases hf : prs.find? (fun p => p.i == r.i) with
  | none =>
   have := List.find?_eq_none.1 hf r hr
   simp at this
  | some p =>
   have e := List.find?_some hf
   have hp := List.mem_of_find?_eq_some hf
   have := hui p hp r hr (by simpa using e)
   subst this
   rfl
 have hfj : ∀ r ∈ prs, ∀ y, iniI prs y r.j = ⟨none, none, .h (.init0 r.n (.t r.d) r.x)⟩ := fun r hr y => by
  unfold iniI
  cases hf : prs.find? (fun p => p.i == r.j) with
  | some p =>
   have e := List.find?_some hf
   have hp := List.mem_of_find?_eq_some hf
   exact absurd (by simpa using e) (hij p hp r hr)
  | none =>
   simp only
   cases hg : prs.find? (fun p => p.j == r.j) with
   | none =>
    have := List.find?_eq_none.1 hg r hr
    simp at this
   | some p =>
    have e := List.find?_some hg
    have hp := List.mem_of_find?_eq_some hg
    have := huj p hp r hr (by simpa using e)
    subst this
    rfl
 refine ⟨⟨hlen, fun j X0 hX => ?_, fun r hr => ?_, hui, huj, hij, fun r hr k Y hY hk s hsx => ?_⟩, h1⟩
 ·by_cases c1 : ∃ r ∈ prs, r.i = j
  ·obtain ⟨r, hr, rfl⟩ := c1
   obtain ⟨z, a, b, c⟩ := (hs r hr).2
   rw [hX] at a
   injection a with a
   subst a
   obtain ⟨g, hg⟩ := isSc_spec c
   rw [b] at hg
   exact .inl ⟨r, hr, rfl, ⟨z, g, rfl, hg, b⟩, by rw [hat, hX, Option.map_some, hfi r hr]⟩
  ·by_cases c2 : ∃ r ∈ prs, r.j = j
   ·obtain ⟨r, hr, rfl⟩ := c2
    have a := (hs r hr).1
    rw [hX] at a
    injection a with a
    subst a
    exact .inr (.inl ⟨r, hr, rfl, rfl, by rw [hat, hX, Option.map_some, hfj r hr]⟩)
   ·have n1 : ∀ r ∈ prs, r.i ≠ j ∧ r.j ≠ j := fun r hr => ⟨fun e => c1 ⟨r, hr, e⟩, fun e => c2 ⟨r, hr, e⟩⟩
    refine .inr (.inr ⟨fun hk => ?_, ?_, n1⟩)
    ·rw [List.all_eq_true] at h2
     have := h2 (X0, j) (by rw [List.mem_zipIdx_iff_getElem?]; exact hX)
     simp only [Bool.or_eq_true, Bool.not_eq_true', List.any_eq_true] at this
     rcases this with this | ⟨p, hp, e⟩
     ·unfold isEff at this
      rw [hk] at this
      cases this
     ·exact (n1 p hp).2 (by simpa using e)
    ·rw [hat, hX, Option.map_some]
     unfold iniI
     have e1 : prs.find? (fun p => p.i == j) = none := List.find?_eq_none.2 fun p hp => by simpa using (n1 p hp).1
     have e2 : prs.find? (fun p => p.j == j) = none := List.find?_eq_none.2 fun p hp => by simpa using (n1 p hp).2
     rw [e1, e2]
 ·rw [List.all_eq_true] at h3
  have := h3 r hr
  simp only [Bool.and_eq_true] at this
  obtain ⟨z, a, _⟩ := (hs r hr).2
  exact ⟨Nat.le_of_ble_eq_true this.1, by rw [hat, a, Option.map_some, hfi r hr], by rw [hat, (hs r hr).1, Option.map_some, hfj r hr]⟩
 ·rw [List.all_eq_true] at h3
  have := h3 r hr
  simp only [Bool.and_eq_true] at this
  have h6 := this.2
  unfold laterOK at h6
  rw [hsx] at h6
  simp only [List.all_eq_true, Bool.or_eq_true, Bool.not_eq_true'] at h6
  rcases h6 (Y, k) (by rw [List.mem_zipIdx_iff_getElem?]; exact hY) with h7 | h7
  ·have : k + 1 ≤ r.j := Nat.le_of_ble_eq_true h7
   omega
  ·intro e
   rw [e] at h7
   simp at h7
end Go.Am
namespace Go.Am
open Go
structure Inv2 [Bas] (prs : List Pr) (is : List I) (L : List Oper) (e0 : Env) (σ0 : Heap) (ι0 : Inj) (W0 : World) (d0 : List Deferred) (tr : Nat → Env × Heap) (lst : Nat → Bool) (a : Act) (W : World) (ι : Inj) (es : Env) : Prop where
 closed : Closed L lst
 env : EnvR ι es a.tmps
 elen : es.length = e0.length
 w1 : ∀ (i : Nat) I d, is[i]? = some I → lst i = true → I.dst = some d → es.getD d .undef = (tr (i + 1)).1.getD d .undef
 w2 : ∀ t, (∀ (i : Nat) I, is[i]? = some I → lst i = true → I.dst ≠ some t) → es.getD t .undef = e0.getD t .undef
 rel : RelW ι (tr is.length).2 W
 dom : ∀ b p, ι b = some p → b < σ0.length ∨ ∃ i, i < is.length ∧ lst i = true ∧ (tr i).2.length ≤ b ∧ b < (tr (i + 1)).2.length
 same : Same W0 W
 ext : Ext ι0 ι
 frame : ∀ c, c < W0.heap.size → (∀ b p, ι0 b = some p → mutb σ0 b → p.c ≠ c) → W.heap[c]? = W0.heap[c]?
 fresh : ∀ b p, ι b = some p → ι0 b = none → σ0.length ≤ b ∧ W0.heap.size ≤ p.c
 defers : a.defers = d0
 cells : ∀ r ∈ prs, lst r.i = true → ∃ p, Cell W0 W ι (tr r.i).2.length r.n p ∧ (∃ g, Cells W p r.n g) ∧ (lst r.j = true → ∀ g, (r.x.ev (tr r.j).1).scells r.n = some g → Cells W p r.n g)
 b0 : Bas.w.heap.size ≤ W0.heap.size
section
variable {P : Program} {run : Runner} {ops : Array Oper} {is l1 : List I} {prs : List Pr} {e0 : Env} {σ0 : Heap} {ι0 : Inj} {W0 : World} {d0 : List Deferred} {tr : Nat → Env × Heap}
theorem ini_ext (hH : IniH prs is l1) (ht : Tr run l1 e0 σ0 tr) {k : Nat} : ∀ j, k + j ≤ l1.length → ∃ new, (tr (k + j)).2 = (tr k).2 ++ new
 | 0, _ => ⟨[], by simp⟩
 | j + 1, hj => by
  obtain ⟨new, hnew⟩ := ini_ext hH ht (k := k) j (by omega)
  have hlen := hH.len
  have hY := List.getElem?_eq_getElem (show k + j < l1.length by omega)
  obtain ⟨x, hx, _⟩ := ht.step (k + j) _ hY
  have hone : ∃ m, (tr (k + j + 1)).2 = (tr (k + j)).2 ++ m := by
   rcases hH.role (k + j) _ (List.getElem?_eq_getElem (show k + j < is.length by omega)) with ⟨r, _, _, _, h2⟩ | ⟨r, _, _, _, h2⟩ | ⟨h1, h2, _⟩
   ·rw [hY] at h2
    injection h2 with h2
    rw [h2] at hx
    simp only [stepV, insV, heapV, Option.some.injEq, Prod.mk.injEq] at hx
    exact ⟨_, hx.2.symm⟩
   ·rw [hY] at h2
    injection h2 with h2
    rw [h2] at hx
    simp only [stepV, insV, heapV] at hx
    split at hx
    ·split at hx
     ·injection hx with hx; injection hx with h3 h4
      exact ⟨[], by rw [← h4]; simp⟩
     ·cases hx
    ·cases hx
   ·rw [hY] at h2
    injection h2 with h2
    rw [h2] at hx
    exact stepV_ext h1 hx
  obtain ⟨m, hm⟩ := hone
  exact ⟨new ++ m, by rw [← Nat.add_assoc, hm, hnew, List.append_assoc]⟩
set_option maxHeartbeats 2000000 in
theorem ini_step [Bas] (hrun : RunOK P run) (hedge : edgesOK (ops.toList.zipIdx 0) = true) (hH : IniH prs is l1) (hpar : parAll0 (bmasks ops.toList []) (l1.zipIdx 0) = true) (hcl : is.length = ops.toList.length) (hcomp : ∀ (j : Nat) o, ops.toList[j]? = some o → ∃ q i, is[j]? = some i ∧ compI P ops.toList q o = some i)
   (hD0 : Dom ι0 σ0) (ht : Tr run l1 e0 σ0 tr) {lst lst' : Nat → Bool} {a : Act} {W : World} {ι : Inj} {es : Env} (hI : Inv2 prs l1 ops.toList e0 σ0 ι0 W0 d0 tr lst a W ι es)
   {i : Nat} {o : Oper} (hio : ops[i]? = some o) (hil : lst i = false) (hready : ∀ e ∈ o.after.toList, Region.binds .any e = true → lst e.on = true) (hlst : lst' i = true) (hlst' : ∀ j, j ≠ i → lst' j = lst j)
   {K : Act → World → Prop} {Q : Exit → Act → World → Prop} (hK : ∀ a' W' ι' es', Inv2 prs l1 ops.toList e0 σ0 ι0 W0 d0 tr lst' a' W' ι' es' → K a' W') :
   (if Region.wanted o (yielded ops a.tmps) then o.wp P a W K Q else K (a.put o.dst Go.undef) W) := by
 have hio' : ops.toList[i]? = some o := by simpa using hio
 obtain ⟨q, X0, hX0, hcI⟩ := hcomp i o hio'
 have hlen := hH.len
 have hin : i < l1.length := by
   rcases Nat.lt_or_ge i is.length with h | h
   ·omega
   ·rw [List.getElem?_eq_none h] at hX0; simp at hX0
 obtain ⟨X, hX⟩ : ∃ X, l1[i]? = some X := ⟨_, List.getElem?_eq_getElem hin⟩
 have hXX : X.dst = X0.dst := by
   rcases hH.role i X0 hX0 with ⟨r, _, _, ⟨z, g, h1, _⟩, h2⟩ | ⟨r, _, _, h1, h2⟩ | ⟨_, h2, _⟩
   ·rw [hX] at h2; injection h2 with h2; rw [h1, h2]
   ·rw [hX] at h2; injection h2 with h2; rw [h1, h2]
   ·rw [hX] at h2; injection h2 with h2; rw [h2]
 have hXd : X.dst = o.dst := hXX.trans (compI_parts hcI).1
 obtain ⟨x, hx, hxe⟩ := ht.step i X hX
 have hmask : ∀ j, ((bmasks ops.toList []).getD i 0).testBit j = true → lst j = true := closed_mask hedge hI.closed i i o (Nat.le_refl _) hio' hready
 have hmaskl : ∀ (j : Nat), lst j = true → j < l1.length → ∀ j', ((bmasks ops.toList []).getD j 0).testBit j' = true → lst j' = true := by
   intro j hj hjl j' hb
   have hoj := List.getElem?_eq_getElem (show j < ops.toList.length by omega)
   exact closed_mask hedge hI.closed j j _ (Nat.le_refl _) hoj (hI.closed j _ hoj hj) j' hb
 have hpair : ∀ (i j : Nat) x y, i < j → l1[i]? = some x → l1[j]? = some y → (((bmasks ops.toList []).getD j 0).testBit i = true ∨ tmpFree x y = true) ∧ ¬ (x.dst.isSome = true ∧ x.dst = y.dst) := by
   intro i j x y hij hi hj
   have := parAll0_spec hpar i j x y hij hi hj
   simpa only [Nat.zero_add] using this
 have huniq : ∀ (j j' : Nat) Y Y' d, l1[j]? = some Y → l1[j']? = some Y' → Y.dst = some d → Y'.dst = some d → j = j' := by
   intro j j' Y Y' d h1 h2 h3 h4
   rcases Nat.lt_trichotomy j j' with h | h | h
   ·exact absurd ⟨by rw [h3]; rfl, by rw [h3, h4]⟩ (hpair j j' Y Y' h h1 h2).2
   ·exact h
   ·exact absurd ⟨by rw [h4]; rfl, by rw [h3, h4]⟩ (hpair j' j Y' Y h h2 h1).2
 have hagree : Agree X.reads (tr i).1 es := by
   intro t htr
   by_cases hex : ∃ (j : Nat) (Y : I), l1[j]? = some Y ∧ lst j = true ∧ Y.dst = some t
   ·obtain ⟨j, Y, hj, hjl, hjd⟩ := hex
    rw [hI.w1 j Y t hj hjl hjd]
    have hjn : j < l1.length := by
     rcases Nat.lt_or_ge j l1.length with h | h
     ·exact h
     ·rw [List.getElem?_eq_none h] at hj; simp at hj
    rcases Nat.lt_trichotomy j i with h | h | h
    ·have := ht.same (k := j + 1) (t := t) (i - (j + 1)) (by omega) (fun i' Y' hi' g1 g2 hd => by
      have := huniq j i' Y Y' t hj hi' hjd hd
      omega)
     rw [show j + 1 + (i - (j + 1)) = i by omega] at this
     exact this
    ·subst h; rw [hil] at hjl; simp at hjl
    ·rcases (hpair i j X Y h hX hj).1 with hb | hf
     ·have := hmaskl j hjl hjn i hb
      rw [hil] at this; simp at this
     ·exact absurd htr ((tmpFree_spec hf).2 t hjd)
   ·rw [hI.w2 t (fun j Y h1 h2 h3 => hex ⟨j, Y, h1, h2, h3⟩)]
    have := ht.same (k := 0) (t := t) i (by omega) (fun i' Y' hi' g1 g2 hd => by
     rw [Nat.zero_add] at g2
     rcases (hpair i' i Y' X g2 hi' hX).1 with hb | hf
     ·exact hex ⟨i', Y', hi', hmask i' hb, hd⟩
     ·exact absurd htr ((tmpFree_spec hf).1 t hd).1)
    rw [Nat.zero_add, ht.zero] at this
    exact this
 have hx' : stepV run X es (tr i).2 = some (x, (tr (i + 1)).2) := by rw [← stepV_agree _ hagree]; exact hx
 have hclosed' : Closed ops.toList lst' := by
   intro j oj hj hjl e he hb
   have hw : lst e.on = true := by
    by_cases hji : j = i
    ·subst hji
     rw [hio'] at hj
     injection hj with hj
     subst hj
     exact hready e he hb
    ·rw [hlst' j hji] at hjl
     exact hI.closed j oj hj hjl e he hb
   by_cases hei : e.on = i
   ·rw [hei]; exact hlst
   ·rw [hlst' _ hei]; exact hw
 have helen : (tr i).1.length = e0.length := ht.elen i (by omega)
 have hw1 : ∀ (j : Nat) Y d, l1[j]? = some Y → lst' j = true → Y.dst = some d → (putT es X.dst x).getD d .undef = (tr (j + 1)).1.getD d .undef := by
   intro j Y d hj hjl hjd
   by_cases hji : j = i
   ·subst hji
    rw [hX] at hj
    injection hj with hj
    subst hj
    rw [hxe, hjd]
    exact putT_same (by rw [hI.elen, helen])
   ·rw [hlst' j hji] at hjl
    rw [putT_other (fun hd => hji (huniq j i Y X d hj hX hjd hd))]
    exact hI.w1 j Y d hj hjl hjd
 have hw2 : ∀ t, (∀ (j : Nat) Y, l1[j]? = some Y → lst' j = true → Y.dst ≠ some t) → (putT es X.dst x).getD t .undef = e0.getD t .undef := by
   intro t h
   rw [putT_other (h i X hX hlst)]
   refine hI.w2 t (fun j Y hj hjl => ?_)
   have hji : j ≠ i := fun e => by subst e; rw [hil] at hjl; simp at hjl
   exact h j Y hj (by rw [hlst' j hji]; exact hjl)
 have hdom' : ∀ b p, ι b = some p → b < σ0.length ∨ ∃ j, j < l1.length ∧ lst' j = true ∧ (tr j).2.length ≤ b ∧ b < (tr (j + 1)).2.length := by
   intro b p hb
   rcases hI.dom b p hb with h | ⟨j, h1, h2, h3⟩
   ·exact .inl h
   ·have hji : j ≠ i := fun e => by subst e; rw [hil] at h2; simp at h2
    exact .inr ⟨j, h1, by rw [hlst' j hji]; exact h2, h3⟩
 have h0le : ∀ j, j ≤ l1.length → σ0.length ≤ (tr j).2.length := fun j hj => by
   have := ht.hle (k := 0) (k' := j) (by omega) hj
   rwa [ht.zero] at this
 have hset0 : ∀ (b : Nat) (p : Place), ι b = some p → (tr i).2.length ≤ b → b < (tr (i + 1)).2.length → False := by
   intro b p hb h1 h2
   rcases hI.dom b p hb with h | ⟨j, g1, g2, g3, g4⟩
   ·have := h0le i (by omega); omega
   ·have hji : j ≠ i := fun e => by subst e; rw [hil] at g2; simp at g2
    rcases Nat.lt_or_gt_of_ne hji with h | h
    ·have := ht.hle (k := j + 1) (k' := i) (by omega) (by omega); omega
    ·have := ht.hle (k := i + 1) (k' := j) (by omega) (by omega); omega
 obtain ⟨n1, hn1⟩ := ini_ext hH ht (k := i) 1 (by omega)
 obtain ⟨n2, hn2⟩ := ini_ext hH ht (k := i + 1) (l1.length - (i + 1)) (by omega)
 rw [show i + 1 + (l1.length - (i + 1)) = l1.length by omega] at hn2
 have hRi : RelW ι (tr i).2 W := by
   have h1 := hI.rel
   rw [hn2] at h1
   have h2 := h1.front
   rw [hn1] at h2
   exact h2.front
 have quietEnd : ∀ v W' ι', VR ι' x v → QPost ι (tr i).2 W ι' (tr (i + 1)).2 W' → (∀ r ∈ prs, r.j ≠ i) → (∀ r ∈ prs, r.i = i → ∃ p, Cell W0 W' ι' (tr r.i).2.length r.n p ∧ ∃ g, Cells W' p r.n g) → K (a.put o.dst v) W' := by
   intro v W' ι' hv hq hnj hnew
   have hnone : ∀ b p, ι' b = some p → ι b = none → ((tr i).2.length ≤ b ∧ b < (tr (i + 1)).2.length) ∧ W.heap.size ≤ p.c := hq.fresh
   refine hK _ W' ι' (putT es X.dst x) ⟨hclosed', ?_, by rw [putT_len, hI.elen], hw1, hw2, ?_, fun b p hb => ?_, hI.same.trans hq.same, hI.ext.trans hq.ext, fun c hc hm => ?_, fun b p hb hn => ?_, by rw [put_defers, hI.defers], fun r hr hri => ?_, hI.b0⟩
   ·rw [hXd]; exact EnvR.put (hI.env.ext hq.ext) o.dst hv
   ·have h1 := hI.rel
    rw [hn2] at h1 ⊢
    exact hq.later h1
   ·cases hn : ι b with
    | some r =>
     have := hq.ext b r hn
     rw [hb] at this
     injection this with this
     subst this
     exact hdom' b p hn
    | none => exact .inr ⟨i, hin, hlst, (hnone b p hb hn).1⟩
   ·rw [hq.frame c (Nat.lt_of_lt_of_le hc hI.same.size), hI.frame c hc hm]
   ·cases hn1 : ι b with
    | some r =>
     have := hq.ext b r hn1
     rw [hb] at this
     injection this with this
     subst this
     exact hI.fresh b p hn1 hn
    | none =>
     have := hnone b p hb hn1
     have h0 := h0le i (by omega)
     have hsz := hI.same.size
     exact ⟨by omega, by omega⟩
   ·have hij := hnj r hr
    by_cases hii : r.i = i
    ·obtain ⟨p, h1, h2⟩ := hnew r hr hii
     refine ⟨p, h1, h2, fun hl => ?_⟩
     rw [hlst' r.j hij] at hl
     have hpr := hH.pair r hr
     rcases (hpair r.i r.j _ _ hpr.1 hpr.2.1 hpr.2.2).1 with hb | hf
     ·have hjn : r.j < l1.length := by
       rcases Nat.lt_or_ge r.j l1.length with h | h
       ·exact h
       ·have := hpr.2.2; rw [List.getElem?_eq_none h] at this; simp at this
      have := hmaskl r.j hl hjn r.i hb
      rw [hii, hil] at this; simp at this
     ·exact absurd (by simp [I.reads, HIns.reads, oT]) ((tmpFree_spec hf).1 r.d rfl).1
    ·rw [hlst' r.i hii] at hri
     obtain ⟨p, h1, ⟨g, h2⟩, h3⟩ := hI.cells r hr hri
     have hlt := hI.rel.lt _ p h1.here
     have hfr := hq.frame p.c hlt
     refine ⟨p, h1.keep hfr hq.ext (fun b' p' hb hn => ?_), ⟨g, h2.keep hfr⟩, fun hl g hg => ?_⟩
     ·have := hnone b' p' hb hn; omega
     ·rw [hlst' r.j hij] at hl
      exact (h3 hl g hg).keep hfr
 rcases hH.role i X0 hX0 with ⟨r, hr, hri, ⟨z, g, h1, hz, hzs⟩, h2⟩ | ⟨r, hr, hrj, h1, h2⟩ | ⟨h1, h2, h3⟩
 ·
   rw [hX] at h2
   injection h2 with h2
   subst h2; subst h1
   have hx2 : x = .ptr (tr i).2.length 0 r.n ∧ (tr (i + 1)).2 = (tr i).2 ++ [.dead] := by
    simp only [stepV, insV, heapV, Option.some.injEq, Prod.mk.injEq] at hx'
    exact ⟨hx'.1.symm, hx'.2.symm⟩
   obtain ⟨hxv, hxh⟩ := hx2
   have hxa : stepV run ⟨some r.d, none, .h (.alloc z)⟩ es (tr i).2 = some (.ptr (tr i).2.length 0 r.n, (tr i).2 ++ [.sc .var r.n g]) := by
    simp only [stepV, insV, heapV, hz, hzs]
   refine step_q hrun hcI (by simp [Ins.kd, HIns.kd]) hI.env hRi hxa (fun b h1 h2 => ?_) (fun v W' ι' hv hq => ?_)
   ·cases hb : ι b with
    | none => rfl
    | some p =>
     refine (hset0 b p hb h1 ?_).elim
     rw [hxh]
     simpa using h2
   ·have hqd : QPost ι (tr i).2 W ι' (tr (i + 1)).2 W' := by rw [hxh]; exact hq.kill
    refine quietEnd v W' ι' (by rw [hxv]; exact hv) hqd (fun r' hr' e => hH.ij r hr r' hr' (hri.trans e.symm)) (fun r' hr' e => ?_)
    have := hH.ui r' hr' r hr (e.trans hri.symm)
    subst this
    simp only [VR] at hv
    obtain ⟨p, hp, _, _⟩ := hv
    have hnn : ι (tr i).2.length = none := by
     cases hb : ι (tr i).2.length with
     | none => rfl
     | some p => exact (hset0 _ p hb (Nat.le_refl _) (by rw [hxh]; simp)).elim
    have hfp := (hq.fresh _ p hp hnn).2
    have hblk := hq.rel.blk (tr i).2.length p (.sc .var r'.n g) hp (by simp)
    rw [hri]
    refine ⟨p, ⟨hp, hblk.1.symm, hblk.2.2, Nat.le_trans hI.same.size hfp, fun b' p' hb' hne => ?_⟩, g, hblk.2.1⟩
    cases hn : ι b' with
    | some q' =>
     have := hq.ext b' q' hn
     rw [hb'] at this
     injection this with this
     subst this
     have := hI.rel.lt b' p' hn
     omega
    | none =>
     have := (hq.fresh b' p' hb' hn).1
     simp at this
     omega
 ·
   rw [hX] at h2
   injection h2 with h2
   subst h2; subst h1
   have hpr := hH.pair r hr
   have hrl : lst r.i = true := by
    rcases (hpair r.i r.j _ _ hpr.1 hpr.2.1 hpr.2.2).1 with hb | hf
    ·rw [hrj] at hb; exact hmask r.i hb
    ·exact absurd (by simp [I.reads, HIns.reads, oT]) ((tmpFree_spec hf).1 r.d rfl).1
   have hril : r.i < l1.length := by have := hpr.1; omega
   obtain ⟨y, hy, hye⟩ := ht.step r.i _ hpr.2.1
   have hdv : es.getD r.d .undef = .ptr (tr r.i).2.length 0 r.n := by
    rw [hI.w1 r.i _ r.d hpr.2.1 hrl rfl, hye]
    simp only [stepV, insV, heapV, Option.some.injEq, Prod.mk.injEq] at hy
    rw [← hy.1]
    have hdl : r.d < (tr r.i).1.length := by
     rcases Nat.lt_or_ge r.d (tr r.i).1.length with h | h
     ·exact h
     ·exfalso
      have e1 : es.getD r.d .undef = .undef := by
       rw [List.getD_eq_getElem?_getD, List.getElem?_eq_none (by rw [hI.elen, ← ht.elen r.i (by omega)]; exact h)]; rfl
      simp only [stepV, insV, heapV] at hx'
      simp only [O.ev, e1] at hx'
      cases hx'
    simp only [putT, List.getD_eq_getElem?_getD, List.getElem?_set_self hdl]
    rfl
   obtain ⟨p, hcell, ⟨g0, hg0⟩, _⟩ := hI.cells r hr hrl
   have hxv : x = .undef ∧ (tr (i + 1)).2 = (tr i).2 ∧ ∃ g, (r.x.ev es).scells r.n = some g ∧ (tr i).2[(tr r.i).2.length]? = some .dead := by
    simp only [stepV, insV, heapV] at hx'
    have : (O.t r.d).ev es = .ptr (tr r.i).2.length 0 r.n := hdv
    rw [this] at hx'
    split at hx'
    ·rename_i b o' z' g heq hg
     injection heq with e1 e2 e3
     subst e1
     split at hx'
     ·rename_i hdead
      injection hx' with hx'
      injection hx' with e4 e5
      exact ⟨e4.symm, e5.symm, g, hg, hdead⟩
     ·cases hx'
    ·cases hx'
   obtain ⟨rfl, hsame, g, hg, hdead⟩ := hxv
   have hDn : (tr l1.length).2[(tr r.i).2.length]? = some .dead := by
    rw [hn2, hsame]
    rw [List.getElem?_append_left]
    ·exact hdead
    ·rcases Nat.lt_or_ge (tr r.i).2.length (tr i).2.length with h | h
     ·exact h
     ·rw [List.getElem?_eq_none h] at hdead; cases hdead
   have hbl : (tr r.i).2.length < (tr l1.length).2.length := by
    rcases Nat.lt_or_ge (tr r.i).2.length (tr l1.length).2.length with h | h
    ·exact h
    ·rw [List.getElem?_eq_none h] at hDn; cases hDn
   have hR1 := hI.rel.revive hcell hg0 hI.b0
   have hDom : Dom ι ((tr l1.length).2.set (tr r.i).2.length (.sc .var r.n g0)) := by
    intro b p' hb
    rw [List.length_set]
    rcases hI.dom b p' hb with h | ⟨j, g1, _, _, g4⟩
    ·have := h0le l1.length (Nat.le_refl _); omega
    ·have := ht.hle (k := j + 1) (k' := l1.length) (by omega) (Nat.le_refl _); omega
   have hstore : stepV run ⟨none, none, .h (.store r.n (.t r.d) r.x)⟩ es ((tr l1.length).2.set (tr r.i).2.length (.sc .var r.n g0)) = some (.undef, ((tr l1.length).2.set (tr r.i).2.length (.sc .var r.n g0)).set (tr r.i).2.length (.sc .var r.n (over g0 0 r.n g))) := by
    have h9 : (O.t r.d).ev es = .ptr (tr r.i).2.length 0 r.n := hdv
    simp only [stepV, insV, heapV, h9, Nat.le_refl, if_true, wrV, List.getElem?_set_self hbl, Md.mut, hg, Option.map_some]
   refine step_e hrun hcI (by simp [Ins.kd, HIns.kd]) hI.env hR1 hDom hstore (fun v W' ι' hv hp => ?_)
   have hιι : ∀ b p', ι' b = some p' → ι b = some p' := fun b p' hb => by
    cases hn : ι b with
    | some q' =>
     have := hp.ext b q' hn
     rw [hb] at this
     rw [this]
    | none =>
     have := (hp.fresh b p' hb hn).1
     simp at this
     omega
   have hrel : RelW ι' (tr l1.length).2 W' := by
    have h9 := hp.rel.kill (tr r.i).2.length
    have e9 : (((tr l1.length).2.set (tr r.i).2.length (.sc .var r.n g0)).set (tr r.i).2.length (.sc .var r.n (over g0 0 r.n g))).set (tr r.i).2.length .dead = (tr l1.length).2 := by
     rw [List.set_set, List.set_set]
     refine List.ext_getElem? fun c => ?_
     by_cases e : (tr r.i).2.length = c
     ·subst e; rw [List.getElem?_set_self hbl, hDn]
     ·rw [List.getElem?_set_ne e]
    rw [e9] at h9
    exact h9
   have hnewc : Cells W' p r.n g := by
    have hb9 := hp.rel.blk (tr r.i).2.length p (.sc .var r.n (over g0 0 r.n g)) (hp.ext _ _ hcell.here) (by simp [hbl])
    intro q' hq'
    rw [hb9.2.1 q' hq']
    unfold over
    rw [show Nat.ble 0 q' = true from Nat.ble_eq_true_of_le (Nat.zero_le _), show Nat.blt q' (0 + r.n) = true from Nat.ble_eq_true_of_le (by omega)]
    rfl
   have hown : Own .var W' p := (hp.rel.blk (tr r.i).2.length p (.sc .var r.n (over g0 0 r.n g)) (hp.ext _ _ hcell.here) (by simp [hbl])).2.2
   have hkeep : ∀ c, c < W.heap.size → c ≠ p.c → (∀ b' p', ι b' = some p' → mutb (tr l1.length).2 b' → p'.c ≠ c) → W'.heap[c]? = W.heap[c]? := fun c hc hne hm => hp.frame c hc fun b' p' hb' ⟨y', hy', hm'⟩ => by
    by_cases e : (tr r.i).2.length = b'
    ·subst e
     rw [hcell.here] at hb'
     injection hb' with hb'
     rw [← hb']
     exact Ne.symm hne
    ·rw [List.getElem?_set_ne e] at hy'
     exact hm b' p' hb' ⟨y', hy', hm'⟩
   have hback : ∀ b, b < σ0.length → ∀ y', (tr l1.length).2[b]? = some y' → σ0[b]? = some y' := fun b hb y' hy' => by
    obtain ⟨nw, hnw⟩ := ini_ext hH ht (k := 0) l1.length (by omega)
    rw [Nat.zero_add, ht.zero] at hnw
    rw [hnw, List.getElem?_append_left hb] at hy'
    exact hy'
   refine hK _ W' ι' (putT es (none : Option Nat) .undef) ⟨hclosed', ?_, hI.elen, hw1, hw2, hrel, fun b p' hb => hdom' b p' (hιι b p' hb), hI.same.trans hp.same, hI.ext.trans hp.ext, fun c hc hm => ?_, fun b p' hb hn => hI.fresh b p' (hιι b p' hb) hn, by rw [put_defers, hI.defers], fun r' hr' hri' => ?_, hI.b0⟩
   ·have h9 := EnvR.put (hI.env.ext hp.ext) (none : Option Nat) hv
    rw [← hXd]
    exact h9
   ·rw [hkeep c (Nat.lt_of_lt_of_le hc hI.same.size) (by have := hcell.new; omega) (fun b' p' hb' ⟨y', hy', hm'⟩ => ?_), hI.frame c hc hm]
    cases hn0 : ι0 b' with
    | some q' =>
     have := hI.ext b' q' hn0
     rw [hb'] at this
     injection this with this
     subst this
     exact hm b' p' hn0 ⟨y', hback b' (hD0 b' p' hn0) y' hy', hm'⟩
    | none => have := (hI.fresh b' p' hb' hn0).2; omega
   ·by_cases hrr : r' = r
    ·subst hrr
     refine ⟨p, ⟨hp.ext _ _ hcell.here, hcell.size, hown, hcell.new, fun b' p' hb' hne => hcell.apart b' p' (hιι b' p' hb') hne⟩, ⟨g, hnewc⟩, fun _ g' hg' => ?_⟩
     have hag : r'.x.ev (tr i).1 = r'.x.ev es := ev_agree fun t htt => hagree t (by simp only [I.reads, HIns.reads]; exact List.mem_append_right _ (List.mem_append_right _ htt))
     rw [hrj, hag, hg] at hg'
     injection hg' with hg'
     rw [← hg']
     exact hnewc
    ·have hii : r'.i ≠ i := fun e => hH.ij r' hr' r hr (e.trans hrj.symm)
     have hjj : r'.j ≠ i := fun e => hrr (hH.uj r' hr' r hr (e.trans hrj.symm))
     rw [hlst' r'.i hii] at hri'
     obtain ⟨p', h1, ⟨g1, h2⟩, h3⟩ := hI.cells r' hr' hri'
     have hbne : (tr r'.i).2.length ≠ (tr r.i).2.length := by
      have hl1 : ∀ (r1 r2 : Pr), r1 ∈ prs → r2 ∈ prs → r1.i < r2.i → (tr r1.i).2.length < (tr r2.i).2.length := fun r1 r2 m1 m2 hlt => by
       have hp1 := hH.pair r1 m1
       have hp2 := hH.pair r2 m2
       obtain ⟨y1, hy1, _⟩ := ht.step r1.i _ hp1.2.1
       simp only [stepV, insV, heapV, Option.some.injEq, Prod.mk.injEq] at hy1
       have e1 : (tr (r1.i + 1)).2.length = (tr r1.i).2.length + 1 := by rw [← hy1.2]; simp
       have hlen2 : r2.i < l1.length := by
        rcases Nat.lt_or_ge r2.i l1.length with h | h
        ·exact h
        ·have := hp2.2.1; rw [List.getElem?_eq_none h] at this; simp at this
       have := ht.hle (k := r1.i + 1) (k' := r2.i) (by omega) (by omega)
       omega
      rcases Nat.lt_trichotomy r'.i r.i with h | h | h
      ·have := hl1 r' r hr' hr h; omega
      ·exact absurd (hH.ui r' hr' r hr h) hrr
      ·have := hl1 r r' hr hr' h; omega
     have hpc : p'.c ≠ p.c := hcell.apart _ p' h1.here hbne
     have hfr : W'.heap[p'.c]? = W.heap[p'.c]? := hkeep p'.c (hI.rel.lt _ _ h1.here) hpc fun b' p2 hb' ⟨y', hy', hm'⟩ => by
      by_cases e : b' = (tr r'.i).2.length
      ·subst e
       have hp1 := hH.pair r' hr'
       obtain ⟨y1, hy1, _⟩ := ht.step r'.i _ hp1.2.1
       simp only [stepV, insV, heapV, Option.some.injEq, Prod.mk.injEq] at hy1
       have hlen2 : r'.i < l1.length := by
        rcases Nat.lt_or_ge r'.i l1.length with h | h
        ·exact h
        ·have := hp1.2.1; rw [List.getElem?_eq_none h] at this; simp at this
       obtain ⟨nw, hnw⟩ := ini_ext hH ht (k := r'.i + 1) (l1.length - (r'.i + 1)) (by omega)
       rw [show r'.i + 1 + (l1.length - (r'.i + 1)) = l1.length by omega, ← hy1.2] at hnw
       rw [hnw, List.append_assoc, List.getElem?_append_right (Nat.le_refl _)] at hy'
       simp at hy'
       subst hy'
       cases hm'
      ·exact h1.apart b' p2 hb' e
     refine ⟨p', h1.keep hfr hp.ext (fun b' p2 hb' hn => ?_), ⟨g1, h2.keep hfr⟩, fun hl g' hg' => ?_⟩
     ·have := hιι b' p2 hb'; rw [hn] at this; cases this
     ·rw [hlst' r'.j hjj] at hl
      exact (h3 hl g' hg').keep hfr
 · rw [hX] at h2
   injection h2 with h2
   subst h2
   refine step_q hrun hcI h1 hI.env hRi hx' (fun b h1 h2 => ?_) (fun v W' ι' hv hq => ?_)
   ·cases hb : ι b with
    | none => rfl
    | some p => exact (hset0 b p hb h1 h2).elim
   ·exact quietEnd v W' ι' hv hq (fun r hr => (h3 r hr).2) (fun r hr e => absurd e (h3 r hr).1)
theorem opsV_append {run : Runner} : ∀ {l l2 : List I} {e : Env} {σ : Heap} {r : Env × Heap}, opsV run (l ++ l2) e σ = some r → ∃ e1 σ1, opsV run l e σ = some (e1, σ1) ∧ opsV run l2 e1 σ1 = some r
 | [], _, e, σ, r, h => ⟨e, σ, rfl, h⟩
 | i :: l, l2, e, σ, r, h => by
  simp only [List.cons_append, opsV, Option.bind_eq_some_iff] at h
  obtain ⟨⟨e1, σ1⟩, h1, h2⟩ := h
  obtain ⟨e2, σ2, h3, h4⟩ := opsV_append h2
  exact ⟨e2, σ2, by simp only [opsV, h1, Option.bind_some]; exact h3, h4⟩
theorem rev_sound [Bas] {ι : Inj} {W0 W : World} {e1 : Env} (hb0 : Bas.w.heap.size ≤ W0.heap.size) : ∀ {l : List Pr} {σ1 : Heap} {e' : Env} {σ' : Heap} (bl : Pr → Nat), (∀ r ∈ l, ∃ p, e1.getD r.d .undef = .ptr (bl r) 0 r.n ∧ Cell W0 W ι (bl r) r.n p ∧ ∀ g, (r.x.ev e1).scells r.n = some g → Cells W p r.n g) → RelW ι σ1 W → opsV run (revs l) e1 σ1 = some (e', σ') →
  e' = e1 ∧ RelW ι σ' W ∧ σ'.length = σ1.length ∧ ∀ b, (∀ r ∈ l, bl r ≠ b) → σ'[b]? = σ1[b]?
 | [], σ1, e', σ', bl, _, hR, h => by
  simp only [revs, List.map_nil, opsV, Option.some.injEq, Prod.mk.injEq] at h
  obtain ⟨rfl, rfl⟩ := h
  exact ⟨rfl, hR, rfl, fun _ _ => rfl⟩
 | r :: l, σ1, e', σ', bl, hl, hR, h => by
  simp only [revs, List.map_cons, opsV, Option.bind_eq_some_iff] at h
  obtain ⟨⟨e2, σ2⟩, h1, h2⟩ := h
  obtain ⟨p, hp1, hp2, hp3⟩ := hl r (.head _)
  have hd : (O.t r.d).ev e1 = .ptr (bl r) 0 r.n := hp1
  simp only [stepI, insV, heapV, hd, Option.map_eq_some_iff] at h1
  obtain ⟨⟨y, τ⟩, h3, h4⟩ := h1
  split at h3
  ·rename_i b o z g heq hg
   injection heq with q1 _ _
   subst q1
   split at h3
   ·injection h3 with h3
    injection h3 with h5 h6
    injection h4 with h7 h8
    have e2e : e2 = e1 := h7.symm
    have s2e : σ2 = σ1.set (bl r) (.sc .var r.n g) := by rw [← h8, ← h6]
    rw [e2e, s2e] at h2
    obtain ⟨a1, a2, a3, a4⟩ := rev_sound hb0 bl (fun r' hr' => hl r' (.tail _ hr')) (hR.revive hp2 (hp3 g hg) hb0) h2
    refine ⟨a1, a2, by rw [a3]; simp, fun b' hb' => ?_⟩
    rw [a4 b' (fun r' hr' => hb' r' (.tail _ hr')), List.getElem?_set_ne (hb' r (.head _))]
   ·cases h3
  ·cases h3
theorem par_ini [Bas] (hrun : RunOK P run) (hm : P.follows .mixedOrders = true) (hc : compPar P ops.toList (bmasks ops.toList []) ops.toList.zipIdx = some is) (hok : iniOK (bmasks ops.toList []) (iniPrs is.zipIdx is.zipIdx) is = true) (hedge : edgesOK ops.toList.zipIdx = true)
  {ι : Inj} {σ : Heap} {W : World} {e e' : Env} {a : Act} {σ' : Heap} (hE : EnvR ι e a.tmps) (hR : RelW ι σ W) (hD : Dom ι σ) (hv0 : opsV run (iniL (iniPrs is.zipIdx is.zipIdx) is ++ revs (iniPrs is.zipIdx is.zipIdx)) e σ = some (e', σ')) {Q : Exit → Act → World → Prop} (id : Nat)
  (hQ : ∀ a' W' ι', EnvR ι' e' a'.tmps → Post ι σ W ι' σ' W' → a'.defers = a.defers → Q .normal a' W') : (Code.region id ops true).wp P Q a W := by
 obtain ⟨hcl, hcomp⟩ := compPar_spec hc
 obtain ⟨hH, hpar⟩ := iniH_of hok
 revert hH hpar hv0
 generalize iniPrs is.zipIdx is.zipIdx = prs
 generalize iniL prs is = l1
 intro hv0 hH hpar
 obtain ⟨e1, σ1, hv, hrev⟩ := opsV_append hv0
 obtain ⟨tr, ht, hend⟩ := trace hv
 have hlen := hH.len
 have hsz : l1.length = ops.size := by rw [hlen, hcl]; simp
 have huniq : ∀ (j j' : Nat) Y Y' d, l1[j]? = some Y → l1[j']? = some Y' → Y.dst = some d → Y'.dst = some d → j = j' := by
  intro j j' Y Y' d h1 h2 h3 h4
  rcases Nat.lt_trichotomy j j' with h | h | h
  ·exact absurd ⟨by rw [h3]; rfl, by rw [h3, h4]⟩ (parAll0_spec hpar j j' Y Y' h h1 h2).2
  ·exact h
  ·exact absurd ⟨by rw [h4]; rfl, by rw [h3, h4]⟩ (parAll0_spec hpar j' j Y' Y h h2 h1).2
 have main : ∀ (fuel : Nat) (listed : Array Bool) (a' : Act) (W' : World), listed.size = ops.size → unl (fun i => listed.getD i false) ops.size ≤ fuel →
   (∃ ι' es, Inv2 prs l1 ops.toList e σ ι W a.defers tr (fun i => listed.getD i false) a' W' ι' es) → wpAny P .any ops Q fuel listed a' W' := by
  have fin : ∀ (listed : Array Bool) (a' : Act) (W' : World), listed.size = ops.size → (∀ i, i < ops.size → listed.getD i false = true) → (∃ ι' es, Inv2 prs l1 ops.toList e σ ι W a.defers tr (fun i => listed.getD i false) a' W' ι' es) → Q .normal a' W' := by
   rintro listed a' W' hls hall ⟨ι', es, hI⟩
   have he1 : e1 = (tr l1.length).1 := by rw [hend]
   have hlt : ∀ (j : Nat) (Y : I), l1[j]? = some Y → j < l1.length := fun j Y hj => by
    rcases Nat.lt_or_ge j l1.length with h | h
    ·exact h
    ·rw [List.getElem?_eq_none h] at hj; simp at hj
   have hes : es = e1 := by
    have hl : es.length = e1.length := by rw [he1, ht.elen _ (Nat.le_refl _), hI.elen]
    apply List.ext_getElem?
    intro t
    have hg : es.getD t .undef = e1.getD t .undef := by
     by_cases hex : ∃ (j : Nat) (Y : I), l1[j]? = some Y ∧ Y.dst = some t
     ·obtain ⟨j, Y, hj, hjd⟩ := hex
      have hjn := hlt j Y hj
      rw [hI.w1 j Y t hj (hall j (by omega)) hjd, he1]
      have := ht.same (k := j + 1) (t := t) (l1.length - (j + 1)) (by omega) (fun i' Y' hi' g1 g2 hd => by
       have := huniq j i' Y Y' t hj hi' hjd hd
       omega)
      rw [show j + 1 + (l1.length - (j + 1)) = l1.length by omega] at this
      exact this.symm
     ·rw [hI.w2 t (fun j Y h1 _ h3 => hex ⟨j, Y, h1, h3⟩), he1]
      have := ht.same (k := 0) (t := t) l1.length (by omega) (fun i' Y' hi' _ _ hd => hex ⟨i', Y', hi', hd⟩)
      rw [Nat.zero_add, ht.zero] at this
      exact this.symm
    simp only [List.getD_eq_getElem?_getD] at hg
    by_cases htl : t < es.length
    ·rw [List.getElem?_eq_getElem htl, List.getElem?_eq_getElem (by omega)] at hg ⊢
     simp only [Option.getD_some] at hg
     rw [hg]
    ·rw [List.getElem?_eq_none (by omega), List.getElem?_eq_none (by omega)]
   subst hes
   have hs' : (tr l1.length).2 = σ1 := by rw [hend]
   have hrel := hI.rel
   rw [hs'] at hrel
   have h0 := ht.hle (k := 0) (k' := l1.length) (by omega) (Nat.le_refl _)
   rw [ht.zero, hs'] at h0
   have hrl : ∀ r ∈ prs, r.j < l1.length ∧ r.i < l1.length := fun r hr => by
    have hp := hH.pair r hr
    have := hlt r.j _ hp.2.2
    exact ⟨this, by have := hp.1; omega⟩
   obtain ⟨a1, a2, a3, a4⟩ := rev_sound (W0 := W) hR.bsz (fun r => (tr r.i).2.length) (fun r hr => by
    have hp := hH.pair r hr
    have hl := hrl r hr
    obtain ⟨p, c1, _, c3⟩ := hI.cells r hr (hall r.i (by omega))
    refine ⟨p, ?_, c1, fun g hg => c3 (hall r.j (by omega)) g ?_⟩
    ·obtain ⟨y, hy, hye⟩ := ht.step r.i _ hp.2.1
     obtain ⟨y2, hy2, _⟩ := ht.step r.j _ hp.2.2
     simp only [stepV, insV, heapV, Option.some.injEq, Prod.mk.injEq] at hy
     rw [hI.w1 r.i _ r.d hp.2.1 (hall r.i (by omega)) rfl, hye, ← hy.1]
     have hdl : r.d < (tr r.i).1.length := by
      rcases Nat.lt_or_ge r.d (tr r.i).1.length with h | h
      ·exact h
      ·exfalso
       have e9 : (tr r.j).1.getD r.d .undef = .undef := by
        rw [List.getD_eq_getElem?_getD, List.getElem?_eq_none (by rw [ht.elen r.j (by omega), ← ht.elen r.i (by omega)]; exact h)]; rfl
       simp only [stepV, insV, heapV, O.ev, e9] at hy2
       cases hy2
     simp only [putT, List.getD_eq_getElem?_getD, List.getElem?_set_self hdl]
     rfl
    ·have hx9 : r.x.ev es = r.x.ev (tr r.j).1 := by
      cases hx : r.x with
      | k v => rfl
      | t s =>
       show es.getD s .undef = (tr r.j).1.getD s .undef
       rw [he1]
       have := ht.same (k := r.j) (t := s) (l1.length - r.j) (by omega) (fun i' Y' hi' g1 g2 => hH.later r hr i' Y' hi' g1 s hx)
       rw [show r.j + (l1.length - r.j) = l1.length by omega] at this
       exact this
     rw [← hx9]; exact hg) hrel hrev
   subst a1
   have hlow : ∀ b, b < σ.length → σ'[b]? = σ[b]? := fun b hb => by
    rw [a4 b (fun r hr => ?_)]
    ·obtain ⟨nw, hnw⟩ := ini_ext hH ht (k := 0) l1.length (by omega)
     rw [Nat.zero_add, ht.zero, hs'] at hnw
     rw [hnw, List.getElem?_append_left hb]
    ·have := ht.hle (k := 0) (k' := r.i) (by omega) (by have := hrl r hr; omega)
     rw [ht.zero] at this
     show (tr r.i).2.length ≠ b
     have : σ.length ≤ (tr r.i).2.length := this
     omega
   refine hQ a' W' ι' hI.env ⟨hI.same, hI.ext, a2, by rw [a3]; exact h0, hI.frame, fun b p hb hn => ?_, fun b hb ⟨y, hy, hmm⟩ => ⟨y, by rw [← hlow b hb]; exact hy, hmm⟩, fun b hb ⟨y, hy, hmm⟩ => ⟨y, by rw [← hlow b hb]; exact hy, hmm⟩⟩ hI.defers
   obtain ⟨h1, h2⟩ := hI.fresh b p hb hn
   refine ⟨⟨h1, ?_⟩, .inl h2⟩
   rw [a3]
   rcases hI.dom b p hb with h | ⟨i, g1, _, _, g4⟩
   ·omega
   ·have := ht.hle (k := i + 1) (k' := l1.length) (by omega) (Nat.le_refl _)
    rw [hs'] at this
    omega
  have allOf : ∀ (listed : Array Bool), listed.size = ops.size → Region.ready .any ops listed = [] → ∀ i, i < ops.size → listed.getD i false = true := by
   intro listed hls hr
   have : ∀ n i, i ≤ n → i < ops.size → listed.getD i false = true := by
    intro n
    induction n using Nat.strongRecOn with
    | ind n ih =>
     intro i hi hil
     cases hl : listed.getD i false with
     | true => rfl
     | false =>
      exfalso
      have hmem : i ∈ Region.ready .any ops listed := by
       unfold Region.ready
       simp only [List.mem_filter, List.mem_range, Bool.and_eq_true, Bool.not_eq_true']
       refine ⟨hil, ?_, ?_⟩
       ·have : listed.getD i true = listed.getD i false := by simp [show i < listed.size by omega]
        rw [this, hl]
       ·have ho := Array.getElem?_eq_getElem hil
        rw [ho]
        simp only [Option.map_some, Option.getD_some]
        rw [Array.all_eq_true_iff_forall_mem]
        intro ed hed
        simp only [Bool.or_eq_true, Bool.not_eq_true']
        cases hb : Region.binds .any ed with
        | false => exact .inl rfl
        | true =>
         have := edgesOK_spec (k := 0) hedge i _ (show ops.toList[i]? = some _ from by rw [Array.getElem?_toList]; exact ho) ed (by simpa using hed) hb
         exact .inr (ih ed.on (by omega) ed.on (Nat.le_refl _) (by omega))
      rw [hr] at hmem
      simp at hmem
   exact fun i hi => this i i (Nat.le_refl _) hi
  intro fuel
  induction fuel with
  | zero =>
   intro listed a' W' hls hu hI
   have hall := unl_zero (n := ops.size) (Nat.le_zero.1 hu)
   refine ⟨?_, fin listed a' W' hls hall hI⟩
   apply List.eq_nil_iff_forall_not_mem.2
   intro i hi
   unfold Region.ready at hi
   simp only [List.mem_filter, List.mem_range, Bool.and_eq_true, Bool.not_eq_true'] at hi
   have h1 := hall i hi.1
   have : listed.getD i true = listed.getD i false := by simp [show i < listed.size by omega]
   rw [this] at hi
   rw [h1] at hi
   simp at hi
  | succ fuel ih =>
   intro listed a' W' hls hu hI
   refine ⟨fun hr => fin listed a' W' hls (allOf listed hls hr) hI, fun i hi => ?_⟩
   obtain ⟨ι', es, hI⟩ := hI
   unfold Region.ready at hi
   simp only [List.mem_filter, List.mem_range, Bool.and_eq_true, Bool.not_eq_true'] at hi
   obtain ⟨hil, hnl, hrd⟩ := hi
   have hnl' : listed.getD i false = false := by
    have : listed.getD i true = listed.getD i false := by simp [show i < listed.size by omega]
    rw [← this]; exact hnl
   have ho := Array.getElem?_eq_getElem hil
   have hset : ∀ j, j ≠ i → (listed.setIfInBounds i true).getD j false = listed.getD j false := fun j hj => by
    simp only [Array.getD_eq_getD_getElem?, Array.getElem?_setIfInBounds]
    rw [if_neg (Ne.symm hj)]
   have hseti : (listed.setIfInBounds i true).getD i false = true := by
    simp [Array.getD_eq_getD_getElem?, show i < listed.size by omega]
   unfold wpOp
   rw [ho]
   simp only
   have hready : ∀ ed ∈ (ops[i]).after.toList, Region.binds .any ed = true → listed.getD ed.on false = true := by
    intro ed hed hb
    rw [ho] at hrd
    simp only [Option.map_some, Option.getD_some] at hrd
    rw [Array.all_eq_true_iff_forall_mem] at hrd
    have := hrd ed (by simpa using hed)
    simpa [hb] using this
   have hstep := ini_step (lst' := fun j => (listed.setIfInBounds i true).getD j false) (K := wpAny P .any ops Q fuel (listed.setIfInBounds i true)) (Q := Q) hrun hedge hH hpar hcl hcomp hD ht hI ho hnl' hready hseti hset (fun a2 W2 ι2 es2 hI2 => ih _ a2 W2 (by simpa using hls) ?_ ⟨ι2, es2, hI2⟩)
   ·split
    ·rename_i hw
     rw [if_pos hw] at hstep
     exact .inl hstep
    ·rename_i hw
     rw [if_neg hw] at hstep
     exact hstep
   ·have := (unl_set (lst := fun j => listed.getD j false) (lst' := fun j => (listed.setIfInBounds i true).getD j false) hnl' hseti hset (n := ops.size)).2 hil
    omega
 refine wp_region_any hm ?_
 refine main ops.size _ a _ (by simp) ?_ ⟨ι, ?_⟩
 ·have : ∀ n, unl (fun i => (Array.replicate ops.size false).getD i false) n ≤ n := by
   intro n
   induction n with
   | zero => exact Nat.le_refl _
   | succ n ih =>
    simp only [unl]
    split <;> omega
  exact this _
 ·have hfalse : ∀ i, (Array.replicate ops.size false).getD i false = false := by
   intro i
   simp [Array.getD_eq_getD_getElem?, Array.getElem?_replicate]
   split <;> rfl
  obtain ⟨new, hnew⟩ := ini_ext hH ht (k := 0) l1.length (by omega)
  rw [Nat.zero_add, ht.zero] at hnew
  have hR' : RelW ι σ W.drew := hR.toDrew
  exact ⟨e, fun j o _ hjl => by rw [hfalse] at hjl; simp at hjl, hE, rfl, fun i I d _ hl => by rw [hfalse] at hl; simp at hl, fun t _ => rfl, by rw [hnew]; exact hR'.behind hD, fun b p hb => .inl (hD b p hb), ⟨rfl, rfl, rfl, Nat.le_refl _⟩, .refl ι, fun c _ _ => rfl, fun b p hb hn => by rw [hb] at hn; simp at hn, rfl, fun r hr hl => by rw [hfalse] at hl; simp at hl, hR.bsz⟩
end
end Go.Am
namespace Go.Am
open Go
theorem orders_ne (ops : Array Oper) : ∀ n listed, ordersF ops n listed ≠ []
 | 0, _ => by simp [ordersF]
 | n + 1, listed => by
  unfold ordersF
  split
  ·simp
  ·rename_i rs hne
   intro h
   cases hr : Region.ready .any ops listed with
   | nil => exact hne hr
   | cons i r =>
    rw [hr, List.flatMap_cons] at h
    have := (List.append_eq_nil_iff.1 h).1
    rw [List.map_eq_nil_iff] at this
    exact orders_ne ops n _ this
theorem orders_cons {ops : Array Oper} {n : Nat} {listed : Array Bool} {i : Nat} {p : List Nat} (hi : i ∈ Region.ready .any ops listed) (hp : p ∈ ordersF ops n (listed.setIfInBounds i true)) : i :: p ∈ ordersF ops (n + 1) listed := by
 unfold ordersF
 split
 ·rename_i h; rw [h] at hi; cases hi
 ·exact List.mem_flatMap.2 ⟨i, hi, List.mem_map.2 ⟨p, hp, rfl⟩⟩
theorem compL_get {P : Program} {ops : List Oper} : ∀ {L : List Oper} {is : List I}, compL P ops L = some is → ∀ (j : Nat) o, L[j]? = some o → ∃ i, is[j]? = some i ∧ compI P ops false o = some i
 | [], is, h, j, o, hj => by simp at hj
 | z :: L, is, h, j, o, hj => by
  unfold compL at h
  split at h
  ·rename_i i r h1 h2
   injection h with h
   subst h
   cases j with
   | zero => simp at hj; subst hj; exact ⟨i, rfl, h1⟩
   | succ j => simp at hj; simpa using compL_get h2 j o hj
  ·simp at h
theorem sameR_normal {ex : Ex} {e e' : Env} {σ σ' : Heap} (h : sameR (some (.normal, e, σ)) (some (ex, e', σ'))) : ex = .normal ∧ e = e' ∧ σ = σ' := by
 unfold sameR at h
 split at h
 ·rename_i he _; cases he
 ·rename_i ha hb _
  injection h with h
  simp only [Prod.mk.injEq] at h
  exact ⟨h.1.symm, h.2.1, h.2.2⟩
theorem sameR_none {ex : Ex} {e' : Env} {σ' : Heap} (h : sameR none (some (ex, e', σ'))) : False := by
 unfold sameR at h
 split at h
 ·rename_i he _; cases he
 ·cases h
theorem sameR_panic {x : V} {e : Env} {σ : Heap} {ex : Ex} {e' : Env} {σ' : Heap} (h : sameR (some (.panic x, e, σ)) (some (ex, e', σ'))) : ex = .panic x ∧ σ = σ' := by
 unfold sameR at h
 split at h
 ·rename_i y _ τ z _ τ2 h1 h2
  injection h1 with h1
  injection h2 with h2
  simp only [Prod.mk.injEq, Ex.panic.injEq] at h1 h2
  obtain ⟨rfl, _, rfl⟩ := h1
  obtain ⟨rfl, _, rfl⟩ := h2
  exact ⟨by rw [h.1], h.2⟩
 ·injection h with h
  simp only [Prod.mk.injEq] at h
  exact ⟨h.1.symm, h.2.2⟩
theorem parc_sound [Bas] {P : Program} {run : Runner} (hrun : RunOK P run) (hm : P.follows .mixedOrders = true) {ops : Array Oper} {l : List I} (hc : compL P ops.toList ops.toList = some l)
  {ι : Inj} {σ : Heap} {W : World} {e e' : Env} {a : Act} {σ' : Heap} {ex : Ex} {n : Nat} (hE : EnvR ι e a.tmps) (hR : RelW ι σ W) (hD : Dom ι σ) (hx : exec run n (.parc (ordersF ops ops.size (Array.replicate ops.size false)) l) e σ = some (ex, e', σ')) {Q : Exit → Act → World → Prop} (id : Nat)
  (hQ : ∀ a' W' ι' y, ExR ι' ex y → ((∀ x, ex ≠ .panic x) → EnvR ι' e' a'.tmps) → Post ι σ W ι' σ' W' → a'.defers = a.defers → Q y a' W') : (Code.region id ops true).wp P Q a W := by
 simp only [exec] at hx
 split at hx
 ·rename_i hall
  rw [hx] at hall
  have main : ∀ (fuel : Nat) (listed : Array Bool) (a1 : Act) (W1 : World) (ι1 : Inj) (e1 : Env) (σ1 : Heap), listed.size = ops.size → unl (fun i => listed.getD i false) ops.size ≤ fuel →
    (∀ p ∈ ordersF ops fuel listed, sameR (opsX run (pickL l p) e1 σ1) (some (ex, e', σ'))) → EnvR ι1 e1 a1.tmps → Post ι σ W ι1 σ1 W1 → a1.defers = a.defers → wpAny P .any ops Q fuel listed a1 W1 := by
   intro fuel
   induction fuel with
   | zero =>
    intro listed a1 W1 ι1 e1 σ1 hls hu ho hE1 hp1 hd1
    have hun := unl_zero (n := ops.size) (Nat.le_zero.1 hu)
    have h0 := ho [] (by simp [ordersF])
    obtain ⟨rfl, rfl, rfl⟩ := sameR_normal h0
    refine ⟨?_, hQ a1 W1 ι1 .normal rfl (fun _ => hE1) hp1 hd1⟩
    apply List.eq_nil_iff_forall_not_mem.2
    intro i hi
    unfold Region.ready at hi
    simp only [List.mem_filter, List.mem_range, Bool.and_eq_true, Bool.not_eq_true'] at hi
    have h1 := hun i hi.1
    have : listed.getD i true = listed.getD i false := by simp [show i < listed.size by omega]
    rw [this] at hi
    rw [h1] at hi
    simp at hi
   | succ fuel ih =>
    intro listed a1 W1 ι1 e1 σ1 hls hu ho hE1 hp1 hd1
    refine ⟨fun hr => ?_, fun i hi => ?_⟩
    ·have h0 := ho [] (by unfold ordersF; rw [hr]; simp)
     obtain ⟨rfl, rfl, rfl⟩ := sameR_normal h0
     exact hQ a1 W1 ι1 .normal rfl (fun _ => hE1) hp1 hd1
    ·have hi' := hi
     unfold Region.ready at hi'
     simp only [List.mem_filter, List.mem_range, Bool.and_eq_true, Bool.not_eq_true'] at hi'
     obtain ⟨hil, hnl, _⟩ := hi'
     have hnl' : listed.getD i false = false := by
      have : listed.getD i true = listed.getD i false := by simp [show i < listed.size by omega]
      rw [← this]; exact hnl
     have hoi := Array.getElem?_eq_getElem hil
     obtain ⟨o', hIi, hcI⟩ := compL_get hc i (ops[i]) (by simp [hil])
     have hset : ∀ j, j ≠ i → (listed.setIfInBounds i true).getD j false = listed.getD j false := fun j hj => by
      simp only [Array.getD_eq_getD_getElem?, Array.getElem?_setIfInBounds]
      rw [if_neg (Ne.symm hj)]
     have hseti : (listed.setIfInBounds i true).getD i false = true := by
      simp [Array.getD_eq_getD_getElem?, show i < listed.size by omega]
     have hpick : ∀ p, pickL l (i :: p) = o' :: pickL l p := fun p => by simp only [pickL, hIi]
     have hstep : if Region.wanted (ops[i]) (yielded ops a1.tmps) then (ops[i]).wp P a1 W1 (wpAny P .any ops Q fuel (listed.setIfInBounds i true)) Q else wpAny P .any ops Q fuel (listed.setIfInBounds i true) (a1.put (ops[i]).dst Go.undef) W1 := by
      cases hs : stepI run o' e1 σ1 with
      | some y =>
       obtain ⟨e2, σ2⟩ := y
       refine step_eff hrun hcI hE1 hp1.rel (hp1.dom hD) hs (fun a2 W2 ι2 hE2 hp2 hd2 => ih _ a2 W2 ι2 e2 σ2 (by simpa using hls) ?_ (fun p hp => ?_) hE2 (hp1.trans hD hp2) (hd2.trans hd1))
       ·have := (unl_set (lst := fun j => listed.getD j false) (lst' := fun j => (listed.setIfInBounds i true).getD j false) hnl' hseti hset (n := ops.size)).2 hil
        omega
       ·have h := ho (i :: p) (orders_cons hi hp)
        rw [hpick] at h
        simp only [opsX, hs] at h
        exact h
      | none =>
       obtain ⟨p, hp⟩ := List.exists_mem_of_ne_nil _ (orders_ne ops fuel (listed.setIfInBounds i true))
       have h := ho (i :: p) (orders_cons hi hp)
       rw [hpick] at h
       simp only [opsX, hs] at h
       cases hpn : panI run o' e1 σ1 with
       | none => rw [hpn] at h; exact (sameR_none h).elim
       | some y =>
        obtain ⟨x, σ2⟩ := y
        rw [hpn] at h
        obtain ⟨rfl, rfl⟩ := sameR_panic h
        exact step_pan hrun hcI hE1 hp1.rel (hp1.dom hD) hpn (fun W' ι' u hu hp => hQ a1 W' ι' _ ⟨u, rfl, hu⟩ (fun h => absurd rfl (h x)) (hp1.trans hD hp) hd1)
     unfold wpOp
     rw [hoi]
     simp only
     split
     ·rename_i hw
      rw [if_pos hw] at hstep
      exact .inl hstep
     ·rename_i hw
      rw [if_neg hw] at hstep
      exact hstep
  refine wp_region_any hm ?_
  have hR' : RelW ι σ W.drew := hR.toDrew
  refine main ops.size _ a _ ι e σ (by simp) ?_ hall hE ?_ rfl
  ·have : ∀ n, unl (fun i => (Array.replicate ops.size false).getD i false) n ≤ n := by
    intro n
    induction n with
    | zero => exact Nat.le_refl _
    | succ n ih =>
     simp only [unl]
     split <;> omega
   exact this _
  ·exact ((QPost.refl hR').ofDrew).post
 ·simp at hx
theorem exec_sound [Bas] {P : Program} {pc : Bool} {run : Runner} (hrun : RunOK P run) (hm : P.follows .mixedOrders = true) : ∀ (c : Code) (ac : AC), compC P pc c = some ac → ∀ (n : Nat) (ι : Inj) (σ : Heap) (W : World) (e : Env) (a : Act) (ex : Ex) (e' : Env) (σ' : Heap),
  EnvR ι e a.tmps → RelW ι σ W → Dom ι σ → exec run n ac e σ = some (ex, e', σ') → ∀ Q : Exit → Act → World → Prop,
  (∀ a' W' ι' y, ExR ι' ex y → ((∀ x, ex ≠ .panic x) → EnvR ι' e' a'.tmps) → Post ι σ W ι' σ' W' → a'.defers = a.defers → Q y a' W') → c.wp P Q a W := by
 intro c
 induction c with
 | skip =>
  intro ac hc n ι σ W e a ex e' σ' hE hR hD hx Q hQ
  simp only [compC, Option.some.injEq] at hc
  subst hc
  simp only [exec, Option.some.injEq, Prod.mk.injEq] at hx
  obtain ⟨rfl, rfl, rfl⟩ := hx
  exact wp_skip (hQ a W ι .normal rfl (fun _ => hE) (QPost.refl hR).post rfl)
 | region id ops d =>
  intro ac hc n ι σ W e a ex e' σ' hE hR hD hx Q hQ
  cases d with
  | false =>
   simp only [compC] at hc
   split at hc
   ·rename_i is hcl
    injection hc with hc
    subst hc
    simp only [exec] at hx
    exact wp_region_list (seqX_sound hrun hcl hE hR hD hx fun a' W' ι' y h1 h2 => hQ a' W' ι' y h1 fun _ => h2)
   ·injection hc with hc
    subst hc
    simp [exec] at hx
  | true =>
   cases pc with
   | true =>
    simp only [compC, if_true] at hc
    split at hc
    ·rename_i l hcl
     injection hc with hc
     subst hc
     exact parc_sound hrun hm hcl hE hR hD hx id hQ
    ·injection hc with hc
     subst hc
     simp [exec] at hx
   | false =>
   simp only [compC, Bool.false_eq_true, if_false] at hc
   split at hc
   ·rename_i is hcp
    split at hc
    ·rename_i hok
     simp only [Bool.and_eq_true] at hok
     injection hc with hc
     subst hc
     simp only [exec, Option.map_eq_some_iff] at hx
     obtain ⟨⟨e1, σ1⟩, ho, hx⟩ := hx
     simp only [Prod.mk.injEq] at hx
     obtain ⟨rfl, rfl, rfl⟩ := hx
     exact par_sound hrun hm hcp hok.1 hok.2 hE hR hD ho id (fun a' W' ι' h1 h2 h3 => hQ a' W' ι' .normal rfl (fun _ => h1) h2 h3)
    ·split at hc
     ·rename_i hok
      simp only [Bool.and_eq_true] at hok
      injection hc with hc
      subst hc
      simp only [exec, Option.map_eq_some_iff] at hx
      obtain ⟨⟨e1, σ1⟩, ho, hx⟩ := hx
      simp only [Prod.mk.injEq] at hx
      obtain ⟨rfl, rfl, rfl⟩ := hx
      exact par_ini hrun hm hcp hok.1 hok.2 hE hR hD ho id (fun a' W' ι' h1 h2 h3 => hQ a' W' ι' .normal rfl (fun _ => h1) h2 h3)
     ·injection hc with hc
      subst hc
      simp [exec] at hx
   ·injection hc with hc
    subst hc
    simp [exec] at hx
 | seq x y ihx ihy =>
  intro ac hc n ι σ W e a ex e' σ' hE hR hD hx Q hQ
  simp only [compC] at hc
  split at hc
  ·rename_i x' y' h1 h2
   injection hc with hc
   subst hc
   simp only [exec] at hx
   unfold Ex.then at hx
   split at hx
   ·rename_i e1 σ1 hx1
    refine wp_seq (ihx x' h1 n ι σ W e a .normal e1 σ1 hE hR hD hx1 _ (fun a1 W1 ι1 y hy hE1 hp1 hd1 => ?_))
    simp only [ExR] at hy
    subst hy
    exact ihy y' h2 n ι1 σ1 W1 e1 a1 ex e' σ' (hE1 (fun x h => by cases h)) hp1.rel (hp1.dom hD) hx Q (fun a2 W2 ι2 y hy hE2 hp2 hd2 => hQ a2 W2 ι2 y hy hE2 (hp1.trans hD hp2) (hd2.trans hd1))
   ·rename_i hne
    refine wp_seq (ihx x' h1 n ι σ W e a ex e' σ' hE hR hD hx _ (fun a1 W1 ι1 y hy hE1 hp1 hd1 => ?_))
    have := hQ a1 W1 ι1 y hy hE1 hp1 hd1
    cases ex with
    | normal => exact absurd hx (hne e' σ')
    | exit j => simp only [ExR] at hy; subst hy; exact this
    | ret => simp only [ExR] at hy; subst hy; exact this
    | panic v => simp only [ExR] at hy; obtain ⟨u, rfl, _⟩ := hy; exact this
  ·simp at hc
 | cond cd x y ihx ihy =>
  intro ac hc n ι σ W e a ex e' σ' hE hR hD hx Q hQ
  simp only [compC] at hc
  split at hc
  ·rename_i c' x' y' h0 h1 h2
   injection hc with hc
   subst hc
   simp only [exec] at hx
   have r := opd_R h0 hE
   split at hx
   ·rename_i t ht
    rw [ht] at r
    simp only [VR, S.val] at r
    refine wp_cond r ?_
    cases t
    ·exact ihy y' h2 n ι σ W e a ex e' σ' hE hR hD hx Q hQ
    ·exact ihx x' h1 n ι σ W e a ex e' σ' hE hR hD hx Q hQ
   ·simp at hx
  ·injection hc with hc
   subst hc
   simp [exec] at hx
  ·simp at hc
 | block id b ih =>
  intro ac hc n ι σ W e a ex e' σ' hE hR hD hx Q hQ
  simp only [compC, Option.map_eq_some_iff] at hc
  obtain ⟨b', hb, rfl⟩ := hc
  simp only [exec] at hx
  refine wp_block ?_
  split at hx
  ·rename_i j e1 σ1 hx1
   cases hj : j == id
   ·rw [hj] at hx
    simp only [cond_false, Option.some.injEq, Prod.mk.injEq] at hx
    obtain ⟨rfl, rfl, rfl⟩ := hx
    refine ih b' hb n ι σ W e a _ _ _ hE hR hD hx1 _ (fun a1 W1 ι1 y hy hE1 hp1 hd1 => ?_)
    have hji : ¬ j = id := by simpa using hj
    simp only [ExR] at hy
    subst hy
    simp only [Exit.inBlock, hji, if_false]
    exact hQ a1 W1 ι1 _ rfl (fun _ => hE1 (fun x h => by cases h)) hp1 hd1
   ·rw [hj] at hx
    simp only [cond_true, Option.some.injEq, Prod.mk.injEq] at hx
    obtain ⟨rfl, rfl, rfl⟩ := hx
    refine ih b' hb n ι σ W e a _ _ _ hE hR hD hx1 _ (fun a1 W1 ι1 y hy hE1 hp1 hd1 => ?_)
    have hji : j = id := by simpa using hj
    simp only [ExR] at hy
    subst hy
    simp only [Exit.inBlock, hji, if_true]
    exact hQ a1 W1 ι1 _ rfl (fun _ => hE1 (fun x h => by cases h)) hp1 hd1
  ·rename_i hne
   refine ih b' hb n ι σ W e a ex e' σ' hE hR hD hx _ (fun a1 W1 ι1 y hy hE1 hp1 hd1 => ?_)
   have := hQ a1 W1 ι1 y hy hE1 hp1 hd1
   cases ex with
   | normal => simp only [ExR] at hy; subst hy; exact this
   | exit j => exact absurd hx (hne j e' σ')
   | ret => simp only [ExR] at hy; subst hy; exact this
   | panic v => simp only [ExR] at hy; obtain ⟨u, rfl, _⟩ := hy; exact this
 | loop b ih =>
  intro ac hc n ι σ W e a ex e' σ' hE hR hD hx Q hQ
  simp only [compC, Option.map_eq_some_iff] at hc
  obtain ⟨b', hb, rfl⟩ := hc
  simp only [exec] at hx
  refine wp_loop_rounds n ?_
  have key : ∀ (k : Nat) (ι : Inj) (σ : Heap) (W : World) (e : Env) (a : Act), EnvR ι e a.tmps → RelW ι σ W → Dom ι σ → loopF (exec run n b') k e σ = some (ex, e', σ') →
    (∀ a' W' ι' y, ExR ι' ex y → ((∀ x, ex ≠ .panic x) → EnvR ι' e' a'.tmps) → Post ι σ W ι' σ' W' → a'.defers = a.defers → Q y a' W') → Code.rounds P b Q k a W := by
   intro k
   induction k with
   | zero => intro ι σ W e a hE hR hD hx hQ; simp [loopF] at hx
   | succ k ihk =>
    intro ι σ W e a hE hR hD hx hQ
    rw [rounds_succ]
    simp only [loopF] at hx
    unfold Ex.then at hx
    split at hx
    ·rename_i e1 σ1 hx1
     refine ih b' hb n ι σ W e a .normal e1 σ1 hE hR hD hx1 _ (fun a1 W1 ι1 y hy hE1 hp1 hd1 => ?_)
     simp only [ExR] at hy
     subst hy
     exact ihk ι1 σ1 W1 e1 a1 (hE1 (fun x h => by cases h)) hp1.rel (hp1.dom hD) hx (fun a2 W2 ι2 y hy hE2 hp2 hd2 => hQ a2 W2 ι2 y hy hE2 (hp1.trans hD hp2) (hd2.trans hd1))
    ·rename_i hne
     refine ih b' hb n ι σ W e a ex e' σ' hE hR hD hx _ (fun a1 W1 ι1 y hy hE1 hp1 hd1 => ?_)
     have := hQ a1 W1 ι1 y hy hE1 hp1 hd1
     cases ex with
     | normal => exact absurd hx (hne e' σ')
     | exit j => simp only [ExR] at hy; subst hy; exact this
     | ret => simp only [ExR] at hy; subst hy; exact this
     | panic v => simp only [ExR] at hy; obtain ⟨u, rfl, _⟩ := hy; exact this
  exact key n ι σ W e a hE hR hD hx hQ
 | exit id =>
  intro ac hc n ι σ W e a ex e' σ' hE hR hD hx Q hQ
  simp only [compC, Option.some.injEq] at hc
  subst hc
  simp only [exec, Option.some.injEq, Prod.mk.injEq] at hx
  obtain ⟨rfl, rfl, rfl⟩ := hx
  exact wp_exit (hQ a W ι _ rfl (fun _ => hE) (QPost.refl hR).post rfl)
 | ret =>
  intro ac hc n ι σ W e a ex e' σ' hE hR hD hx Q hQ
  simp only [compC, Option.some.injEq] at hc
  subst hc
  simp only [exec, Option.some.injEq, Prod.mk.injEq] at hx
  obtain ⟨rfl, rfl, rfl⟩ := hx
  exact wp_ret (hQ a W ι _ rfl (fun _ => hE) (QPost.refl hR).post rfl)
 | _ =>
  intro ac hc n ι σ W e a ex e' σ' hE hR hD hx
  simp only [compC, Option.some.injEq] at hc
  subst hc
  simp [exec] at hx
def oneRes (tmps : Array Value) : ResultVar → Sem Value
 | .tmp t => Pure.pure (tmps.getD t Go.undef)
 | .cell a t => do loadVar t (← asAddr (tmps.getD a Go.undef))
theorem results_eq (fn : Func) (tmps : Array Value) : results fn tmps = (do
  let vs ← fn.results.mapM (oneRes tmps)
  Pure.pure (if h : vs.size = 1 then vs[0] else .tuple vs)) := by
 unfold results
 congr
theorem res_sound [Bas] {P : Program} {ι : Inj} {σ : Heap} {W : World} {e : Env} {a : Act} (hE : EnvR ι e a.tmps) (hR : RelW ι σ W) : ∀ {l : List ResultVar} {rs : List Rv} {xs : List V}, compR P l = some rs → resL e σ rs = some xs →
  ∃ vs : List Value, VRL ι xs vs ∧ (l.mapM (oneRes a.tmps)).run P W = .ok vs W
 | [], rs, xs, hc, hx => by
  simp only [compR, Option.some.injEq] at hc
  subst hc
  simp only [resL, Option.some.injEq] at hx
  subst hx
  exact ⟨[], rfl, rfl⟩
 | .tmp t :: l, rs, xs, hc, hx => by
  simp only [compR, Option.map_eq_some_iff] at hc
  obtain ⟨r, hr, rfl⟩ := hc
  simp only [resL, resV] at hx
  split at hx
  ·rename_i x y h1 h2
   injection hx with hx
   subst hx
   injection h1 with h1
   subst h1
   obtain ⟨vs, hv, hrun⟩ := res_sound hE hR hr h2
   refine ⟨a.tmps.getD t Go.undef :: vs, ⟨_, _, rfl, hE.get t, hv⟩, ?_⟩
   simp only [List.mapM_cons, Sem.run_bind, oneRes, Sem.run_pure, Result.andThen_ok, hrun]
  ·simp at hx
 | .cell x t :: l, rs, xs, hc, hx => by
  simp only [compR] at hc
  split at hc
  ·rename_i g n r h1 h2 h3
   split at hc
   ·rename_i hg
    injection hc with hc
    subst hc
    simp only [resL, resV] at hx
    split at hx
    ·rename_i y ys h4 h5
     injection hx with hx
     subst hx
     have rx := hE.get x
     split at h4
     ·rename_i b off z hb
      rw [hb] at rx
      simp only [VR] at rx
      obtain ⟨p, hp, hl, rx⟩ := rx
      split at h4
      ·rename_i hle
       obtain ⟨v, hv, hload⟩ := run_loadVar h1 h2 hg hR hp (o := off) (by omega) h4
       obtain ⟨vs, hvs, hrun⟩ := res_sound hE hR h3 h5
       refine ⟨v :: vs, ⟨_, _, rfl, hv, hvs⟩, ?_⟩
       have hone : (oneRes a.tmps (.cell x t)).run P W = .ok v W := by simp only [oneRes, rx, asAddr, Sem.run_bind, Sem.run_pure, Result.andThen_ok, hload]
       simp only [List.mapM_cons, Sem.run_bind, hone, Sem.run_pure, Result.andThen_ok, hrun]
      ·simp at h4
     ·simp at h4
    ·simp at hx
   ·simp at hc
  ·simp at hc
theorem results_sound [Bas] {P : Program} {ι : Inj} {σ : Heap} {W : World} {e : Env} {a : Act} (hE : EnvR ι e a.tmps) (hR : RelW ι σ W) {fn : Func} {rs : List Rv} {x : V} (hc : compR P fn.results.toList = some rs) (hx : resOf e σ rs = some x) :
  ∃ v, VR ι x v ∧ (results fn a.tmps).run P W = .ok v W := by
 unfold resOf at hx
 have main : ∀ xs, resL e σ rs = some xs → ∃ vs : List Value, VRL ι xs vs ∧ (results fn a.tmps).run P W = .ok (if h : vs.toArray.size = 1 then vs.toArray[0] else .tuple vs.toArray) W := by
  intro xs h
  obtain ⟨vs, h1, h2⟩ := res_sound hE hR hc h
  refine ⟨vs, h1, ?_⟩
  rw [results_eq, Array.mapM_eq_mapM_toList]
  simp only [Sem.run_bind, Sem.run_map, h2, Result.andThen_ok, Sem.run_pure]
 split at hx
 ·rename_i y h
  injection hx with hx
  subst hx
  obtain ⟨vs, h1, h2⟩ := main _ h
  simp only [VRL] at h1
  obtain ⟨v, r, rfl, hv, hr⟩ := h1
  subst hr
  exact ⟨v, hv, by simpa using h2⟩
 ·rename_i l hne h
  injection hx with hx
  subst hx
  obtain ⟨vs, h1, h2⟩ := main _ h
  have hl := VRL.length h1
  refine ⟨.tuple vs.toArray, ⟨vs, rfl, h1⟩, ?_⟩
  rw [h2, dif_neg]
  simp only [List.size_toArray]
  intro h1'
  rw [h1'] at hl
  match l, hl, hne with
  | [y], _, hne => exact hne y rfl
 ·simp at hx
def FnsOK (P : Program) (A : AP) : Prop := ∀ f a, A.fns f = some a → ∃ fn pc, P.funcs[f]? = some fn ∧ compF P pc fn = some a
def PrimsOK [Bas] (P : Program) (A : AP) : Prop := ∀ f pf, A.prims f = some pf → ∀ (args : List V) (σ : Heap) (v : V) (σ' : Heap), pf args σ = some (v, σ') →
 (∃ fn, P.funcs[f]? = some fn ∧ fn.body.isSome = true ∧ fn.name ≠ "runtime.NumGoroutine") ∧
 ∀ (ι : Inj) (W : World) (as : List Value), RelW ι σ W → Dom ι σ → VRL ι args as →
  Calls P f as.toArray W fun e W' => ∃ ι' v', e = .returned v' ∧ VR ι' v v' ∧ Post ι σ W ι' σ' W'
theorem VRL.undefs {ι : Inj} : ∀ n, VRL ι (List.replicate n .undef) (List.replicate n Go.undef)
 | 0 => rfl
 | n + 1 => ⟨_, _, rfl, trivial, VRL.undefs n⟩
theorem runF_ok [Bas] {P : Program} {A : AP} (hA : FnsOK P A) (hp : PrimsOK P A) (hm : P.follows .mixedOrders = true) : ∀ n, RunOK P (runF A n)
 | 0 => fun f args σ v σ' h => by simp [runF] at h
 | n + 1 => by
  intro f args σ v σ' h
  simp only [runF] at h
  split at h
  ·rename_i pf hpf
   obtain ⟨h1, h2⟩ := hp f pf hpf args σ v σ' h
   refine ⟨h1, fun ι W as hR hD hv => (h2 ι W as hR hD hv).mono ?_⟩
   rintro e W' ⟨ι', u, rfl, hu, hp⟩
   exact ⟨ι', EndR.of hu, hp⟩
  ·split at h
   ·rename_i a ha
    obtain ⟨fn, pc, hfn, hcf⟩ := hA f a ha
    unfold compF at hcf
    split at hcf
    ·rename_i c hbody
     split at hcf
     ·rename_i b r hb hr
      split at hcf
      ·simp at hcf
      ·rename_i hname
       injection hcf with hcf
       subst hcf
       refine ⟨⟨fn, hfn, by rw [hbody]; rfl, hname⟩, fun ι W as hR hD hv => ?_⟩
       have hlen := VRL.length hv
       have hE : EnvR ι (entry ⟨fn.ntmps, r, b⟩ args) (as.toArray ++ Array.replicate (fn.ntmps - as.toArray.size) Go.undef) := by
        unfold EnvR entry
        rw [Array.toList_append, Array.toList_replicate]
        simp only [List.size_toArray, hlen]
        exact VRL.append hv (VRL.undefs _)
       unfold finish at h
       split at h
       ·simp at h
       ·rename_i x e' σ1 hx
        injection h with h
        injection h with h1 h2
        subst h1; subst h2
        refine calls_of_wp hfn hbody (exec_sound (runF_ok hA hp hm n) hm c b hb n ι σ W _ ⟨_, []⟩ (.panic x) e' σ1 hE hR hD hx _ (fun a' W' ι' y hy hE' hp' hd' => ?_))
        obtain ⟨u, rfl, hu⟩ := hy
        exact ⟨hd', ι', ⟨u, rfl, hu⟩, hp'⟩
       ·rename_i ex e' σ1 hne hnp hx
        simp only [Option.map_eq_some_iff] at h
        obtain ⟨y, hy, h⟩ := h
        injection h with h1 h2
        subst h1; subst h2
        refine calls_of_wp hfn hbody (exec_sound (runF_ok hA hp hm n) hm c b hb n ι σ W _ ⟨_, []⟩ ex e' σ1 hE hR hD hx _ (fun a' W' ι' z hz hE0 hp' hd' => ?_))
        have hE' := hE0 hnp
        obtain ⟨rv, hrv, hres⟩ := results_sound hE' hp'.rel hr hy
        have hfin : a'.defers = [] ∧ ∃ v, (results fn a'.tmps).run P W' = .ok v W' ∧ ∃ ι', EndR ι' y (.returned v) ∧ Post ι σ W ι' σ1 W' := ⟨hd', rv, hres, ι', EndR.of hrv, hp'⟩
        cases ex with
        | normal => simp only [ExR] at hz; subst hz; exact hfin
        | exit j => exact (hne j rfl).elim
        | ret => simp only [ExR] at hz; subst hz; exact hfin
        | panic x => exact (hnp x rfl).elim
       ·simp at h
     ·simp at hcf
    ·simp at hcf
   ·simp at h
end Go.Am
namespace Go.Am
open Go
def LeR (r r' : Runner) : Prop := ∀ f as σ x, r f as σ = some x → r' f as σ = some x
theorem callWith_mono {r r' : Runner} (h : LeR r r') {q : Bool} {v : V} {args : List V} {σ : Heap} {x : V × Heap} (hx : callWith r q v args σ = some x) : callWith r' q v args σ = some x := by
 simp only [callWith, Option.bind_eq_some_iff] at hx ⊢
 obtain ⟨t, ht, y, hy, z, hz, hx⟩ := hx
 exact ⟨t, ht, y, hy, z, h _ _ _ _ hz, hx⟩
theorem callPan_mono {r r' : Runner} (h : LeR r r') {v : V} {args : List V} {σ : Heap} {x : V × Heap} (hx : callPan r v args σ = some x) : callPan r' v args σ = some x := by
 simp only [callPan, Option.bind_eq_some_iff] at hx ⊢
 obtain ⟨t, ht, y, hy, z, hz, hx⟩ := hx
 exact ⟨t, ht, y, hy, z, h _ _ _ _ hz, hx⟩
theorem callPan_stop {r r' : Runner} (h : LeR r r') {v : V} {args : List V} {σ : Heap} {x : V × Heap} (hx : callPan r v args σ = some x) (q : Bool) (hq : q = false) : callWith r' q v args σ = none := by
 subst hq
 simp only [callPan, Option.bind_eq_some_iff] at hx
 obtain ⟨t, ht, y, hy, z, hz, hx⟩ := hx
 simp only [callWith, ht, Option.bind_some, hy, h _ _ _ _ hz]
 obtain ⟨z1, z2⟩ := z
 simp only at hx ⊢
 split at hx
 ·exact leave_pan
 ·simp at hx
theorem insV_mono {r r' : Runner} (h : LeR r r') {i : Ins} {e : Env} {σ : Heap} {x : V × Heap} (hx : insV r i e σ = some x) : insV r' i e σ = some x := by
 cases i with
 | p i => exact hx
 | h i =>
  cases i with
  | call f as => exact callWith_mono h hx
  | callq f as => exact callWith_mono h hx
  | _ => exact hx
theorem stepV_mono {r r' : Runner} (h : LeR r r') {o : I} {e : Env} {σ : Heap} {x : V × Heap} (hx : stepV r o e σ = some x) : stepV r' o e σ = some x := by
 obtain ⟨dst, g, ins⟩ := o
 cases g with
 | none => exact insV_mono h hx
 | some p =>
  obtain ⟨t, want⟩ := p
  simp only [stepV] at hx ⊢
  split at hx
  ·rename_i b hb
   cases hw : b == want
   ·rw [hw] at hx; exact hx
   ·rw [hw] at hx; exact insV_mono h hx
  ·exact hx
  ·simp at hx
theorem stepI_mono {r r' : Runner} (h : LeR r r') {o : I} {e : Env} {σ : Heap} {x : Env × Heap} (hx : stepI r o e σ = some x) : stepI r' o e σ = some x := by
 rw [stepI_stepV, Option.map_eq_some_iff] at hx ⊢
 obtain ⟨y, hy, hx⟩ := hx
 exact ⟨y, stepV_mono h hy, hx⟩
theorem panI_mono {r r' : Runner} (h : LeR r r') {o : I} {e : Env} {σ : Heap} {x : V × Heap} (hx : panI r o e σ = some x) : panI r' o e σ = some x := by
 unfold panI at hx ⊢
 cases hc : guardOK o e with
 | false => rw [hc] at hx; simp at hx
 | true =>
  rw [hc] at hx
  simp only [cond_true] at hx ⊢
  split at hx
  ·exact callPan_mono h hx
  ·exact hx
  ·simp at hx
theorem panI_stop {r r' : Runner} (h : LeR r r') {o : I} {e : Env} {σ : Heap} {x : V × Heap} (hx : panI r o e σ = some x) : stepI r' o e σ = none := by
 have hins : ∀ i : Ins, (match i with
  | .h (.call f args) => callPan r (f.ev e) (args.map (·.ev e)) σ
  | .h (.pnc x) => match x.ev e with
   | .iface t y => some (.iface t y, σ)
   | _ => none
  | _ => none) = some x → insV r' i e σ = none := by
  intro i hi
  split at hi
  ·exact callPan_stop h hi false rfl
  ·rfl
  ·simp at hi
 obtain ⟨dst, g, ins⟩ := o
 cases g with
 | none =>
  unfold panI guardOK at hx
  simp only [cond_true] at hx
  simp only [stepI, hins ins hx, Option.map_none]
 | some p =>
  obtain ⟨t, want⟩ := p
  unfold panI guardOK at hx
  simp only [stepI] at hx ⊢
  generalize e.getD t .undef = u at hx ⊢
  cases u with
  | s y =>
   cases y with
   | bool b =>
    simp only at hx ⊢
    cases hw : b == want with
    | false => rw [hw] at hx; simp at hx
    | true =>
     rw [hw] at hx
     simp only [cond_true] at hx ⊢
     rw [hins ins hx, Option.map_none]
   | _ => simp at hx
  | _ => simp at hx
theorem opsX_mono {r r' : Runner} (h : LeR r r') : ∀ {l : List I} {e : Env} {σ : Heap} {x : Ex × Env × Heap}, opsX r l e σ = some x → opsX r' l e σ = some x
 | [], _, _, _, hx => hx
 | o :: l, e, σ, x, hx => by
  simp only [opsX] at hx ⊢
  split at hx
  ·rename_i y hy
   rw [stepI_mono h hy]
   exact opsX_mono h hx
  ·simp only [Option.map_eq_some_iff] at hx
   obtain ⟨y, hy, hx⟩ := hx
   rw [panI_stop h hy, panI_mono h hy]
   simp only [Option.map_some, hx]
theorem opsX_of {r : Runner} : ∀ {l : List I} {e e' : Env} {σ σ' : Heap}, opsV r l e σ = some (e', σ') → opsX r l e σ = some (.normal, e', σ')
 | [], _, _, _, _, hx => by
  simp only [opsV, Option.some.injEq, Prod.mk.injEq] at hx
  obtain ⟨rfl, rfl⟩ := hx
  rfl
 | o :: l, e, e', σ, σ', hx => by
  simp only [opsV, Option.bind_eq_some_iff] at hx
  obtain ⟨y, hy, hx⟩ := hx
  simp only [opsX, hy]
  exact opsX_of hx
theorem opsV_of {r : Runner} : ∀ {l : List I} {e e' : Env} {σ σ' : Heap}, opsX r l e σ = some (.normal, e', σ') → opsV r l e σ = some (e', σ')
 | [], _, _, _, _, hx => by
  simp only [opsX, Option.some.injEq, Prod.mk.injEq, true_and] at hx
  obtain ⟨rfl, rfl⟩ := hx
  rfl
 | o :: l, e, e', σ, σ', hx => by
  simp only [opsX] at hx
  split at hx
  ·rename_i y hy
   simp only [opsV, hy, Option.bind_some]
   exact opsV_of hx
  ·simp only [Option.map_eq_some_iff, Prod.mk.injEq] at hx
   obtain ⟨y, _, h1, _⟩ := hx
   cases h1
theorem opsV_mono {r r' : Runner} (h : LeR r r') : ∀ {l : List I} {e : Env} {σ : Heap} {x : Env × Heap}, opsV r l e σ = some x → opsV r' l e σ = some x
 | [], _, _, _, hx => hx
 | o :: l, e, σ, x, hx => by
  simp only [opsV, Option.bind_eq_some_iff, stepI_stepV, Option.map_eq_some_iff] at hx ⊢
  obtain ⟨y, ⟨z, hz, hy⟩, hx⟩ := hx
  exact ⟨y, ⟨z, stepV_mono h hz, hy⟩, opsV_mono h hx⟩
theorem then_to {x : Res} {f : Env → Heap → Res} {r : Ex × Env × Heap} (h : Ex.then x f = some r) : (∃ e σ, x = some (.normal, e, σ) ∧ f e σ = some r) ∨ (x = some r ∧ ∀ e σ, r ≠ (.normal, e, σ)) := by
 unfold Ex.then at h
 split at h
 ·rename_i e σ; exact .inl ⟨e, σ, rfl, h⟩
 ·rename_i hne; exact .inr ⟨h, fun e σ he => hne e σ (by rw [h, he])⟩
theorem then_stop {r : Ex × Env × Heap} (h : ∀ e σ, r ≠ (.normal, e, σ)) (f : Env → Heap → Res) : Ex.then (some r) f = some r := by
 unfold Ex.then
 split
 ·rename_i e σ he
  injection he with he
  exact absurd he (h e σ)
 ·rfl
theorem then_mono {x x' : Res} {f f' : Env → Heap → Res} (hx : ∀ r, x = some r → x' = some r) (hf : ∀ e σ r, f e σ = some r → f' e σ = some r) {r : Ex × Env × Heap} (h : Ex.then x f = some r) : Ex.then x' f' = some r := by
 rcases then_to h with ⟨e, σ, h1, h2⟩ | ⟨h1, h2⟩
 ·rw [hx _ h1]
  exact hf _ _ _ h2
 ·rw [hx _ h1]
  exact then_stop h2 _
theorem loopF_mono {f f' : Env → Heap → Res} (hf : ∀ e σ r, f e σ = some r → f' e σ = some r) : ∀ {n m : Nat}, n ≤ m → ∀ {e : Env} {σ : Heap} {r : Ex × Env × Heap}, loopF f n e σ = some r → loopF f' m e σ = some r
 | 0, _, _, _, _, _, h => by simp [loopF] at h
 | n + 1, m, hm, e, σ, r, h => by
  obtain ⟨m, rfl⟩ : ∃ k, m = k + 1 := ⟨m - 1, by omega⟩
  simp only [loopF] at h ⊢
  exact then_mono (hf e σ) (fun e σ r hr => loopF_mono hf (by omega) hr) h
theorem exec_mono {r r' : Runner} (h : LeR r r') {n m : Nat} (hn : n ≤ m) : ∀ (c : AC) {e : Env} {σ : Heap} {x : Ex × Env × Heap}, exec r n c e σ = some x → exec r' m c e σ = some x
 | .skip, _, _, _, hx => hx
 | .ops l, e, σ, x, hx => by
  simp only [exec] at hx ⊢
  exact opsX_mono h hx
 | .par l, e, σ, x, hx => by
  simp only [exec, Option.map_eq_some_iff] at hx ⊢
  obtain ⟨y, hy, hx⟩ := hx
  exact ⟨y, opsV_mono h hy, hx⟩
 | .parc ps l, e, σ, x, hx => by
  simp only [exec] at hx ⊢
  split at hx
  ·rename_i hall
   have h1 := opsX_mono h hx
   rw [if_pos (fun p hp => ?_)]
   ·exact h1
   ·have h2 := hall p hp
    rw [hx] at h2
    rw [h1]
    cases hq : opsX r (pickL l p) e σ with
    | none => rw [hq] at h2; exact (sameR_none h2).elim
    | some y => rw [hq] at h2; rw [opsX_mono h hq]; exact h2
  ·simp at hx
 | .bad, _, _, _, hx => hx
 | .seq a b, e, σ, x, hx => by
  simp only [exec] at hx ⊢
  exact then_mono (fun r => exec_mono h hn a) (fun e σ r => exec_mono h hn b) hx
 | .cond c a b, e, σ, x, hx => by
  simp only [exec] at hx ⊢
  split at hx
  ·rename_i t ht
   cases t
   ·exact exec_mono h hn b hx
   ·exact exec_mono h hn a hx
  ·simp at hx
 | .block id b, e, σ, x, hx => by
  simp only [exec] at hx ⊢
  split at hx
  ·rename_i j e' σ' hh
   rw [exec_mono h hn b hh]
   exact hx
  ·rename_i hne
   rw [exec_mono h hn b hx]
   split
   ·rename_i j e' σ' heq
    rw [heq] at hx
    exact absurd hx (hne j e' σ')
   ·rfl
 | .loop b, e, σ, x, hx => by
  simp only [exec] at hx ⊢
  exact loopF_mono (fun e σ r => exec_mono h hn b) hn hx
 | .exit id, _, _, _, hx => hx
 | .ret, _, _, _, hx => hx
theorem finish_mono {a : AF} {x x' : Res} (h : ∀ r, x = some r → x' = some r) {y : V × Heap} (hy : finish a x = some y) : finish a x' = some y := by
 cases hx : x with
 | none => rw [hx] at hy; simp [finish] at hy
 | some r => rw [h r hx]; rw [hx] at hy; exact hy
theorem runF_succ (A : AP) : ∀ n, LeR (runF A n) (runF A (n + 1))
 | 0 => fun f as σ x h => by simp [runF] at h
 | n + 1 => fun f as σ x h => by
  have ih := runF_succ A n
  rw [runF] at h ⊢
  split at h
  ·rename_i pf hpf
   exact h
  ·split at h
   ·rename_i a ha
    exact finish_mono (fun r hr => exec_mono ih (Nat.le_succ n) a.body hr) h
   ·simp at h
theorem runF_mono (A : AP) {n m : Nat} (h : n ≤ m) : LeR (runF A n) (runF A m) := by
 induction m with
 | zero =>
  have : n = 0 := by omega
  subst this
  exact fun _ _ _ _ h => h
 | succ m ih =>
  by_cases e : n = m + 1
  ·subst e; exact fun _ _ _ _ h => h
  ·exact fun f as σ x hx => runF_succ A m f as σ x (ih (by omega) f as σ x hx)
open Classical in
noncomputable def lim {α : Type} (x : Nat → Option α) : Option α := if h : ∃ n r, x n = some r then x h.choose else none
theorem lim_of {α : Type} {x : Nat → Option α} (hm : ∀ n m r, n ≤ m → x n = some r → x m = some r) {n : Nat} {r : α} (h : x n = some r) : lim x = some r := by
 unfold lim
 have he : ∃ n r, x n = some r := ⟨n, r, h⟩
 rw [dif_pos he]
 obtain ⟨r', hr'⟩ := he.choose_spec
 have h1 := hm _ (max n he.choose) _ (Nat.le_max_left _ _) h
 have h2 := hm _ (max n he.choose) _ (Nat.le_max_right _ _) hr'
 rw [h1] at h2
 injection h2 with h2
 subst h2
 exact hr'
theorem lim_to {α : Type} {x : Nat → Option α} {r : α} (h : lim x = some r) : ∃ n, x n = some r := by
 unfold lim at h
 split at h
 ·exact ⟨_, h⟩
 ·simp at h
theorem opt_ext {α : Type} {x y : Option α} (h : ∀ r, x = some r ↔ y = some r) : x = y := by
 cases x with
 | none =>
  cases y with
  | none => rfl
  | some b => have := (h b).2 rfl; simp at this
 | some a => exact ((h a).1 rfl).symm
noncomputable def Run (A : AP) : Runner := fun f as σ => lim fun n => runF A n f as σ
noncomputable def Exec (A : AP) (c : AC) (e : Env) (σ : Heap) : Res := lim fun n => exec (runF A n) n c e σ
section
variable {A : AP}
theorem Run_of {n : Nat} {f : FuncId} {as : List V} {σ : Heap} {r : V × Heap} (h : runF A n f as σ = some r) : Run A f as σ = some r :=
 lim_of (fun _ _ _ hnm hx => runF_mono A hnm _ _ _ _ hx) h
theorem Run_to {f : FuncId} {as : List V} {σ : Heap} {r : V × Heap} (h : Run A f as σ = some r) : ∃ n, runF A n f as σ = some r := lim_to h
theorem Exec_of {n : Nat} {c : AC} {e : Env} {σ : Heap} {r : Ex × Env × Heap} (h : exec (runF A n) n c e σ = some r) : Exec A c e σ = some r :=
 lim_of (fun _ _ _ hnm hx => exec_mono (runF_mono A hnm) hnm c hx) h
theorem Exec_to {c : AC} {e : Env} {σ : Heap} {r : Ex × Env × Heap} (h : Exec A c e σ = some r) : ∃ n, exec (runF A n) n c e σ = some r := lim_to h
theorem leRun (n : Nat) : LeR (runF A n) (Run A) := fun _ _ _ _ h => Run_of h
theorem callWith_to {q : Bool} {v : V} {as : List V} {τ : Heap} {x : V × Heap} (hq : callWith (Run A) q v as τ = some x) : ∃ n, callWith (runF A n) q v as τ = some x := by
 simp only [callWith, Option.bind_eq_some_iff] at hq ⊢
 obtain ⟨t, ht, y, hy, z, hz, hq⟩ := hq
 obtain ⟨n, hn⟩ := Run_to hz
 exact ⟨n, t, ht, y, hy, z, hn, hq⟩
theorem callPan_to {v : V} {as : List V} {τ : Heap} {x : V × Heap} (hq : callPan (Run A) v as τ = some x) : ∃ n, callPan (runF A n) v as τ = some x := by
 simp only [callPan, Option.bind_eq_some_iff] at hq ⊢
 obtain ⟨t, ht, y, hy, z, hz, hq⟩ := hq
 obtain ⟨n, hn⟩ := Run_to hz
 exact ⟨n, t, ht, y, hy, z, hn, hq⟩
theorem stepV_to {o : I} {e : Env} {σ : Heap} {z : V × Heap} (hz : stepV (Run A) o e σ = some z) : ∃ n, stepV (runF A n) o e σ = some z := by
 have hins : ∀ i e τ x, insV (Run A) i e τ = some x → ∃ n, insV (runF A n) i e τ = some x := by
  intro i e τ x hi
  cases i with
  | p i => exact ⟨0, hi⟩
  | h i =>
   cases i with
   | call f as => exact callWith_to hi
   | callq f as => exact callWith_to hi
   | _ => exact ⟨0, hi⟩
 obtain ⟨dst, g, ins⟩ := o
 cases g with
 | none => exact hins _ _ _ _ hz
 | some p =>
  obtain ⟨t, want⟩ := p
  simp only [stepV] at hz ⊢
  split at hz
  ·rename_i b hb
   cases hw : b == want
   ·rw [hw] at hz; exact ⟨0, hz⟩
   ·rw [hw] at hz; exact hins _ _ _ _ hz
  ·exact ⟨0, hz⟩
  ·simp at hz
theorem stepI_to {o : I} {e : Env} {σ : Heap} {z : Env × Heap} (hz : stepI (Run A) o e σ = some z) : ∃ n, stepI (runF A n) o e σ = some z := by
 simp only [stepI_stepV, Option.map_eq_some_iff] at hz ⊢
 obtain ⟨y, hy, hz⟩ := hz
 obtain ⟨n, hn⟩ := stepV_to hy
 exact ⟨n, y, hn, hz⟩
theorem panI_to {o : I} {e : Env} {σ : Heap} {z : V × Heap} (hz : panI (Run A) o e σ = some z) : ∃ n, panI (runF A n) o e σ = some z := by
 unfold panI at hz ⊢
 cases hc : guardOK o e with
 | false => rw [hc] at hz; simp at hz
 | true =>
  rw [hc] at hz
  simp only [cond_true] at hz ⊢
  split at hz
  ·exact callPan_to hz
  ·exact ⟨0, hz⟩
  ·simp at hz
theorem opsX_to : ∀ {l : List I} {e : Env} {σ : Heap} {r : Ex × Env × Heap}, opsX (Run A) l e σ = some r → ∃ n, opsX (runF A n) l e σ = some r
 | [], _, _, _, h => ⟨0, h⟩
 | o :: l, e, σ, r, h => by
  simp only [opsX] at h
  split at h
  ·rename_i y hy
   obtain ⟨n1, h1⟩ := stepI_to hy
   obtain ⟨n2, h2⟩ := opsX_to h
   refine ⟨max n1 n2, ?_⟩
   simp only [opsX, stepI_mono (runF_mono A (Nat.le_max_left n1 n2)) h1]
   exact opsX_mono (runF_mono A (Nat.le_max_right n1 n2)) h2
  ·simp only [Option.map_eq_some_iff] at h
   obtain ⟨y, hy, h⟩ := h
   obtain ⟨n, hn⟩ := panI_to hy
   refine ⟨n, ?_⟩
   simp only [opsX, panI_stop (fun _ _ _ _ h => h) hn, hn, Option.map_some, h]
theorem opsV_to {l : List I} {e : Env} {σ : Heap} {r : Env × Heap} (h : opsV (Run A) l e σ = some r) : ∃ n, opsV (runF A n) l e σ = some r := by
 obtain ⟨e', σ'⟩ := r
 obtain ⟨n, hn⟩ := opsX_to (opsX_of h)
 exact ⟨n, opsV_of hn⟩
@[simp] theorem then_normal (e : Env) (σ : Heap) (f : Env → Heap → Res) : Ex.then (some (.normal, e, σ)) f = f e σ := rfl
@[simp] theorem then_exit (id : Nat) (e : Env) (σ : Heap) (f : Env → Heap → Res) : Ex.then (some (.exit id, e, σ)) f = some (.exit id, e, σ) := rfl
@[simp] theorem then_panic (x : V) (e : Env) (σ : Heap) (f : Env → Heap → Res) : Ex.then (some (.panic x, e, σ)) f = some (.panic x, e, σ) := rfl
@[simp] theorem then_ret (e : Env) (σ : Heap) (f : Env → Heap → Res) : Ex.then (some (.ret, e, σ)) f = some (.ret, e, σ) := rfl
theorem Exec_skip (e : Env) (σ : Heap) : Exec A .skip e σ = some (.normal, e, σ) := Exec_of (n := 0) rfl
theorem Exec_exit (id : Nat) (e : Env) (σ : Heap) : Exec A (.exit id) e σ = some (.exit id, e, σ) := Exec_of (n := 0) rfl
theorem Exec_ret (e : Env) (σ : Heap) : Exec A .ret e σ = some (.ret, e, σ) := Exec_of (n := 0) rfl
theorem Exec_ops (l : List I) (e : Env) (σ : Heap) : Exec A (.ops l) e σ = opsX (Run A) l e σ := by
 refine opt_ext fun r => ⟨fun h => ?_, fun h => ?_⟩
 ·obtain ⟨n, h⟩ := Exec_to h
  simp only [exec] at h
  exact opsX_mono (leRun n) h
 ·obtain ⟨n, hn⟩ := opsX_to h
  exact Exec_of (n := n) (by simp only [exec]; exact hn)
theorem Exec_par (l : List I) (e : Env) (σ : Heap) : Exec A (.par l) e σ = (opsV (Run A) l e σ).map fun r => (.normal, r.1, r.2) := by
 refine opt_ext fun r => ⟨fun h => ?_, fun h => ?_⟩
 ·obtain ⟨n, h⟩ := Exec_to h
  simp only [exec, Option.map_eq_some_iff] at h ⊢
  obtain ⟨y, hy, h⟩ := h
  exact ⟨y, opsV_mono (leRun n) hy, h⟩
 ·simp only [Option.map_eq_some_iff] at h
  obtain ⟨y, hy, h⟩ := h
  obtain ⟨n, hn⟩ := opsV_to hy
  refine Exec_of (n := n) ?_
  simp only [exec, Option.map_eq_some_iff]
  exact ⟨y, hn, h⟩
theorem Exec_parc {ps : List (List Nat)} {l : List I} {e : Env} {σ : Heap} {x : Ex × Env × Heap} (hx : opsX (Run A) l e σ = some x) (hall : ∀ p ∈ ps, sameR (opsX (Run A) (pickL l p) e σ) (some x)) : Exec A (.parc ps l) e σ = some x := by
 obtain ⟨n0, h0⟩ := opsX_to hx
 have key : ∀ qs : List (List Nat), (∀ p ∈ qs, sameR (opsX (Run A) (pickL l p) e σ) (some x)) → ∃ n, ∀ p ∈ qs, sameR (opsX (runF A n) (pickL l p) e σ) (some x) := by
  intro qs
  induction qs with
  | nil => exact fun _ => ⟨0, by simp⟩
  | cons q qs ih =>
   intro h
   obtain ⟨n1, h1⟩ := ih (fun p hp => h p (.tail _ hp))
   have hq := h q (.head _)
   cases hr : opsX (Run A) (pickL l q) e σ with
   | none => rw [hr] at hq; exact (sameR_none hq).elim
   | some y =>
    obtain ⟨n2, h2⟩ := opsX_to hr
    refine ⟨max n1 n2, fun p hp => ?_⟩
    rcases List.mem_cons.1 hp with rfl | hp
    ·rw [opsX_mono (runF_mono A (Nat.le_max_right n1 n2)) h2, ← hr]; exact hq
    ·have h3 := h1 p hp
     cases h4 : opsX (runF A n1) (pickL l p) e σ with
     | none => rw [h4] at h3; exact (sameR_none h3).elim
     | some z => rw [h4] at h3; rw [opsX_mono (runF_mono A (Nat.le_max_left n1 n2)) h4]; exact h3
 obtain ⟨n1, h1⟩ := key ps hall
 refine Exec_of (n := max n0 n1) ?_
 have h2 := opsX_mono (runF_mono A (Nat.le_max_left n0 n1)) h0
 simp only [exec]
 rw [if_pos (fun p hp => ?_)]
 ·exact h2
 ·have h3 := h1 p hp
  rw [h2]
  cases h4 : opsX (runF A n1) (pickL l p) e σ with
  | none => rw [h4] at h3; exact (sameR_none h3).elim
  | some z => rw [h4] at h3; rw [opsX_mono (runF_mono A (Nat.le_max_right n0 n1)) h4]; exact h3
theorem Exec_seq (a b : AC) (e : Env) (σ : Heap) : Exec A (.seq a b) e σ = Ex.then (Exec A a e σ) (Exec A b) := by
 refine opt_ext fun r => ⟨fun h => ?_, fun h => ?_⟩
 ·obtain ⟨n, h⟩ := Exec_to h
  simp only [exec] at h
  exact then_mono (fun r hr => Exec_of hr) (fun e σ r hr => Exec_of hr) h
 ·rcases then_to h with ⟨e1, σ1, h1, h2⟩ | ⟨h1, h2⟩
  ·obtain ⟨n1, h1⟩ := Exec_to h1
   obtain ⟨n2, h2⟩ := Exec_to h2
   refine Exec_of (n := max n1 n2) ?_
   simp only [exec]
   rw [exec_mono (runF_mono A (Nat.le_max_left n1 n2)) (Nat.le_max_left n1 n2) a h1]
   exact exec_mono (runF_mono A (Nat.le_max_right n1 n2)) (Nat.le_max_right n1 n2) b h2
  ·obtain ⟨n1, h1⟩ := Exec_to h1
   refine Exec_of (n := n1) ?_
   simp only [exec]
   rw [h1]
   exact then_stop h2 _
theorem Exec_cond (c : O) (a b : AC) (e : Env) (σ : Heap) : Exec A (.cond c a b) e σ = match c.ev e with
  | .s (.bool t) => bif t then Exec A a e σ else Exec A b e σ
  | _ => none := by
 refine opt_ext fun r => ⟨fun h => ?_, fun h => ?_⟩
 ·obtain ⟨n, h⟩ := Exec_to h
  simp only [exec] at h
  split at h
  ·rename_i t ht
   rw [ht]
   cases t
   ·exact Exec_of h
   ·exact Exec_of h
  ·simp at h
 ·split at h
  ·rename_i t ht
   cases t
   ·obtain ⟨n, h⟩ := Exec_to h
    refine Exec_of (n := n) ?_
    simp only [exec, ht]
    exact h
   ·obtain ⟨n, h⟩ := Exec_to h
    refine Exec_of (n := n) ?_
    simp only [exec, ht]
    exact h
  ·simp at h
def Ex.out (id : Nat) (r : Res) : Res :=
 match r with
 | some (.exit j, e, σ) => bif j == id then some (.normal, e, σ) else some (.exit j, e, σ)
 | r => r
@[simp] theorem out_normal (id : Nat) (e : Env) (σ : Heap) : Ex.out id (some (.normal, e, σ)) = some (.normal, e, σ) := rfl
@[simp] theorem out_ret (id : Nat) (e : Env) (σ : Heap) : Ex.out id (some (.ret, e, σ)) = some (.ret, e, σ) := rfl
@[simp] theorem out_panic (id : Nat) (x : V) (e : Env) (σ : Heap) : Ex.out id (some (.panic x, e, σ)) = some (.panic x, e, σ) := rfl
@[simp] theorem out_exit (id j : Nat) (e : Env) (σ : Heap) : Ex.out id (some (.exit j, e, σ)) = bif j == id then some (.normal, e, σ) else some (.exit j, e, σ) := rfl
theorem exec_block (r : Runner) (n id : Nat) (b : AC) (e : Env) (σ : Heap) : exec r n (.block id b) e σ = Ex.out id (exec r n b e σ) := rfl
theorem Exec_block (id : Nat) (b : AC) (e : Env) (σ : Heap) : Exec A (.block id b) e σ = Ex.out id (Exec A b e σ) := by
 refine opt_ext fun r => ⟨fun h => ?_, fun h => ?_⟩
 ·obtain ⟨n, h⟩ := Exec_to h
  rw [exec_block] at h
  cases hx : exec (runF A n) n b e σ with
  | none => rw [hx] at h; simp [Ex.out] at h
  | some y => rw [Exec_of hx]; rw [hx] at h; exact h
 ·cases hx : Exec A b e σ with
  | none => rw [hx] at h; simp [Ex.out] at h
  | some y =>
   obtain ⟨n, hn⟩ := Exec_to hx
   refine Exec_of (n := n) ?_
   rw [exec_block, hn]
   rw [hx] at h
   exact h
theorem Exec_loop (b : AC) (e : Env) (σ : Heap) : Exec A (.loop b) e σ = Ex.then (Exec A b e σ) (Exec A (.loop b)) := by
 refine opt_ext fun r => ⟨fun h => ?_, fun h => ?_⟩
 ·obtain ⟨n, h⟩ := Exec_to h
  simp only [exec] at h
  cases n with
  | zero => simp [loopF] at h
  | succ n =>
   simp only [loopF] at h
   refine then_mono (fun r hr => Exec_of hr) (fun e σ r hr => ?_) h
   refine Exec_of (n := n + 1) ?_
   simp only [exec]
   exact loopF_mono (fun _ _ _ h => h) (Nat.le_succ n) hr
 ·rcases then_to h with ⟨e1, σ1, h1, h2⟩ | ⟨h1, h2⟩
  ·obtain ⟨n1, h1⟩ := Exec_to h1
   obtain ⟨n2, h2⟩ := Exec_to h2
   refine Exec_of (n := max n1 n2 + 1) ?_
   simp only [exec, loopF] at h2 ⊢
   rw [exec_mono (runF_mono A (show n1 ≤ max n1 n2 + 1 by omega)) (show n1 ≤ max n1 n2 + 1 by omega) b h1, then_normal]
   exact loopF_mono (fun e σ r => exec_mono (runF_mono A (show n2 ≤ max n1 n2 + 1 by omega)) (show n2 ≤ max n1 n2 + 1 by omega) b) (Nat.le_max_right n1 n2) h2
  ·obtain ⟨n1, h1⟩ := Exec_to h1
   refine Exec_of (n := n1 + 1) ?_
   simp only [exec, loopF]
   rw [exec_mono (runF_mono A (Nat.le_succ n1)) (Nat.le_succ n1) b h1]
   exact then_stop h2 _
theorem Run_fn {f : FuncId} {a : AF} (hp : A.prims f = none) (ha : A.fns f = some a) (as : List V) (σ : Heap) : Run A f as σ = finish a (Exec A a.body (entry a as) σ) := by
 refine opt_ext fun r => ⟨fun h => ?_, fun h => ?_⟩
 ·obtain ⟨n, h⟩ := Run_to h
  cases n with
  | zero => simp [runF] at h
  | succ n =>
   simp only [runF, hp, ha] at h
   exact finish_mono (fun r hr => Exec_of hr) h
 ·cases hx : Exec A a.body (entry a as) σ with
  | none => rw [hx] at h; simp [finish] at h
  | some y =>
   obtain ⟨n, hn⟩ := Exec_to hx
   refine Run_of (n := n + 1) ?_
   simp only [runF, hp, ha]
   rw [hn]
   rw [hx] at h
   exact h
theorem Run_prim {f : FuncId} {pf : List V → Heap → Option (V × Heap)} (hp : A.prims f = some pf) (as : List V) (σ : Heap) : Run A f as σ = pf as σ := by
 refine opt_ext fun r => ⟨fun h => ?_, fun h => ?_⟩
 ·obtain ⟨n, h⟩ := Run_to h
  cases n with
  | zero => simp [runF] at h
  | succ n => simpa only [runF, hp] using h
 ·exact Run_of (n := 1) (by simp only [runF, hp]; exact h)
end
def lookF (f : FuncId) : List (FuncId × AF) → Option AF
 | [] => none
 | (k, a) :: l => bif k == f then some a else lookF f l
def GoodL (P : Program) : List (FuncId × AF) → Prop
 | [] => True
 | (k, a) :: l => (∃ fn pc, P.funcs[k]? = some fn ∧ compF P pc fn = some a) ∧ GoodL P l
theorem goodL_look {P : Program} {f : FuncId} {a : AF} : ∀ {l : List (FuncId × AF)}, GoodL P l → lookF f l = some a → ∃ fn pc, P.funcs[f]? = some fn ∧ compF P pc fn = some a
 | [], _, h => by simp [lookF] at h
 | (k, b) :: l, hg, h => by
  unfold lookF at h
  cases hk : k == f
  ·rw [hk] at h; exact goodL_look hg.2 h
  ·rw [hk] at h
   simp only [cond_true, Option.some.injEq] at h
   subst h
   have : k = f := by simpa using hk
   subst this
   exact hg.1
theorem run_ok [Bas] {P : Program} {A : AP} (hA : FnsOK P A) (hp : PrimsOK P A) (hm : P.follows .mixedOrders = true) : RunOK P (Run A) := by
 intro f args σ v σ' h
 obtain ⟨n, hn⟩ := Run_to h
 exact runF_ok hA hp hm n f args σ v σ' hn
theorem law_calls [Bas] {P : Program} {A : AP} (hr : RunOK P (Run A)) {f : FuncId} {args : List V} {σ σ' : Heap} (h : Run A f args σ = some (.s (.bool true), σ')) {ι : Inj} {W : World} {as : List Value} (hR : RelW ι σ W) (hD : Dom ι σ) (hv : VRL ι args as) (hro : ∀ b, ¬ mutb σ b) :
  Calls P f as.toArray W fun e W' => e = .returned (.bool true) ∧ Go.RowKit.Below W.heap.size W W' := by
 obtain ⟨_, hcalls⟩ := hr f args σ _ σ' h
 refine (hcalls ι W as hR hD hv).mono ?_
 rintro e W' ⟨ι', ⟨v', rfl, hv'⟩, hp⟩
 simp only [VR, S.val] at hv'
 subst hv'
 exact ⟨rfl, hp.same.os, hp.same.tape, hp.same.output, hp.same.size, fun k hk => hp.frame k hk (fun b p _ hm => absurd hm (hro b))⟩
end Go.Am
namespace Go.Am
open Go
abbrev FE := Nat → V
abbrev HA := List (Nat × Blk)
def E (N : Nat) (f : FE) : Env := (List.range N).map f
def rd (N : Nat) (f : FE) (n : Nat) : V := bif Nat.blt n N then f n else .undef
def O.fv (N : Nat) (f : FE) : O → V
 | .t n => rd N f n
 | .k v => v
def upd (f : FE) (d : Nat) (v : V) : FE := fun i => bif Nat.beq i d then v else f i
def updO (f : FE) (d : Option Nat) (v : V) : FE :=
 match d with
 | some d => upd f d v
 | none => f
theorem getD_E (N : Nat) (f : FE) (n : Nat) : (E N f).getD n .undef = rd N f n := by
 unfold E rd
 rw [List.getD_eq_getElem?_getD, List.getElem?_map]
 by_cases h : n < N
 ·rw [List.getElem?_range h]
  have : Nat.blt n N = true := Nat.ble_eq_true_of_le h
  simp [this]
 ·rw [List.getElem?_eq_none (by simpa using h)]
  have : Nat.blt n N = false := by
   cases hb : Nat.blt n N with
   | false => rfl
   | true => simp at hb; omega
  simp [this]
theorem ev_E (N : Nat) (f : FE) (x : O) : x.ev (E N f) = x.fv N f := by
 cases x with
 | t n => exact getD_E N f n
 | k v => rfl
theorem evs_E (N : Nat) (f : FE) (xs : List O) : xs.map (·.ev (E N f)) = xs.map (O.fv N f) := List.map_congr_left fun x _ => ev_E N f x
theorem put_E (N : Nat) (f : FE) (d : Option Nat) (v : V) : putT (E N f) d v = E N (updO f d v) := by
 cases d with
 | none => rfl
 | some d =>
  simp only [putT, updO, E]
  refine List.ext_getElem (by simp) fun i h1 h2 => ?_
  simp only [List.getElem_set, List.getElem_map, List.getElem_range, upd]
  by_cases h : d = i
  ·subst h; simp
  ·rw [if_neg h]
   have : Nat.beq i d = false := by
    cases hb : Nat.beq i d with
    | false => rfl
    | true => exact absurd (Nat.eq_of_beq_eq_true hb).symm h
   rw [this]; rfl
theorem upd_self {f : FE} {d : Nat} {v : V} (h : f d = v) : upd f d v = f := by
 funext i
 unfold upd
 cases hb : Nat.beq i d with
 | false => rfl
 | true => rw [Nat.eq_of_beq_eq_true hb, h]; rfl
theorem NM : (∀ a b : Int, ((a == b) = true) = (a = b)) ∧ (∀ a b : Int, ((a == b) = false) = ¬ (a = b)) ∧ (∀ a b : Int, ((a != b) = true) = ¬ (a = b)) ∧ (∀ a b : Int, ((a != b) = false) = (a = b)) ∧
  (∀ (p : Prop) [Decidable p], (decide p = true) = p) ∧ (∀ (p : Prop) [Decidable p], (decide p = false) = ¬ p) ∧ (∀ a b : Int, (a > b) = (b < a)) ∧ (∀ a b : Int, (a ≥ b) = (b ≤ a)) ∧ (∀ a b : Int, (¬ a < b) = (b ≤ a)) ∧ (∀ a b : Int, (¬ a ≤ b) = (b < a)) ∧
  (∀ p : Prop, (¬¬ p) = p) ∧ (∀ b : Bool, (¬ b = true) = (b = false)) ∧ (∀ b : Bool, (¬ b = false) = (b = true)) ∧ (∀ b : Bool, ((!b) = true) = (b = false)) ∧ (∀ b : Bool, ((!b) = false) = (b = true)) ∧ (∀ a b : Bool, cond true a b = a) ∧ (∀ a b : Bool, cond false a b = b) ∧ (∀ a b : Int, (a ≠ b) = ¬ (a = b)) := by
 refine ⟨fun a b => ?_, fun a b => ?_, fun a b => ?_, fun a b => ?_, fun p _ => ?_, fun p _ => ?_, fun a b => ?_, fun a b => ?_, fun a b => ?_, fun a b => ?_, fun p => ?_, fun b => ?_, fun b => ?_, fun b => ?_, fun b => ?_, fun a b => rfl, fun a b => rfl, fun a b => rfl⟩ <;> simp
def HL (σ : Heap) (n : Nat) : HA → Prop
 | [] => True
 | (b, B) :: L => b < n ∧ σ[b]? = some B ∧ (∀ p ∈ L, p.1 ≠ b) ∧ HL σ n L
def Hp (σ : Heap) (n : Nat) (L : HA) : Prop := σ.length = n ∧ HL σ n L
theorem HL.mem {σ : Heap} {n : Nat} {b : Nat} {B : Blk} : ∀ {L : HA}, HL σ n L → (b, B) ∈ L → b < n ∧ σ[b]? = some B
 | (c, C) :: L, h, hm => by
  rcases List.mem_cons.1 hm with he | hm
  ·injection he with h1 h2
   subst h1; subst h2
   exact ⟨h.1, h.2.1⟩
  ·exact HL.mem h.2.2.2 hm
theorem HL.lt {σ : Heap} {n : Nat} : ∀ {L : HA}, HL σ n L → ∀ p ∈ L, p.1 < n
 | (c, C) :: L, h, p, hm => by
  rcases List.mem_cons.1 hm with he | hm
  ·subst he; exact h.1
  ·exact HL.lt h.2.2.2 p hm
theorem HL.keep {σ τ : Heap} {n m : Nat} (hn : n ≤ m) : ∀ {L : HA}, (∀ p ∈ L, τ[p.1]? = σ[p.1]?) → HL σ n L → HL τ m L
 | [], _, _ => trivial
 | (c, C) :: L, hk, h => ⟨by have := h.1; omega, by rw [hk _ (.head _)]; exact h.2.1, h.2.2.1, h.2.2.2.keep hn fun p hp => hk p (.tail _ hp)⟩
theorem Hp.new {σ : Heap} {n : Nat} {L : HA} (h : Hp σ n L) (B : Blk) : Hp (σ ++ [B]) (n + 1) ((n, B) :: L) := by
 refine ⟨by simp [h.1], by omega, by rw [← h.1]; simp, fun p hp => by have := h.2.lt p hp; omega, h.2.keep (by omega) fun p hp => ?_⟩
 rw [List.getElem?_append_left]
 have := h.2.lt p hp
 rw [h.1]; exact this
def setL (b : Nat) (B : Blk) : HA → HA
 | [] => []
 | (c, C) :: L => (c, bif Nat.beq c b then B else C) :: setL b B L
inductive At (b : Nat) (B : Blk) (B' : Blk) : HA → HA → Prop
 | here {L : HA} : At b B B' ((b, B) :: L) ((b, B') :: L)
 | there {p : Nat × Blk} {L L' : HA} : At b B B' L L' → At b B B' (p :: L) (p :: L')
theorem At.mem {b : Nat} {B B' : Blk} {L L' : HA} (h : At b B B' L L') : (b, B) ∈ L := by
 induction h with
 | here => exact .head _
 | there _ ih => exact .tail _ ih
theorem At.fst {b : Nat} {B B' : Blk} {L L' : HA} (h : At b B B' L L') : ∀ q ∈ L', ∃ p ∈ L, p.1 = q.1 := by
 induction h with
 | here =>
  intro q hq
  rcases List.mem_cons.1 hq with he | hq
  ·exact ⟨_, .head _, by rw [he]⟩
  ·exact ⟨q, .tail _ hq, rfl⟩
 | there _ ih =>
  intro q hq
  rcases List.mem_cons.1 hq with he | hq
  ·exact ⟨_, .head _, by rw [he]⟩
  ·obtain ⟨p, hp, e⟩ := ih q hq
   exact ⟨p, .tail _ hp, e⟩
theorem HL.set {σ : Heap} {n : Nat} {b : Nat} {B B' : Blk} {L L' : HA} (ha : At b B B' L L') : HL σ n L → σ.length = n → HL (σ.set b B') n L' := by
 induction ha with
 | @here L =>
  intro h hl
  refine ⟨h.1, by rw [List.getElem?_set_self (by rw [hl]; exact h.1)], h.2.2.1, h.2.2.2.keep (Nat.le_refl _) fun p hp => ?_⟩
  rw [List.getElem?_set_ne (Ne.symm (h.2.2.1 p hp))]
 | @there p L L' ha ih =>
  obtain ⟨c, C⟩ := p
  intro h hl
  have hne : c ≠ b := fun e => h.2.2.1 _ ha.mem e.symm
  refine ⟨h.1, by rw [List.getElem?_set_ne (Ne.symm hne)]; exact h.2.1, fun q hq => ?_, ih h.2.2.2 hl⟩
  obtain ⟨p, hp, e⟩ := ha.fst q hq
  rw [← e]
  exact h.2.2.1 p hp
theorem Hp.set {σ : Heap} {n : Nat} {b : Nat} {B B' : Blk} {L L' : HA} (ha : At b B B' L L') (h : Hp σ n L) : Hp (σ.set b B') n L' := ⟨by simp [h.1], h.2.set ha h.1⟩
theorem Hp.drop {σ : Heap} {n : Nat} {p : Nat × Blk} {L : HA} (h : Hp σ n (p :: L)) : Hp σ n L := ⟨h.1, by obtain ⟨c, C⟩ := p; exact h.2.2.2.2⟩
theorem HL.sub {σ : Heap} {n : Nat} {L L' : HA} (hs : List.Sublist L' L) : HL σ n L → HL σ n L' := by
 induction hs with
 | slnil => exact fun h => h
 | cons p hs ih =>
  obtain ⟨c, C⟩ := p
  exact fun h => ih h.2.2.2
 | cons_cons p hs ih =>
  obtain ⟨c, C⟩ := p
  exact fun h => ⟨h.1, h.2.1, fun q hq => h.2.2.1 q (hs.subset hq), ih h.2.2.2⟩
theorem Hp.sub {σ : Heap} {n : Nat} {L L' : HA} (hs : List.Sublist L' L) (h : Hp σ n L) : Hp σ n L' := ⟨h.1, h.2.sub hs⟩
abbrev KN := FE → Nat → HA → Prop
def outO (x : Ex) (f : FE) (n : Nat) (L : HA) (K : KN) (Zp : V → KN) : Prop :=
 match x with
 | .normal => K f n L
 | .panic v => Zp v f n L
 | _ => False
def WO (A : AP) (N : Nat) (l : List I) (f : FE) (n : Nat) (L : HA) (K : KN) (Zp : V → KN) : Prop :=
 ∀ σ, Hp σ n L → ∃ x f' σ' n' L', opsX (Run A) l (E N f) σ = some (x, E N f', σ') ∧ Hp σ' n' L' ∧ outO x f' n' L' K Zp
def outK (x : Ex) (f : FE) (n : Nat) (L : HA) (K : KN) (X : Nat → KN) (R : KN) (Zp : V → KN) : Prop :=
 match x with
 | .normal => K f n L
 | .exit j => X j f n L
 | .ret => R f n L
 | .panic v => Zp v f n L
def WP (A : AP) (N : Nat) (c : AC) (f : FE) (n : Nat) (L : HA) (K : KN) (X : Nat → KN) (R : KN) (Zp : V → KN) : Prop :=
 ∀ σ, Hp σ n L → ∃ x f' σ' n' L', Exec A c (E N f) σ = some (x, E N f', σ') ∧ Hp σ' n' L' ∧ outK x f' n' L' K X R Zp
section
variable {A : AP} {N : Nat} {f : FE} {n : Nat} {L : HA} {K : KN} {Zp : V → KN} {X : Nat → KN} {R : KN}
theorem WP_skip (h : K f n L) : WP A N .skip f n L K X R Zp := fun σ hσ => ⟨.normal, f, σ, n, L, Exec_skip _ _, hσ, h⟩
theorem WP_ret (h : R f n L) : WP A N .ret f n L K X R Zp := fun σ hσ => ⟨.ret, f, σ, n, L, Exec_ret _ _, hσ, h⟩
theorem WP_exit {j : Nat} (h : X j f n L) : WP A N (.exit j) f n L K X R Zp := fun σ hσ => ⟨.exit j, f, σ, n, L, Exec_exit _ _ _, hσ, h⟩
theorem WP_ops {l : List I} (h : WO A N l f n L K Zp) : WP A N (.ops l) f n L K X R Zp := fun σ hσ => by
 obtain ⟨x, f', σ', n', L', h1, h2, h3⟩ := h σ hσ
 refine ⟨x, f', σ', n', L', by rw [Exec_ops, h1], h2, ?_⟩
 cases x with
 | normal => exact h3
 | panic v => exact h3
 | exit j => exact h3.elim
 | ret => exact h3.elim
theorem WP_par {l : List I} (h : WO A N l f n L K fun _ _ _ _ => False) : WP A N (.par l) f n L K X R Zp := fun σ hσ => by
 obtain ⟨x, f', σ', n', L', h1, h2, h3⟩ := h σ hσ
 cases x with
 | normal => exact ⟨.normal, f', σ', n', L', by rw [Exec_par, opsV_of h1]; rfl, h2, h3⟩
 | panic v => exact h3.elim
 | exit j => exact h3.elim
 | ret => exact h3.elim
theorem WP_parc {ps : List (List Nat)} {l : List I} (h : ∀ σ, Hp σ n L → ∃ x f' σ' n' L', opsX (Run A) l (E N f) σ = some (x, E N f', σ') ∧ (∀ p ∈ ps, sameR (opsX (Run A) (pickL l p) (E N f) σ) (some (x, E N f', σ'))) ∧ Hp σ' n' L' ∧ outO x f' n' L' K Zp) : WP A N (.parc ps l) f n L K X R Zp := fun σ hσ => by
 obtain ⟨x, f', σ', n', L', h1, h0, h2, h3⟩ := h σ hσ
 refine ⟨x, f', σ', n', L', Exec_parc h1 h0, h2, ?_⟩
 cases x with
 | normal => exact h3
 | panic v => exact h3
 | exit j => exact h3.elim
 | ret => exact h3.elim
theorem WP_seq {a b : AC} (h : WP A N a f n L (fun f n L => WP A N b f n L K X R Zp) X R Zp) : WP A N (.seq a b) f n L K X R Zp := fun σ hσ => by
 obtain ⟨x, f', σ', n', L', h1, h2, h3⟩ := h σ hσ
 cases x with
 | normal =>
  obtain ⟨x, f2, σ2, n2, L2, h4, h5, h6⟩ := h3 σ' h2
  exact ⟨x, f2, σ2, n2, L2, by rw [Exec_seq, h1, then_normal, h4], h5, h6⟩
 | exit j => exact ⟨.exit j, f', σ', n', L', by rw [Exec_seq, h1, then_exit], h2, h3⟩
 | ret => exact ⟨.ret, f', σ', n', L', by rw [Exec_seq, h1, then_ret], h2, h3⟩
 | panic v => exact ⟨.panic v, f', σ', n', L', by rw [Exec_seq, h1, then_panic], h2, h3⟩
theorem WP_cond {c : O} {a b : AC} {t : Bool} (hc : c.fv N f = .s (.bool t)) (h1 : t = true → WP A N a f n L K X R Zp) (h2 : t = false → WP A N b f n L K X R Zp) : WP A N (.cond c a b) f n L K X R Zp := fun σ hσ => by
 rw [Exec_cond, ev_E, hc]
 cases t with
 | true => exact h1 rfl σ hσ
 | false => exact h2 rfl σ hσ
theorem WP_block {id : Nat} {b : AC} (h : WP A N b f n L K (fun j f n L => bif Nat.beq j id then K f n L else X j f n L) R Zp) : WP A N (.block id b) f n L K X R Zp := fun σ hσ => by
 obtain ⟨x, f', σ', n', L', h1, h2, h3⟩ := h σ hσ
 cases x with
 | normal => exact ⟨.normal, f', σ', n', L', by rw [Exec_block, h1, out_normal], h2, h3⟩
 | ret => exact ⟨.ret, f', σ', n', L', by rw [Exec_block, h1, out_ret], h2, h3⟩
 | panic v => exact ⟨.panic v, f', σ', n', L', by rw [Exec_block, h1, out_panic], h2, h3⟩
 | exit j =>
  simp only [outK] at h3
  cases hj : Nat.beq j id with
  | true =>
   rw [hj] at h3
   exact ⟨.normal, f', σ', n', L', by rw [Exec_block, h1, out_exit, Nat.eq_of_beq_eq_true hj]; simp, h2, h3⟩
  | false =>
   rw [hj] at h3
   refine ⟨.exit j, f', σ', n', L', ?_, h2, h3⟩
   rw [Exec_block, h1, out_exit]
   have : (j == id) = false := by
    cases hq : j == id with
    | false => rfl
    | true =>
     have := eq_of_beq hq
     subst this
     simp at hj
   rw [this]; rfl
theorem xhere {j : Nat} {a b : Prop} (h : a) : bif Nat.beq j j then a else b := by
 have : Nat.beq j j = true := by simp
 rw [this]; exact h
theorem xthere {i j : Nat} {a b : Prop} (hij : Nat.beq j i = false) (h : b) : bif Nat.beq j i then a else b := by rw [hij]; exact h
theorem WP_mono {c : AC} {K' : KN} {X' : Nat → KN} {R' : KN} (h : WP A N c f n L K X R Zp) (hK : ∀ f n L, K f n L → K' f n L) (hX : ∀ j f n L, X j f n L → X' j f n L) (hR : ∀ f n L, R f n L → R' f n L) : WP A N c f n L K' X' R' Zp := fun σ hσ => by
 obtain ⟨x, f', σ', n', L', h1, h2, h3⟩ := h σ hσ
 refine ⟨x, f', σ', n', L', h1, h2, ?_⟩
 cases x with
 | normal => exact hK _ _ _ h3
 | exit j => exact hX _ _ _ _ h3
 | ret => exact hR _ _ _ h3
 | panic v => exact h3
theorem WP_loop {b : AC} (I : Nat → KN) (hb : ∀ m f n L, I m f n L → WP A N b f n L (fun f n L => ∃ k L', k < m ∧ List.Sublist L' L ∧ I k f n L') X R Zp) : ∀ m {f : FE} {n : Nat} {L : HA}, I m f n L → WP A N (.loop b) f n L K X R Zp := by
 intro m
 induction m using Nat.strongRecOn with
 | ind m ih =>
  intro f n L hI σ hσ
  obtain ⟨x, f', σ', n', L', h1, h2, h3⟩ := hb m f n L hI σ hσ
  rw [Exec_loop]
  cases x with
  | normal =>
   obtain ⟨k, L3, hk, hs, hIk⟩ := h3
   obtain ⟨x, f2, σ2, n2, L2, h4, h5, h6⟩ := ih k hk hIk σ' (h2.sub hs)
   exact ⟨x, f2, σ2, n2, L2, by rw [h1, then_normal, h4], h5, h6⟩
  | exit j => exact ⟨.exit j, f', σ', n', L', by rw [h1, then_exit], h2, h3⟩
  | ret => exact ⟨.ret, f', σ', n', L', by rw [h1, then_ret], h2, h3⟩
  | panic v => exact ⟨.panic v, f', σ', n', L', by rw [h1, then_panic], h2, h3⟩
theorem WP_know {c : AC} {d : Nat} {v : V} (h : f d = v) (k : WP A N c (upd f d v) n L K X R Zp) : WP A N c f n L K X R Zp := by rw [upd_self h] at k; exact k
theorem WP_sub {c : AC} {L' : HA} (hs : List.Sublist L' L) (k : WP A N c f n L' K X R Zp) : WP A N c f n L K X R Zp := fun σ hσ => k σ (hσ.sub hs)
theorem WO_nil (h : K f n L) : WO A N [] f n L K Zp := fun σ hσ => ⟨.normal, f, σ, n, L, rfl, hσ, h⟩
theorem WO_know {l : List I} {d : Nat} {v : V} (h : f d = v) (k : WO A N l (upd f d v) n L K Zp) : WO A N l f n L K Zp := by rw [upd_self h] at k; exact k
theorem WO_case {l : List I} {t : Nat} {b : Bool} (h : rd N f t = .s (.bool b)) (kt : b = true → WO A N l (upd f t (.s (.bool true))) n L K Zp) (kf : b = false → WO A N l (upd f t (.s (.bool false))) n L K Zp) : WO A N l f n L K Zp := by
 have ht : f t = .s (.bool b) := by
  unfold rd at h
  cases hb : Nat.blt t N with
  | true => rw [hb] at h; exact h
  | false => rw [hb] at h; cases h
 cases b with
 | true => have := kt rfl; rw [upd_self ht] at this; exact this
 | false => have := kf rfl; rw [upd_self ht] at this; exact this
theorem WO_gt {l : List I} {d : Option Nat} {t : Nat} {want : Bool} {i : Ins} (h : rd N f t = .s (.bool want)) (k : WO A N (⟨d, none, i⟩ :: l) f n L K Zp) : WO A N (⟨d, some (t, want), i⟩ :: l) f n L K Zp := fun σ hσ => by
 obtain ⟨x, f', σ', n', L', h1, h2, h3⟩ := k σ hσ
 refine ⟨x, f', σ', n', L', ?_, h2, h3⟩
 rw [← h1]
 have hp : panI (Run A) ⟨d, some (t, want), i⟩ (E N f) σ = panI (Run A) ⟨d, none, i⟩ (E N f) σ := by
  have e1 : guardOK ⟨d, some (t, want), i⟩ (E N f) = true := by simp only [guardOK, getD_E, h, beq_self_eq_true]
  have e2 : guardOK ⟨d, none, i⟩ (E N f) = true := rfl
  simp only [panI, e1, e2]
 simp only [opsX, stepI, getD_E, h, beq_self_eq_true, cond_true, hp]
theorem WO_gf {l : List I} {d : Option Nat} {t : Nat} {want b : Bool} {i : Ins} (h : rd N f t = .s (.bool b)) (hb : (b == want) = false) (k : WO A N l (updO f d (.tup [])) n L K Zp) : WO A N (⟨d, some (t, want), i⟩ :: l) f n L K Zp := fun σ hσ => by
 obtain ⟨x, f', σ', n', L', h1, h2, h3⟩ := k σ hσ
 refine ⟨x, f', σ', n', L', ?_, h2, h3⟩
 rw [← h1]
 simp only [opsX, stepI, getD_E, h, hb, cond_false, put_E]
theorem WO_gu {l : List I} {d : Option Nat} {t : Nat} {want : Bool} {i : Ins} (h : rd N f t = .tup []) (k : WO A N l (updO f d (.tup [])) n L K Zp) : WO A N (⟨d, some (t, want), i⟩ :: l) f n L K Zp := fun σ hσ => by
 obtain ⟨x, f', σ', n', L', h1, h2, h3⟩ := k σ hσ
 refine ⟨x, f', σ', n', L', ?_, h2, h3⟩
 rw [← h1]
 simp only [opsX, stepI, getD_E, h, put_E]
theorem WO_p {l : List I} {d : Option Nat} {i : PIns} {v : V} (h : pureV i (E N f) = some v) (k : WO A N l (updO f d v) n L K Zp) : WO A N (⟨d, none, .p i⟩ :: l) f n L K Zp := fun σ hσ => by
 obtain ⟨x, f', σ', n', L', h1, h2, h3⟩ := k σ hσ
 refine ⟨x, f', σ', n', L', ?_, h2, h3⟩
 rw [← h1]
 simp only [opsX, stepI, insV, h, Option.map_some, put_E]
theorem WO_h {l : List I} {d : Option Nat} {i : HIns} {v : V} {n' : Nat} {L' : HA} (h : ∀ σ, Hp σ n L → ∃ σ', heapV (Run A) i (E N f) σ = some (v, σ') ∧ Hp σ' n' L') (k : WO A N l (updO f d v) n' L' K Zp) : WO A N (⟨d, none, .h i⟩ :: l) f n L K Zp := fun σ hσ => by
 obtain ⟨σ1, h1, h2⟩ := h σ hσ
 obtain ⟨x, f', σ', n', L', h3, h4, h5⟩ := k σ1 h2
 refine ⟨x, f', σ', n', L', ?_, h4, h5⟩
 rw [← h3]
 simp only [opsX, stepI, insV, h1, Option.map_some, put_E]
end
def known : Nat → List Blk → HA
 | _, [] => []
 | k, b :: l => (k, b) :: known (k + 1) l
theorem known_lt : ∀ (l : List Blk) (k : Nat), ∀ p ∈ known k l, k ≤ p.1
 | b :: l, k, p, hp => by
  rcases List.mem_cons.1 hp with he | hp
  ·subst he; exact Nat.le_refl _
  ·have := known_lt l (k + 1) p hp; omega
theorem HL_known (σ : Heap) : ∀ (l : List Blk) (k : Nat), (∀ i b, l[i]? = some b → σ[k + i]? = some b) → k + l.length = σ.length → HL σ σ.length (known k l)
 | [], _, _, _ => trivial
 | b :: l, k, h, hl => ⟨by simp at hl; omega, h 0 b rfl, fun p hp => by have := known_lt l (k + 1) p hp; omega, HL_known σ l (k + 1) (fun i c hc => by rw [show k + 1 + i = k + (i + 1) by omega]; exact h (i + 1) c hc) (by simp at hl; omega)⟩
theorem Hp_known (σ : Heap) : Hp σ σ.length (known 0 σ) := ⟨rfl, HL_known σ σ 0 (fun i b h => by simpa using h) (by simp)⟩
abbrev KR := V → Nat → HA → Prop
def WR (A : AP) (fid : FuncId) (as : List V) (Bs : List Blk) (K : KR) : Prop :=
 ∃ v σ' n' L', Run A fid as Bs = some (v, σ') ∧ Hp σ' n' L' ∧ K v n' L'
def RS (N : Nat) (f : FE) (L : HA) : List Rv → List V → Prop
 | [], [] => True
 | .tmp t :: l, v :: vs => rd N f t = v ∧ RS N f L l vs
 | .cell a agg m :: l, v :: vs => (∃ b o z md k g, rd N f a = .ptr b o z ∧ m ≤ z ∧ (b, Blk.sc md k g) ∈ L ∧ v = bif agg then .agg m (fun i => g (o + i)) else .s (g o)) ∧ RS N f L l vs
 | _, _ => False
theorem resL_RS {N : Nat} {f : FE} {n : Nat} {L : HA} {σ : Heap} (h : Hp σ n L) : ∀ {rs : List Rv} {vs : List V}, RS N f L rs vs → resL (E N f) σ rs = some vs
 | [], [], _ => rfl
 | .tmp t :: l, v :: vs, hr => by
  simp only [resL, resV, getD_E, hr.1, resL_RS h hr.2]
 | .cell a agg m :: l, v :: vs, hr => by
  obtain ⟨⟨b, o, z, md, k, g, h1, h2, h3, h4⟩, h5⟩ := hr
  simp only [resL, resV, getD_E, h1, if_pos h2, rdV, (h.2.mem h3).2, resL_RS h h5, h4]
theorem RS_cell {N : Nat} {f : FE} {L : HA} {a b m z : Nat} {md : Md} {k : Nat} {g : Nat → S} {l : List Rv} {vs : List V} (h : rd N f a = .ptr b 0 z) (hz : Nat.ble m z = true) (hm : (b, Blk.sc md k g) ∈ L) (hr : RS N f L l vs) : RS N f L (.cell a true m :: l) (.agg m g :: vs) :=
 ⟨⟨b, 0, z, md, k, g, h, Nat.le_of_ble_eq_true hz, hm, by simp⟩, hr⟩
theorem RS_tmp {N : Nat} {f : FE} {L : HA} {t : Nat} {v : V} {l : List Rv} {vs : List V} (h : rd N f t = v) (hr : RS N f L l vs) : RS N f L (.tmp t :: l) (v :: vs) := ⟨h, hr⟩
theorem RS_nil {N : Nat} {f : FE} {L : HA} : RS N f L [] [] := trivial
def retV : List V → V
 | [x] => x
 | l => .tup l
theorem WR_fn {A : AP} {fid : FuncId} {a : AF} {as : List V} {Bs : List Blk} {K : KR} (hp : A.prims fid = none) (ha : A.fns fid = some a) (f : FE) (hf : entry a as = E a.nt f) {m : Nat} (hm : Bs.length = m)
  (h : WP A a.nt a.body f m (known 0 Bs) (fun f n L => ∃ vs, RS a.nt f L a.res vs ∧ K (retV vs) n L) (fun _ _ _ _ => False) (fun f n L => ∃ vs, RS a.nt f L a.res vs ∧ K (retV vs) n L) (fun v _ n L => K (.pan v) n L)) : WR A fid as Bs K := by
 subst hm
 obtain ⟨x, f', σ', n', L', h1, h2, h3⟩ := h Bs (Hp_known Bs)
 have fin : ∀ vs, RS a.nt f' L' a.res vs → resOf (E a.nt f') σ' a.res = some (retV vs) := by
  intro vs hvs
  unfold resOf
  rw [resL_RS h2 hvs]
  match vs with
  | [] => rfl
  | [x] => rfl
  | x :: y :: l => rfl
 cases x with
 | normal =>
  obtain ⟨vs, hvs, hK⟩ := h3
  exact ⟨retV vs, σ', n', L', by rw [Run_fn hp ha, hf, h1]; simp [finish, fin vs hvs], h2, hK⟩
 | ret =>
  obtain ⟨vs, hvs, hK⟩ := h3
  exact ⟨retV vs, σ', n', L', by rw [Run_fn hp ha, hf, h1]; simp [finish, fin vs hvs], h2, hK⟩
 | exit j => exact h3.elim
 | panic v => exact ⟨.pan v, σ', n', L', by rw [Run_fn hp ha, hf, h1]; rfl, h2, h3⟩
def entryF (as : List V) : FE := fun i => as.getD i .undef
theorem entry_E {a : AF} {as : List V} (h : as.length ≤ a.nt) : entry a as = E a.nt (entryF as) := by
 unfold entry E entryF
 refine List.ext_getElem (by simp; omega) fun i h1 h2 => ?_
 simp only [List.getElem_map, List.getElem_range]
 by_cases hi : i < as.length
 ·rw [List.getElem_append_left hi, List.getD_eq_getElem?_getD, List.getElem?_eq_getElem hi]; rfl
 ·rw [List.getElem_append_right (by omega), List.getD_eq_getElem?_getD, List.getElem?_eq_none (by omega)]; simp
end Go.Am
