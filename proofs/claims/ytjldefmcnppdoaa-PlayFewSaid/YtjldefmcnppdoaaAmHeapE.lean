/- The abstract machine's operations on memory that write: maps' entries, appends; and all of them together. -/
import Derived.Test.YtjldefmcnppdoaaAmHeapD
namespace Go.Am
open Go

theorem fits_eq {k j : S} (h : k.fits j = true) (he : k.eqB j = true) : k.val = j.val := by
  obtain ⟨kk, x, y, rfl, rfl⟩ := fits_int h
  have := of_decide_eq_true he
  subst this
  rfl

theorem mput_R {ι : Inj} {k0 : IntKind} {j : S} {v : V} {u : Value} (hv : VR ι v u) (ck : Nat) : ∀ {l : List (S × V)} {es : List MapEntry} (i : Nat), (l.all fun p => p.1.fits j) = true → MR ι l es →
    (Instr.findNow (.int k0) j.val es i = some none ∧ MR ι (mput j v l) (es ++ [⟨j.val, u, ck⟩])) ∨
    (∃ q w e, Instr.findNow (.int k0) j.val es i = some (some (i + q, w)) ∧ es[q]? = some e ∧ e.key = j.val ∧ MR ι (mput j v l) (es.modify q fun e => { e with key := j.val, val := u }))
  | [], es, i, _, hm => by
    simp only [MR] at hm
    subst hm
    exact .inl ⟨rfl, _, [], rfl, rfl, hv, rfl⟩
  | (k, x) :: l, es, i, hf, hm => by
    simp only [MR] at hm
    obtain ⟨e, r, rfl, hk, hx, hr⟩ := hm
    simp only [List.all_cons, Bool.and_eq_true] at hf
    have hsame := sameNow_fits (k0 := k0) hf.1
    rw [← hk] at hsame
    simp only [Instr.findNow, hsame, mput]
    cases hq : k.eqB j
    · simp only [cond_false]
      rcases mput_R (k0 := k0) hv ck (i + 1) hf.2 hr with ⟨h1, h2⟩ | ⟨q, w, e', h1, h2, h3, h4⟩
      · refine .inl ⟨h1, ?_⟩
        rw [List.cons_append]
        exact ⟨e, _, rfl, hk, hx, h2⟩
      · refine .inr ⟨q + 1, w, e', by rw [h1]; congr 3; omega, by simpa using h2, h3, ?_⟩
        rw [List.modify_succ_cons]
        exact ⟨e, _, rfl, hk, hx, h4⟩
    · simp only [cond_true]
      have hkj := fits_eq hf.1 hq
      refine .inr ⟨0, _, e, rfl, rfl, by rw [hk, hkj], ?_⟩
      rw [List.modify_zero_cons]
      exact ⟨_, r, rfl, hkj.symm, hv, hr⟩

theorem run_setMap {P : Program} {W : World} {r : Nat} {es : Array MapEntry} {ck : Nat} (h : W.heap[r]? = some (.map es ck)) (o : Obj) : (setObj r o).run P W = .ok () { W with heap := W.heap.setIfInBounds r o } := by
  simp [setObj, Sem.run, h]

theorem run_keyStays {P : Program} {W : World} {j : S} (h : j.fits j = true) : (Instr.keyThatStays j.val j.val).run P W = .ok j.val W := by
  obtain ⟨k, x, y, h1, h2⟩ := fits_int h
  rw [h1]
  simp [Instr.keyThatStays, S.val, Instr.sameBits]

theorem run_mapUpdate {P : Program} {t kt et : TypeId} {k0 : IntKind} (ht : P.underlying t = some (.map kt et)) (hk0 : P.underlying kt = some (.int k0)) {ι : Inj} {σ : Heap} {W : World} (hR : RelW ι σ W) {b : Nat} {p : Place} (hp : ι b = some p) {md : Md} {l : List (S × V)} (hb : σ[b]? = some (.mp md l)) (hmd : md.mut = true) {j : S} (hall : (l.all fun p => p.1.fits j) = true) (hjj : j.fits j = true) {v : V} {u : Value} (hv : VR ι v u) :
    ∃ W', (Instr.mapUpdate t (.map (some p.c)) j.val u).run P W = .ok () W' ∧ Post ι σ W ι (σ.set b (.mp md (mput j v l))) W' := by
  obtain ⟨es, ck, hes, hMR, hst⟩ := hR.blk b p _ hp hb
  have hlt : p.c < W.heap.size := hR.lt b p hp
  have hck := run_checkKey (P := P) hk0 false 9999 j.val W
  have hpost : ∀ es' ck', MR ι (mput j v l) es'.toList → Stamps es'.toList ck' → Post ι σ W ι (σ.set b (.mp md (mput j v l))) { W with heap := W.heap.setIfInBounds p.c (.map es' ck') } := by
    intro es' ck' hm hs
    refine eff_set hR hp hb hmd ⟨rfl, rfl, rfl, by simp⟩ (fun c hc => by simp [Ne.symm hc]) ⟨es', ck', by simp [hlt], hm, hs⟩
  rcases mput_R (k0 := k0) hv ck 0 hall hMR with ⟨h1, h2⟩ | ⟨q, w, e, h1, h2, h3, h4⟩
  · refine ⟨_, ?_, hpost (es.push ⟨j.val, u, ck⟩) (ck + 1) (by simpa using h2) (by simpa using hst.push j.val u)⟩
    simp [Instr.mapUpdate, run_underlying ht W, run_getMap hes, hck, Instr.findKey, run_underlying hk0 W, h1, run_setMap hes]
  · refine ⟨_, ?_, hpost (es.modify q fun e => { e with key := j.val, val := u }) ck (by rw [Array.toList_modify]; exact h4) (by rw [Array.toList_modify]; exact hst.modify q j.val u)⟩
    have h2' : es[q]? = some e := by simpa using h2
    rw [Nat.zero_add] at h1
    simp [Instr.mapUpdate, run_underlying ht W, run_getMap hes, hck, Instr.findKey, run_underlying hk0 W, h1, h2', h3, run_keyStays hjj, run_setMap hes]

theorem eff_mput {P : Program} {run : Runner} {op : Op} {t kt et : TypeId} {m k v : Operand} {m' k' v' : O} (hop : op = .insert t m k v ∨ op = .mapUpdate t m k v) (ht : P.underlying t = some (.map kt et)) (hk : scalarT P kt = true) (hm : opd m = some m') (hkk : opd k = some k') (hvv : opd v = some v') :
    EffOK P run op (.mput m' k' v') := by
  intro ι σ W e a z σ' o ho hE hR hD hv
  have rm := opd_R hm hE
  have rk := opd_R hkk hE
  have rv := opd_R hvv hE
  obtain ⟨k0, hk0⟩ := scalarT_int hk
  simp only [heapV] at hv
  split at hv
  · rename_i b j hmv hkv
    rw [hmv] at rm
    rw [hkv] at rk
    simp only [VR] at rm rk
    obtain ⟨p, hp, rm⟩ := rm
    split at hv
    · rename_i md l hblk
      split at hv
      · rename_i hmd
        cases hall : (l.all fun p => p.1.fits j) && j.fits j
        · simp [hall] at hv
        · simp only [hall, cond_true, Option.some.injEq, Prod.mk.injEq] at hv
          obtain ⟨rfl, rfl⟩ := hv
          simp only [Bool.and_eq_true] at hall
          obtain ⟨W', hrun, hpost⟩ := run_mapUpdate ht hk0 hR hp hblk hmd hall.1 hall.2 rv
          refine ⟨.skip, W', ι, hpost, ?_, .inl ⟨rfl, rfl⟩⟩
          rcases hop with rfl | rfl <;> simp [execOp, ho, rm, rk, hrun]
      · simp at hv
    · simp at hv
  · simp at hv

/-! ### Appends -/

def SrcR (ι : Inj) (r : Src) (k : Nat) (news : List Value) : Prop :=
  match r with
  | .sc g => ∀ j, j < k → news[j]? = some (g j).val
  | .vs l => VRL ι l news

theorem src_R {ι : Inj} {σ : Heap} {W : World} (hR : RelW ι σ W) {z : Nat} {x : V} {m : Nat} {r : Src} (h : srcOf σ z x = some (m, r)) {v : Value} (hx : VR ι x v) :
    (v = .slice none 0 0 ∧ m = 0 ∧ r = .sc fun _ => S.zero) ∨
    ∃ ad c, v = .slice (some ad) m c ∧ ∃ news : List Value, news.length = m * z ∧ (∀ j u, news[j]? = some u → W.cell? (ad.add j) = some u) ∧ SrcR ι r (m * z) news ∧ ∀ u ∈ news, u.oneCell' = true := by
  unfold srcOf at h
  split at h
  · injection h with h; injection h with h1 h2; subst h1; subst h2
    simp only [VR] at hx
    exact .inl ⟨hx, rfl, rfl⟩
  · injection h with h; injection h with h1 h2; subst h1; subst h2
    simp only [VR] at hx
    obtain ⟨a, c, rfl⟩ := hx
    exact .inr ⟨a, c, rfl, [], by simp, by simp, by simp [SrcR], by simp⟩
  · rename_i b o m' z' md
    split at h
    · rename_i hz
      subst hz
      simp only [VR] at hx
      obtain ⟨p, c, hp, hl, rfl, _⟩ := hx
      split at h
      · rename_i g hb
        injection h with h; injection h with h1 h2; subst h1; subst h2
        have hr := rd_sc hR hp hb (o := o) (k := m' * z) hl
        refine .inr ⟨_, c, rfl, (List.range (m' * z)).map fun j => (g (o + j)).val, by simp, fun j u hu => ?_, fun j hj => by simp [hj], fun u hu => ?_⟩
        · rw [List.getElem?_map] at hu
          by_cases hj : j < m' * z
          · rw [List.getElem?_range hj] at hu
            simp at hu
            subst hu
            exact hr j hj
          · rw [List.getElem?_eq_none (by simp; omega)] at hu; simp at hu
        · obtain ⟨j, _, rfl⟩ := List.mem_map.1 hu
          cases g (o + j) <;> rfl
      · rename_i l hb
        split at h
        · rename_i hle
          injection h with h; injection h with h1 h2; subst h1; subst h2
          obtain ⟨vs, h1, h2, h3⟩ := rd_vs hR hp hb hle.1
          exact .inr ⟨_, c, rfl, vs, h1, h3, h2, VRL.oneCells hle.2 h2⟩
        · simp at h
      · simp at h
    · simp at h
  · simp at h

/-- What is joined lies at the head of a row. -/
theorem join_R {ι : Inj} {W : World} {n m : Nat} {a b : Src} {x : Blk} (h : joinSrc n m a b = some x) {olds news : List Value} (h1 : SrcR ι a n olds) (h2 : SrcR ι b m news) (l1 : olds.length = n) (l2 : news.length = m)
    {p : Place} {cs : Array Value} {T : TypeId} (hw : W.heap[p.c]? = some (.cells cs T (0, 0))) (hb : p.base = 0) (hn : p.n = n + m) (hs : p.sz = cs.size) (hle : n + m ≤ cs.size) (hc : ∀ i, i < n + m → cs[i]? = (olds ++ news)[i]?) : BlkR ι W x p ∧ x.mut = true := by
  have hcell : ∀ i, W.cell? ⟨p.c, p.base + i, none⟩ = cs[i]? := fun i => by simp [World.cell?, hw, hb]
  have hown : Own .grow W p := fun _ => ⟨hb, by omega, cs, T, hw, hs.symm⟩
  have vsCase : ∀ l : List V, VRL ι l (olds ++ news) → BlkR ι W (.vs .grow l) p := by
    intro l hl
    have hll := VRL.length hl
    simp only [List.length_append] at hll
    refine ⟨by omega, fun i y hy => ?_, hown⟩
    obtain ⟨u, hu, hr⟩ := VRL.at hl i y hy
    have hi : i < n + m := by
      rcases Nat.lt_or_ge i (n + m) with q | q
      · exact q
      · rw [List.getElem?_eq_none (by omega)] at hy; simp at hy
    exact ⟨u, by rw [hcell, hc i hi]; exact hu, hr⟩
  unfold joinSrc at h
  split at h
  · rename_i g k
    injection h with h
    subst h
    refine ⟨⟨hn.symm, fun i hi => ?_, hown⟩, rfl⟩
    rw [hcell, hc i hi]
    show (olds ++ news)[i]? = some (bif Nat.blt i n then g i else k (i - n)).val
    cases hlt : Nat.blt i n
    · have : ¬ i < n := fun q => by rw [← Nat.blt_eq] at q; rw [q] at hlt; simp at hlt
      rw [cond_false, List.getElem?_append_right (by omega), l1]
      exact h2 _ (by omega)
    · rw [Nat.blt_eq] at hlt
      rw [cond_true, List.getElem?_append_left (by omega)]
      exact h1 i hlt
  · rename_i l r
    split at h
    · injection h with h
      subst h
      exact ⟨vsCase _ (VRL.append h1 h2), rfl⟩
    · simp at h
  · rename_i k
    split at h
    · rename_i hz
      injection h with h
      subst h
      subst hz
      have : olds = [] := List.eq_nil_of_length_eq_zero l1
      subst this
      refine ⟨⟨by omega, fun i hi => ?_, hown⟩, rfl⟩
      rw [hcell, hc i (by omega), List.nil_append]
      exact h2 i hi
    · simp at h
  · rename_i g
    split at h
    · rename_i hz
      injection h with h
      subst h
      subst hz
      have : news = [] := List.eq_nil_of_length_eq_zero l2
      subst this
      refine ⟨⟨by omega, fun i hi => ?_, hown⟩, rfl⟩
      rw [hcell, hc i (by omega), List.append_nil]
      exact h1 i hi
    · simp at h
  · simp at h

theorem kill_mut {σ : Heap} {b : Nat} {nb : Blk} {c : Nat} (hc : c < σ.length) (h : mutb (kill σ b ++ [nb]) c) : mutb σ c ∧ c ≠ b := by
  obtain ⟨y, hy, hm⟩ := h
  unfold kill at hy
  rw [List.getElem?_append_left (by simpa using hc)] at hy
  by_cases e : b = c
  · subst e
    rw [List.getElem?_set_self hc] at hy
    injection hy with hy
    subst hy
    simp [Blk.mut] at hm
  · rw [List.getElem?_set_ne e] at hy
    exact ⟨⟨y, hy, hm⟩, fun q => e q.symm⟩

theorem kill_live {σ : Heap} {b : Nat} {nb : Blk} {c : Nat} (hc : c < σ.length) (h : liveb (kill σ b ++ [nb]) c) : liveb σ c ∧ c ≠ b := by
  obtain ⟨y, hy, hm⟩ := h
  unfold kill at hy
  rw [List.getElem?_append_left (by simpa using hc)] at hy
  by_cases e : b = c
  · subst e
    rw [List.getElem?_set_self hc] at hy
    injection hy with hy
    subst hy
    simp [Blk.live] at hm
  · rw [List.getElem?_set_ne e] at hy
    exact ⟨⟨y, hy, hm⟩, fun q => e q.symm⟩

/-- A block given up, another one in its place or elsewhere. -/
theorem eff_new {ι : Inj} {σ : Heap} {W W' : World} (hR : RelW ι σ W) (hD : Dom ι σ) {b : Nat} {p q : Place} {x nb : Blk} (hp : ι b = some p) (hb : σ[b]? = some x) (hm : x.mut = true)
    (hs : Same W W') (hh : ∀ c, c < W.heap.size → c ≠ p.c → W'.heap[c]? = W.heap[c]?) (hq : q.c = p.c ∨ W.heap.size ≤ q.c) (hq2 : q.c < W'.heap.size) (hx : BlkR (ι.put σ.length q) W' nb q) :
    Post ι σ W (ι.put σ.length q) (kill σ b ++ [nb]) W' := by
  have hn : ι σ.length = none := by
    cases h : ι σ.length with
    | none => rfl
    | some r => exact absurd (hD _ _ h) (Nat.lt_irrefl _)
  have hext := Inj.put_ext q hn
  have hblt := hD b p hp
  have hput : ∀ c r, ι.put σ.length q c = some r → (c = σ.length ∧ r = q) ∨ (c ≠ σ.length ∧ ι c = some r) := by
    intro c r h
    unfold Inj.put at h
    split at h
    · rename_i e; injection h with h; exact .inl ⟨e, h.symm⟩
    · rename_i e; exact .inr ⟨e, h⟩
  have hqc : ∀ c r, ι c = some r → c ≠ b → liveb σ c → q.c ≠ r.c := by
    intro c r hc hne hl e
    rcases hq with h | h
    · exact hR.sep b c p r hp hc (Ne.symm hne) ⟨x, hb, hm⟩ hl (by rw [← h, e])
    · have := hR.lt c r hc; omega
  refine ⟨hs, hext, ⟨fun c r hr => ?_, fun c r y hr hy => ?_, fun c c' r r' hr hr' hne h1 h2 => ?_⟩, by simp [kill], fun c hc hm' => ?_, fun c r hr hnone => ?_, fun c hc h => (kill_mut hc h).1, fun c hc h => (kill_live hc h).1⟩
  · rcases hput c r hr with ⟨_, rfl⟩ | ⟨_, h⟩
    · exact hq2
    · exact Nat.lt_of_lt_of_le (hR.lt c r h) hs.size
  · rcases hput c r hr with ⟨rfl, rfl⟩ | ⟨hne, h⟩
    · have : y = nb := by
        rw [List.getElem?_append_right (by simp [kill])] at hy
        simpa [kill] using hy.symm
      subst this
      exact hx
    · have hclt := hD c r h
      rw [List.getElem?_append_left (by simpa [kill] using hclt)] at hy
      unfold kill at hy
      by_cases e : b = c
      · subst e
        rw [List.getElem?_set_self hblt] at hy
        injection hy with hy
        subst hy
        trivial
      · rw [List.getElem?_set_ne e] at hy
        cases hyl : y.live with
        | true => exact (hR.blk c r y h hy).keep hext (hh _ (hR.lt c r h) (fun hc => hR.sep b c p r hp h e ⟨x, hb, hm⟩ ⟨y, hy, hyl⟩ hc.symm))
        | false => cases y <;> simp [Blk.live] at hyl; trivial
  · rcases hput c r hr with ⟨rfl, rfl⟩ | ⟨hn1, g1⟩ <;> rcases hput c' r' hr' with ⟨e2, rfl⟩ | ⟨hn2, g2⟩
    · exact absurd e2.symm hne
    · have := kill_live (hD c' r' g2) h2
      exact hqc c' r' g2 this.2 this.1
    · subst e2
      have := kill_mut (hD c r g1) h1
      exact fun e => hqc c r g1 this.2 this.1.live e.symm
    · have a1 := kill_mut (hD c r g1) h1
      have a2 := kill_live (hD c' r' g2) h2
      exact hR.sep c c' r r' g1 g2 hne a1.1 a2.1
  · exact hh c hc (fun e => hm' b p hp ⟨x, hb, hm⟩ e.symm)
  · rcases hput c r hr with ⟨rfl, rfl⟩ | ⟨_, h⟩
    · refine ⟨⟨Nat.le_refl _, by simp [kill]⟩, ?_⟩
      rcases hq with h | h
      · exact .inr ⟨b, p, hp, ⟨x, hb, hm⟩, h.symm⟩
      · exact .inl h
    · rw [h] at hnone; simp at hnone

end Go.Am
