/- The abstract machine's operations on memory: append; and all of them together. -/
import Derived.Test.YtjldefmcnppdoaaAmHeapE
namespace Go.Am
open Go

theorem QPost.ofDrew {ι : Inj} {σ : Heap} {W : World} {ι' : Inj} {σ' : Heap} {W' : World} (h : QPost ι σ W.drew ι' σ' W') : QPost ι σ W ι' σ' W' :=
  ⟨⟨h.same.os, h.same.tape, h.same.output, h.same.size⟩, h.ext, h.rel, h.pre, h.frame, h.fresh⟩

theorem RelW.toDrew {ι : Inj} {σ : Heap} {W : World} (h : RelW ι σ W) : RelW ι σ W.drew :=
  ⟨h.lt, fun b p x hp hx => by
    have := h.blk b p x hp hx
    exact this.keep (.refl ι) rfl, h.sep⟩

/-- The model's append, in place. -/
theorem run_room {P : Program} (W : World) (t ty e : TypeId) (i : TypeInfo) (ht : P.underlying t = some (.slice e)) (hi : P.info? e = some i)
    (g off sLen sCap : Nat) (x : Value) (m : Nat) (news : List Value) (W' : World) (hx : (Builtin.lenOf x).run P W = .ok m W) (hf : (Builtin.firstCells i.size m x).run P W = .ok news.toArray W)
    (hroom : sLen + m ≤ sCap) (hst : (storeCells ⟨g, off + sLen * i.size, none⟩ news).run P W = .ok () W') :
    (Builtin.append_ #[t, t] ty #[.slice (some ⟨g, off, none⟩) sLen sCap, x]).run P W = .ok (.slice (some ⟨g, off, none⟩) (sLen + m) sCap) W' := by
  simp [Builtin.append_, run_underlying ht, sizeOf, typeInfo, hi, hx, hroom, hf, add_off, hst]

/-- The model's append, in a new row. -/
theorem run_grow {P : Program} (W : World) (t ty e : TypeId) (i : TypeInfo) (z : Value) (ht : P.underlying t = some (.slice e)) (hi : P.info? e = some i) (hz : i.zero = some z)
    (s x : Value) (sLen sCap m : Nat) (olds news : List Value) (hs : ∃ b, s = .slice b sLen sCap) (hfo : ∀ W' : World, W'.heap = W.heap → (Builtin.firstCells i.size sLen s).run P W' = .ok olds.toArray W')
    (hx : (Builtin.lenOf x).run P W = .ok m W) (hf : ∀ W' : World, W'.heap = W.heap → (Builtin.firstCells i.size m x).run P W' = .ok news.toArray W')
    (hg : sCap < sLen + m) (h63 : ((sLen + m : Nat) : Int) ≤ 9223372036854775807) (hfit : Builtin.nextslicecap (sLen + m) sCap * i.bytes ≤ 281474976710656) :
    (Builtin.append_ #[t, t] ty #[s, x]).run P W =
      .ok (.slice (some ⟨W.heap.size, 0, none⟩) (sLen + m) (grownCap W (sLen + m) sCap e))
        (W.drew.alloc (.cells (olds.toArray ++ news.toArray ++ Builtin.zeroCells z.cells (grownCap W (sLen + m) sCap e - (sLen + m))) e)) := by
  obtain ⟨b, rfl⟩ := hs
  have hn : ¬ (sLen + m ≤ sCap) := by omega
  have h63' : ¬ (9223372036854775807 < ((sLen : Int) + (m : Int))) := by omega
  have h48' : ¬ (281474976710656 < Builtin.nextslicecap (sLen + m) sCap * i.bytes) := by omega
  have hf1 := hf W.drew rfl
  have hfo1 := hfo W.drew rfl
  simp [Builtin.append_, run_underlying ht, sizeOf, typeInfo, zeroValue, hi, hz, hx, hn, h63', h48', Question.forced, hf1, hfo1, newRow, grownCap]
  congr 2
  apply Array.ext'
  simp [List.append_assoc]

theorem first_some {P : Program} (W : World) (size n : Nat) (b : Addr) (len cap : Nat) (cs : List Value) (hl : cs.length = n * size) (h : ∀ j v, cs[j]? = some v → W.cell? (b.add j) = some v) :
    ∀ W' : World, W'.heap = W.heap → (Builtin.firstCells size n (.slice (some b) len cap)).run P W' = .ok cs.toArray W' :=
  fun W' hh => run_firstCells_some (P := P) W' size n b len cap cs hl (fun j v hv => by have := h j v hv; simpa [World.cell?, hh] using this)

theorem first_none {P : Program} (W : World) (size : Nat) : ∀ W' : World, W'.heap = W.heap → (Builtin.firstCells size 0 (.slice none 0 0)).run P W' = .ok ([] : List Value).toArray W' := fun _ _ => rfl

/-- What is appended, as the model reads it. -/
theorem src_first {P : Program} {ι : Inj} {σ : Heap} {W : World} (hR : RelW ι σ W) {z : Nat} {x : V} {m : Nat} {r : Src} (h : srcOf σ z x = some (m, r)) {v : Value} (hx : VR ι x v) :
    ∃ news : List Value, news.length = m * z ∧ (∀ W' : World, W'.heap = W.heap → (Builtin.firstCells z m v).run P W' = .ok news.toArray W') ∧ (Builtin.lenOf v).run P W = .ok m W ∧ SrcR ι r (m * z) news ∧ ∀ u ∈ news, u.oneCell' = true := by
  rcases src_R hR h hx with ⟨rfl, rfl, rfl⟩ | ⟨ad, c, rfl, news, h1, h2, h3, h4⟩
  · exact ⟨[], by simp, first_none W z, rfl, by simp [SrcR], by simp⟩
  · exact ⟨news, h1, first_some W z m ad m c news h1 h2, rfl, h3, h4⟩

theorem info_of {P : Program} {e : TypeId} {n bytes : Nat} {z : Z} (hs : sizeT P e = some n) (hb : bytesT P e = some bytes) (hz : zeroT P e = some z) : ∃ i v, P.info? e = some i ∧ i.size = n ∧ i.bytes = bytes ∧ i.zero = some v ∧ zeroZ v = some z := by
  obtain ⟨i, v, hi, hv, hzv⟩ := zeroT_info hz
  unfold sizeT at hs
  unfold bytesT at hb
  rw [hi] at hs hb
  simp at hs hb
  exact ⟨i, v, hi, hs, hb, hv, hzv⟩

/-- A new row at the end of what there is, its block a part of it: with no block given up. -/
theorem grow_q {ι : Inj} {σ : Heap} {W : World} (hR : RelW ι σ W) (hD : Dom ι σ) (cs : Array Value) (T : TypeId) (x : Blk) (q : Place) (hq : q.c = W.heap.size) (hx : ∀ W' : World, W'.heap[q.c]? = some (.cells cs T (0, 0)) → BlkR (ι.put σ.length q) W' x q) :
    Post ι σ W (ι.put σ.length q) (σ ++ [x]) (W.drew.alloc (.cells cs T)) := by
  have hn : ι σ.length = none := by
    cases h : ι σ.length with
    | none => rfl
    | some r => exact absurd (hD _ _ h) (Nat.lt_irrefl _)
  exact (alloc_q hR.toDrew hn (.cells cs T) x q hq (hx _ (by rw [hq]; exact heap_alloc_at W.drew _))).ofDrew.post

theorem eff_append {P : Program} {run : Runner} {t el : TypeId} {n bytes : Nat} {z : Z} {c : Call} {s x : Operand} {s' x' : O} (hc : c.callee = .builtin .append) (ha : c.argTypes = #[t, t]) (hargs : c.args.toList = [s, x])
    (ht : P.underlying t = some (.slice el)) (hsz : sizeT P el = some n) (hby : bytesT P el = some bytes) (hz : zeroT P el = some z) (hzn : z.size = n) (hb0 : bytes ≠ 0) (hs : opd s = some s') (hx : opd x = some x') :
    EffOK P run (.call c) (.append n bytes s' x') := by
  intro ι σ W e a y σ' o ho hE hR hD hv
  have rs := opd_R hs hE
  have rx := opd_R hx hE
  obtain ⟨i, zv, hi, hisz, hiby, hizero, hzv⟩ := info_of hsz hby hz
  have hzc : zv.cells.size = n := by rw [← zeroZ_size hzv, hzn]
  have hargs' : c.args = #[s, x] := Array.toList_inj.1 (by simpa using hargs)
  have hrun : ∀ r W', (Builtin.append_ #[t, t] o.type #[a.eval s, a.eval x]).run P W = .ok r W' → (execOp a.eval o).run P W = .ok (.value r) W' := by
    intro r W' h
    obtain ⟨k, hk⟩ := run_builtin (P := P) (a := a) ho hc W
    rw [hk]
    simp [builtin, ha, hargs', h]
  have hnone : ι σ.length = none := by
    cases h : ι σ.length with
    | none => rfl
    | some r => exact absurd (hD _ _ h) (Nat.lt_irrefl _)
  simp only [heapV, appendV] at hv
  split at hv
  · simp at hv
  · rename_i m r hsrc
    obtain ⟨news, hl, hfirst, hlen, hSr, hone⟩ := src_first (P := P) hR hsrc rx
    have hrm : ∀ k bb : Nat, roomy k bb = true → k * bb ≤ 140737488355328 := fun k bb h => by simpa [roomy] using h
    have hbig : ∀ k, k * bytes ≤ 140737488355328 → k ≤ 140737488355328 := fun k h => Nat.le_trans (Nat.le_mul_of_pos_right k (by omega)) h
    split at hv
    · -- a nil slice
      rename_i hsv
      rw [hsv] at rs
      simp only [VR] at rs
      split at hv
      · rename_i hm
        injection hv with hv
        injection hv with h1 h2
        subst h1; subst h2; subst hm
        have hf0 := hfirst W rfl
        refine ⟨.value (.slice none 0 0), W, ι, (QPost.refl hR).post, hrun _ _ ?_, .inr ⟨_, rfl, rfl⟩⟩
        rw [rs]
        simp [Builtin.append_, run_underlying ht, sizeOf, typeInfo, hi, hlen, hisz, hf0]
      · rename_i hm
        cases hro : roomy m bytes
        · simp [hro] at hv
        · simp only [hro, cond_true, Option.map_eq_some_iff] at hv
          obtain ⟨b, hj, hv⟩ := hv
          injection hv with h1 h2
          subst h1; subst h2
          have hro' := hrm _ _ hro
          have hm' := hbig _ hro'
          have hgc := grownCap_ge W (0 + m) 0 el
          have hgc2 : m ≤ grownCap W m 0 el := by simpa using hgc
          have hnext : Builtin.nextslicecap (0 + m) 0 * i.bytes ≤ 281474976710656 := by rw [hiby]; exact growslice_fits (by omega) (by simpa using hro')
          have hr := run_grow W t o.type el i zv ht hi hizero (.slice none 0 0) (a.eval x) 0 0 m [] news ⟨none, rfl⟩ (by rw [hisz]; exact first_none W n) hlen (by rw [hisz]; exact hfirst) (by omega) (by omega) hnext
          let cs := (([] : List Value).toArray ++ news.toArray ++ Builtin.zeroCells zv.cells (grownCap W (0 + m) 0 el - (0 + m)))
          have hcs : cs.size = grownCap W (0 + m) 0 el * n := by
            simp only [cs, Array.size_append, List.size_toArray, List.length_nil, hl, size_zeroCells, hzc, Nat.zero_add]
            rw [← Nat.add_mul]
            congr 1
            omega
          let q : Place := ⟨W.heap.size, 0, m * n, grownCap W (0 + m) 0 el, cs.size⟩
          have hmn : m * n ≤ cs.size := by rw [hcs]; exact Nat.mul_le_mul_right _ (by omega)
          refine ⟨.value (.slice (some ⟨W.heap.size, 0, none⟩) (0 + m) (grownCap W (0 + m) 0 el)), _, _, grow_q hR hD cs el b q rfl (fun W' hw => (join_R (olds := []) (news := news) hj (by simp [SrcR, VRL]) (by cases r with | sc g => exact hSr | vs l => exact VRL.ext (Inj.put_ext q hnone) _ _ hSr) rfl hl hw rfl (by simp [q]) rfl (by simpa using hmn) (fun j hj => ?_)).1), hrun _ _ (by rw [rs]; exact hr), .inr ⟨_, rfl, ?_⟩⟩
          · simp only [cs]
            rw [Array.getElem?_append_left (by simp [hl]; omega)]
            simp
          · exact ⟨q, grownCap W (0 + m) 0 el, Inj.put_same _ _ _, by simp [q], by simp [q], rfl, rfl, rfl, by omega, hcs.symm, rfl⟩
    · -- a slice whose capacity is known
      rename_i b off len z' cp hsv
      rw [hsv] at rs
      simp only [VR] at rs
      obtain ⟨p, cap, hp, hle, rs, hcap⟩ := rs
      simp only [capOK] at hcap
      obtain ⟨rfl, hc1, hc2⟩ := hcap
      split at hv
      · rename_i hz'
        subst hz'
        split at hv
        · rename_i hroom
          have hf0 := hfirst W rfl
          have hwr : ∃ yv, VR ι yv (.agg news.toArray) ∧ ∃ σ1, wrV σ b (off + len * n) (m * n) yv = some σ1 ∧ y = .sl b off (len + m) n (.ex cap) ∧ σ' = σ1 := by
            cases r with
            | sc h =>
              simp only [Option.map_eq_some_iff] at hv
              obtain ⟨σ1, hw, hv⟩ := hv
              injection hv with h1 h2
              exact ⟨.agg (m * n) h, ⟨_, rfl, by simp [hl], fun j hj => by simpa using hSr j hj⟩, σ1, hw, h1.symm, h2.symm⟩
            | vs l =>
              simp only [Option.map_eq_some_iff] at hv
              obtain ⟨σ1, hw, hv⟩ := hv
              injection hv with h1 h2
              exact ⟨.aggv l, ⟨news, rfl, hSr⟩, σ1, hw, h1.symm, h2.symm⟩
          obtain ⟨yv, hyv, σ1, hw, rfl, rfl⟩ := hwr
          have hfit : off + len * n + m * n ≤ p.n := by
            have h1 : (len + m) * n ≤ cap * n := Nat.mul_le_mul_right _ hroom
            rw [Nat.add_mul] at h1
            omega
          obtain ⟨_, W', hst, hpost⟩ := wrV_R hR hp hfit hw hyv
          have hst' := hst P
          simp only [Value.cells, List.toList_toArray] at hst'
          refine ⟨.value (.slice (some ⟨p.c, p.base + off, none⟩) (len + m) cap), W', ι, hpost, hrun _ _ ?_, .inr ⟨_, rfl, ⟨p, cap, hp, ?_, rfl, rfl, hroom, hc2⟩⟩⟩
          · rw [rs]
            exact run_room W t o.type el i ht hi p.c (p.base + off) len cap (a.eval x) m news W' hlen (by rw [hisz]; exact hf0) hroom (by rw [hisz, Nat.add_assoc]; exact hst')
          · rw [Nat.add_mul]; omega
        · rename_i hroom
          cases hro : roomy (len + m) bytes
          · simp [hro] at hv
          · simp only [hro, cond_true] at hv
            split at hv
            · rename_i mq q0 hsq
              simp only [Option.map_eq_some_iff] at hv
              obtain ⟨nb, hj, hv⟩ := hv
              injection hv with h1 h2
              subst h1; subst h2
              have hro' := hrm _ _ hro
              have hm' := hbig _ hro'
              have hrs : VR ι (.sl b off len n (.ex cap)) (a.eval s) := ⟨p, cap, hp, hle, rs, rfl, hc1, hc2⟩
              rw [hsv] at hsq
              obtain ⟨olds, hlo, hfo, hleno, hSo, _⟩ := src_first (P := P) hR hsq hrs
              have hmq : mq = len := by
                rw [rs] at hleno
                simp [Builtin.lenOf] at hleno
                exact hleno.symm
              subst hmq
              have hgc := grownCap_ge W (mq + m) cap el
              have hnext : Builtin.nextslicecap (mq + m) cap * i.bytes ≤ 281474976710656 := by rw [hiby]; exact growslice_fits (by omega) hro'
              have hr := run_grow W t o.type el i zv ht hi hizero (a.eval s) (a.eval x) mq cap m olds news ⟨_, rs⟩ (by rw [hisz]; exact hfo) hlen (by rw [hisz]; exact hfirst) (by omega) (by omega) hnext
              let cs := (olds.toArray ++ news.toArray ++ Builtin.zeroCells zv.cells (grownCap W (mq + m) cap el - (mq + m)))
              have hcs : cs.size = grownCap W (mq + m) cap el * n := by
                simp only [cs, Array.size_append, List.size_toArray, hlo, hl, size_zeroCells, hzc]
                rw [← Nat.add_mul, ← Nat.add_mul]
                congr 1
                omega
              let q : Place := ⟨W.heap.size, 0, mq * n + m * n, grownCap W (mq + m) cap el, cs.size⟩
              have hmn : mq * n + m * n ≤ cs.size := by rw [hcs, ← Nat.add_mul]; exact Nat.mul_le_mul_right _ hgc
              have hmv : ∀ (r : Src) k l, SrcR ι r k l → SrcR (ι.put σ.length q) r k l := fun r k l h => by
                cases r with
                | sc g => exact h
                | vs l' => exact VRL.ext (Inj.put_ext q hnone) _ _ h
              refine ⟨.value (.slice (some ⟨W.heap.size, 0, none⟩) (mq + m) (grownCap W (mq + m) cap el)), _, _, grow_q hR hD cs el nb q rfl (fun W' hw => (join_R (olds := olds) (news := news) hj (hmv _ _ _ hSo) (hmv _ _ _ hSr) hlo hl hw rfl rfl rfl hmn (fun j hj => ?_)).1), hrun _ _ hr, .inr ⟨_, rfl, ?_⟩⟩
              · simp only [cs]
                rw [Array.getElem?_append_left (by simp [hl, hlo]; omega)]
                simp
              · exact ⟨q, grownCap W (mq + m) cap el, Inj.put_same _ _ _, by simp only [q, Nat.zero_add, Nat.add_mul]; exact Nat.le_refl _, by simp [q], rfl, rfl, rfl, hgc, hcs.symm, by simp only [q, Nat.add_mul]⟩
            · simp at hv
      · simp at hv
    · -- a slice that grows
      rename_i b off len z' hsv
      rw [hsv] at rs
      split at hv
      · rename_i hz'
        subst hz'
        cases hro : roomy (len + m) bytes
        · simp [hro] at hv
        · simp only [hro, cond_true] at hv
          have key : ∀ (mq : Nat) (q0 : Src) (xb : Blk), srcOf σ n (.sl b off len n .whole) = some (mq, q0) → σ[b]? = some xb → xb.mut = true → (∀ ι W p, BlkR ι W xb p → Own .grow W p) →
              ((joinSrc (len * n) (m * n) q0 r).map fun nb => (V.sl σ.length 0 (len + m) n .whole, kill σ b ++ [nb])) = some (y, σ') →
              ∃ r W' ι', Post ι σ W ι' σ' W' ∧ (execOp a.eval o).run P W = .ok r W' ∧ (r = .skip ∧ y = .undef ∨ ∃ v, r = .value v ∧ VR ι' y v) := by
            intro mq q0 xb hsq hxb hxm hown hv
            simp only [Option.map_eq_some_iff] at hv
            obtain ⟨nb, hj, hv⟩ := hv
            injection hv with h1 h2
            subst h1; subst h2
            have rs' := rs
            simp only [VR] at rs'
            obtain ⟨p, cap, hp, hle, rsv, hcap⟩ := rs'
            simp only [capOK] at hcap
            obtain ⟨rfl, hbase, hcp, hncap, hcsz, hnn⟩ := hcap
            obtain ⟨_, hple, cur, T, hcur, hcursz⟩ := hown _ _ _ (hR.blk b p xb hp hxb) rfl
            have hro' := hrm _ _ hro
            have hm' := hbig _ hro'
            obtain ⟨olds, hlo, hfo, hleno, hSo, _⟩ := src_first (P := P) hR hsq rs
            have hmq : mq = len := by
              rw [rsv] at hleno
              simp [Builtin.lenOf] at hleno
              exact hleno.symm
            subst hmq
            have hmv : ∀ (q : Place) (r : Src) k l, SrcR ι r k l → SrcR (ι.put σ.length q) r k l := fun q r k l h => by
              cases r with
              | sc g => exact h
              | vs l' => exact VRL.ext (Inj.put_ext q hnone) _ _ h
            by_cases hroom : mq + m ≤ cap
            · -- in place
              have hf0 := hfirst W rfl
              have hfo0 := hfo W rfl
              have hfit : mq * n + m * n ≤ cur.size := by
                have h1 : (mq + m) * n ≤ cap * n := Nat.mul_le_mul_right _ hroom
                rw [Nat.add_mul] at h1
                omega
              have hst := run_storeCells_at P p.c (mq * n) T news 0 cur W hcur (by omega) hone
              simp only [Nat.add_zero] at hst
              let cs := (cur.toList.take (mq * n) ++ news ++ cur.toList.drop (mq * n + news.length)).toArray
              have hcs : cs.size = cur.size := by
                simp only [cs, List.size_toArray, List.length_append, List.length_take, List.length_drop, Array.length_toList]
                omega
              have hheap := setRow_heap W p.c cur cs T (0, 0) hcur
              let q : Place := ⟨p.c, 0, mq * n + m * n, cap, p.sz⟩
              -- the old cells are the row's first
              have holds : ∀ j, j < mq * n → cur[j]? = olds[j]? := by
                intro j hj
                have hlc : (loadCells ⟨p.c, 0, none⟩ (mq * n)).run P W = .ok olds.toArray W := by
                  have := hfo0
                  rw [rsv, hbase] at this
                  simpa [Builtin.firstCells] using this
                have hlc2 := run_loadCells (P := P) W ⟨p.c, 0, none⟩ (mq * n) (fun j => cur.getD j Go.undef) (fun k hk => by
                  rw [add_off, Nat.zero_add, cell_of_row W p.c k cur T (0, 0) hcur]
                  simp [show k < cur.size by omega])
                rw [hlc2] at hlc
                injection hlc with hlc
                have he : olds = (List.range (mq * n)).map fun j => cur.getD j Go.undef := by
                  have := congrArg Array.toList hlc
                  simpa using this.symm
                rw [he, List.getElem?_map, List.getElem?_range hj]
                simp [show j < cur.size by omega]
              refine ⟨.value (.slice (some ⟨p.c, 0, none⟩) (mq + m) cap), W.setRow p.c cs, ι.put σ.length q, eff_new hR hD hp hxb hxm ⟨rfl, rfl, rfl, by simp⟩ (fun c _ hc => setRow_other W p.c c cs hc) (.inl rfl) (by simpa using hR.lt b p hp) ?_, hrun _ _ ?_, .inr ⟨_, rfl, ?_⟩⟩
              · refine (join_R (p := q) (olds := olds) (news := news) hj (hmv q _ _ _ hSo) (hmv q _ _ _ hSr) hlo hl hheap rfl rfl (show p.sz = cs.size by omega) (by omega) (fun j hj => ?_)).1
                simp only [cs, List.getElem?_toArray]
                by_cases h1 : j < mq * n
                · rw [List.append_assoc, List.getElem?_append_left (by simp; omega), List.getElem?_take, if_pos h1, List.getElem?_append_left (by omega), Array.getElem?_toList]
                  exact holds j h1
                · have e1 : (cur.toList.take (mq * n)).length = mq * n := by
                    rw [List.length_take, Array.length_toList]
                    omega
                  rw [List.append_assoc, List.getElem?_append_right (show (cur.toList.take (mq * n)).length ≤ j by omega), e1, List.getElem?_append_left (show j - mq * n < news.length by omega), List.getElem?_append_right (show olds.length ≤ j by omega), hlo]
              · rw [rsv, hbase]
                exact run_room W t o.type el i ht hi p.c 0 mq cap (a.eval x) m news _ hlen (by rw [hisz]; exact hf0) hroom (by rw [hisz, Nat.zero_add]; exact hst)
              · exact ⟨q, cap, Inj.put_same _ _ _, by simp only [q, Nat.zero_add, Nat.add_mul]; exact Nat.le_refl _, by simp [q], rfl, rfl, rfl, hroom, hcsz, by simp only [q, Nat.add_mul]⟩
            · -- elsewhere
              have hgc := grownCap_ge W (mq + m) cap el
              have hnext : Builtin.nextslicecap (mq + m) cap * i.bytes ≤ 281474976710656 := by rw [hiby]; exact growslice_fits (by omega) hro'
              have hr := run_grow W t o.type el i zv ht hi hizero (a.eval s) (a.eval x) mq cap m olds news ⟨_, rsv⟩ (by rw [hisz]; exact hfo) hlen (by rw [hisz]; exact hfirst) (by omega) (by omega) hnext
              let cs := (olds.toArray ++ news.toArray ++ Builtin.zeroCells zv.cells (grownCap W (mq + m) cap el - (mq + m)))
              have hcs : cs.size = grownCap W (mq + m) cap el * n := by
                simp only [cs, Array.size_append, List.size_toArray, hlo, hl, size_zeroCells, hzc]
                rw [← Nat.add_mul, ← Nat.add_mul]
                congr 1
                omega
              let q : Place := ⟨W.heap.size, 0, mq * n + m * n, grownCap W (mq + m) cap el, cs.size⟩
              have hmn : mq * n + m * n ≤ cs.size := by rw [hcs, ← Nat.add_mul]; exact Nat.mul_le_mul_right _ hgc
              refine ⟨.value (.slice (some ⟨W.heap.size, 0, none⟩) (mq + m) (grownCap W (mq + m) cap el)), W.drew.alloc (.cells cs el), ι.put σ.length q, eff_new hR hD hp hxb hxm ⟨rfl, rfl, rfl, by simp⟩ (fun c hc _ => heap_alloc W.drew _ c hc) (.inr (Nat.le_refl _)) (by simp [q]) ?_, hrun _ _ hr, .inr ⟨_, rfl, ?_⟩⟩
              · refine (join_R (p := q) (olds := olds) (news := news) hj (hmv q _ _ _ hSo) (hmv q _ _ _ hSr) hlo hl (heap_alloc_at W.drew _) rfl rfl rfl hmn (fun j hj => ?_)).1
                simp only [cs]
                rw [Array.getElem?_append_left (by simp [hl, hlo]; omega)]
                simp
              · exact ⟨q, grownCap W (mq + m) cap el, Inj.put_same _ _ _, by simp only [q, Nat.zero_add, Nat.add_mul]; exact Nat.le_refl _, by simp [q], rfl, rfl, rfl, hgc, hcs.symm, by simp only [q, Nat.add_mul]⟩
          split at hv
          · rename_i mq q0 mm gg hsq hblk
            exact key mq q0 _ (by rw [hsv] at hsq; exact hsq) hblk rfl (fun _ _ _ h => h.2.2) hv
          · rename_i mq q0 gg hsq hblk
            exact key mq q0 _ (by rw [hsv] at hsq; exact hsq) hblk rfl (fun _ _ _ h => h.2.2) hv
          · simp at hv
      · simp at hv
    · simp at hv

end Go.Am
