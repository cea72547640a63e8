/- The abstract machine's operations on memory: rows that are made; texts out of bytes; maps that are made and read. -/
import Derived.Test.YtjldefmcnppdoaaAmHeap
import Derived.Laws.BytesString
namespace Go.Am
open Go

theorem flat_get (l : List V) (n : Nat) (hl : l.length = n) : ∀ (len i : Nat), ((List.replicate len l).flatten)[i]? = if i < len * n then l[i % n]? else none
  | 0, i => by simp
  | len + 1, i => by
    rw [List.replicate_succ, List.flatten_cons, List.getElem?_append, hl]
    split
    · rename_i h
      rw [if_pos (by rw [Nat.succ_mul]; omega), Nat.mod_eq_of_lt h]
    · rename_i h
      rw [flat_get l n hl len (i - n)]
      have e : (i - n < len * n) ↔ (i < (len + 1) * n) := by rw [Nat.succ_mul]; omega
      have e2 : (i - n) % n = i % n := by
        conv => rhs; rw [show i = (i - n) + n by omega, Nat.add_mod_right]
      by_cases h2 : i < (len + 1) * n
      · rw [if_pos h2, if_pos (e.2 h2), e2]
      · rw [if_neg h2, if_neg (fun q => h2 (e.1 q))]

theorem flat_len (l : List V) (n : Nat) (hl : l.length = n) (len : Nat) : ((List.replicate len l).flatten).length = len * n := by
  simp [hl]

def rowOf (cs : Array Value) (k : Nat) : Array Value := (Array.range k).map fun i => cs[i % cs.size]!

theorem rowOf_get (cs : Array Value) (k i : Nat) (hi : i < k) (h0 : 0 < cs.size) : (rowOf cs k)[i]? = cs[i % cs.size]? := by
  have hm := Nat.mod_lt i h0
  simp [rowOf, hi, hm]

theorem rowOf_size (cs : Array Value) (k : Nat) : (rowOf cs k).size = k := by simp [rowOf]

theorem row_R {ι : Inj} {v : Value} {z : Z} (h : zeroZ v = some z) (h0 : 0 < z.size) (len : Nat) : CellsR ι (z.row len) (rowOf v.cells (len * z.size)) := by
  have hs := zeroZ_size h
  have hsc := fun g hg => zeroZ_sc (g := g) h hg
  have hvc := zeroZ_vc (ι := ι) h
  have hsc' : ∀ g, z.sc = some g → ∀ i, i < len * z.size → (rowOf v.cells (len * z.size))[i]? = some (g (i % z.size)).val := by
    intro g hg i hi
    rw [rowOf_get _ _ _ hi (by omega), ← hs]
    exact hsc g hg _ (Nat.mod_lt _ h0)
  cases z with
  | ints n => exact ⟨by simp [rowOf_size, Z.size], hsc' _ rfl⟩
  | scl l =>
    refine ⟨by simp [rowOf_size, Z.size], fun i hi => ?_⟩
    exact hsc' _ rfl i hi
  | vl l =>
    have hl : l.length = (Z.vl l).size := rfl
    refine VRL.of_at (by rw [flat_len l _ hl]; simp [rowOf_size]) fun i x u hx hu => ?_
    rw [flat_get l _ hl] at hx
    split at hx
    · rename_i hi
      rw [Array.getElem?_toList, rowOf_get _ _ _ hi (by omega), ← hs] at hu
      obtain ⟨u', hu', hr⟩ := VRL.at hvc _ x hx
      rw [Array.getElem?_toList] at hu'
      rw [hu'] at hu
      injection hu with hu
      subst hu
      exact hr
    · simp at hx
  | one v' =>
    have key : (∀ y, v' ≠ .s y) → VRL ι (List.replicate len v') (rowOf v.cells (len * (Z.one v').size)).toList := by
      intro _
      refine VRL.of_at (by simp [rowOf_size, Z.size]) fun i x u hx hu => ?_
      rw [List.getElem?_replicate] at hx
      split at hx
      · rename_i hi
        injection hx with hx
        subst hx
        rw [Array.getElem?_toList, rowOf_get _ _ _ (by simpa [Z.size] using hi) (by omega), ← hs] at hu
        simp only [Z.size, Nat.mod_one] at hu
        obtain ⟨u', hu', hr⟩ := VRL.at hvc 0 v' (by simp [Z.vc])
        rw [Array.getElem?_toList] at hu'
        rw [hu'] at hu
        injection hu with hu
        subst hu
        exact hr
      · simp at hx
    cases v' with
    | s x => exact ⟨by simp [rowOf_size, Z.size], fun i hi => hsc' _ rfl i (by simpa [Z.size] using hi)⟩
    | _ => exact key (fun y => by simp)

theorem slParts_P {z : Nat} : ∀ {l : List (Nat × Operand)} {ps : List (Nat × O)}, slParts l = some ps → Places (fun i => some (i * z, z)) l (ps.map fun p => (p.1 * z, z, p.2))
  | [], ps, h => by simp [slParts] at h; subst h; simp [Places]
  | (i, x) :: r, ps, h => by
    unfold slParts at h
    split at h
    · rename_i o q h1 h2
      injection h with h
      subst h
      exact ⟨_, _, o, _, rfl, rfl, h1, slParts_P h2⟩
    · simp at h

theorem fillRow_R {ι : Inj} {e : Env} {a : Act} (hE : EnvR ι e a.tmps) {place : Nat → Option (Nat × Nat)} {l : List (Nat × Operand)} {ps : List (Nat × Nat × O)} {b b' : Blk} {cs : Array Value}
    (hp : Places place l ps) (hb : fillRow e b ps = some b') (hc : CellsR ι b cs) : ∃ cs', Instr.fill place cs (l.map fun p => (p.1, a.eval p.2)) = some cs' ∧ CellsR ι b' cs' ∧ cs'.size = cs.size := by
  unfold fillRow at hb
  split at hb
  · rename_i m n g
    split at hb
    · rename_i hin
      split at hb
      · rename_i h hh
        injection hb with hb
        subst hb
        obtain ⟨cs', e1, e2, e3⟩ := fillS_R hE hp hin hh hc.1 hc.2
        exact ⟨cs', e1, ⟨e2, e3⟩, by rw [e2, hc.1]⟩
      · simp at hb
    · simp at hb
  · rename_i m l'
    simp only [Option.map_eq_some_iff] at hb
    obtain ⟨r, hr, rfl⟩ := hb
    obtain ⟨cs', e1, e2⟩ := fillV_R hE hp hr hc
    refine ⟨cs', e1, e2, ?_⟩
    have h1 := VRL.length hc
    have h2 := VRL.length e2
    have h3 : ∀ (ps : List (Nat × Nat × O)) (l r : List V), fillV e ps l = some r → r.length = l.length := by
      intro ps
      induction ps with
      | nil => intro l r h; simp [fillV] at h; subst h; rfl
      | cons p ps ih =>
        intro l r h
        obtain ⟨off, n, x⟩ := p
        simp only [fillV] at h
        split at h
        · rename_i c hcc
          split at h
          · rename_i hle
            rw [ih _ _ h]
            have hcl : c.length = n := by
              unfold V.vcells at hcc
              split at hcc
              · split at hcc
                · rename_i e; injection hcc with hcc; subst hcc; simp
                · simp at hcc
              · split at hcc
                · rename_i e; injection hcc with hcc; subst hcc; exact e
                · simp at hcc
              · split at hcc
                · rename_i e; simp only [Bool.and_eq_true, beq_iff_eq] at e; injection hcc with hcc; subst hcc; simp [e.2]
                · simp at hcc
            simp only [List.length_append, List.length_take, List.length_drop, hcl]
            omega
          · simp at h
        · simp at h
    have := h3 _ _ _ hr
    simp only [Array.length_toList] at h1 h2
    omega
  · simp at hb

theorem quiet_mksl {P : Program} {run : Runner} {t el : TypeId} {len n : Nat} {z : Z} {parts : Array (Nat × Operand)} {ps : List (Nat × O)} (ht : P.underlying t = some (.slice el)) (hs : sizeT P el = some n) (hz : zeroT P el = some z) (hp : slParts parts.toList = some ps) (hn : z.size = n ∧ n ≠ 0 ∧ len * n ≤ 2 ^ 24) :
    QuietOK P run (.buildSlice t len parts) (.mksl len n z ps) := by
  intro ι σ W e a x σ' o ho hE hR hv hnone
  obtain ⟨hn1, hn2, hn3⟩ := hn
  simp only [heapV, Option.map_eq_some_iff] at hv
  obtain ⟨b, hb, hv⟩ := hv
  injection hv with h1 h2
  subst h1; subst h2
  obtain ⟨v, hzv, hrun⟩ := run_zeroValue hz
  have hrow := row_R (ι := ι) hzv (by omega) len
  obtain ⟨cs, e1, e2, e3⟩ := fillRow_R hE (slParts_P (z := n) hp) hb hrow
  have hn0 := hnone σ.length (Nat.le_refl _) (by simp)
  rw [rowOf_size, hn1] at e3
  refine ⟨.slice (some ⟨W.heap.size, 0, none⟩) len len, _, _, ?_, row_q hR hn0 cs el b 0 e2, ?_⟩
  · exact ⟨_, len, Inj.put_same _ _ _, by simp [e3], rfl, rfl, Nat.le_refl _, by simp [e3]⟩
  · have hz0 : ∀ q : Array Value, len * n = 0 → ((Array.range (len * n)).map fun i => q[i % q.size]!) = ((Array.range (len * n)).map fun i => v.cells[i % v.cells.size]!) := by
      intro q h; rw [h]; simp
    by_cases hl0 : len * n = 0
    · have hfill : Instr.fill (fun i => some (i * n, n)) ((Array.range (len * n)).map fun i => (#[] : Array Value)[i % (#[] : Array Value).size]!) (parts.map fun p => (p.1, a.eval p.2)).toList = some cs := by
        rw [hz0 #[] hl0]
        have : (parts.map fun p => (p.1, a.eval p.2)).toList = parts.toList.map fun p => (p.1, a.eval p.2) := by simp
        rw [this]
        rw [hn1] at e1
        exact e1
      simp only [execOp, ho, Instr.buildSlice, Sem.run_bind, run_underlying ht W, Result.andThen_ok, run_sizeOf hs W]
      rw [if_neg (by omega), if_pos hl0]
      simp only [Sem.run_bind, Sem.run_pure, Result.andThen_ok]
      rw [hfill]
      simp [newRow]
    · have hfill : Instr.fill (fun i => some (i * n, n)) ((Array.range (len * n)).map fun i => v.cells[i % v.cells.size]!) (parts.map fun p => (p.1, a.eval p.2)).toList = some cs := by
        have : (parts.map fun p => (p.1, a.eval p.2)).toList = parts.toList.map fun p => (p.1, a.eval p.2) := by simp
        rw [this]
        rw [hn1] at e1
        exact e1
      simp only [execOp, ho, Instr.buildSlice, Sem.run_bind, run_underlying ht W, Result.andThen_ok, run_sizeOf hs W]
      rw [if_neg (by omega), if_neg hl0]
      simp only [Sem.run_bind, hrun W, Sem.run_pure, Result.andThen_ok]
      rw [hfill]
      simp [newRow]

theorem quiet_mkslice {P : Program} {run : Runner} {t el : TypeId} {n bytes : Nat} {z : Z} {l c : Operand} {l' c' : O} (ht : P.underlying t = some (.slice el)) (hs : sizeT P el = some n) (hby : bytesT P el = some bytes) (hz : zeroT P el = some z) (hl : opd l = some l') (hc : opd c = some c') (hn : n ≠ 0) :
    QuietOK P run (.makeSlice t l c) (.mkslice n bytes z l' c') := by
  intro ι σ W e a x σ' o ho hE hR hv hnone
  have rl := opd_R hl hE
  have rc := opd_R hc hE
  simp only [heapV] at hv
  split at hv
  · rename_i lv cv hlv hcv
    rw [hlv] at rl
    rw [hcv] at rc
    simp only [VR, S.val] at rl rc
    split at hv
    · rename_i hb
      obtain ⟨h0, h1, h2, h3⟩ := hb
      cases hro : roomy cv.toNat bytes
      · simp [hro] at hv
      · simp only [hro, cond_true, Option.some.injEq, Prod.mk.injEq] at hv
        obtain ⟨rfl, rfl⟩ := hv
        simp only [roomy, Nat.ble_eq] at hro
        obtain ⟨v, hzv, hrun⟩ := run_zeroValue hz
        have hrow := row_R (ι := ι) hzv (by omega) cv.toNat
        have hn0 := hnone σ.length (Nat.le_refl _) (by simp)
        rw [h2] at hrow
        have hsz : (rowOf v.cells (cv.toNat * n)).size = cv.toNat * n := rowOf_size _ _
        refine ⟨.slice (some ⟨W.heap.size, 0, none⟩) lv.toNat cv.toNat, _, _, ?_, row_q hR hn0 (rowOf v.cells (cv.toNat * n)) el _ 0 hrow, ?_⟩
        · have hm : lv.toNat * n ≤ cv.toNat * n := Nat.mul_le_mul_right _ (by omega)
          exact ⟨_, cv.toNat, Inj.put_same _ _ _, by simp [hsz]; exact hm, rfl, rfl, by omega, by simp [hsz]⟩
        · have hw1 : IntKind.i64.wrap lv = lv := IntWalk.i64_in _ (by omega)
          have hw2 : IntKind.i64.wrap cv = cv := IntWalk.i64_in _ (by omega)
          have hti : ∃ i, P.info? el = some i ∧ i.bytes = bytes ∧ i.size = n := by
            unfold bytesT sizeT at *
            cases hi : P.info? el with
            | none => simp [hi] at hs
            | some i => simp [hi] at hs hby; exact ⟨i, rfl, hby, hs⟩
          obtain ⟨i, hi, hib, his⟩ := hti
          have hbig : ¬ ((bytes : Int) * cv > 2 ^ 48) := by
            have : ((cv.toNat * bytes : Nat) : Int) ≤ ((140737488355328 : Nat) : Int) := Int.ofNat_le.2 hro
            have e : ((cv.toNat * bytes : Nat) : Int) = (bytes : Int) * cv := by
              rw [Int.natCast_mul, Int.mul_comm, Int.toNat_of_nonneg (by omega)]
            omega
          have hcond : (decide (cv < 0) || decide ((bytes : Int) * cv > 2 ^ 48) || decide (lv < 0) || decide (lv > cv)) = false := by
            simp only [Bool.or_eq_false_iff, decide_eq_false_iff_not]
            exact ⟨⟨⟨by omega, hbig⟩, by omega⟩, by omega⟩
          simp only [execOp, ho, Instr.makeSlice, Sem.run_bind, run_underlying ht W, Result.andThen_ok, rl, rc, asInt, asIntOf, Sem.run_pure, typeInfo, run_program, hi, hib, hw1, hw2]
          rw [hcond]
          simp only [Bool.false_eq_true, if_false, Sem.run_bind, run_askRoom, Result.andThen_ok, run_sizeOf hs W]
          by_cases hz0 : cv.toNat * n = 0
          · rw [if_pos hz0]
            simp [newRow, hz0, rowOf, show Array.range 0 = #[] from rfl]
          · rw [if_neg hz0]
            simp [newRow, hrun W, rowOf]
    · simp at hv
  · simp at hv

theorem quiet_mkmap {P : Program} {run : Runner} {t : TypeId} : QuietOK P run (.makeMap t none) .mkmap := by
  intro ι σ W e a x σ' o ho hE hR hv hnone
  simp only [heapV, Option.some.injEq, Prod.mk.injEq] at hv
  obtain ⟨rfl, rfl⟩ := hv
  have hn0 := hnone σ.length (Nat.le_refl _) (by simp)
  refine ⟨.map (some W.heap.size), _, _, ⟨_, Inj.put_same _ _ _, rfl⟩, alloc_q hR hn0 (.map #[] 0) (.mp .var []) ⟨W.heap.size, 0, 0, 0, 0⟩ rfl ?_, ?_⟩
  · exact ⟨#[], 0, heap_alloc_at W _, by simp [MR], Stamps.nil⟩
  · simp [execOp, ho, Instr.makeMap]

end Go.Am
