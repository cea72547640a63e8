/- Openings: a slice whose elements have some cells each, all whole numbers. -/
import Derived.Test.YtjldefmcnppdoaaAmLaw
namespace Go.Am
open Go Go.RowKit Go.ChangeShapes Go.WideShapes

theorem mapM_nth {α β : Type} {g : α → Option β} : ∀ {l : List α} {r : List β}, l.mapM g = some r → ∀ (i : Nat) (x : α), l[i]? = some x → ∃ y, r[i]? = some y ∧ g x = some y
  | [], r, _, i, x, hx => by simp at hx
  | a :: l, r, h, i, x, hx => by
    rw [List.mapM_cons] at h
    cases ha : g a with
    | none => simp [ha] at h
    | some y =>
      simp only [ha] at h
      cases hl : l.mapM g with
      | none => simp [hl] at h
      | some r' =>
        simp [hl] at h
        subst h
        cases i with
        | zero => simp at hx; subst hx; exact ⟨y, rfl, ha⟩
        | succ i => exact mapM_nth hl i x (by simpa using hx)

/-- The cells of a struct of whole numbers. -/
theorem trod_ints {H : Type} {enc : TypeId × Value → H} {P : Program} {W : World} {sp : Nat → Bool} {e : TypeId} {fs : Array Field} {z : Nat} (he : P.underlying e = some (.struct fs)) (hfs : ∀ i, i < z → ∃ f, f ∈ fs.toList ∧ f.offset = i ∧ P.cellsOf f.type = 1 ∧ P.underlying f.type = some (.int .i64)) (n : Nat) (cs : List Value) (y : DataW H × List MemPlace)
    (h : DataW.trod enc P W 0 sp true n e cs = some y) (i : Nat) (hi : i < z) : ∃ x, cs[i]? = some (.int .i64 x) ∧ -9223372036854775808 ≤ x ∧ x ≤ 9223372036854775807 := by
  cases n with
  | zero => simp [DataW.trod] at h
  | succ n =>
    rw [DataW.trod_step] at h
    unfold DataW.trodStep at h
    rw [he] at h
    simp only at h
    split at h
    · rename_i hlen
      simp only [Option.map_eq_some_iff] at h
      obtain ⟨xs, hm, _⟩ := h
      obtain ⟨f, hf, ho, hc, hu⟩ := hfs i hi
      obtain ⟨k, hk⟩ := List.getElem?_of_mem hf
      obtain ⟨y, _, hy⟩ := mapM_nth hm k f hk
      rw [ho, hc] at hy
      obtain ⟨x, hx, _, hw⟩ := DataW.trod_int hu hy
      refine ⟨x, ?_, ?_⟩
      · have : ((cs.drop i).take 1)[0]? = some (.int .i64 x) := by rw [hx]; rfl
        rw [List.getElem?_take, List.getElem?_drop] at this
        simpa using this
      · simp only [Lit.wf, Bool.and_eq_true, decide_eq_true_eq] at hw
        exact hw
    · simp at h

/-- The cells of an array of whole numbers. -/
theorem trod_intA {H : Type} {enc : TypeId × Value → H} {P : Program} {W : World} {sp : Nat → Bool} {e u : TypeId} {z : Nat} (he : P.underlying e = some (.array z u)) (hu : P.underlying u = some (.int .i64)) (hc : P.cellsOf u = 1) (n : Nat) (cs : List Value) (y : DataW H × List MemPlace)
    (h : DataW.trod enc P W 0 sp true n e cs = some y) (i : Nat) (hi : i < z) : ∃ x, cs[i]? = some (.int .i64 x) ∧ -9223372036854775808 ≤ x ∧ x ≤ 9223372036854775807 := by
  cases n with
  | zero => simp [DataW.trod] at h
  | succ n =>
    rw [DataW.trod_step] at h
    unfold DataW.trodStep at h
    rw [he] at h
    simp only at h
    split at h
    · rename_i hlen
      simp only [Option.map_eq_some_iff] at h
      obtain ⟨xs, hm, _⟩ := h
      obtain ⟨y, _, hy⟩ := mapM_nth hm i i (by rw [List.getElem?_range hi])
      rw [hc, Nat.mul_one] at hy
      obtain ⟨x, hx, _, hw⟩ := DataW.trod_int hu hy
      refine ⟨x, ?_, ?_⟩
      · have : ((cs.drop i).take 1)[0]? = some (.int .i64 x) := by rw [hx]; rfl
        rw [List.getElem?_take, List.getElem?_drop] at this
        simpa using this
      · simp only [Lit.wf, Bool.and_eq_true, decide_eq_true_eq] at hw
        exact hw
    · simp at h

theorem trodAll_five {H : Type} {enc : TypeId × Value → H} {P : Program} {w : World} {base : Nat} {spare : Nat → Bool} {held : Bool} {t t' t'' t3 t4 : TypeId} {args : Array Value} {ds : List (DataW H)} {ps : List MemPlace} (h : DataW.TrodAll enc P w base spare held [t, t', t'', t3, t4] args.toList ds ps) :
    ∃ v v' v'' v3 v4 d d' d'' d3 d4 p p' p'' p3 p4, args = #[v, v', v'', v3, v4] ∧ ds = [d, d', d'', d3, d4] ∧ ps = p ++ p' ++ p'' ++ p3 ++ p4 ∧ DataW.Trod enc P w base spare held t v d p ∧ DataW.Trod enc P w base spare held t' v' d' p' ∧ DataW.Trod enc P w base spare held t'' v'' d'' p'' ∧ DataW.Trod enc P w base spare held t3 v3 d3 p3 ∧ DataW.Trod enc P w base spare held t4 v4 d4 p4 := by
  obtain ⟨v, vs, d, ds', p, q, hargs, rfl, rfl, hd, hrest⟩ := trodAll_cons h
  obtain ⟨v', vs', d', ds'', p', q', rfl, rfl, rfl, hd', hrest'⟩ := trodAll_cons hrest
  obtain ⟨v'', vs'', d'', ds''', p'', q'', rfl, rfl, rfl, hd'', hrest''⟩ := trodAll_cons hrest'
  obtain ⟨v3, vs3, d3, ds3, p3, q3, rfl, rfl, rfl, hd3, hrest3⟩ := trodAll_cons hrest''
  obtain ⟨v4, vs4, d4, ds4, p4, q4, rfl, rfl, rfl, hd4, hrest4⟩ := trodAll_cons hrest3
  obtain ⟨rfl, rfl, rfl⟩ := trodAll_nil hrest4
  exact ⟨v, v', v'', v3, v4, d, d', d'', d3, d4, p, p', p'', p3, p4, by cases args; simp_all, rfl, by simp, hd, hd', hd'', hd3, hd4⟩

theorem vrl5 {ι : Inj} {a b c d e : V} {v0 v1 v2 v3 v4 : Value} (h0 : VR ι a v0) (h1 : VR ι b v1) (h2 : VR ι c v2) (h3 : VR ι d v3) (h4 : VR ι e v4) : VRL ι [a, b, c, d, e] (#[v0, v1, v2, v3, v4] : Array Value).toList := by
  simp only [VRL]; exact ⟨_, _, rfl, h0, _, _, rfl, h1, _, _, rfl, h2, _, _, rfl, h3, _, _, rfl, h4, rfl⟩

def intOfV : Option Value → Int
  | some (.int _ x) => x
  | _ => 0

theorem open_slR {H : Type} {enc : TypeId × Value → H} {P : Program} {W : World} {base : Nat} {t e : TypeId} {z : Nat} {v : Value} {d : DataW H} {ps : List MemPlace} (ht : P.underlying t = some (.slice e)) (hz : P.cellsOf e = z) (hz0 : 0 < z)
    (hflat : ∀ (n : Nat) (cs : List Value) (y : DataW H × List MemPlace), DataW.trod enc P W 0 (fun _ => true) true n e cs = some y → ∀ i, i < z → ∃ x, cs[i]? = some (.int .i64 x) ∧ -9223372036854775808 ≤ x ∧ x ≤ 9223372036854775807)
    (hok : Value.okWide P W .any base t v) (h : DataW.Trod enc P W 0 (fun _ => true) true t v d ps) :
    (∀ ι, VR ι .snil v) ∨ (∀ ι, VR ι .slz v) ∨ ∃ (n : Nat) (p : Place) (R : Nat → Int), 0 < n ∧ p.n = n * z ∧ p.c < W.heap.size ∧ (∀ i, i < n * z → W.cell? ⟨p.c, p.base + i, none⟩ = some (.int .i64 (R i))) ∧ (∀ i, -9223372036854775808 ≤ R i ∧ R i ≤ 9223372036854775807) ∧
      ∀ ι b, ι b = some p → VR ι (.sl b 0 n z .unk) v := by
  obtain ⟨a, len, cap, rfl⟩ := okWide_slice ht hok
  obtain ⟨fuel, hf⟩ := h
  rcases DataW.trod_slice ht hf with ⟨h1, _⟩ | ⟨ad, len', cap', elems, rest, n, _, h1, _, hb, hl, hm, hlen, hel, _, _⟩
  · left
    intro ι
    simp only [Value.cells] at h1
    simp only [VR]
    simpa using h1
  · right
    simp only [Value.cells] at h1
    have h1 : Value.slice a len cap = .slice (some ad) len' cap' := by simpa using h1
    injection h1 with h1 h2 h3
    subst h1; subst h2; subst h3
    by_cases h0 : len = 0
    · left
      intro ι
      subst h0
      simp only [VR]
      exact ⟨_, _, rfl⟩
    · right
      have hsp : ad.spot = none := by
        simp only [Value.okWide, ht, Cell.okWide, Cell.ok] at hok
        exact hok.2.2.2.1
      have had : ∀ i, ad.add i = ⟨ad.block, ad.off + i, none⟩ := by
        intro i
        unfold Addr.add
        cases ad
        simp only at hsp
        subst hsp
        split
        · rename_i hi; subst hi; rfl
        · rfl
      have had2 : ∀ i j, (ad.add i).add j = ⟨ad.block, ad.off + (i + j), none⟩ := by
        intro i j
        rw [had i]
        unfold Addr.add
        simp only
        split
        · rename_i hj; subst hj; rw [Nat.add_zero]
        · rw [Nat.add_assoc]
      have hcell : ∀ k, k < len * z → ∃ x, W.cell? ⟨ad.block, ad.off + k, none⟩ = some (.int .i64 x) ∧ -9223372036854775808 ≤ x ∧ x ≤ 9223372036854775807 := by
        intro k hk
        have hi : k / z < len := Nat.div_lt_of_lt_mul (by rw [Nat.mul_comm]; exact hk)
        have hj : k % z < z := Nat.mod_lt _ hz0
        have hE := hel (k / z) hi
        have hlt : k / z < elems.length := by omega
        rw [List.getElem?_eq_getElem hlt, Option.bind_eq_some_iff, hz] at hE
        obtain ⟨cs, hcs, hy⟩ := hE
        obtain ⟨x, hx, hbd⟩ := hflat n cs _ hy (k % z) hj
        unfold World.cells? at hcs
        split at hcs
        · obtain ⟨c, hc1, hc2⟩ := mapM_nth hcs (k % z) (k % z) (by rw [List.getElem?_range hj])
          rw [had2] at hc2
          rw [hx] at hc1
          injection hc1 with hc1
          subst hc1
          have e : k / z * z + k % z = k := by rw [Nat.mul_comm]; exact Nat.div_add_mod k z
          rw [e] at hc2
          exact ⟨x, hc2, hbd⟩
        · simp at hcs
      have h00 := hcell 0 (Nat.mul_pos (by omega) hz0)
      refine ⟨len, ⟨ad.block, ad.off, len * z, 0, 0⟩, fun i => if i < len * z then intOfV (W.cell? ⟨ad.block, ad.off + i, none⟩) else 0, by omega, rfl, ?_, ?_, ?_, ?_⟩
      · obtain ⟨x, hx, _⟩ := h00
        unfold World.cell? at hx
        split at hx
        · rename_i hq; exact (Array.getElem?_eq_some_iff.1 hq).1
        · simp at hx
      · intro i hi
        obtain ⟨x, hx, _⟩ := hcell i hi
        simp only [if_pos hi, hx, intOfV]
      · intro i
        by_cases hi : i < len * z
        · simp only [if_pos hi]
          obtain ⟨x, hx, hbd⟩ := hcell i hi
          rw [hx]
          exact hbd
        · simp only [if_neg hi]; omega
      · intro ι b hb
        simp only [VR]
        refine ⟨_, cap, hb, by simp, ?_, hl⟩
        cases ad
        simp only at hsp
        subst hsp
        rfl
end Go.Am
