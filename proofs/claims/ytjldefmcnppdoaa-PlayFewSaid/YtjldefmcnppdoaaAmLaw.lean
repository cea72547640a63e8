/- From a run of the abstract machine to what the row asks. -/
import Derived.Test.YtjldefmcnppdoaaAmWpC
import Derived.ProofKit
namespace Go.Am
open Go Go.RowKit Go.ChangeShapes Go.WideShapes

theorem trodAll_below {H : Type} {enc : TypeId × Value → H} {P : Program} (hl : laidOutB P = true) {W W' : World} (hb : Below W.heap.size W W') : ∀ {ts : List TypeId} {vs : List Value} {ds : List (DataW H)} {ps : List MemPlace},
    DataW.TrodAll enc P W 0 (fun _ => true) true ts vs ds ps → (ts.all fun t => P.readableRec t && decide (t < P.types.size)) = true → (∀ x ∈ ps, x.block < W.heap.size) →
    DataW.TrodAll enc P W' 0 (fun b => decide (b < W.heap.size)) true ts vs ds ps
  | [], [], [], ps, h, _, _ => h
  | t :: ts, v :: vs, d :: ds, ps, h, hr, hlt => by
    obtain ⟨p, q, h1, h2, rfl⟩ := h
    simp only [List.all_cons, Bool.and_eq_true, decide_eq_true_eq] at hr
    exact ⟨p, q, Below.trod hl hr.1.1 hr.1.2 h1 hb (fun x hx => hlt x (List.mem_append.2 (.inl hx))), trodAll_below hl hb h2 hr.2 (fun x hx => hlt x (List.mem_append.2 (.inr hx))), rfl⟩
  | [], [], _ :: _, _, h, _, _ => h.elim
  | [], _ :: _, _, _, h, _, _ => h.elim
  | _ :: _, [], _, _, h, _, _ => h.elim
  | _ :: _, _ :: _, [], _, h, _, _ => h.elim

/-- The arguments, as the abstract machine has them, and the law's run over them. -/
def Opened (A : AP) (f : FuncId) (W : World) (args : Array Value) : Prop :=
  ∃ ι σ as σ', RelW ι σ W ∧ Dom ι σ ∧ VRL ι as args.toList ∧ (∀ b, ¬ mutb σ b) ∧ Run A f as σ = some (.s (.bool true), σ')

theorem law_contract {H : Type} {enc : TypeId × Value → H} {P : Program} {A : AP} (hr : RunOK P (Run A)) (hl : laidOutB P = true) {f : FuncId} {fn : Func} {s : ChangeSpec} {apart : Bool} {W : World} {args : Array Value} {ds gs : List (DataW H)} {before : List MemPlace} {tb : TypeId}
    (hW : DataW.Whole enc P fn.params.toList s.vars apart W args.toList ds gs before) (hv : s.vars = []) (hs : s.fn H ds = { results := [.lit (.bool true)], args := ds }) (hrt : fn.resultTypes = #[tb]) (htb : P.underlying tb = some .bool)
    (hts : (fn.params.toList.all fun t => P.readableRec t && decide (t < P.types.size)) = true) (ho : Opened A f W args) :
    Calls P f args W fun e W' => ∃ v, e = .returned v ∧ s.post enc P fn apart true false false W args v W' := by
  obtain ⟨ι, σ, as, σ', hR, hD, hvr, hro, hrun⟩ := ho
  have h := law_calls hr hrun hR hD hvr hro
  rw [Array.toArray_toList] at h
  refine h.mono ?_
  rintro e W' ⟨rfl, hb⟩
  refine ⟨_, rfl, ?_⟩
  have hlt := hW.lt
  have hW' := hW
  obtain ⟨p, q, hA, hV, rfl, hfz, hnd⟩ := hW'
  rw [hv] at hV
  have hgs : gs = [] ∧ q = [] := by
    cases gs with
    | nil => exact ⟨rfl, hV⟩
    | cons _ _ => exact hV.elim
  obtain ⟨rfl, rfl⟩ := hgs
  rw [List.append_nil] at hlt
  refine ⟨ds, [], p ++ [], [], p, [], hW, ?_, ?_, ?_, hb.frame _, fun h => nomatch h⟩
  · rw [List.append_nil, hs, hrt]
    exact trodAll_mk1 ⟨1, by simp [DataW.trod, Value.cells, htb]⟩
  · rw [List.append_nil, hs]
    exact trodAll_below hl hb hA hts hlt
  · rw [List.append_nil, hs, hv]
    rfl

theorem vrl1 {ι : Inj} {a : V} {v0 : Value} (h0 : VR ι a v0) : VRL ι [a] (#[v0] : Array Value).toList := by
  simp only [VRL]; exact ⟨_, _, rfl, h0, rfl⟩
theorem vrl2 {ι : Inj} {a b : V} {v0 v1 : Value} (h0 : VR ι a v0) (h1 : VR ι b v1) : VRL ι [a, b] (#[v0, v1] : Array Value).toList := by
  simp only [VRL]; exact ⟨_, _, rfl, h0, _, _, rfl, h1, rfl⟩
theorem vrl3 {ι : Inj} {a b c : V} {v0 v1 v2 : Value} (h0 : VR ι a v0) (h1 : VR ι b v1) (h2 : VR ι c v2) : VRL ι [a, b, c] (#[v0, v1, v2] : Array Value).toList := by
  simp only [VRL]; exact ⟨_, _, rfl, h0, _, _, rfl, h1, _, _, rfl, h2, rfl⟩
theorem vrl4 {ι : Inj} {a b c d : V} {v0 v1 v2 v3 : Value} (h0 : VR ι a v0) (h1 : VR ι b v1) (h2 : VR ι c v2) (h3 : VR ι d v3) : VRL ι [a, b, c, d] (#[v0, v1, v2, v3] : Array Value).toList := by
  simp only [VRL]; exact ⟨_, _, rfl, h0, _, _, rfl, h1, _, _, rfl, h2, _, _, rfl, h3, rfl⟩

/-! ### Opening -/

def flatI (P : Program) (t : TypeId) (n : Nat) : Bool :=
  match P.underlying t with
  | some (.struct _) | some (.array _ _) => P.cellsOf t == n && (match P.cellTypes P.depth t with
    | some ts => ts.all fun u => match P.underlying u with
      | some (.int .i64) => true
      | _ => false
    | none => false)
  | _ => false

def intAt (cs : Array Value) (n : Nat) : Nat → Int := fun i => if i < n then (match cs[i]? with
  | some (.int _ x) => x
  | _ => 0) else 0

theorem i64_bd {x : Int} (h : IntKind.i64.has x) : -9223372036854775808 ≤ x ∧ x ≤ 9223372036854775807 := h

theorem open_flat {P : Program} {W : World} {base : Nat} {t : TypeId} {v : Value} {n : Nat} (hf : flatI P t n = true) (h : Value.okWide P W .any base t v) :
    ∃ Q : Nat → Int, (∀ ι, VR ι (.agg n (ia Q)) v) ∧ (∀ i, -9223372036854775808 ≤ Q i ∧ Q i ≤ 9223372036854775807) ∧ ∀ i, n ≤ i → Q i = 0 := by
  have key : P.cellsOf t = n → (∃ ts, P.cellTypes P.depth t = some ts ∧ (ts.all fun u => match P.underlying u with
      | some (.int .i64) => true
      | _ => false) = true) → (∃ cs, v = .agg cs ∧ cs.size = P.cellsOf t ∧ Row.okWide P W .any base t cs) → ∃ Q : Nat → Int, (∀ ι, VR ι (.agg n (ia Q)) v) ∧ (∀ i, -9223372036854775808 ≤ Q i ∧ Q i ≤ 9223372036854775807) ∧ ∀ i, n ≤ i → Q i = 0 := by
    rintro hn ⟨ts, hts, hall⟩ ⟨cs, rfl, hsz, ts', hts', _, hcell⟩
    rw [hts] at hts'
    injection hts' with hts'
    subst hts'
    have each : ∀ i, i < n → ∃ x, cs[i]? = some (.int .i64 x) ∧ IntKind.i64.has x := by
      intro i hi
      have hlt : i < cs.size := by omega
      obtain ⟨u, hu, hok⟩ := hcell i cs[i] (Array.getElem?_eq_getElem hlt)
      have hm := List.mem_of_getElem? hu
      have hq := List.all_eq_true.1 hall u hm
      split at hq
      · rename_i hk
        simp only [Cell.okWide, hk, Cell.ok] at hok
        rw [Array.getElem?_eq_getElem hlt]
        cases hv : cs[i] with
        | int k x =>
          rw [hv] at hok
          simp only at hok
          obtain ⟨rfl, hh⟩ := hok
          exact ⟨x, rfl, hh⟩
        | _ => rw [hv] at hok; simp at hok
      · simp at hq
    refine ⟨intAt cs n, fun ι => ?_, fun i => ?_, fun i hi => if_neg (by omega)⟩
    · simp only [VR]
      refine ⟨cs, rfl, by omega, fun i hi => ?_⟩
      obtain ⟨x, hx, _⟩ := each i hi
      rw [hx]
      show some _ = some (Value.int .i64 (intAt cs n i))
      simp [intAt, hi, hx]
    · unfold intAt
      split
      · rename_i hi
        obtain ⟨x, hx, hh⟩ := each i hi
        rw [hx]
        exact i64_bd hh
      · omega
  unfold flatI at hf
  split at hf
  · rename_i fs hu
    simp only [Bool.and_eq_true, beq_iff_eq] at hf
    refine key hf.1 ?_ ?_
    · cases hc : P.cellTypes P.depth t with
      | none => rw [hc] at hf; simp at hf
      | some ts => rw [hc] at hf; exact ⟨ts, rfl, hf.2⟩
    · simpa [Value.okWide, hu] using h
  · rename_i m e hu
    simp only [Bool.and_eq_true, beq_iff_eq] at hf
    refine key hf.1 ?_ ?_
    · cases hc : P.cellTypes P.depth t with
      | none => rw [hc] at hf; simp at hf
      | some ts => rw [hc] at hf; exact ⟨ts, rfl, hf.2⟩
    · simpa [Value.okWide, hu] using h
  · simp at hf

theorem open_i64 {P : Program} {W : World} {base : Nat} {t : TypeId} {v : Value} (ht : P.underlying t = some (.int .i64)) (h : Value.okWide P W .any base t v) : ∃ x : Int, (∀ ι, VR ι (.s (.int .i64 x)) v) ∧ -9223372036854775808 ≤ x ∧ x ≤ 9223372036854775807 := by
  simp only [Value.okWide, ht, Cell.okWide, Cell.ok] at h
  cases v with
  | int k x =>
    simp only at h
    obtain ⟨rfl, hh⟩ := h
    exact ⟨x, fun ι => by simp [VR, S.val], i64_bd hh⟩
  | _ => simp at h

def noInj : Inj := fun _ => none
theorem rel_none (W : World) : RelW noInj [] W := ⟨fun _ _ h => by simp [noInj] at h, fun _ _ _ h => by simp [noInj] at h, fun _ _ _ _ h => by simp [noInj] at h⟩
theorem dom_none : Dom noInj [] := fun _ _ h => by simp [noInj] at h
theorem ro_none : ∀ b, ¬ mutb [] b := fun b ⟨x, hx, _⟩ => by simp at hx

/-- One block more that nobody writes. -/
theorem rel_ro {ι : Inj} {σ : Heap} {W : World} (hR : RelW ι σ W) (hD : Dom ι σ) (hro : ∀ b, ¬ mutb σ b) {p : Place} {g : Nat → S} (hlt : p.c < W.heap.size) (hc : ∀ i, i < p.n → W.cell? ⟨p.c, p.base + i, none⟩ = some (g i).val) :
    RelW (ι.put σ.length p) (σ ++ [.sc .ro p.n g]) W ∧ Dom (ι.put σ.length p) (σ ++ [.sc .ro p.n g]) ∧ (∀ b, ¬ mutb (σ ++ [.sc .ro p.n g]) b) ∧ Ext ι (ι.put σ.length p) := by
  have hput : ∀ b q, ι.put σ.length p b = some q → (b = σ.length ∧ q = p) ∨ (b < σ.length ∧ ι b = some q) := by
    intro b q h
    unfold Inj.put at h
    by_cases hb : b = σ.length
    · rw [if_pos hb] at h; injection h with h; exact .inl ⟨hb, h.symm⟩
    · rw [if_neg hb] at h; exact .inr ⟨hD _ _ h, h⟩
  have hnm : ∀ b, ¬ mutb (σ ++ [.sc .ro p.n g]) b := by
    rintro b ⟨x, hx, hm⟩
    by_cases hb : b < σ.length
    · rw [List.getElem?_append_left hb] at hx; exact hro b ⟨x, hx, hm⟩
    · rw [List.getElem?_append_right (by omega)] at hx
      cases hk : b - σ.length with
      | zero => rw [hk] at hx; simp at hx; subst hx; simp [Blk.mut, Md.mut] at hm
      | succ k => rw [hk] at hx; simp at hx
  have hext : Ext ι (ι.put σ.length p) := by
    intro b q h
    unfold Inj.put
    rw [if_neg (by have := hD _ _ h; omega)]
    exact h
  refine ⟨⟨?_, ?_, ?_⟩, ?_, hnm, hext⟩
  · intro b q h
    rcases hput b q h with ⟨_, rfl⟩ | ⟨_, h⟩
    · exact hlt
    · exact hR.lt b q h
  · intro b q x h hx
    rcases hput b q h with ⟨rfl, rfl⟩ | ⟨hb, h⟩
    · simp at hx
      subst hx
      exact ⟨rfl, hc, fun h => by simp [Md.mut] at h⟩
    · rw [List.getElem?_append_left hb] at hx
      exact (hR.blk b q x h hx).keep hext rfl
  · intro b b' q q' _ _ _ hm
    exact absurd hm (hnm b)
  · intro b q h
    rcases hput b q h with ⟨rfl, _⟩ | ⟨hb, _⟩ <;> simp <;> omega

/-- A slice of whole numbers: nil, empty, or a row of cells. -/
theorem open_slI {H : Type} {enc : TypeId × Value → H} {P : Program} {W : World} {base : Nat} {t e : TypeId} {v : Value} {d : DataW H} {ps : List MemPlace} (ht : P.underlying t = some (.slice e)) (he : P.underlying e = some (.int .i64)) (hc : P.cellsOf e = 1) (hok : Value.okWide P W .any base t v)
    (h : DataW.Trod enc P W 0 (fun _ => true) true t v d ps) :
    (∀ ι, VR ι .snil v) ∨ (∀ ι, VR ι .slz v) ∨ ∃ (n : Nat) (p : Place) (R : Nat → Int), 0 < n ∧ p.n = n ∧ p.c < W.heap.size ∧ (∀ i, i < n → W.cell? ⟨p.c, p.base + i, none⟩ = some (.int .i64 (R i))) ∧ (∀ i, -9223372036854775808 ≤ R i ∧ R i ≤ 9223372036854775807) ∧
      ∀ ι b, ι b = some p → VR ι (.sl b 0 n 1 .unk) v := by
  obtain ⟨a, len, cap, rfl⟩ := okWide_slice ht hok
  obtain ⟨fuel, hf⟩ := h
  rcases Go.ChangeShapes.open_ints ht he hc hf with ⟨h1, _⟩ | ⟨ad, len', cap', zs, h1, hb, hl, hm, hz, hx, hcell, hws⟩
  · left
    intro ι
    simp only [Value.cells] at h1
    simp only [VR]
    simpa using h1
  · right
    simp only [Value.cells] at h1
    have h1 : Value.slice a len cap = .slice (some ad) len' cap' := by simpa using h1
    injection h1 with h1 h2 h3
    subst h1; subst h2; subst h3
    by_cases h0 : len = 0
    · left
      intro ι
      subst h0
      simp only [VR]
      exact ⟨_, _, rfl⟩
    · right
      simp only [if_true] at hz
      have hsp : ad.spot = none := by
        simp only [Value.okWide, ht, Cell.okWide, Cell.ok] at hok
        exact hok.2.2.2.1
      have had : ∀ i, ad.add i = ⟨ad.block, ad.off + i, none⟩ := by
        intro i
        unfold Addr.add
        cases ad
        simp only at hsp
        subst hsp
        split
        · rename_i hi; subst hi; rfl
        · rfl
      refine ⟨len, ⟨ad.block, ad.off, len, 0, 0⟩, fun i => if i < zs.length then zs.getD i 0 else 0, by omega, rfl, ?_, ?_, ?_, ?_⟩
      · have := hcell 0 (by omega)
        rw [had] at this
        unfold World.cell? at this
        split at this
        · rename_i hq; exact (Array.getElem?_eq_some_iff.1 hq).1
        · simp at this
      · intro i hi
        have := hcell i (by omega)
        rw [had] at this
        rw [this]
        simp only [if_pos (show i < zs.length by omega)]
      · intro i
        by_cases hi : i < zs.length
        · simp only [if_pos hi]
          have hmem : zs.getD i 0 ∈ zs := by
            rw [List.getD_eq_getElem?_getD, List.getElem?_eq_getElem hi]
            exact List.getElem_mem hi
          have := hws _ hmem
          simp only [Lit.wf, Bool.and_eq_true, decide_eq_true_eq] at this
          exact this
        · simp only [if_neg hi]; omega
      · intro ι b hb
        simp only [VR]
        refine ⟨_, cap, hb, by simp, ?_, hl⟩
        cases ad
        simp only at hsp
        subst hsp
        rfl

end Go.Am
