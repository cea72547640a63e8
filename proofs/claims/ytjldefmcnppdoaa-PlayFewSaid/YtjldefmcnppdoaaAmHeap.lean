/- The abstract machine's operations on memory, held against the model's. -/
import Derived.Test.YtjldefmcnppdoaaAmPureE
namespace Go.Am
open Go

/-- A row of cells, as a block says it. -/
def CellsR (ι : Inj) (x : Blk) (cs : Array Value) : Prop :=
  match x with
  | .sc _ n g => cs.size = n ∧ ∀ i, i < n → cs[i]? = some (g i).val
  | .vs _ l => VRL ι l cs.toList
  | _ => False

theorem CellsR.blk {ι : Inj} {x : Blk} {cs : Array Value} {W : World} {p : Place} (h : CellsR ι x cs) (hb : p.base = 0) (hn : p.n = cs.size) (hs : p.sz = cs.size) {T : TypeId} (hw : W.heap[p.c]? = some (.cells cs T (0, 0))) : BlkR ι W x p := by
  have hcell : ∀ i, W.cell? ⟨p.c, p.base + i, none⟩ = cs[i]? := fun i => by simp [World.cell?, hw, hb]
  have hown : ∀ m, Own m W p := fun m _ => ⟨hb, by omega, cs, T, hw, hs.symm⟩
  cases x with
  | sc m n g =>
    obtain ⟨h1, h2⟩ := h
    exact ⟨by omega, fun i hi => by rw [hcell]; exact h2 i hi, hown m⟩
  | vs m l =>
    have hl := VRL.length h
    simp only [Array.length_toList] at hl
    refine ⟨by omega, fun i y hy => ?_, hown m⟩
    obtain ⟨v, hv, hr⟩ := VRL.at h i y hy
    exact ⟨v, by rw [hcell]; simpa using hv, hr⟩
  | mp m l => exact h.elim
  | dead => trivial

theorem CellsR.ext {ι ι' : Inj} {x : Blk} {cs : Array Value} (h : CellsR ι x cs) (he : Ext ι ι') : CellsR ι' x cs := by
  cases x with
  | sc m n g => exact h
  | vs m l => exact VRL.ext he _ _ h
  | mp m l => exact h
  | dead => exact h

/-- A new row. -/
theorem row_q {ι : Inj} {σ : Heap} {W : World} (h : RelW ι σ W) (hn : ι σ.length = none) (cs : Array Value) (T : TypeId) (x : Blk) (cap : Nat) (hc : CellsR ι x cs) :
    QPost ι σ W (ι.put σ.length ⟨W.heap.size, 0, cs.size, cap, cs.size⟩) (σ ++ [x]) (W.alloc (.cells cs T)) :=
  alloc_q h hn _ x _ rfl ((hc.ext (Inj.put_ext _ hn)).blk rfl rfl rfl (heap_alloc_at W _))

/-- What an operation on memory that writes nothing old comes to. -/
def QuietOK (P : Program) (run : Runner) (op : Op) (i : HIns) : Prop :=
  ∀ (ι : Inj) (σ : Heap) (W : World) (e : Env) (a : Act) (x : V) (σ' : Heap) (o : Oper), o.op = op → EnvR ι e a.tmps → RelW ι σ W → heapV run i e σ = some (x, σ') →
    (∀ b, σ.length ≤ b → b < σ'.length → ι b = none) → ∃ v W' ι', VR ι' x v ∧ QPost ι σ W ι' σ' W' ∧ (execOp a.eval o).run P W = .ok (.value v) W'

theorem zblk_R {ι : Inj} {v : Value} {z : Z} (h : zeroZ v = some z) : CellsR ι z.blk v.cells := by
  have hs := zeroZ_size h
  have hsc := fun g hg => zeroZ_sc (g := g) h hg
  have hvc := zeroZ_vc (ι := ι) h
  cases z with
  | ints n => exact ⟨hs.symm, hsc _ rfl⟩
  | scl l => exact ⟨hs.symm, hsc _ rfl⟩
  | vl l => exact hvc
  | one v =>
    cases v with
    | s x => exact ⟨hs.symm, hsc _ rfl⟩
    | _ => exact hvc

theorem zblk_size {v : Value} {z : Z} (h : zeroZ v = some z) : z.size = v.cells.size := zeroZ_size h

theorem quiet_alloc {P : Program} {run : Runner} {t : TypeId} {z : Z} (hz : zeroT P t = some z) : QuietOK P run (.alloc t) (.alloc z) := by
  intro ι σ W e a x σ' o ho hE hR hv hn
  simp only [heapV, Option.some.injEq, Prod.mk.injEq] at hv
  obtain ⟨rfl, rfl⟩ := hv
  obtain ⟨v, hzv, hrun⟩ := run_zeroValue hz
  have hn0 := hn σ.length (Nat.le_refl _) (by simp)
  refine ⟨.pointer (some ⟨W.heap.size, 0, none⟩), _, _, ?_, row_q hR hn0 v.cells t z.blk 0 (zblk_R hzv), ?_⟩
  · exact ⟨_, Inj.put_same _ _ _, by have := zeroZ_size hzv; simp; omega, rfl⟩
  · simp [execOp, ho, Instr.alloc, hrun, newVar, newRow]

theorem boxB_R {ι : Inj} {x : V} {b : Blk} {v : Value} (h : boxB x = some b) (hv : VR ι x v) : CellsR ι b v.cells := by
  unfold boxB at h
  split at h
  · rename_i y
    injection h with h
    subst h
    have hc := one_cells (x := .s y) rfl hv
    simp only [VR] at hv
    rw [hc, hv]
    exact ⟨rfl, fun i hi => by have : i = 0 := by omega
                               subst this; simp⟩
  · rename_i n g
    injection h with h
    subst h
    simp only [VR] at hv
    obtain ⟨cs, rfl, h1, h2⟩ := hv
    exact ⟨h1, h2⟩
  · rename_i l
    injection h with h
    subst h
    simp only [VR] at hv
    obtain ⟨cs, rfl, h1⟩ := hv
    simpa [CellsR, Value.cells] using h1
  · split at h
    · rename_i ho
      injection h with h
      subst h
      rw [CellsR, one_cells ho hv]
      simp only [VRL]
      exact ⟨v, [], rfl, hv, rfl⟩
    · simp at h

theorem CellsR.size {ι : Inj} {x : Blk} {cs : Array Value} (h : CellsR ι x cs) : cs.size = match x with
    | .sc _ n _ => n
    | .vs _ l => l.length
    | _ => 0 := by
  cases x with
  | sc m n g => exact h.1
  | vs m l => have := VRL.length h; simpa using this.symm
  | mp m l => exact h.elim
  | dead => exact h.elim

theorem quiet_box {P : Program} {run : Runner} {t : TypeId} {x : Operand} {x' : O} (hx : opd x = some x') : QuietOK P run (.box t x) (.box x') := by
  intro ι σ W e a z σ' o ho hE hR hv hn
  have rx := opd_R hx hE
  simp only [heapV] at hv
  have key : ∀ b, boxB (x'.ev e) = some b → ι σ.length = none → ∃ W' ι', QPost ι σ W ι' (σ ++ [b]) W' ∧ (execOp a.eval o).run P W = .ok (.value (.pointer (some ⟨W.heap.size, 0, none⟩))) W' ∧
      ι' σ.length = some ⟨W.heap.size, 0, (a.eval x).cells.size, 0, (a.eval x).cells.size⟩ := by
    intro b hb hn0
    exact ⟨_, _, row_q hR hn0 (a.eval x).cells t b 0 (boxB_R hb rx), by simp [execOp, ho, Instr.box, newVar, newRow], Inj.put_same _ _ _⟩
  split at hv
  · rename_i m n g hb
    injection hv with hv
    injection hv with h1 h2
    subst h1; subst h2
    obtain ⟨W', ι', hq, hr, hp⟩ := key _ hb (hn _ (Nat.le_refl _) (by simp))
    have hs := (boxB_R hb rx).size
    exact ⟨_, W', ι', ⟨_, hp, by simp at hs ⊢; omega, rfl⟩, hq, hr⟩
  · rename_i m l hb
    injection hv with hv
    injection hv with h1 h2
    subst h1; subst h2
    obtain ⟨W', ι', hq, hr, hp⟩ := key _ hb (hn _ (Nat.le_refl _) (by simp))
    have hs := (boxB_R hb rx).size
    exact ⟨_, W', ι', ⟨_, hp, by simp at hs ⊢; omega, rfl⟩, hq, hr⟩
  · simp at hv

/-! ### Reading -/

/-- The cells that lie from a place on. -/
theorem rd_sc {ι : Inj} {σ : Heap} {W : World} (h : RelW ι σ W) {b : Nat} {p : Place} {m : Md} {n : Nat} {g : Nat → S} (hp : ι b = some p) (hb : σ[b]? = some (.sc m n g)) {o k : Nat} (hk : o + k ≤ p.n) :
    ∀ j, j < k → W.cell? ((⟨p.c, p.base + o, none⟩ : Addr).add j) = some (g (o + j)).val := by
  intro j hj
  obtain ⟨h1, h2, _⟩ := h.blk b p _ hp hb
  rw [add_off, Nat.add_assoc]
  exact h2 _ (by omega)

theorem rd_vs {ι : Inj} {σ : Heap} {W : World} (h : RelW ι σ W) {b : Nat} {p : Place} {m : Md} {l : List V} (hp : ι b = some p) (hb : σ[b]? = some (.vs m l)) {o k : Nat} (hk : o + k ≤ l.length) :
    ∃ vs : List Value, vs.length = k ∧ VRL ι ((l.drop o).take k) vs ∧ ∀ j u, vs[j]? = some u → W.cell? ((⟨p.c, p.base + o, none⟩ : Addr).add j) = some u := by
  obtain ⟨h1, h2, _⟩ := h.blk b p _ hp hb
  have hc : ∀ j, j < k → ∃ v, W.cell? ⟨p.c, p.base + (o + j), none⟩ = some v ∧ ∀ x, l[o + j]? = some x → VR ι x v := by
    intro j hj
    obtain ⟨v, hv, hr⟩ := h2 (o + j) _ (List.getElem?_eq_getElem (by omega))
    exact ⟨v, hv, fun x hx => by rw [List.getElem?_eq_getElem (by omega)] at hx; injection hx with hx; subst hx; exact hr⟩
  refine ⟨(List.range k).map fun j => (W.cell? ⟨p.c, p.base + (o + j), none⟩).getD Go.undef, by simp, VRL.of_at (by simp; omega) fun i x v hx hv => ?_, fun j u hu => ?_⟩
  · rw [List.getElem?_take] at hx
    split at hx
    · rename_i hi
      rw [List.getElem?_drop] at hx
      obtain ⟨v', hv', hr⟩ := hc i hi
      rw [List.getElem?_map, List.getElem?_range hi] at hv
      simp [hv'] at hv
      subst hv
      exact hr x hx
    · simp at hx
  · rw [List.getElem?_map] at hu
    by_cases hj : j < k
    · rw [List.getElem?_range hj] at hu
      obtain ⟨v', hv', _⟩ := hc j hj
      simp [hv'] at hu
      subst hu
      rw [add_off, Nat.add_assoc]
      exact hv'
    · rw [List.getElem?_eq_none (by simp; omega)] at hu
      simp at hu

theorem run_loadVar {P : Program} {t : TypeId} {g : Bool} {n : Nat} (ha : aggT P t = some g) (hs : sizeT P t = some n) (hg : (g || n == 1) = true) {ι : Inj} {σ : Heap} {W : World} (h : RelW ι σ W) {b o : Nat} {p : Place} (hp : ι b = some p) (hk : o + n ≤ p.n) {x : V} (hx : rdV σ b o n g = some x) :
    ∃ v, VR ι x v ∧ (loadVar t ⟨p.c, p.base + o, none⟩).run P W = .ok v W := by
  unfold rdV at hx
  split at hx
  · rename_i m k f hb
    injection hx with hx
    subst hx
    have hr := rd_sc h hp hb hk
    cases g
    · have h1 : n = 1 := by simpa using hg
      subst h1
      have h0 := hr 0 (by omega)
      simp only [Addr.add, Nat.add_zero, if_true] at h0
      exact ⟨(f o).val, rfl, by simp [loadVar, run_isAgg ha, h0]⟩
    · refine ⟨.agg ((List.range n).map fun j => (f (o + j)).val).toArray, ⟨_, rfl, by simp, fun i hi => by simp [hi]⟩, ?_⟩
      have hl := run_loadCells (P := P) W ⟨p.c, p.base + o, none⟩ n (fun j => (f (o + j)).val) hr
      simp [loadVar, run_isAgg ha, run_sizeOf hs, hl]
  · rename_i m l hb
    cases g
    · have h1 : n = 1 := by simpa using hg
      subst h1
      simp only [cond_false] at hx
      obtain ⟨_, h2, _⟩ := h.blk b p _ hp hb
      obtain ⟨v, hv, hr⟩ := h2 o x hx
      exact ⟨v, hr, by simp [loadVar, run_isAgg ha, hv]⟩
    · simp only [cond_true] at hx
      split at hx
      · rename_i hle
        injection hx with hx
        subst hx
        obtain ⟨vs, hl, hr, hc⟩ := rd_vs h hp hb hle
        refine ⟨.agg vs.toArray, mkAgg_R hr, ?_⟩
        have hld := run_loadCells_list (P := P) W ⟨p.c, p.base + o, none⟩ vs hc
        rw [hl] at hld
        simp [loadVar, run_isAgg ha, run_sizeOf hs, hld]
      · simp at hx
  · simp at hx

theorem quiet_load {P : Program} {run : Runner} {t : TypeId} {g : Bool} {n : Nat} {x : Operand} {x' : O} (ha : aggT P t = some g) (hs : sizeT P t = some n) (hg : (g || n == 1) = true) (hx : opd x = some x') : QuietOK P run (.load t x) (.load g n x') := by
  intro ι σ W e a z σ' o ho hE hR hv hn
  have rx := opd_R hx hE
  simp only [heapV] at hv
  split at hv
  · rename_i b off z' hb
    rw [hb] at rx
    simp only [VR] at rx
    obtain ⟨p, hp, hl, rx⟩ := rx
    split at hv
    · rename_i hle
      simp only [Option.map_eq_some_iff] at hv
      obtain ⟨y, hy, hv⟩ := hv
      injection hv with h1 h2
      subst h1; subst h2
      obtain ⟨v, hv, hrun⟩ := run_loadVar ha hs hg hR hp (by omega) hy
      exact ⟨v, W, ι, hv, QPost.refl hR, by simp [execOp, ho, rx, Instr.loadAt, Instr.sureAddr, hrun]⟩
    · simp at hv
  · simp at hv

end Go.Am
