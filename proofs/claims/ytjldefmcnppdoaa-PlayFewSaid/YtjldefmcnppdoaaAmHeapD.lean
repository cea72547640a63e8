/- The abstract machine's operations on memory that write: stores, appends, maps' entries. -/
import Derived.Test.YtjldefmcnppdoaaAmHeapC
namespace Go.Am
open Go

/-- What an operation that writes comes to. -/
def EffOK (P : Program) (run : Runner) (op : Op) (i : HIns) : Prop :=
  ∀ (ι : Inj) (σ : Heap) (W : World) (e : Env) (a : Act) (x : V) (σ' : Heap) (o : Oper), o.op = op → EnvR ι e a.tmps → RelW ι σ W → Dom ι σ → heapV run i e σ = some (x, σ') →
    ∃ r W' ι', Post ι σ W ι' σ' W' ∧ (execOp a.eval o).run P W = .ok r W' ∧ (r = .skip ∧ x = .undef ∨ ∃ v, r = .value v ∧ VR ι' x v)

theorem mut_cases {x : Blk} (h : x.mut = true) : x.live = true := by cases x <;> simp_all [Blk.mut, Blk.live]

/-- One block written over, in place. -/
theorem eff_set {ι : Inj} {σ : Heap} {W W' : World} (hR : RelW ι σ W) {b : Nat} {p : Place} {x x' : Blk} (hp : ι b = some p) (hb : σ[b]? = some x) (hm : x.mut = true)
    (hs : Same W W') (hh : ∀ c, c ≠ p.c → W'.heap[c]? = W.heap[c]?) (hx : BlkR ι W' x' p) : Post ι σ W ι (σ.set b x') W' := by
  have hlt : b < σ.length := by
    rcases Nat.lt_or_ge b σ.length with h | h
    · exact h
    · rw [List.getElem?_eq_none h] at hb; simp at hb
  have hmut : ∀ c, mutb (σ.set b x') c → mutb σ c := by
    rintro c ⟨y, hy, hym⟩
    by_cases e : b = c
    · subst e; exact ⟨x, hb, hm⟩
    · rw [List.getElem?_set_ne e] at hy; exact ⟨y, hy, hym⟩
  have hlive : ∀ c, liveb (σ.set b x') c → liveb σ c := by
    rintro c ⟨y, hy, hym⟩
    by_cases e : b = c
    · subst e; exact ⟨x, hb, mut_cases hm⟩
    · rw [List.getElem?_set_ne e] at hy; exact ⟨y, hy, hym⟩
  refine ⟨hs, .refl ι, ⟨fun c q hq => Nat.lt_of_lt_of_le (hR.lt c q hq) hs.size, fun c q y hq hy => ?_, fun c c' q q' hq hq' hne h1 h2 => hR.sep c c' q q' hq hq' hne (hmut c h1) (hlive c' h2)⟩, by simp, fun c _ hc => ?_, fun c q hq hn => by simp [hq] at hn, fun c _ h => hmut c h, fun c _ h => hlive c h⟩
  · by_cases e : b = c
    · subst e
      rw [hp] at hq
      injection hq with hq
      subst hq
      rw [List.getElem?_set_self hlt] at hy
      injection hy with hy
      subst hy
      exact hx
    · rw [List.getElem?_set_ne e] at hy
      have hold := hR.blk c q y hq hy
      cases hyl : y.live with
      | true => exact hold.keep (.refl ι) (hh _ (fun hc => hR.sep b c p q hp hq e ⟨x, hb, hm⟩ ⟨y, hy, hyl⟩ hc.symm))
      | false => cases y <;> simp [Blk.live] at hyl; trivial
  · exact hh c (fun e => hc b p hp ⟨x, hb, hm⟩ e.symm)

theorem one_oneCell {ι : Inj} {x : V} {v : Value} (ho : x.one = true) (h : VR ι x v) : v.oneCell' = true := by
  cases x <;> simp [V.one] at ho <;> simp only [VR] at h
  · subst h; rename_i y; cases y <;> rfl
  · obtain ⟨p, _, _, rfl⟩ := h; rfl
  · subst h; rfl
  · obtain ⟨p, c, _, _, rfl, _⟩ := h; rfl
  · obtain ⟨a, c, rfl⟩ := h; rfl
  · subst h; rfl
  · obtain ⟨p, _, rfl⟩ := h; rfl
  · subst h; rfl
  · obtain ⟨cs, rfl, _⟩ := h; rfl
  · subst h; rfl
  · obtain ⟨u, rfl, _⟩ := h; rfl
  · subst h; rfl

theorem VRL.oneCells {ι : Inj} : ∀ {l : List V} {vs : List Value}, l.all V.one = true → VRL ι l vs → ∀ v ∈ vs, v.oneCell' = true
  | [], _, _, h, v, hv => by simp only [VRL] at h; subst h; simp at hv
  | x :: l, _, ho, h, v, hv => by
    simp only [VRL] at h
    obtain ⟨u, r, rfl, hu, hr⟩ := h
    simp only [List.all_cons, Bool.and_eq_true] at ho
    rcases List.mem_cons.1 hv with rfl | hv
    · exact one_oneCell ho.1 hu
    · exact VRL.oneCells ho.2 hr v hv

/-- Cells written into a mutable block: the world behind, and the block there. -/
theorem wrV_R {ι : Inj} {σ : Heap} {W : World} (hR : RelW ι σ W) {b : Nat} {p : Place} (hp : ι b = some p) {o n : Nat} (ho : o + n ≤ p.n) {x : V} {σ' : Heap} (hw : wrV σ b o n x = some σ') {v : Value} (hx : VR ι x v) :
    v.cells.size = n ∧ (∃ W', (∀ P, (storeCells ⟨p.c, p.base + o, none⟩ v.cells.toList).run P W = .ok () W') ∧ Post ι σ W ι σ' W') := by
  unfold wrV at hw
  split at hw
  · rename_i m k g hb
    split at hw
    · rename_i hm
      simp only [Option.map_eq_some_iff] at hw
      obtain ⟨h, hh, rfl⟩ := hw
      obtain ⟨c1, c2⟩ := scells_R hh hx
      obtain ⟨h1, h2, h3⟩ := hR.blk b p _ hp hb
      obtain ⟨hb0, hle, cs, T, hcs, hsz⟩ := h3 hm
      have hone : ∀ u ∈ v.cells.toList, u.oneCell' = true := by
        intro u hu
        obtain ⟨i, hi, rfl⟩ := List.mem_iff_getElem.1 hu
        simp only [Array.length_toList] at hi
        have hq := c2 i (by omega)
        have hq' : v.cells[i] = (h i).val := by rw [Array.getElem?_eq_getElem hi] at hq; injection hq
        rw [Array.getElem_toList, hq']
        cases h i <;> rfl
      have hlen : v.cells.toList.length = n := by simpa using c1
      refine ⟨c1, _, fun P => by rw [hb0, Nat.zero_add]; exact run_storeCells_at P p.c o T v.cells.toList 0 cs W hcs (by omega) hone, ?_⟩
      have hheap := setRow_heap W p.c cs (cs.toList.take (o + 0) ++ v.cells.toList ++ cs.toList.drop (o + 0 + v.cells.toList.length)).toArray T (0, 0) hcs
      refine eff_set hR hp hb hm ⟨rfl, rfl, rfl, by simp⟩ (fun c hc => setRow_other W p.c c _ hc) ⟨h1, fun i hi => ?_, fun _ => ⟨hb0, hle, _, T, hheap, ?_⟩⟩
      · have hg := h2 i hi
        rw [cell_of_row W p.c _ cs T (0, 0) hcs] at hg
        rw [cell_setRow_same W p.c _ cs _ T (0, 0) hcs]
        rw [hb0, Nat.zero_add] at hg ⊢
        simp only [Nat.add_zero, hlen, List.getElem?_toArray]
        unfold over
        rw [bnd_eq]
        by_cases hin : o ≤ i ∧ i < o + n
        · rw [decide_eq_true hin, cond_true, List.append_assoc, List.getElem?_append_right (by simp; omega), List.getElem?_append_left (by simp; omega)]
          simp only [List.length_take, Array.length_toList, Array.getElem?_toList]
          rw [show i - min o cs.size = i - o by omega]
          exact c2 _ (by omega)
        · rw [decide_eq_false hin, cond_false]
          by_cases hlo : i < o
          · rw [List.append_assoc, List.getElem?_append_left (by simp; omega), List.getElem?_take, if_pos hlo]
            simpa using hg
          · rw [List.getElem?_append_right (by simp; omega), List.getElem?_drop]
            simp only [List.length_append, List.length_take, Array.length_toList, Array.getElem?_toList]
            rw [show o + n + (i - (min o cs.size + v.cells.size)) = i by omega]
            exact hg
      · simp only [List.size_toArray, List.length_append, List.length_take, List.length_drop, Array.length_toList]
        omega
    · simp at hw
  · rename_i m l hb
    split at hw
    · rename_i hm
      simp only [Option.bind_eq_some_iff] at hw
      obtain ⟨c, hc, hw⟩ := hw
      split at hw
      · rename_i hle2
        injection hw with hw
        subst hw
        obtain ⟨c1, c2⟩ := vcells_R hc hx
        obtain ⟨h1, h2, h3⟩ := hR.blk b p _ hp hb
        obtain ⟨hb0, hle, cs, T, hcs, hsz⟩ := h3 hm
        have hone := VRL.oneCells hle2.2 c2
        have hlen : v.cells.toList.length = n := by simpa using c1
        have hcl : c.length = n := by rw [VRL.length c2]; exact hlen
        refine ⟨c1, _, fun P => by rw [hb0, Nat.zero_add]; exact run_storeCells_at P p.c o T v.cells.toList 0 cs W hcs (by omega) hone, ?_⟩
        have hheap := setRow_heap W p.c cs (cs.toList.take (o + 0) ++ v.cells.toList ++ cs.toList.drop (o + 0 + v.cells.toList.length)).toArray T (0, 0) hcs
        refine eff_set hR hp hb hm ⟨rfl, rfl, rfl, by simp⟩ (fun c hc => setRow_other W p.c c _ hc) ⟨?_, fun i y hy => ?_, fun _ => ⟨hb0, hle, _, T, hheap, ?_⟩⟩
        · simp only [List.length_append, List.length_take, List.length_drop]
          omega
        · rw [cell_setRow_same W p.c _ cs _ T (0, 0) hcs, hb0, Nat.zero_add]
          simp only [Nat.add_zero, hlen, List.getElem?_toArray]
          by_cases hin : o ≤ i ∧ i < o + n
          · rw [List.append_assoc, List.getElem?_append_right (by simp; omega), List.getElem?_append_left (by simp; omega)] at hy ⊢
            simp only [List.length_take, Array.length_toList] at hy ⊢
            rw [show i - min o cs.size = i - o by omega]
            rw [show i - min o l.length = i - o by omega] at hy
            exact VRL.at c2 _ _ hy
          · by_cases hlo : i < o
            · rw [List.append_assoc, List.getElem?_append_left (by simp; omega), List.getElem?_take, if_pos hlo] at hy ⊢
              obtain ⟨u, hu, hr⟩ := h2 i y hy
              rw [cell_of_row W p.c _ cs T (0, 0) hcs, hb0, Nat.zero_add] at hu
              exact ⟨u, by simpa using hu, hr⟩
            · rw [List.getElem?_append_right (by simp; omega), List.getElem?_drop] at hy ⊢
              simp only [List.length_append, List.length_take, Array.length_toList, Array.getElem?_toList] at hy ⊢
              rw [show o + n + (i - (min o l.length + c.length)) = i by omega] at hy
              rw [show o + n + (i - (min o cs.size + v.cells.size)) = i by omega]
              obtain ⟨u, hu, hr⟩ := h2 i y hy
              rw [cell_of_row W p.c _ cs T (0, 0) hcs, hb0, Nat.zero_add] at hu
              exact ⟨u, hu, hr⟩
        · simp only [List.size_toArray, List.length_append, List.length_take, List.length_drop, Array.length_toList]
          omega
      · simp at hw
    · simp at hw
  · simp at hw

theorem eff_store {P : Program} {run : Runner} {t : TypeId} {n : Nat} {x y : Operand} {x' y' : O} (hs : sizeT P t = some n) (hx : opd x = some x') (hy : opd y = some y') : EffOK P run (.store t x y) (.store n x' y') := by
  intro ι σ W e a z σ' o ho hE hR hD hv
  have rx := opd_R hx hE
  have ry := opd_R hy hE
  simp only [heapV] at hv
  split at hv
  · rename_i b off z' hb
    rw [hb] at rx
    simp only [VR] at rx
    obtain ⟨p, hp, hl, rx⟩ := rx
    split at hv
    · rename_i hle
      simp only [Option.map_eq_some_iff] at hv
      obtain ⟨σ1, hw, hv⟩ := hv
      injection hv with h1 h2
      subst h1; subst h2
      obtain ⟨c1, W', hrun, hpost⟩ := wrV_R hR hp (o := off) (n := n) (by omega) hw ry
      refine ⟨.skip, W', ι, hpost, ?_, .inl ⟨rfl, rfl⟩⟩
      simp [execOp, ho, rx, Instr.storeAt, Instr.sureAddr, storeVar, run_sizeOf hs W, c1, hrun P]
    · simp at hv
  · simp at hv

end Go.Am
