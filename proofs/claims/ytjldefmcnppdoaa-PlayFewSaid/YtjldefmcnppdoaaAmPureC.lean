/- The abstract machine's operations without memory: what is built, compared, cut. -/
import Derived.Test.YtjldefmcnppdoaaAmPureB
import Derived.Laws.Tables
namespace Go.Am
open Go

/-! ### Cells of values -/

theorem one_cells {ι : Inj} {x : V} {v : Value} (ho : x.one = true) (h : VR ι x v) : v.cells = #[v] := by
  cases x <;> simp [V.one] at ho <;> simp only [VR] at h
  · subst h; rename_i y; cases y <;> rfl
  · obtain ⟨p, _, _, rfl⟩ := h; rfl
  · subst h; rfl
  · obtain ⟨p, c, _, _, rfl, _⟩ := h; rfl
  · obtain ⟨a, c, rfl⟩ := h; rfl
  · subst h; rfl
  · obtain ⟨p, _, rfl⟩ := h; rfl
  · subst h; rfl
  · obtain ⟨cs, rfl, _⟩ := h; rfl
  · subst h; rfl
  · obtain ⟨u, rfl, _⟩ := h; rfl
  · subst h; rfl

theorem scells_R {ι : Inj} {x : V} {n : Nat} {g : Nat → S} {v : Value} (h : x.scells n = some g) (hv : VR ι x v) : v.cells.size = n ∧ ∀ j, j < n → v.cells[j]? = some (g j).val := by
  unfold V.scells at h
  split at h
  · rename_i y
    split at h
    · rename_i hn
      injection h with h
      subst h; subst hn
      have hc := one_cells (x := .s y) rfl hv
      simp only [VR] at hv
      rw [hc, hv]
      exact ⟨rfl, fun j hj => by have : j = 0 := by omega
                                 subst this; simp⟩
    · simp at h
  · rename_i m g'
    split at h
    · rename_i hn
      injection h with h
      subst h; subst hn
      simp only [VR] at hv
      obtain ⟨cs, rfl, hs, hr⟩ := hv
      exact ⟨hs, hr⟩
    · simp at h
  · simp at h

theorem vcells_R {ι : Inj} {x : V} {n : Nat} {l : List V} {v : Value} (h : x.vcells n = some l) (hv : VR ι x v) : v.cells.size = n ∧ VRL ι l v.cells.toList := by
  unfold V.vcells at h
  split at h
  · rename_i m g
    split at h
    · rename_i hn
      injection h with h
      subst h; subst hn
      simp only [VR] at hv
      obtain ⟨cs, rfl, hs, hr⟩ := hv
      refine ⟨hs, VRL.of_at (by simp [hs, Value.cells]) fun i y u hy hu => ?_⟩
      simp only [Value.cells, Array.getElem?_toList] at hu
      rw [List.getElem?_map] at hy
      by_cases hi : i < m
      · rw [List.getElem?_range hi] at hy
        simp at hy
        subst hy
        rw [hr i hi] at hu
        injection hu with hu
        subst hu
        exact rfl
      · rw [List.getElem?_eq_none (by simp; omega)] at hy
        simp at hy
    · simp at h
  · rename_i l'
    split at h
    · rename_i hn
      injection h with h
      subst h; subst hn
      simp only [VR] at hv
      obtain ⟨cs, rfl, hr⟩ := hv
      exact ⟨by simp [Value.cells, VRL.length hr], by simpa [Value.cells] using hr⟩
    · simp at h
  · split at h
    · rename_i hn
      simp only [Bool.and_eq_true, beq_iff_eq] at hn
      injection h with h
      subst h
      rw [one_cells hn.1 hv]
      exact ⟨by simp [hn.2], by simp only [VRL]; exact ⟨v, [], by simp, hv, rfl⟩⟩
    · simp at h

/-! ### What is written over -/

theorem wr_get (v : List Value) : ∀ (cells : Array Value) (off k i : Nat),
    ((v.zipIdx k).foldl (fun cs (p : Value × Nat) => cs.setIfInBounds (off + p.2) p.1) cells)[i]? = if off + k ≤ i ∧ i < off + k + v.length ∧ i < cells.size then v[i - (off + k)]? else cells[i]? := by
  induction v with
  | nil =>
    intro cells off k i
    simp
    omega
  | cons c v ih =>
    intro cells off k i
    rw [List.zipIdx_cons, List.foldl_cons, ih]
    simp only [Array.size_setIfInBounds, List.length_cons]
    by_cases h1 : off + (k + 1) ≤ i ∧ i < off + (k + 1) + v.length ∧ i < cells.size
    · rw [if_pos h1, if_pos (by omega)]
      have : i - (off + k) = (i - (off + (k + 1))) + 1 := by omega
      rw [this, List.getElem?_cons_succ]
    · rw [if_neg h1, Array.getElem?_setIfInBounds]
      by_cases h2 : off + k = i
      · subst h2
        by_cases h3 : off + k < cells.size
        · rw [if_pos rfl, if_pos h3, if_pos (by omega)]; simp
        · rw [if_pos rfl, if_neg h3, if_neg (by omega), Array.getElem?_eq_none (by omega)]
      · rw [if_neg h2]
        by_cases h4 : off + k ≤ i ∧ i < off + k + (v.length + 1) ∧ i < cells.size
        · omega
        · rw [if_neg h4]

theorem wr_size (v : List Value) : ∀ (cells : Array Value) (off k : Nat), ((v.zipIdx k).foldl (fun cs (p : Value × Nat) => cs.setIfInBounds (off + p.2) p.1) cells).size = cells.size := by
  induction v with
  | nil => intro cells off k; rfl
  | cons c v ih => intro cells off k; rw [List.zipIdx_cons, List.foldl_cons, ih]; simp

def wr (cells : Array Value) (off : Nat) (v : Array Value) : Array Value := v.zipIdx.foldl (fun cs (p : Value × Nat) => cs.setIfInBounds (off + p.2) p.1) cells

theorem wr_list (cells : Array Value) (off : Nat) (v : Array Value) : wr cells off v = (v.toList.zipIdx 0).foldl (fun cs (p : Value × Nat) => cs.setIfInBounds (off + p.2) p.1) cells := by
  unfold wr
  rw [← Array.foldl_toList, Array.toList_zipIdx]

theorem wr_size' (cells : Array Value) (off : Nat) (v : Array Value) : (wr cells off v).size = cells.size := by rw [wr_list, wr_size]

theorem wr_get' (cells : Array Value) (off : Nat) (v : Array Value) (i : Nat) : (wr cells off v)[i]? = if off ≤ i ∧ i < off + v.size ∧ i < cells.size then v[i - off]? else cells[i]? := by
  rw [wr_list, wr_get]
  simp

theorem wr_toList (cells : Array Value) (off : Nat) (v : Array Value) (h : off + v.size ≤ cells.size) : (wr cells off v).toList = cells.toList.take off ++ v.toList ++ cells.toList.drop (off + v.size) := by
  apply List.ext_getElem?
  intro i
  rw [Array.getElem?_toList, wr_get']
  rw [List.append_assoc, List.getElem?_append]
  simp only [List.length_take, Array.length_toList]
  by_cases h1 : i < off
  · rw [if_neg (by omega), if_pos (by omega), List.getElem?_take, if_pos h1, Array.getElem?_toList]
  · rw [if_neg (show ¬ i < min off cells.size by omega), List.getElem?_append]
    simp only [Array.length_toList]
    rw [show min off cells.size = off by omega]
    by_cases h2 : i < off + v.size
    · rw [if_pos (by omega), if_pos (by omega), Array.getElem?_toList]
    · rw [if_neg (by omega), if_neg (by omega), List.getElem?_drop, Array.getElem?_toList]
      congr 1
      omega

theorem fill_cons (place : Nat → Option (Nat × Nat)) (cells : Array Value) (i off n : Nat) (v : Value) (r : List (Nat × Value)) (hp : place i = some (off, n)) (h1 : v.cells.size = n) (h2 : off + n ≤ cells.size) :
    Instr.fill place cells ((i, v) :: r) = Instr.fill place (wr cells off v.cells) r := by
  simp [Instr.fill, hp, h1, wr]
  omega

/-- The parts' places, as the compiled parts have them. -/
def Places (place : Nat → Option (Nat × Nat)) : List (Nat × Operand) → List (Nat × Nat × O) → Prop
  | [], ps => ps = []
  | (i, x) :: r, ps => ∃ off n o q, ps = (off, n, o) :: q ∧ place i = some (off, n) ∧ opd x = some o ∧ Places place r q

theorem structParts_P {places : List (Nat × Nat)} : ∀ {l : List (Nat × Operand)} {ps : List (Nat × Nat × O)}, structParts places l = some ps → Places (places[·]?) l ps
  | [], ps, h => by simp [structParts] at h; subst h; simp [Places]
  | (i, x) :: r, ps, h => by
    unfold structParts at h
    split at h
    · rename_i off n o q h1 h2 h3
      injection h with h
      subst h
      exact ⟨off, n, o, q, rfl, h1, h2, structParts_P h3⟩
    · simp at h

theorem rowParts_P {z : Nat} : ∀ {l : List (Nat × Operand)} {ps : List (Nat × Nat × O)}, rowParts z l = some ps → Places (fun i => some (i * z, z)) l ps
  | [], ps, h => by simp [rowParts] at h; subst h; simp [Places]
  | (i, x) :: r, ps, h => by
    unfold rowParts at h
    split at h
    · rename_i o q h1 h2
      injection h with h
      subst h
      exact ⟨_, _, o, q, rfl, rfl, h1, rowParts_P h2⟩
    · simp at h

theorem bnd_eq (a i b : Nat) : (Nat.ble a i && Nat.blt i b) = decide (a ≤ i ∧ i < b) := by
  rw [Bool.eq_iff_iff]
  simp only [Bool.and_eq_true, Nat.ble_eq, Nat.blt_eq, decide_eq_true_eq]

theorem fillS_R {ι : Inj} {e : Env} {a : Act} (hE : EnvR ι e a.tmps) {place : Nat → Option (Nat × Nat)} {N : Nat} : ∀ {l : List (Nat × Operand)} {ps : List (Nat × Nat × O)} {g g' : Nat → S} {cells : Array Value},
    Places place l ps → inside N ps = true → fillS e ps g = some g' → cells.size = N → (∀ i, i < N → cells[i]? = some (g i).val) →
    ∃ cells', Instr.fill place cells (l.map fun p => (p.1, a.eval p.2)) = some cells' ∧ cells'.size = N ∧ ∀ i, i < N → cells'[i]? = some (g' i).val
  | [], ps, g, g', cells, hp, _, hf, hs, hc => by
    simp only [Places] at hp
    subst hp
    simp only [fillS, Option.some.injEq] at hf
    subst hf
    exact ⟨cells, rfl, hs, hc⟩
  | (i, x) :: r, ps, g, g', cells, hp, hi, hf, hs, hc => by
    simp only [Places] at hp
    obtain ⟨off, n, o, q, rfl, h1, h2, h3⟩ := hp
    simp only [inside, Bool.and_eq_true, decide_eq_true_eq] at hi
    simp only [fillS] at hf
    split at hf
    · rename_i h hh
      obtain ⟨c1, c2⟩ := scells_R hh (opd_R h2 hE)
      obtain ⟨cells', e1, e2, e3⟩ := fillS_R hE (cells := wr cells off (a.eval x).cells) h3 hi.2 hf (by rw [wr_size', hs]) (fun j hj => by
        rw [wr_get']
        unfold over
        by_cases hb : off ≤ j ∧ j < off + n
        · have ht : (Nat.ble off j && Nat.blt j (off + n)) = true := by rw [bnd_eq]; exact decide_eq_true hb
          rw [if_pos (by omega), ht, cond_true]
          exact c2 _ (by omega)
        · have ht : (Nat.ble off j && Nat.blt j (off + n)) = false := by rw [bnd_eq]; exact decide_eq_false hb
          rw [if_neg (by omega), ht, cond_false]
          exact hc j hj)
      exact ⟨cells', by rw [List.map_cons, fill_cons place cells i off n _ _ h1 c1 (by omega)]; exact e1, e2, e3⟩
    · simp at hf

theorem fillV_R {ι : Inj} {e : Env} {a : Act} (hE : EnvR ι e a.tmps) {place : Nat → Option (Nat × Nat)} : ∀ {l : List (Nat × Operand)} {ps : List (Nat × Nat × O)} {m m' : List V} {cells : Array Value},
    Places place l ps → fillV e ps m = some m' → VRL ι m cells.toList →
    ∃ cells', Instr.fill place cells (l.map fun p => (p.1, a.eval p.2)) = some cells' ∧ VRL ι m' cells'.toList
  | [], ps, m, m', cells, hp, hf, hc => by
    simp only [Places] at hp
    subst hp
    simp only [fillV, Option.some.injEq] at hf
    subst hf
    exact ⟨cells, rfl, hc⟩
  | (i, x) :: r, ps, m, m', cells, hp, hf, hc => by
    simp only [Places] at hp
    obtain ⟨off, n, o, q, rfl, h1, h2, h3⟩ := hp
    simp only [fillV] at hf
    split at hf
    · rename_i c hh
      obtain ⟨c1, c2⟩ := vcells_R hh (opd_R h2 hE)
      have hlen := VRL.length hc
      simp only [Array.length_toList] at hlen
      split at hf
      · rename_i hle
        obtain ⟨cells', e1, e2⟩ := fillV_R hE (cells := wr cells off (a.eval x).cells) h3 hf (by
          rw [wr_toList _ _ _ (by omega), c1]
          exact VRL.append (VRL.append (VRL.take _ hc) c2) (VRL.drop _ hc))
        exact ⟨cells', by rw [List.map_cons, fill_cons place cells i off n _ _ h1 c1 (by omega)]; exact e1, e2⟩
      · simp at hf
    · simp at hf

/-! ### Zero values -/

theorem constVs_R {ι : Inj} : ∀ {l : List Value} {r : List V}, constVs l = some r → VRL ι r l
  | [], r, h => by simp [constVs] at h; subst h; simp [VRL]
  | x :: l, r, h => by
    unfold constVs at h
    split at h
    · rename_i a q h1 h2
      injection h with h
      subst h
      simp only [VRL]
      exact ⟨x, l, rfl, constV_R h1 ι, constVs_R h2⟩
    · simp at h

theorem isZ_eq {v : Value} (h : isZ v = true) : v = S.zero.val := by
  unfold isZ at h
  split at h
  · rfl
  · simp at h

theorem constV_one {v : Value} {x : V} (h : constV v = some x) : v.cells = #[v] := by
  unfold constV at h
  split at h <;> simp at h <;> rfl

theorem zeroZ_size {v : Value} {z : Z} (h : zeroZ v = some z) : z.size = v.cells.size := by
  unfold zeroZ at h
  split at h
  · rename_i cs
    split at h
    · injection h with h; subst h; simp [Z.size, Value.cells]
    · split at h
      · rename_i l hl
        have hlen := VRL.length (constVs_R (ι := fun _ => none) hl)
        split at h
        · rename_i r hr
          injection h with h
          subst h
          have := scals_R hr (constVs_R (ι := fun _ => none) hl)
          have hlr : cs.toList.length = r.length := by rw [this]; simp
          simp only [Array.length_toList] at hlr
          simp [Z.size, Value.cells, hlr]
        · injection h with h
          subst h
          simp only [Array.length_toList] at hlen
          simp [Z.size, Value.cells, hlen]
      · simp at h
  · simp only [Option.map_eq_some_iff] at h
    obtain ⟨x, hx, rfl⟩ := h
    simp [Z.size, constV_one hx]

theorem zeroZ_sc {v : Value} {z : Z} {g : Nat → S} (h : zeroZ v = some z) (hg : z.sc = some g) : ∀ i, i < z.size → v.cells[i]? = some (g i).val := by
  intro i hi
  unfold zeroZ at h
  split at h
  · rename_i cs
    split at h
    · rename_i hall
      injection h with h; subst h
      simp only [Z.sc, Option.some.injEq] at hg
      subst hg
      simp only [Z.size, Array.length_toList] at hi
      have hm : cs[i] ∈ cs.toList := by simp
      have := List.all_eq_true.1 hall _ hm
      simp [Value.cells, hi, isZ_eq this]
    · split at h
      · rename_i l hl
        split at h
        · rename_i r hr
          injection h with h
          subst h
          have := scals_R hr (constVs_R (ι := fun _ => none) hl)
          simp only [Z.sc, Option.some.injEq] at hg
          subst hg
          simp only [Z.size] at hi
          have : cs[i]? = (r.map S.val)[i]? := by rw [← this]; simp
          simp [Value.cells, this, hi]
        · injection h with h
          subst h
          simp [Z.sc] at hg
      · simp at h
  · simp only [Option.map_eq_some_iff] at h
    obtain ⟨x, hx, rfl⟩ := h
    cases x <;> simp [Z.sc] at hg
    subst hg
    simp only [Z.size] at hi
    have : i = 0 := by omega
    subst this
    have h2 := constV_R hx (fun _ => none)
    simp only [VR] at h2
    rw [constV_one hx, h2]
    simp

theorem zeroZ_vc {ι : Inj} {v : Value} {z : Z} (h : zeroZ v = some z) : VRL ι z.vc v.cells.toList := by
  unfold zeroZ at h
  split at h
  · rename_i cs
    split at h
    · rename_i hall
      injection h with h; subst h
      refine VRL.of_at (by simp [Z.vc, Value.cells]) fun i x u hx hu => ?_
      simp only [Z.vc] at hx
      rw [List.getElem?_replicate] at hx
      split at hx
      · injection hx with hx
        subst hx
        have hm : u ∈ cs.toList := List.mem_of_getElem? hu
        rw [isZ_eq (List.all_eq_true.1 hall _ hm)]
        exact rfl
      · simp at hx
    · split at h
      · rename_i l hl
        split at h
        · rename_i r hr
          injection h with h
          subst h
          have := scals_R hr (constVs_R (ι := fun _ => none) hl)
          refine VRL.of_at (by simp only [Z.vc, Value.cells]; rw [this]; simp) fun i x u hx hu => ?_
          simp only [Z.vc, Value.cells] at hx hu
          rw [this] at hu
          rw [List.getElem?_map] at hx hu
          cases hri : r[i]? with
          | none => simp [hri] at hx
          | some y =>
            simp [hri] at hx hu
            subst hx; subst hu
            exact rfl
        · injection h with h
          subst h
          exact constVs_R hl
      · simp at h
  · simp only [Option.map_eq_some_iff] at h
    obtain ⟨x, hx, rfl⟩ := h
    simp only [Z.vc, constV_one hx, VRL]
    exact ⟨v, [], rfl, constV_R hx ι, rfl⟩

theorem zeroT_info {P : Program} {t : TypeId} {z : Z} (h : zeroT P t = some z) : ∃ i v, P.info? t = some i ∧ i.zero = some v ∧ zeroZ v = some z := by
  unfold zeroT at h
  split at h
  · rename_i i hi
    split at h
    · rename_i v hv
      exact ⟨i, v, hi, hv, h⟩
    · simp at h
  · simp at h

theorem run_zeroValue {P : Program} {t : TypeId} {z : Z} (h : zeroT P t = some z) : ∃ v, zeroZ v = some z ∧ ∀ W, (zeroValue t).run P W = .ok v W := by
  obtain ⟨i, v, hi, hv, hz⟩ := zeroT_info h
  exact ⟨v, hz, fun W => by simp [zeroValue, typeInfo, hi, hv]⟩

theorem ebuild_R {ι : Inj} {e : Env} {a : Act} (hE : EnvR ι e a.tmps) {place : Nat → Option (Nat × Nat)} {l : List (Nat × Operand)} {ps : List (Nat × Nat × O)} {z : Z} {v : Value} {x : V}
    (hp : Places place l ps) (hz : zeroZ v = some z) (hb : ebuild e z ps = some x) : ∃ cells, Instr.fill place v.cells (l.map fun p => (p.1, a.eval p.2)) = some cells ∧ VR ι x (.agg cells) := by
  unfold ebuild at hb
  split at hb
  · rename_i g hg
    injection hb with hb
    subst hb
    split at hg
    · rename_i hin
      simp only [Option.bind_eq_some_iff] at hg
      obtain ⟨g0, h0, hg⟩ := hg
      obtain ⟨cells, e1, e2, e3⟩ := fillS_R hE hp hin hg (zeroZ_size hz).symm (zeroZ_sc hz h0)
      exact ⟨cells, e1, _, rfl, e2, e3⟩
    · simp at hg
  · simp only [Option.map_eq_some_iff] at hb
    obtain ⟨m, hm, rfl⟩ := hb
    obtain ⟨cells, e1, e2⟩ := fillV_R hE hp hm (zeroZ_vc hz)
    exact ⟨cells, e1, mkAgg_R' e2⟩

theorem pure_build_struct {P : Program} {t : TypeId} {fs : Array Field} {parts : Array (Nat × Operand)} {ps : List (Nat × Nat)} {z : Z} {qs : List (Nat × Nat × O)} (hz : zeroT P t = some z) (hu : P.underlying t = some (.struct fs)) (hp : placesOf P fs.toList = some ps) (hq : structParts ps parts.toList = some qs) :
    PureOK P (.build t parts) (.build z qs) := by
  intro ι e a x o ho hE hv
  simp only [pureV] at hv
  obtain ⟨v, hzv, hrun⟩ := run_zeroValue hz
  obtain ⟨cells, h1, h2⟩ := ebuild_R hE (structParts_P hq) hzv hv
  refine ⟨_, h2, fun W => ?_⟩
  have hpl := run_places (P := P) W fs.toList ps hp
  have hm : (parts.map fun p => (p.1, a.eval p.2)).toList = parts.toList.map fun p => (p.1, a.eval p.2) := by simp
  simp [execOp, ho, Instr.build, hrun W, run_underlying hu W, Array.mapM_eq_mapM_toList, hpl, h1]

theorem pure_build_array {P : Program} {t el : TypeId} {n len : Nat} {parts : Array (Nat × Operand)} {z : Z} {qs : List (Nat × Nat × O)} (hz : zeroT P t = some z) (hu : P.underlying t = some (.array len el)) (hs : sizeT P el = some n) (hq : rowParts n parts.toList = some qs) :
    PureOK P (.build t parts) (.build z qs) := by
  intro ι e a x o ho hE hv
  simp only [pureV] at hv
  obtain ⟨v, hzv, hrun⟩ := run_zeroValue hz
  obtain ⟨cells, h1, h2⟩ := ebuild_R hE (rowParts_P hq) hzv hv
  refine ⟨_, h2, fun W => ?_⟩
  simp [execOp, ho, Instr.build, hrun W, run_underlying hu W, run_sizeOf hs W, h1]

end Go.Am
