/- The abstract machine's calls: the callee runs over the blocks that its arguments lead to, renamed. -/
import Derived.Test.YtjldefmcnppdoaaAmHeapF
namespace Go.Am
open Go

/-! ### Renaming -/

mutual
theorem ren_R {ι ι' : Inj} {f : Nat → Option Nat} (h : ∀ b i, f b = some i → ι' i = ι b) : ∀ (x y : V) (v : Value), V.ren f x = some y → VR ι x v → VR ι' y v
  | .s x, y, v, hr, hv => by simp only [V.ren, Option.some.injEq] at hr; subst hr; simpa only [VR] using hv
  | .agg n g, y, v, hr, hv => by simp only [V.ren, Option.some.injEq] at hr; subst hr; simpa only [VR] using hv
  | .aggv l, y, v, hr, hv => by
    simp only [V.ren, Option.map_eq_some_iff] at hr
    obtain ⟨m, hm, rfl⟩ := hr
    simp only [VR] at hv ⊢
    obtain ⟨cs, e, hl⟩ := hv
    exact ⟨cs, e, renL_R h l m cs hm hl⟩
  | .ptr b o z, y, v, hr, hv => by
    simp only [V.ren, Option.map_eq_some_iff] at hr
    obtain ⟨i, hi, rfl⟩ := hr
    simp only [VR] at hv ⊢
    obtain ⟨p, hp, r⟩ := hv
    exact ⟨p, by rw [h b i hi]; exact hp, r⟩
  | .pnil, y, v, hr, hv => by simp only [V.ren, Option.some.injEq] at hr; subst hr; simpa only [VR] using hv
  | .sl b o n z m, y, v, hr, hv => by
    simp only [V.ren, Option.map_eq_some_iff] at hr
    obtain ⟨i, hi, rfl⟩ := hr
    simp only [VR] at hv ⊢
    obtain ⟨p, c, hp, r⟩ := hv
    exact ⟨p, c, by rw [h b i hi]; exact hp, r⟩
  | .slz, y, v, hr, hv => by simp only [V.ren, Option.some.injEq] at hr; subst hr; simpa only [VR] using hv
  | .snil, y, v, hr, hv => by simp only [V.ren, Option.some.injEq] at hr; subst hr; simpa only [VR] using hv
  | .map b, y, v, hr, hv => by
    simp only [V.ren, Option.map_eq_some_iff] at hr
    obtain ⟨i, hi, rfl⟩ := hr
    simp only [VR] at hv ⊢
    obtain ⟨p, hp, r⟩ := hv
    exact ⟨p, by rw [h b i hi]; exact hp, r⟩
  | .mnil, y, v, hr, hv => by simp only [V.ren, Option.some.injEq] at hr; subst hr; simpa only [VR] using hv
  | .fn g l, y, v, hr, hv => by
    simp only [V.ren, Option.map_eq_some_iff] at hr
    obtain ⟨m, hm, rfl⟩ := hr
    simp only [VR] at hv ⊢
    obtain ⟨cs, e, hl⟩ := hv
    exact ⟨cs, e, renL_R h l m cs hm hl⟩
  | .fnil, y, v, hr, hv => by simp only [V.ren, Option.some.injEq] at hr; subst hr; simpa only [VR] using hv
  | .iface t x, y, v, hr, hv => by
    simp only [V.ren, Option.map_eq_some_iff] at hr
    obtain ⟨m, hm, rfl⟩ := hr
    simp only [VR] at hv ⊢
    obtain ⟨u, e, hl⟩ := hv
    exact ⟨u, e, ren_R h x m u hm hl⟩
  | .inil, y, v, hr, hv => by simp only [V.ren, Option.some.injEq] at hr; subst hr; simpa only [VR] using hv
  | .tup l, y, v, hr, hv => by
    simp only [V.ren, Option.map_eq_some_iff] at hr
    obtain ⟨m, hm, rfl⟩ := hr
    simp only [VR] at hv ⊢
    obtain ⟨cs, e, hl⟩ := hv
    exact ⟨cs, e, renL_R h l m cs hm hl⟩
  | .undef, y, v, hr, hv => by simp only [V.ren, Option.some.injEq] at hr; subst hr; simp only [VR]
theorem renL_R {ι ι' : Inj} {f : Nat → Option Nat} (h : ∀ b i, f b = some i → ι' i = ι b) : ∀ (l m : List V) (vs : List Value), V.renL f l = some m → VRL ι l vs → VRL ι' m vs
  | [], m, vs, hr, hv => by simp only [V.renL, Option.some.injEq] at hr; subst hr; simpa only [VRL] using hv
  | x :: l, m, vs, hr, hv => by
    simp only [V.renL] at hr
    split at hr
    · rename_i y r h1 h2
      injection hr with hr
      subst hr
      simp only [VRL] at hv ⊢
      obtain ⟨v, w, e, hx, hl⟩ := hv
      exact ⟨v, w, e, ren_R h x y v h1 hx, renL_R h l r w h2 hl⟩
    · simp at hr
end

theorem renM_R {ι ι' : Inj} {f : Nat → Option Nat} (h : ∀ b i, f b = some i → ι' i = ι b) : ∀ (l m : List (S × V)) (es : List MapEntry), renM f l = some m → MR ι l es → MR ι' m es
  | [], m, es, hr, hv => by simp only [renM, Option.some.injEq] at hr; subst hr; simpa only [MR] using hv
  | (k, x) :: l, m, es, hr, hv => by
    simp only [renM] at hr
    split at hr
    · rename_i y r h1 h2
      injection hr with hr
      subst hr
      simp only [MR] at hv ⊢
      obtain ⟨e, w, e1, hk, hx, hl⟩ := hv
      exact ⟨e, w, e1, hk, ren_R h x y _ h1 hx, renM_R h l r w h2 hl⟩
    · simp at hr

theorem renL_len {f : Nat → Option Nat} : ∀ {l m : List V}, V.renL f l = some m → m.length = l.length
  | [], m, h => by simp only [V.renL, Option.some.injEq] at h; subst h; rfl
  | x :: l, m, h => by
    simp only [V.renL] at h
    split at h
    · rename_i y r h1 h2
      injection h with h
      subst h
      simp [renL_len h2]
    · simp at h

theorem renL_get {f : Nat → Option Nat} : ∀ {l m : List V}, V.renL f l = some m → ∀ (i : Nat) y, m[i]? = some y → ∃ x, l[i]? = some x ∧ V.ren f x = some y
  | [], m, h, i, y, hy => by simp only [V.renL, Option.some.injEq] at h; subst h; simp at hy
  | x :: l, m, h, i, y, hy => by
    simp only [V.renL] at h
    split at h
    · rename_i y' r h1 h2
      injection h with h
      subst h
      cases i with
      | zero => simp at hy; subst hy; exact ⟨x, rfl, h1⟩
      | succ i => simp at hy; simpa using renL_get h2 i y hy
    · simp at h

theorem lower_mut {q : Bool} {m : Md} (h : (lower q m).mut = true) : m.mut = true ∧ q = false := by
  cases q
  · exact ⟨h, rfl⟩
  · simp [lower, Md.mut] at h

theorem blkRen_R {ι ι' : Inj} {q : Bool} {f : Nat → Option Nat} (h : ∀ b i, f b = some i → ι' i = ι b) {x y : Blk} {W : World} {p : Place} (hr : Blk.ren q f x = some y) (hx : BlkR ι W x p) : BlkR ι' W y p := by
  have hown : ∀ m, Own m W p → Own (lower q m) W p := fun m ho hm => ho (lower_mut hm).1
  cases x with
  | sc m n g =>
    simp only [Blk.ren, Option.some.injEq] at hr
    subst hr
    exact ⟨hx.1, hx.2.1, hown _ hx.2.2⟩
  | vs m l =>
    simp only [Blk.ren, Option.map_eq_some_iff] at hr
    obtain ⟨r, hr, rfl⟩ := hr
    refine ⟨by rw [renL_len hr]; exact hx.1, fun i z hz => ?_, hown _ hx.2.2⟩
    obtain ⟨w, hw, hrw⟩ := renL_get hr i z hz
    obtain ⟨v, hv, hvr⟩ := hx.2.1 i w hw
    exact ⟨v, hv, ren_R h w z v hrw hvr⟩
  | mp m l =>
    simp only [Blk.ren, Option.map_eq_some_iff] at hr
    obtain ⟨r, hr, rfl⟩ := hr
    obtain ⟨es, ck, h1, h2, h3⟩ := hx
    exact ⟨es, ck, h1, renM_R h l r _ hr h2, h3⟩
  | dead =>
    simp only [Blk.ren, Option.some.injEq] at hr
    subst hr
    trivial

theorem blkRen_mut {q : Bool} {f : Nat → Option Nat} {x y : Blk} (hr : Blk.ren q f x = some y) (hm : y.mut = true) : x.mut = true ∧ q = false := by
  cases x with
  | sc m n g => simp only [Blk.ren, Option.some.injEq] at hr; subst hr; exact lower_mut hm
  | vs m l => simp only [Blk.ren, Option.map_eq_some_iff] at hr; obtain ⟨r, _, rfl⟩ := hr; exact lower_mut hm
  | mp m l => simp only [Blk.ren, Option.map_eq_some_iff] at hr; obtain ⟨r, _, rfl⟩ := hr; exact lower_mut hm
  | dead => simp only [Blk.ren, Option.some.injEq] at hr; subst hr; simp [Blk.mut] at hm

theorem blkRen_live {q : Bool} {f : Nat → Option Nat} {x y : Blk} (hr : Blk.ren q f x = some y) (hm : y.live = true) : x.live = true := by
  cases x with
  | sc m n g => rfl
  | vs m l => rfl
  | mp m l => rfl
  | dead => simp only [Blk.ren, Option.some.injEq] at hr; subst hr; simp [Blk.live] at hm

theorem pos_get : ∀ {l : List Nat} {b i : Nat}, pos b l = some i → l[i]? = some b
  | [], b, i, h => by simp [pos] at h
  | c :: l, b, i, h => by
    unfold pos at h
    cases hc : c == b
    · rw [hc] at h
      simp only [cond_false, Option.map_eq_some_iff] at h
      obtain ⟨j, hj, rfl⟩ := h
      simpa using pos_get hj
    · rw [hc] at h
      simp only [cond_true, Option.some.injEq] at h
      subst h
      simp only [beq_iff_eq] at hc
      simp [hc]

theorem pickB_get {q : Bool} {f : Nat → Option Nat} {σ : Heap} : ∀ {l : List Nat} {r : List Blk}, pickB q f σ l = some r → r.length = l.length ∧ ∀ (i : Nat) b, l[i]? = some b → ∃ x y, σ[b]? = some x ∧ Blk.ren q f x = some y ∧ r[i]? = some y
  | [], r, h => by simp [pickB] at h; subst h; simp
  | c :: l, r, h => by
    simp only [pickB] at h
    split at h
    · rename_i x s h1 h2
      injection h with h
      subst h
      obtain ⟨e1, e2⟩ := pickB_get h2
      refine ⟨by simp [e1], fun i b hb => ?_⟩
      cases i with
      | zero =>
        simp at hb
        subst hb
        simp only [Option.bind_eq_some_iff] at h1
        obtain ⟨y, hy, hr⟩ := h1
        exact ⟨y, x, hy, hr, rfl⟩
      | succ i => simp at hb; simpa using e2 i b hb
    · simp at h

theorem nodup_ne : ∀ {l : List Nat}, nodup l = true → ∀ {i j b : Nat}, l[i]? = some b → l[j]? = some b → i = j
  | [], _, i, j, b, h, _ => by simp at h
  | c :: l, hn, i, j, b, hi, hj => by
    simp only [nodup, Bool.and_eq_true, Bool.not_eq_true'] at hn
    have hmem : ∀ k, l[k]? = some c → False := fun k hk => by
      have := List.mem_of_getElem? hk
      have h2 := hn.1
      simp at h2
      exact h2 this
    cases i with
    | zero =>
      cases j with
      | zero => rfl
      | succ j => simp at hi hj; subst hi; exact (hmem j hj).elim
    | succ i =>
      cases j with
      | zero => simp at hi hj; subst hj; exact (hmem i hi).elim
      | succ j => simp at hi hj; rw [nodup_ne hn.2 hi hj]

theorem putB_len : ∀ (rs : List Nat) (l : List Blk) (σ : Heap), (putB σ rs l).length = σ.length
  | [], _, σ => by simp [putB]
  | _ :: _, [], σ => by simp [putB]
  | b :: rs, x :: l, σ => by simp [putB, putB_len rs l]

theorem putB_other : ∀ (rs : List Nat) (l : List Blk) (σ : Heap) (b : Nat), (∀ i : Nat, rs[i]? ≠ some b) → (putB σ rs l)[b]? = σ[b]?
  | [], _, σ, b, _ => by simp [putB]
  | _ :: _, [], σ, b, _ => by simp [putB]
  | c :: rs, x :: l, σ, b, h => by
    simp only [putB]
    rw [putB_other rs l _ b (fun i => by simpa using h (i + 1)), List.getElem?_set_ne (fun e => h 0 (by simp [e]))]

theorem putB_at : ∀ (rs : List Nat) (l : List Blk) (σ : Heap), nodup rs = true → rs.length = l.length → ∀ (i b : Nat), rs[i]? = some b → b < σ.length → (putB σ rs l)[b]? = l[i]?
  | [], _, σ, _, _, i, b, h, _ => by simp at h
  | c :: rs, [], σ, _, hl, i, b, h, _ => by simp at hl
  | c :: rs, x :: l, σ, hn, hl, i, b, h, hb => by
    simp only [putB]
    have hn' := hn
    simp only [nodup, Bool.and_eq_true, Bool.not_eq_true'] at hn
    cases i with
    | zero =>
      simp at h
      subst h
      rw [putB_other rs l _ c (fun i hi => by
        have := nodup_ne hn' (i := 0) (j := i + 1) (b := c) (by simp) (by simpa using hi)
        omega), List.getElem?_set_self hb]
      simp
    | succ i =>
      simp at h
      rw [putB_at rs l _ hn.2 (by simpa using hl) i b h (by simpa using hb)]
      simp

/-! ### The callee's own world of blocks -/

/-- What a run of the machine says of the model's call. -/
def RunOK (P : Program) (run : Runner) : Prop := ∀ (f : FuncId) (args : List V) (σ : Heap) (v : V) (σ' : Heap), run f args σ = some (v, σ') →
  (∃ fn, P.funcs[f]? = some fn ∧ fn.body.isSome = true ∧ fn.name ≠ "runtime.NumGoroutine") ∧
  ∀ (ι : Inj) (W : World) (as : List Value), RelW ι σ W → Dom ι σ → VRL ι args as →
    Calls P f as.toArray W fun e W' => ∃ ι' v', e = .returned v' ∧ VR ι' v v' ∧ Post ι σ W ι' σ' W'

def subInj (ι : Inj) (rs : List Nat) : Inj := fun i => (rs[i]?).bind ι

theorem subInj_rel {ι : Inj} {σ : Heap} {W : World} (hR : RelW ι σ W) {rs : List Nat} {q : Bool} {σ0 : Heap} (hp : pickB q (pos · rs) σ rs = some σ0) (hn : nodup rs = true) :
    RelW (subInj ι rs) σ0 W ∧ Dom (subInj ι rs) σ0 ∧ (∀ i : Nat, mutb σ0 i → q = false ∧ ∃ b : Nat, rs[i]? = some b ∧ mutb σ b) ∧ (∀ i : Nat, liveb σ0 i → ∃ b : Nat, rs[i]? = some b ∧ liveb σ b) := by
  obtain ⟨hlen, hget⟩ := pickB_get hp
  have hpos : ∀ b i, pos b rs = some i → subInj ι rs i = ι b := fun b i h => by simp [subInj, pos_get h]
  have horig : ∀ (i : Nat) (y : Blk), σ0[i]? = some y → ∃ (b : Nat) (x : Blk), rs[i]? = some b ∧ σ[b]? = some x ∧ Blk.ren q (pos · rs) x = some y := by
    intro i y hy
    have hi : i < rs.length := by
      rcases Nat.lt_or_ge i rs.length with h | h
      · exact h
      · rw [List.getElem?_eq_none (by omega)] at hy; simp at hy
    obtain ⟨x, y', h1, h2, h3⟩ := hget i _ (List.getElem?_eq_getElem hi)
    rw [hy] at h3
    injection h3 with h3
    subst h3
    exact ⟨_, x, List.getElem?_eq_getElem hi, h1, h2⟩
  have hmut : ∀ i : Nat, mutb σ0 i → q = false ∧ ∃ b : Nat, rs[i]? = some b ∧ mutb σ b := by
    rintro i ⟨y, hy, hm⟩
    obtain ⟨b, x, h1, h2, h3⟩ := horig i y hy
    have := blkRen_mut h3 hm
    exact ⟨this.2, b, h1, x, h2, this.1⟩
  have hlive : ∀ i : Nat, liveb σ0 i → ∃ b : Nat, rs[i]? = some b ∧ liveb σ b := by
    rintro i ⟨y, hy, hm⟩
    obtain ⟨b, x, h1, h2, h3⟩ := horig i y hy
    exact ⟨b, h1, x, h2, blkRen_live h3 hm⟩
  have hsub : ∀ (i : Nat) p, subInj ι rs i = some p → ∃ b : Nat, rs[i]? = some b ∧ ι b = some p := by
    intro i p h
    unfold subInj at h
    simpa only [Option.bind_eq_some_iff] using h
  refine ⟨⟨fun i p h => ?_, fun i p y h hy => ?_, fun i j p p' h h' hne h1 h2 => ?_⟩, fun i p h => ?_, hmut, hlive⟩
  · obtain ⟨b, _, hb⟩ := hsub i p h
    exact hR.lt b p hb
  · obtain ⟨b, hb1, hb2⟩ := hsub i p h
    obtain ⟨b', x, h1, h2, h3⟩ := horig i y hy
    rw [hb1] at h1
    injection h1 with h1
    subst h1
    exact blkRen_R hpos h3 (hR.blk b p x hb2 h2)
  · obtain ⟨b, hb1, hb2⟩ := hsub i p h
    obtain ⟨b', hb1', hb2'⟩ := hsub j p' h'
    obtain ⟨_, c, hc1, hc2⟩ := hmut i h1
    obtain ⟨c', hc1', hc2'⟩ := hlive j h2
    rw [hb1] at hc1
    injection hc1 with hc1
    subst hc1
    rw [hb1'] at hc1'
    injection hc1' with hc1'
    subst hc1'
    exact hR.sep b b' p p' hb2 hb2' (fun e => by subst e; exact hne (nodup_ne hn hb1 hb1')) hc2 hc2'
  · obtain ⟨b, hb1, _⟩ := hsub i p h
    rw [hlen]
    rcases Nat.lt_or_ge i rs.length with h | h
    · exact h
    · rw [List.getElem?_eq_none h] at hb1; simp at hb1

/-- Places behind a call: the old ones, and those of the callee's new blocks. -/
def backInj (ι ι1 : Inj) (n : Nat) (ns : List Nat) : Inj := fun b => if b < n then ι b else match ns[b - n]? with
  | some i => ι1 i
  | none => ι b

end Go.Am
