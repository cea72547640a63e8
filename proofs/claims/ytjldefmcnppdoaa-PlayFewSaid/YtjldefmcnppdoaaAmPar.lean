/- Operations whose order Go leaves open: in whatever order they are carried out, they come to what they come to in the text's order. -/
import Derived.Test.YtjldefmcnppdoaaAmOps
namespace Go.Am
open Go

/-! ### What an operation reads -/

def Agree (ts : List Nat) (e f : Env) : Prop := ∀ t, t ∈ ts → e.getD t .undef = f.getD t .undef

theorem Agree.left {a b : List Nat} {e f : Env} (h : Agree (a ++ b) e f) : Agree a e f := fun t ht => h t (List.mem_append.2 (.inl ht))
theorem Agree.right {a b : List Nat} {e f : Env} (h : Agree (a ++ b) e f) : Agree b e f := fun t ht => h t (List.mem_append.2 (.inr ht))

theorem ev_agree {x : O} {e f : Env} (h : Agree (oT x) e f) : x.ev e = x.ev f := by
  cases x with
  | t n => exact h n (by simp [oT])
  | k v => rfl

theorem evs_agree : ∀ {l : List O} {e f : Env}, Agree (oTs l) e f → l.map (·.ev e) = l.map (·.ev f)
  | [], _, _, _ => rfl
  | x :: l, e, f, h => by
    simp only [oTs, List.flatMap_cons] at h
    rw [List.map_cons, List.map_cons, ev_agree h.left, evs_agree h.right]

theorem bound_agree {x : Option O} {e f : Env} (h : Agree (oTo x) e f) (d : Nat) : bound e x d = bound f x d := by
  cases x with
  | none => rfl
  | some x => simp only [bound, ev_agree (x := x) h]

theorem fillS_agree : ∀ {ps : List (Nat × Nat × O)} {e f : Env} (g : Nat → S), Agree (ps.flatMap fun p => oT p.2.2) e f → fillS e ps g = fillS f ps g
  | [], _, _, _, _ => rfl
  | (a, b, x) :: ps, e, f, g, h => by
    simp only [List.flatMap_cons] at h
    simp only [fillS, ev_agree h.left]
    split
    · exact fillS_agree _ h.right
    · rfl

theorem fillV_agree : ∀ {ps : List (Nat × Nat × O)} {e f : Env} (l : List V), Agree (ps.flatMap fun p => oT p.2.2) e f → fillV e ps l = fillV f ps l
  | [], _, _, _, _ => rfl
  | (a, b, x) :: ps, e, f, l, h => by
    simp only [List.flatMap_cons] at h
    simp only [fillV, ev_agree h.left]
    split
    · split
      · exact fillV_agree _ h.right
      · rfl
    · rfl

theorem pureV_agree {i : PIns} {e f : Env} (h : Agree i.reads e f) : pureV i e = pureV i f := by
  cases i with
  | mv x => simp only [pureV, ev_agree h]
  | pick c a b =>
    have h1 := h.left.left
    have h2 := h.left.right
    have h3 := h.right
    simp only [pureV, ev_agree h1, ev_agree h2, ev_agree h3]
  | build z ps =>
    have e1 : fillS e ps = fillS f ps := funext fun g => fillS_agree g h
    simp only [pureV, ebuild, e1, fillV_agree _ h]
  | nilck x => simp only [pureV, ev_agree h]
  | bin op x y => simp only [pureV, ev_agree h.left, ev_agree h.right]
  | eqb n x y => simp only [pureV, ev_agree h.left, ev_agree h.right]
  | eqa n k x y => simp only [pureV, ev_agree h.left, ev_agree h.right]
  | eqn n x y => simp only [pureV, ev_agree h.left, ev_agree h.right]
  | un op x => simp only [pureV, ev_agree h]
  | conv k x => simp only [pureV, ev_agree h]
  | mkfn g l => simp only [pureV, evs_agree h]
  | fa o z x => simp only [pureV, ev_agree h]
  | fld a o n x => simp only [pureV, ev_agree h]
  | ixa l z x y => simp only [pureV, ev_agree h.left, ev_agree h.right]
  | ixs z x y => simp only [pureV, ev_agree h.left, ev_agree h.right]
  | ix l z a x y => simp only [pureV, ev_agree h.left, ev_agree h.right]
  | ixstr x y => simp only [pureV, ev_agree h.left, ev_agree h.right]
  | slS x lo hi => simp only [pureV, ev_agree h.left.left, bound_agree h.left.right, bound_agree h.right]
  | slV z x lo hi => simp only [pureV, ev_agree h.left.left, bound_agree h.left.right, bound_agree h.right]
  | slA n z x lo hi => simp only [pureV, ev_agree h.left.left, bound_agree h.left.right, bound_agree h.right]
  | ext x k => simp only [pureV, ev_agree h]
  | len x => simp only [pureV, ev_agree h]
  | lenS x => simp only [pureV, ev_agree h]
  | lenK n => rfl
  | mn l => simp only [pureV, evs_agree h]
  | mx l => simp only [pureV, evs_agree h]

theorem fillRow_agree {ps : List (Nat × Nat × O)} {e f : Env} (b : Blk) (h : Agree (ps.flatMap fun p => oT p.2.2) e f) : fillRow e b ps = fillRow f b ps := by
  cases b with
  | sc m n g => simp only [fillRow, fillS_agree g h]
  | vs m l => simp only [fillRow, fillV_agree l h]
  | mp m l => rfl
  | dead => rfl

theorem heapV_agree {run : Runner} {i : HIns} {e f : Env} (h : Agree i.reads e f) (σ : Heap) : heapV run i e σ = heapV run i f σ := by
  cases i with
  | alloc z => rfl
  | box x => simp only [heapV, ev_agree h]
  | mksl l z zz ps =>
    have h' : Agree ((ps.map fun p => (p.1 * z, z, p.2)).flatMap fun p => oT p.2.2) e f := by
      intro t ht
      refine h t ?_
      rw [List.flatMap_map] at ht
      exact ht
    simp only [heapV, fillRow_agree _ h']
  | load a n x => simp only [heapV, ev_agree h]
  | store n a x => simp only [heapV, ev_agree h.left, ev_agree h.right]
  | call g l => simp only [heapV, ev_agree h.left, evs_agree h.right]
  | callq g l => simp only [heapV, ev_agree h.left, evs_agree h.right]
  | append z b s x => simp only [heapV, ev_agree h.left, ev_agree h.right]
  | mkslice z b zz l c => simp only [heapV, ev_agree h.left, ev_agree h.right]
  | b2s x => simp only [heapV, ev_agree h]
  | mkmap => rfl
  | mput m k v => simp only [heapV, ev_agree h.left.left, ev_agree h.left.right, ev_agree h.right]
  | mget z ok m k => simp only [heapV, ev_agree h.left, ev_agree h.right]
  | allocd n => rfl
  | init0 n a x => simp only [heapV, ev_agree h.left, ev_agree h.right]
  | revive n a x => simp only [heapV, ev_agree h.left, ev_agree h.right]

theorem insV_agree {run : Runner} {i : Ins} {e f : Env} (σ : Heap) (h : Agree (match i with | .p p => p.reads | .h h => h.reads) e f) : insV run i e σ = insV run i f σ := by
  cases i with
  | p i => simp only [insV, pureV_agree h]
  | h i => exact heapV_agree h σ

/-- The value that an operation puts, and the heap behind it: undef where its guard says no. -/
def stepV (run : Runner) (o : I) (e : Env) (σ : Heap) : Option (V × Heap) :=
  match o.g with
  | none => insV run o.ins e σ
  | some (t, want) => match e.getD t .undef with
    | .s (.bool b) => bif b == want then insV run o.ins e σ else some (.tup [], σ)
    | .tup [] => some (.tup [], σ)
    | _ => none

theorem stepI_stepV (run : Runner) (o : I) (e : Env) (σ : Heap) : stepI run o e σ = (stepV run o e σ).map fun r => (putT e o.dst r.1, r.2) := by
  obtain ⟨dst, g, ins⟩ := o
  cases g with
  | none => rfl
  | some p =>
    obtain ⟨t, want⟩ := p
    simp only [stepI, stepV]
    generalize e.getD t .undef = v
    cases v with
    | s x =>
      cases x with
      | bool b =>
        simp only
        cases b == want <;> rfl
      | _ => rfl
    | tup l => cases l <;> rfl
    | _ => rfl

theorem stepV_agree {run : Runner} {i : I} {e f : Env} (σ : Heap) (h : Agree i.reads e f) : stepV run i e σ = stepV run i f σ := by
  obtain ⟨dst, g, ins⟩ := i
  unfold I.reads at h
  have h2 := insV_agree (run := run) (i := ins) σ h.right
  cases g with
  | none => exact h2
  | some p =>
    obtain ⟨t, want⟩ := p
    have h1 := h.left t (by simp)
    simp only [stepV, h1, h2]

/-! ### What an operation does to the heap -/

theorem quiet_ext {run : Runner} {i : Ins} (hk : i.kd ≠ .eff) {e : Env} {σ : Heap} {x : V} {σ' : Heap} (h : insV run i e σ = some (x, σ')) : ∃ new, σ' = σ ++ new := by
  cases i with
  | p i =>
    simp only [insV, Option.map_eq_some_iff] at h
    obtain ⟨y, _, h⟩ := h
    injection h with h1 h2
    exact ⟨[], by simp [h2]⟩
  | h i =>
    simp only [insV] at h
    cases i with
    | alloc z => simp only [heapV, Option.some.injEq, Prod.mk.injEq] at h; exact ⟨_, h.2.symm⟩
    | box y =>
      simp only [heapV] at h
      split at h
      · injection h with h; injection h with h1 h2; exact ⟨_, h2.symm⟩
      · injection h with h; injection h with h1 h2; exact ⟨_, h2.symm⟩
      · simp at h
    | mksl l z zz ps =>
      simp only [heapV, Option.map_eq_some_iff] at h
      obtain ⟨b, _, h⟩ := h
      injection h with h1 h2
      exact ⟨_, h2.symm⟩
    | load a n y =>
      simp only [heapV] at h
      split at h
      · split at h
        · simp only [Option.map_eq_some_iff] at h
          obtain ⟨b, _, h⟩ := h
          injection h with h1 h2
          exact ⟨[], by simp [h2]⟩
        · simp at h
      · simp at h
    | store n a y => exact absurd rfl hk
    | call g l => exact absurd rfl hk
    | callq g l =>
      simp only [heapV, callWith] at h
      split at h
      · simp only [Option.bind_eq_some_iff] at h
        obtain ⟨y, _, z, _, h⟩ := h
        unfold leaveC at h
        dsimp only at h
        revert h
        generalize (nodup _ && nodup _ && Nat.ble _ _) = c
        intro h
        cases c
        · simp at h
        · simp only [cond_true] at h
          split at h
          · injection h with h; injection h with h1 h2; exact ⟨_, h2.symm⟩
          · simp at h
      · simp at h
    | append z b s y => exact absurd rfl hk
    | mkslice z b zz l c =>
      simp only [heapV] at h
      split at h
      · split at h
        · revert h
          generalize roomy _ _ = c
          intro h
          cases c
          · simp at h
          · simp only [cond_true] at h
            injection h with h; injection h with h1 h2; exact ⟨_, h2.symm⟩
        · simp at h
      · simp at h
    | b2s y =>
      simp only [heapV] at h
      split at h
      · split at h
        · split at h
          · revert h
            generalize allB _ _ = c
            intro h
            cases c
            · simp at h
            · simp only [cond_true] at h
              injection h with h; injection h with h1 h2; exact ⟨[], by simp [h2]⟩
          · simp at h
        · simp at h
      · injection h with h; injection h with h1 h2; exact ⟨[], by simp [h2]⟩
      · simp at h
    | mkmap => simp only [heapV, Option.some.injEq, Prod.mk.injEq] at h; exact ⟨_, h.2.symm⟩
    | mput m k v => exact absurd rfl hk
    | mget z ok m k =>
      simp only [heapV] at h
      split at h
      · split at h
        · revert h
          generalize List.all _ _ = c
          intro h
          cases c
          · simp at h
          · simp only [cond_true] at h
            split at h
            · injection h with h; injection h with h1 h2; exact ⟨[], by simp [h2]⟩
            · injection h with h; injection h with h1 h2; exact ⟨[], by simp [h2]⟩
        · simp at h
      · simp at h
    | allocd n => simp only [heapV, Option.some.injEq, Prod.mk.injEq] at h; exact ⟨_, h.2.symm⟩
    | init0 n a x => exact absurd rfl hk
    | revive n a x => exact absurd rfl hk

theorem wrV_len {σ σ' : Heap} {b o n : Nat} {x : V} (h : wrV σ b o n x = some σ') : σ'.length = σ.length := by
  unfold wrV at h
  split at h
  · split at h
    · simp only [Option.map_eq_some_iff] at h
      obtain ⟨g, _, rfl⟩ := h
      simp
    · simp at h
  · split at h
    · simp only [Option.bind_eq_some_iff] at h
      obtain ⟨g, _, h⟩ := h
      split at h
      · injection h with h; subst h; simp
      · simp at h
    · simp at h
  · simp at h

theorem eff_len {run : Runner} {i : Ins} {e : Env} {σ : Heap} {x : V} {σ' : Heap} (h : insV run i e σ = some (x, σ')) : σ.length ≤ σ'.length := by
  by_cases hk : i.kd = .eff
  · cases i with
    | p i => simp [Ins.kd] at hk
    | h i =>
      simp only [insV] at h
      cases i <;> simp [Ins.kd, HIns.kd] at hk
      · rename_i n a y
        simp only [heapV] at h
        split at h
        · split at h
          · simp only [Option.map_eq_some_iff] at h
            obtain ⟨s, hs, h⟩ := h
            injection h with h1 h2
            subst h2
            rw [wrV_len hs]
            exact Nat.le_refl _
          · simp at h
        · simp at h
      · simp only [heapV, callWith] at h
        split at h
        · simp only [Option.bind_eq_some_iff] at h
          obtain ⟨y, _, z, _, h⟩ := h
          unfold leaveC at h
          dsimp only at h
          revert h
          generalize (nodup _ && nodup _ && Nat.ble _ _) = c
          intro h
          cases c
          · simp at h
          · simp only [cond_true] at h
            split at h
            · simp only [cond_false] at h
              split at h
              · injection h with h; injection h with h1 h2; subst h2; simp [putB_len]
              · simp at h
            · simp at h
        · simp at h
      · simp only [heapV, appendV] at h
        split at h
        · simp at h
        · split at h
          · split at h
            · injection h with h; injection h with h1 h2; subst h2; exact Nat.le_refl _
            · revert h
              generalize roomy _ _ = c
              intro h
              cases c
              · simp at h
              · simp only [cond_true, Option.map_eq_some_iff] at h
                obtain ⟨b, _, h⟩ := h
                injection h with h1 h2
                subst h2
                simp
          · split at h
            · split at h
              · split at h
                · simp only [Option.map_eq_some_iff] at h
                  obtain ⟨b, hb, h⟩ := h
                  injection h with h1 h2
                  subst h2
                  rw [wrV_len hb]
                  exact Nat.le_refl _
                · simp only [Option.map_eq_some_iff] at h
                  obtain ⟨b, hb, h⟩ := h
                  injection h with h1 h2
                  subst h2
                  rw [wrV_len hb]
                  exact Nat.le_refl _
              · revert h
                generalize roomy _ _ = c
                intro h
                cases c
                · simp at h
                · simp only [cond_true] at h
                  split at h
                  · simp only [Option.map_eq_some_iff] at h
                    obtain ⟨b, _, h⟩ := h
                    injection h with h1 h2
                    subst h2
                    simp
                  · simp at h
            · simp at h
          · split at h
            · revert h
              generalize roomy _ _ = c
              intro h
              cases c
              · simp at h
              · simp only [cond_true] at h
                split at h
                · simp only [Option.map_eq_some_iff] at h
                  obtain ⟨b, _, h⟩ := h
                  injection h with h1 h2
                  subst h2
                  simp [kill]
                · simp only [Option.map_eq_some_iff] at h
                  obtain ⟨b, _, h⟩ := h
                  injection h with h1 h2
                  subst h2
                  simp [kill]
                · simp at h
            · simp at h
          · simp at h
      · simp only [heapV] at h
        split at h
        · split at h
          · split at h
            · revert h
              generalize (List.all _ _ && _) = c
              intro h
              cases c
              · simp at h
              · simp only [cond_true] at h
                injection h with h; injection h with h1 h2; subst h2; simp
            · simp at h
          · simp at h
        · simp at h
      · simp only [heapV] at h
        split at h
        · split at h
          · injection h with h; injection h with h1 h2; subst h2; exact Nat.le_refl _
          · simp at h
        · simp at h
      · simp only [heapV] at h
        split at h
        · split at h
          · injection h with h; injection h with h1 h2; subst h2; simp
          · simp at h
        · simp at h
  · obtain ⟨new, rfl⟩ := quiet_ext hk h
    simp

theorem stepV_len {run : Runner} {o : I} {e : Env} {σ : Heap} {x : V} {σ' : Heap} (h : stepV run o e σ = some (x, σ')) : σ.length ≤ σ'.length := by
  unfold stepV at h
  split at h
  · exact eff_len h
  · split at h
    · rename_i t want _ _ b _
      cases hb : b == want
      · rw [hb] at h; simp only [cond_false] at h; injection h with h; injection h with h1 h2; subst h2; exact Nat.le_refl _
      · rw [hb] at h; exact eff_len h
    · injection h with h; injection h with h1 h2; subst h2; exact Nat.le_refl _
    · simp at h

theorem stepV_ext {run : Runner} {o : I} (hk : o.ins.kd ≠ .eff) {e : Env} {σ : Heap} {x : V} {σ' : Heap} (h : stepV run o e σ = some (x, σ')) : ∃ new, σ' = σ ++ new := by
  unfold stepV at h
  split at h
  · exact quiet_ext hk h
  · split at h
    · rename_i t want _ _ b _
      cases hb : b == want
      · rw [hb] at h; simp only [cond_false] at h; injection h with h; injection h with h1 h2; exact ⟨[], by simp [h2]⟩
      · rw [hb] at h; exact quiet_ext hk h
    · injection h with h; injection h with h1 h2; exact ⟨[], by simp [h2]⟩
    · simp at h

/-- An operation without memory: the same over every heap. -/
theorem stepV_pure {run : Runner} {o : I} (hk : o.ins.kd = .pure) {e : Env} {σ : Heap} {x : V} {σ' : Heap} (h : stepV run o e σ = some (x, σ')) : σ' = σ ∧ ∀ τ, stepV run o e τ = some (x, τ) := by
  have main : ∀ σ x σ', insV run o.ins e σ = some (x, σ') → σ' = σ ∧ ∀ τ, insV run o.ins e τ = some (x, τ) := by
    intro σ x σ' h
    cases hi : o.ins with
    | p i =>
      rw [hi] at h
      simp only [insV, Option.map_eq_some_iff] at h
      obtain ⟨y, hy, h⟩ := h
      injection h with h1 h2
      subst h1
      exact ⟨h2.symm, fun τ => by simp [insV, hy]⟩
    | h i =>
      rw [hi] at hk
      simp only [Ins.kd] at hk
      cases i <;> simp [HIns.kd] at hk
  unfold stepV at h ⊢
  split at h
  · rename_i hg
    obtain ⟨h1, h2⟩ := main _ _ _ h
    exact ⟨h1, fun τ => by simp only [h2 τ]⟩
  · rename_i t want hg
    split at h
    · rename_i b hb
      cases hbw : b == want
      · rw [hbw] at h; simp only [cond_false] at h; injection h with h; injection h with h1 h2
        subst h1; subst h2
        exact ⟨rfl, fun τ => by simp only [cond_false]⟩
      · rw [hbw] at h
        simp only [cond_true] at h
        obtain ⟨h1, h2⟩ := main _ _ _ h
        exact ⟨h1, fun τ => by simp only [cond_true, h2 τ]⟩
    · injection h with h; injection h with h1 h2
      subst h1; subst h2
      exact ⟨rfl, fun τ => rfl⟩
    · simp at h

end Go.Am
