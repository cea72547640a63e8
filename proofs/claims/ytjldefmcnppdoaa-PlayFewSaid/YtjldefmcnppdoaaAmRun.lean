/- The abstract machine without a bound on rounds: its equations; and what a run of a law says. -/
import Derived.Test.YtjldefmcnppdoaaAmSound
import Derived.Below
namespace Go.Am
open Go

def LeR (r r' : Runner) : Prop := ∀ f as σ x, r f as σ = some x → r' f as σ = some x

theorem callWith_mono {r r' : Runner} (h : LeR r r') {q : Bool} {v : V} {args : List V} {σ : Heap} {x : V × Heap} (hx : callWith r q v args σ = some x) : callWith r' q v args σ = some x := by
  unfold callWith at hx ⊢
  split at hx
  · simp only [Option.bind_eq_some_iff] at hx ⊢
    obtain ⟨y, hy, z, hz, hx⟩ := hx
    exact ⟨y, hy, z, h _ _ _ _ hz, hx⟩
  · simp at hx

theorem insV_mono {r r' : Runner} (h : LeR r r') {i : Ins} {e : Env} {σ : Heap} {x : V × Heap} (hx : insV r i e σ = some x) : insV r' i e σ = some x := by
  cases i with
  | p i => exact hx
  | h i =>
    cases i with
    | call f as => exact callWith_mono h hx
    | callq f as => exact callWith_mono h hx
    | _ => exact hx

theorem stepV_mono {r r' : Runner} (h : LeR r r') {o : I} {e : Env} {σ : Heap} {x : V × Heap} (hx : stepV r o e σ = some x) : stepV r' o e σ = some x := by
  obtain ⟨dst, g, ins⟩ := o
  cases g with
  | none => exact insV_mono h hx
  | some p =>
    obtain ⟨t, want⟩ := p
    simp only [stepV] at hx ⊢
    split at hx
    · rename_i b hb
      cases hw : b == want
      · rw [hw] at hx; exact hx
      · rw [hw] at hx; exact insV_mono h hx
    · exact hx
    · simp at hx

theorem opsV_mono {r r' : Runner} (h : LeR r r') : ∀ {l : List I} {e : Env} {σ : Heap} {x : Env × Heap}, opsV r l e σ = some x → opsV r' l e σ = some x
  | [], _, _, _, hx => hx
  | o :: l, e, σ, x, hx => by
    simp only [opsV, Option.bind_eq_some_iff, stepI_stepV, Option.map_eq_some_iff] at hx ⊢
    obtain ⟨y, ⟨z, hz, hy⟩, hx⟩ := hx
    exact ⟨y, ⟨z, stepV_mono h hz, hy⟩, opsV_mono h hx⟩

theorem then_to {x : Res} {f : Env → Heap → Res} {r : Ex × Env × Heap} (h : Ex.then x f = some r) : (∃ e σ, x = some (.normal, e, σ) ∧ f e σ = some r) ∨ (x = some r ∧ ∀ e σ, r ≠ (.normal, e, σ)) := by
  unfold Ex.then at h
  split at h
  · rename_i e σ; exact .inl ⟨e, σ, rfl, h⟩
  · rename_i hne; exact .inr ⟨h, fun e σ he => hne e σ (by rw [h, he])⟩

theorem then_stop {r : Ex × Env × Heap} (h : ∀ e σ, r ≠ (.normal, e, σ)) (f : Env → Heap → Res) : Ex.then (some r) f = some r := by
  unfold Ex.then
  split
  · rename_i e σ he
    injection he with he
    exact absurd he (h e σ)
  · rfl

theorem then_mono {x x' : Res} {f f' : Env → Heap → Res} (hx : ∀ r, x = some r → x' = some r) (hf : ∀ e σ r, f e σ = some r → f' e σ = some r) {r : Ex × Env × Heap} (h : Ex.then x f = some r) : Ex.then x' f' = some r := by
  rcases then_to h with ⟨e, σ, h1, h2⟩ | ⟨h1, h2⟩
  · rw [hx _ h1]
    exact hf _ _ _ h2
  · rw [hx _ h1]
    exact then_stop h2 _

theorem loopF_mono {f f' : Env → Heap → Res} (hf : ∀ e σ r, f e σ = some r → f' e σ = some r) : ∀ {n m : Nat}, n ≤ m → ∀ {e : Env} {σ : Heap} {r : Ex × Env × Heap}, loopF f n e σ = some r → loopF f' m e σ = some r
  | 0, _, _, _, _, _, h => by simp [loopF] at h
  | n + 1, m, hm, e, σ, r, h => by
    obtain ⟨m, rfl⟩ : ∃ k, m = k + 1 := ⟨m - 1, by omega⟩
    simp only [loopF] at h ⊢
    exact then_mono (hf e σ) (fun e σ r hr => loopF_mono hf (by omega) hr) h

theorem exec_mono {r r' : Runner} (h : LeR r r') {n m : Nat} (hn : n ≤ m) : ∀ (c : AC) {e : Env} {σ : Heap} {x : Ex × Env × Heap}, exec r n c e σ = some x → exec r' m c e σ = some x
  | .skip, _, _, _, hx => hx
  | .ops l, e, σ, x, hx => by
    simp only [exec, Option.map_eq_some_iff] at hx ⊢
    obtain ⟨y, hy, hx⟩ := hx
    exact ⟨y, opsV_mono h hy, hx⟩
  | .seq a b, e, σ, x, hx => by
    simp only [exec] at hx ⊢
    exact then_mono (fun r => exec_mono h hn a) (fun e σ r => exec_mono h hn b) hx
  | .cond c a b, e, σ, x, hx => by
    simp only [exec] at hx ⊢
    split at hx
    · rename_i t ht
      cases t
      · exact exec_mono h hn b hx
      · exact exec_mono h hn a hx
    · simp at hx
  | .block id b, e, σ, x, hx => by
    simp only [exec] at hx ⊢
    split at hx
    · rename_i j e' σ' hh
      rw [exec_mono h hn b hh]
      exact hx
    · rename_i hne
      rw [exec_mono h hn b hx]
      split
      · rename_i j e' σ' heq
        rw [heq] at hx
        exact absurd hx (hne j e' σ')
      · rfl
  | .loop b, e, σ, x, hx => by
    simp only [exec] at hx ⊢
    exact loopF_mono (fun e σ r => exec_mono h hn b) hn hx
  | .exit id, _, _, _, hx => hx
  | .ret, _, _, _, hx => hx

theorem finish_mono {a : AF} {x x' : Res} (h : ∀ r, x = some r → x' = some r) {y : V × Heap} (hy : finish a x = some y) : finish a x' = some y := by
  cases hx : x with
  | none => rw [hx] at hy; simp [finish] at hy
  | some r => rw [h r hx]; rw [hx] at hy; exact hy

theorem runF_succ (A : AP) : ∀ n, LeR (runF A n) (runF A (n + 1))
  | 0 => fun f as σ x h => by simp [runF] at h
  | n + 1 => fun f as σ x h => by
    have ih := runF_succ A n
    rw [runF] at h ⊢
    split at h
    · rename_i pf hpf
      exact h
    · split at h
      · rename_i a ha
        exact finish_mono (fun r hr => exec_mono ih (Nat.le_succ n) a.body hr) h
      · simp at h

theorem runF_mono (A : AP) {n m : Nat} (h : n ≤ m) : LeR (runF A n) (runF A m) := by
  induction m with
  | zero =>
    have : n = 0 := by omega
    subst this
    exact fun _ _ _ _ h => h
  | succ m ih =>
    by_cases e : n = m + 1
    · subst e; exact fun _ _ _ _ h => h
    · exact fun f as σ x hx => runF_succ A m f as σ x (ih (by omega) f as σ x hx)

/-! ### The limit -/

open Classical in
noncomputable def lim {α : Type} (x : Nat → Option α) : Option α := if h : ∃ n r, x n = some r then x h.choose else none

theorem lim_of {α : Type} {x : Nat → Option α} (hm : ∀ n m r, n ≤ m → x n = some r → x m = some r) {n : Nat} {r : α} (h : x n = some r) : lim x = some r := by
  unfold lim
  have he : ∃ n r, x n = some r := ⟨n, r, h⟩
  rw [dif_pos he]
  obtain ⟨r', hr'⟩ := he.choose_spec
  have h1 := hm _ (max n he.choose) _ (Nat.le_max_left _ _) h
  have h2 := hm _ (max n he.choose) _ (Nat.le_max_right _ _) hr'
  rw [h1] at h2
  injection h2 with h2
  subst h2
  exact hr'

theorem lim_to {α : Type} {x : Nat → Option α} {r : α} (h : lim x = some r) : ∃ n, x n = some r := by
  unfold lim at h
  split at h
  · exact ⟨_, h⟩
  · simp at h

theorem opt_ext {α : Type} {x y : Option α} (h : ∀ r, x = some r ↔ y = some r) : x = y := by
  cases x with
  | none =>
    cases y with
    | none => rfl
    | some b => have := (h b).2 rfl; simp at this
  | some a => exact ((h a).1 rfl).symm

noncomputable def Run (A : AP) : Runner := fun f as σ => lim fun n => runF A n f as σ
noncomputable def Exec (A : AP) (c : AC) (e : Env) (σ : Heap) : Res := lim fun n => exec (runF A n) n c e σ

section
variable {A : AP}

theorem Run_of {n : Nat} {f : FuncId} {as : List V} {σ : Heap} {r : V × Heap} (h : runF A n f as σ = some r) : Run A f as σ = some r :=
  lim_of (fun _ _ _ hnm hx => runF_mono A hnm _ _ _ _ hx) h

theorem Run_to {f : FuncId} {as : List V} {σ : Heap} {r : V × Heap} (h : Run A f as σ = some r) : ∃ n, runF A n f as σ = some r := lim_to h

theorem Exec_of {n : Nat} {c : AC} {e : Env} {σ : Heap} {r : Ex × Env × Heap} (h : exec (runF A n) n c e σ = some r) : Exec A c e σ = some r :=
  lim_of (fun _ _ _ hnm hx => exec_mono (runF_mono A hnm) hnm c hx) h

theorem Exec_to {c : AC} {e : Env} {σ : Heap} {r : Ex × Env × Heap} (h : Exec A c e σ = some r) : ∃ n, exec (runF A n) n c e σ = some r := lim_to h

theorem leRun (n : Nat) : LeR (runF A n) (Run A) := fun _ _ _ _ h => Run_of h

theorem opsV_to : ∀ {l : List I} {e : Env} {σ : Heap} {r : Env × Heap}, opsV (Run A) l e σ = some r → ∃ n, opsV (runF A n) l e σ = some r
  | [], _, _, _, h => ⟨0, h⟩
  | o :: l, e, σ, r, h => by
    simp only [opsV, Option.bind_eq_some_iff, stepI_stepV, Option.map_eq_some_iff] at h
    obtain ⟨y, ⟨z, hz, hy⟩, hx⟩ := h
    obtain ⟨n2, h2⟩ := opsV_to hx
    have hcall : ∀ q v as τ x, callWith (Run A) q v as τ = some x → ∃ n, callWith (runF A n) q v as τ = some x := by
      intro q v as τ x hq
      unfold callWith at hq
      split at hq
      · simp only [Option.bind_eq_some_iff] at hq
        obtain ⟨y, hy, z, hz, hq⟩ := hq
        obtain ⟨n, hn⟩ := Run_to hz
        refine ⟨n, ?_⟩
        simp only [callWith, Option.bind_eq_some_iff]
        exact ⟨y, hy, z, hn, hq⟩
      · simp at hq
    have hins : ∀ i e τ x, insV (Run A) i e τ = some x → ∃ n, insV (runF A n) i e τ = some x := by
      intro i e τ x hi
      cases i with
      | p i => exact ⟨0, hi⟩
      | h i =>
        cases i with
        | call f as => exact hcall _ _ _ _ _ hi
        | callq f as => exact hcall _ _ _ _ _ hi
        | _ => exact ⟨0, hi⟩
    have hstep : ∃ n, stepV (runF A n) o e σ = some z := by
      obtain ⟨dst, g, ins⟩ := o
      cases g with
      | none => exact hins _ _ _ _ hz
      | some p =>
        obtain ⟨t, want⟩ := p
        simp only [stepV] at hz ⊢
        split at hz
        · rename_i b hb
          cases hw : b == want
          · rw [hw] at hz; exact ⟨0, hz⟩
          · rw [hw] at hz; exact hins _ _ _ _ hz
        · exact ⟨0, hz⟩
        · simp at hz
    obtain ⟨n1, h1⟩ := hstep
    refine ⟨max n1 n2, ?_⟩
    simp only [opsV, Option.bind_eq_some_iff, stepI_stepV, Option.map_eq_some_iff]
    exact ⟨y, ⟨z, stepV_mono (runF_mono A (Nat.le_max_left _ _)) h1, hy⟩, opsV_mono (runF_mono A (Nat.le_max_right _ _)) h2⟩

@[simp] theorem then_normal (e : Env) (σ : Heap) (f : Env → Heap → Res) : Ex.then (some (.normal, e, σ)) f = f e σ := rfl
@[simp] theorem then_exit (id : Nat) (e : Env) (σ : Heap) (f : Env → Heap → Res) : Ex.then (some (.exit id, e, σ)) f = some (.exit id, e, σ) := rfl
@[simp] theorem then_ret (e : Env) (σ : Heap) (f : Env → Heap → Res) : Ex.then (some (.ret, e, σ)) f = some (.ret, e, σ) := rfl

theorem Exec_skip (e : Env) (σ : Heap) : Exec A .skip e σ = some (.normal, e, σ) := Exec_of (n := 0) rfl
theorem Exec_exit (id : Nat) (e : Env) (σ : Heap) : Exec A (.exit id) e σ = some (.exit id, e, σ) := Exec_of (n := 0) rfl
theorem Exec_ret (e : Env) (σ : Heap) : Exec A .ret e σ = some (.ret, e, σ) := Exec_of (n := 0) rfl

theorem Exec_ops (l : List I) (e : Env) (σ : Heap) : Exec A (.ops l) e σ = (opsV (Run A) l e σ).map fun r => (.normal, r.1, r.2) := by
  refine opt_ext fun r => ⟨fun h => ?_, fun h => ?_⟩
  · obtain ⟨n, h⟩ := Exec_to h
    simp only [exec, Option.map_eq_some_iff] at h ⊢
    obtain ⟨y, hy, h⟩ := h
    exact ⟨y, opsV_mono (leRun n) hy, h⟩
  · simp only [Option.map_eq_some_iff] at h
    obtain ⟨y, hy, h⟩ := h
    obtain ⟨n, hn⟩ := opsV_to hy
    refine Exec_of (n := n) ?_
    simp only [exec, Option.map_eq_some_iff]
    exact ⟨y, hn, h⟩

theorem Exec_seq (a b : AC) (e : Env) (σ : Heap) : Exec A (.seq a b) e σ = Ex.then (Exec A a e σ) (Exec A b) := by
  refine opt_ext fun r => ⟨fun h => ?_, fun h => ?_⟩
  · obtain ⟨n, h⟩ := Exec_to h
    simp only [exec] at h
    exact then_mono (fun r hr => Exec_of hr) (fun e σ r hr => Exec_of hr) h
  · rcases then_to h with ⟨e1, σ1, h1, h2⟩ | ⟨h1, h2⟩
    · obtain ⟨n1, h1⟩ := Exec_to h1
      obtain ⟨n2, h2⟩ := Exec_to h2
      refine Exec_of (n := max n1 n2) ?_
      simp only [exec]
      rw [exec_mono (runF_mono A (Nat.le_max_left n1 n2)) (Nat.le_max_left n1 n2) a h1]
      exact exec_mono (runF_mono A (Nat.le_max_right n1 n2)) (Nat.le_max_right n1 n2) b h2
    · obtain ⟨n1, h1⟩ := Exec_to h1
      refine Exec_of (n := n1) ?_
      simp only [exec]
      rw [h1]
      exact then_stop h2 _

theorem Exec_cond (c : O) (a b : AC) (e : Env) (σ : Heap) : Exec A (.cond c a b) e σ = match c.ev e with
    | .s (.bool t) => bif t then Exec A a e σ else Exec A b e σ
    | _ => none := by
  refine opt_ext fun r => ⟨fun h => ?_, fun h => ?_⟩
  · obtain ⟨n, h⟩ := Exec_to h
    simp only [exec] at h
    split at h
    · rename_i t ht
      rw [ht]
      cases t
      · exact Exec_of h
      · exact Exec_of h
    · simp at h
  · split at h
    · rename_i t ht
      cases t
      · obtain ⟨n, h⟩ := Exec_to h
        refine Exec_of (n := n) ?_
        simp only [exec, ht]
        exact h
      · obtain ⟨n, h⟩ := Exec_to h
        refine Exec_of (n := n) ?_
        simp only [exec, ht]
        exact h
    · simp at h

def Ex.out (id : Nat) (r : Res) : Res :=
  match r with
  | some (.exit j, e, σ) => bif j == id then some (.normal, e, σ) else some (.exit j, e, σ)
  | r => r

@[simp] theorem out_normal (id : Nat) (e : Env) (σ : Heap) : Ex.out id (some (.normal, e, σ)) = some (.normal, e, σ) := rfl
@[simp] theorem out_ret (id : Nat) (e : Env) (σ : Heap) : Ex.out id (some (.ret, e, σ)) = some (.ret, e, σ) := rfl
@[simp] theorem out_exit (id j : Nat) (e : Env) (σ : Heap) : Ex.out id (some (.exit j, e, σ)) = bif j == id then some (.normal, e, σ) else some (.exit j, e, σ) := rfl

theorem exec_block (r : Runner) (n id : Nat) (b : AC) (e : Env) (σ : Heap) : exec r n (.block id b) e σ = Ex.out id (exec r n b e σ) := rfl

theorem Exec_block (id : Nat) (b : AC) (e : Env) (σ : Heap) : Exec A (.block id b) e σ = Ex.out id (Exec A b e σ) := by
  refine opt_ext fun r => ⟨fun h => ?_, fun h => ?_⟩
  · obtain ⟨n, h⟩ := Exec_to h
    rw [exec_block] at h
    cases hx : exec (runF A n) n b e σ with
    | none => rw [hx] at h; simp [Ex.out] at h
    | some y => rw [Exec_of hx]; rw [hx] at h; exact h
  · cases hx : Exec A b e σ with
    | none => rw [hx] at h; simp [Ex.out] at h
    | some y =>
      obtain ⟨n, hn⟩ := Exec_to hx
      refine Exec_of (n := n) ?_
      rw [exec_block, hn]
      rw [hx] at h
      exact h

theorem Exec_loop (b : AC) (e : Env) (σ : Heap) : Exec A (.loop b) e σ = Ex.then (Exec A b e σ) (Exec A (.loop b)) := by
  refine opt_ext fun r => ⟨fun h => ?_, fun h => ?_⟩
  · obtain ⟨n, h⟩ := Exec_to h
    simp only [exec] at h
    cases n with
    | zero => simp [loopF] at h
    | succ n =>
      simp only [loopF] at h
      refine then_mono (fun r hr => Exec_of hr) (fun e σ r hr => ?_) h
      refine Exec_of (n := n + 1) ?_
      simp only [exec]
      exact loopF_mono (fun _ _ _ h => h) (Nat.le_succ n) hr
  · rcases then_to h with ⟨e1, σ1, h1, h2⟩ | ⟨h1, h2⟩
    · obtain ⟨n1, h1⟩ := Exec_to h1
      obtain ⟨n2, h2⟩ := Exec_to h2
      refine Exec_of (n := max n1 n2 + 1) ?_
      simp only [exec, loopF] at h2 ⊢
      rw [exec_mono (runF_mono A (show n1 ≤ max n1 n2 + 1 by omega)) (show n1 ≤ max n1 n2 + 1 by omega) b h1, then_normal]
      exact loopF_mono (fun e σ r => exec_mono (runF_mono A (show n2 ≤ max n1 n2 + 1 by omega)) (show n2 ≤ max n1 n2 + 1 by omega) b) (Nat.le_max_right n1 n2) h2
    · obtain ⟨n1, h1⟩ := Exec_to h1
      refine Exec_of (n := n1 + 1) ?_
      simp only [exec, loopF]
      rw [exec_mono (runF_mono A (Nat.le_succ n1)) (Nat.le_succ n1) b h1]
      exact then_stop h2 _

theorem Run_fn {f : FuncId} {a : AF} (hp : A.prims f = none) (ha : A.fns f = some a) (as : List V) (σ : Heap) : Run A f as σ = finish a (Exec A a.body (entry a as) σ) := by
  refine opt_ext fun r => ⟨fun h => ?_, fun h => ?_⟩
  · obtain ⟨n, h⟩ := Run_to h
    cases n with
    | zero => simp [runF] at h
    | succ n =>
      simp only [runF, hp, ha] at h
      exact finish_mono (fun r hr => Exec_of hr) h
  · cases hx : Exec A a.body (entry a as) σ with
    | none => rw [hx] at h; simp [finish] at h
    | some y =>
      obtain ⟨n, hn⟩ := Exec_to hx
      refine Run_of (n := n + 1) ?_
      simp only [runF, hp, ha]
      rw [hn]
      rw [hx] at h
      exact h

theorem Run_prim {f : FuncId} {pf : List V → Heap → Option (V × Heap)} (hp : A.prims f = some pf) (as : List V) (σ : Heap) : Run A f as σ = pf as σ := by
  refine opt_ext fun r => ⟨fun h => ?_, fun h => ?_⟩
  · obtain ⟨n, h⟩ := Run_to h
    cases n with
    | zero => simp [runF] at h
    | succ n => simpa only [runF, hp] using h
  · exact Run_of (n := 1) (by simp only [runF, hp]; exact h)

end

/-! ### A list of functions -/

def lookF (f : FuncId) : List (FuncId × AF) → Option AF
  | [] => none
  | (k, a) :: l => bif k == f then some a else lookF f l

def GoodL (P : Program) : List (FuncId × AF) → Prop
  | [] => True
  | (k, a) :: l => (∃ fn, P.funcs[k]? = some fn ∧ compF P fn = some a) ∧ GoodL P l

theorem goodL_look {P : Program} {f : FuncId} {a : AF} : ∀ {l : List (FuncId × AF)}, GoodL P l → lookF f l = some a → ∃ fn, P.funcs[f]? = some fn ∧ compF P fn = some a
  | [], _, h => by simp [lookF] at h
  | (k, b) :: l, hg, h => by
    unfold lookF at h
    cases hk : k == f
    · rw [hk] at h; exact goodL_look hg.2 h
    · rw [hk] at h
      simp only [cond_true, Option.some.injEq] at h
      subst h
      have : k = f := by simpa using hk
      subst this
      exact hg.1

/-! ### A law -/

theorem run_ok {P : Program} {A : AP} (hA : FnsOK P A) (hp : PrimsOK P A) (hm : P.follows .mixedOrders = true) : RunOK P (Run A) := by
  intro f args σ v σ' h
  obtain ⟨n, hn⟩ := Run_to h
  exact runF_ok hA hp hm n f args σ v σ' hn

/-- A law that is true, over blocks that nobody writes. -/
theorem law_calls {P : Program} {A : AP} (hr : RunOK P (Run A)) {f : FuncId} {args : List V} {σ σ' : Heap} (h : Run A f args σ = some (.s (.bool true), σ')) {ι : Inj} {W : World} {as : List Value} (hR : RelW ι σ W) (hD : Dom ι σ) (hv : VRL ι args as) (hro : ∀ b, ¬ mutb σ b) :
    Calls P f as.toArray W fun e W' => e = .returned (.bool true) ∧ Go.RowKit.Below W.heap.size W W' := by
  obtain ⟨_, hcalls⟩ := hr f args σ _ σ' h
  refine (hcalls ι W as hR hD hv).mono ?_
  rintro e W' ⟨ι', v', rfl, hv', hp⟩
  simp only [VR, S.val] at hv'
  subst hv'
  exact ⟨rfl, hp.same.os, hp.same.tape, hp.same.output, hp.same.size, fun k hk => hp.frame k hk (fun b p _ hm => absurd hm (hro b))⟩

end Go.Am
