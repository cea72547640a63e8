/- The abstract machine's runs, and the model's calls. -/
import Derived.Test.YtjldefmcnppdoaaAmIniB
import Derived.LoopN
namespace Go.Am
open Go

def Ex.to : Ex → Exit
  | .normal => .normal
  | .exit id => .exit id
  | .ret => .ret

theorem exec_sound {P : Program} {run : Runner} (hrun : RunOK P run) (hm : P.follows .mixedOrders = true) : ∀ (c : Code) (ac : AC), compC P c = some ac → ∀ (n : Nat) (ι : Inj) (σ : Heap) (W : World) (e : Env) (a : Act) (ex : Ex) (e' : Env) (σ' : Heap),
    EnvR ι e a.tmps → RelW ι σ W → Dom ι σ → exec run n ac e σ = some (ex, e', σ') → ∀ Q : Exit → Act → World → Prop,
    (∀ a' W' ι', EnvR ι' e' a'.tmps → Post ι σ W ι' σ' W' → a'.defers = a.defers → Q ex.to a' W') → c.wp P Q a W := by
  intro c
  induction c with
  | skip =>
    intro ac hc n ι σ W e a ex e' σ' hE hR hD hx Q hQ
    simp only [compC, Option.some.injEq] at hc
    subst hc
    simp only [exec, Option.some.injEq, Prod.mk.injEq] at hx
    obtain ⟨rfl, rfl, rfl⟩ := hx
    exact wp_skip (hQ a W ι hE (QPost.refl hR).post rfl)
  | region id ops d =>
    intro ac hc n ι σ W e a ex e' σ' hE hR hD hx Q hQ
    cases d with
    | false =>
      simp only [compC, Option.map_eq_some_iff] at hc
      obtain ⟨is, hc, rfl⟩ := hc
      simp only [exec, Option.map_eq_some_iff] at hx
      obtain ⟨⟨e1, σ1⟩, ho, hx⟩ := hx
      simp only [Prod.mk.injEq] at hx
      obtain ⟨rfl, rfl, rfl⟩ := hx
      exact wp_region_list (seq_sound hrun hc hE hR hD ho hQ)
    | true =>
      simp only [compC] at hc
      split at hc
      · rename_i is hcp
        split at hc
        · rename_i hok
          simp only [Bool.and_eq_true] at hok
          injection hc with hc
          subst hc
          simp only [exec, Option.map_eq_some_iff] at hx
          obtain ⟨⟨e1, σ1⟩, ho, hx⟩ := hx
          simp only [Prod.mk.injEq] at hx
          obtain ⟨rfl, rfl, rfl⟩ := hx
          exact par_sound hrun hm hcp hok.1 hok.2 hE hR hD ho id hQ
        · split at hc
          · rename_i hok
            simp only [Bool.and_eq_true] at hok
            injection hc with hc
            subst hc
            simp only [exec, Option.map_eq_some_iff] at hx
            obtain ⟨⟨e1, σ1⟩, ho, hx⟩ := hx
            simp only [Prod.mk.injEq] at hx
            obtain ⟨rfl, rfl, rfl⟩ := hx
            exact par_ini hrun hm hcp hok.1 hok.2 hE hR hD ho id hQ
          · simp at hc
      · simp at hc
  | seq x y ihx ihy =>
    intro ac hc n ι σ W e a ex e' σ' hE hR hD hx Q hQ
    simp only [compC] at hc
    split at hc
    · rename_i x' y' h1 h2
      injection hc with hc
      subst hc
      simp only [exec] at hx
      unfold Ex.then at hx
      split at hx
      · rename_i e1 σ1 hx1
        refine wp_seq (ihx x' h1 n ι σ W e a .normal e1 σ1 hE hR hD hx1 _ (fun a1 W1 ι1 hE1 hp1 hd1 => ?_))
        exact ihy y' h2 n ι1 σ1 W1 e1 a1 ex e' σ' hE1 hp1.rel (hp1.dom hD) hx Q (fun a2 W2 ι2 hE2 hp2 hd2 => hQ a2 W2 ι2 hE2 (hp1.trans hD hp2) (hd2.trans hd1))
      · rename_i hne
        refine wp_seq (ihx x' h1 n ι σ W e a ex e' σ' hE hR hD hx _ (fun a1 W1 ι1 hE1 hp1 hd1 => ?_))
        have := hQ a1 W1 ι1 hE1 hp1 hd1
        cases ex with
        | normal => exact absurd hx (hne e' σ')
        | exit j => exact this
        | ret => exact this
    · simp at hc
  | cond cd x y ihx ihy =>
    intro ac hc n ι σ W e a ex e' σ' hE hR hD hx Q hQ
    simp only [compC] at hc
    split at hc
    · rename_i c' x' y' h0 h1 h2
      injection hc with hc
      subst hc
      simp only [exec] at hx
      have r := opd_R h0 hE
      split at hx
      · rename_i t ht
        rw [ht] at r
        simp only [VR, S.val] at r
        refine wp_cond r ?_
        cases t
        · exact ihy y' h2 n ι σ W e a ex e' σ' hE hR hD hx Q hQ
        · exact ihx x' h1 n ι σ W e a ex e' σ' hE hR hD hx Q hQ
      · simp at hx
    · simp at hc
  | block id b ih =>
    intro ac hc n ι σ W e a ex e' σ' hE hR hD hx Q hQ
    simp only [compC, Option.map_eq_some_iff] at hc
    obtain ⟨b', hb, rfl⟩ := hc
    simp only [exec] at hx
    refine wp_block ?_
    split at hx
    · rename_i j e1 σ1 hx1
      cases hj : j == id
      · rw [hj] at hx
        simp only [cond_false, Option.some.injEq, Prod.mk.injEq] at hx
        obtain ⟨rfl, rfl, rfl⟩ := hx
        refine ih b' hb n ι σ W e a _ _ _ hE hR hD hx1 _ (fun a1 W1 ι1 hE1 hp1 hd1 => ?_)
        have hji : ¬ j = id := by simpa using hj
        simp only [Ex.to, Exit.inBlock, hji, if_false]
        exact hQ a1 W1 ι1 hE1 hp1 hd1
      · rw [hj] at hx
        simp only [cond_true, Option.some.injEq, Prod.mk.injEq] at hx
        obtain ⟨rfl, rfl, rfl⟩ := hx
        refine ih b' hb n ι σ W e a _ _ _ hE hR hD hx1 _ (fun a1 W1 ι1 hE1 hp1 hd1 => ?_)
        have hji : j = id := by simpa using hj
        simp only [Ex.to, Exit.inBlock, hji, if_true]
        exact hQ a1 W1 ι1 hE1 hp1 hd1
    · rename_i hne
      refine ih b' hb n ι σ W e a ex e' σ' hE hR hD hx _ (fun a1 W1 ι1 hE1 hp1 hd1 => ?_)
      have := hQ a1 W1 ι1 hE1 hp1 hd1
      cases ex with
      | normal => exact this
      | exit j => exact absurd hx (hne j e' σ')
      | ret => exact this
  | loop b ih =>
    intro ac hc n ι σ W e a ex e' σ' hE hR hD hx Q hQ
    simp only [compC, Option.map_eq_some_iff] at hc
    obtain ⟨b', hb, rfl⟩ := hc
    simp only [exec] at hx
    refine wp_loop_rounds n ?_
    have key : ∀ (k : Nat) (ι : Inj) (σ : Heap) (W : World) (e : Env) (a : Act), EnvR ι e a.tmps → RelW ι σ W → Dom ι σ → loopF (exec run n b') k e σ = some (ex, e', σ') →
        (∀ a' W' ι', EnvR ι' e' a'.tmps → Post ι σ W ι' σ' W' → a'.defers = a.defers → Q ex.to a' W') → Code.rounds P b Q k a W := by
      intro k
      induction k with
      | zero => intro ι σ W e a hE hR hD hx hQ; simp [loopF] at hx
      | succ k ihk =>
        intro ι σ W e a hE hR hD hx hQ
        rw [rounds_succ]
        simp only [loopF] at hx
        unfold Ex.then at hx
        split at hx
        · rename_i e1 σ1 hx1
          refine ih b' hb n ι σ W e a .normal e1 σ1 hE hR hD hx1 _ (fun a1 W1 ι1 hE1 hp1 hd1 => ?_)
          exact ihk ι1 σ1 W1 e1 a1 hE1 hp1.rel (hp1.dom hD) hx (fun a2 W2 ι2 hE2 hp2 hd2 => hQ a2 W2 ι2 hE2 (hp1.trans hD hp2) (hd2.trans hd1))
        · rename_i hne
          refine ih b' hb n ι σ W e a ex e' σ' hE hR hD hx _ (fun a1 W1 ι1 hE1 hp1 hd1 => ?_)
          have := hQ a1 W1 ι1 hE1 hp1 hd1
          cases ex with
          | normal => exact absurd hx (hne e' σ')
          | exit j => exact this
          | ret => exact this
    exact key n ι σ W e a hE hR hD hx hQ
  | exit id =>
    intro ac hc n ι σ W e a ex e' σ' hE hR hD hx Q hQ
    simp only [compC, Option.some.injEq] at hc
    subst hc
    simp only [exec, Option.some.injEq, Prod.mk.injEq] at hx
    obtain ⟨rfl, rfl, rfl⟩ := hx
    exact wp_exit (hQ a W ι hE (QPost.refl hR).post rfl)
  | ret =>
    intro ac hc n ι σ W e a ex e' σ' hE hR hD hx Q hQ
    simp only [compC, Option.some.injEq] at hc
    subst hc
    simp only [exec, Option.some.injEq, Prod.mk.injEq] at hx
    obtain ⟨rfl, rfl, rfl⟩ := hx
    exact wp_ret (hQ a W ι hE (QPost.refl hR).post rfl)
  | _ => intro ac hc; simp [compC] at hc

/-! ### Results -/

def oneRes (tmps : Array Value) : ResultVar → Sem Value
  | .tmp t => Pure.pure (tmps.getD t Go.undef)
  | .cell a t => do loadVar t (← asAddr (tmps.getD a Go.undef))

theorem results_eq (fn : Func) (tmps : Array Value) : results fn tmps = (do
    let vs ← fn.results.mapM (oneRes tmps)
    Pure.pure (if h : vs.size = 1 then vs[0] else .tuple vs)) := by
  unfold results
  congr

theorem res_sound {P : Program} {ι : Inj} {σ : Heap} {W : World} {e : Env} {a : Act} (hE : EnvR ι e a.tmps) (hR : RelW ι σ W) : ∀ {l : List ResultVar} {rs : List Rv} {xs : List V}, compR P l = some rs → resL e σ rs = some xs →
    ∃ vs : List Value, VRL ι xs vs ∧ (l.mapM (oneRes a.tmps)).run P W = .ok vs W
  | [], rs, xs, hc, hx => by
    simp only [compR, Option.some.injEq] at hc
    subst hc
    simp only [resL, Option.some.injEq] at hx
    subst hx
    exact ⟨[], rfl, rfl⟩
  | .tmp t :: l, rs, xs, hc, hx => by
    simp only [compR, Option.map_eq_some_iff] at hc
    obtain ⟨r, hr, rfl⟩ := hc
    simp only [resL, resV] at hx
    split at hx
    · rename_i x y h1 h2
      injection hx with hx
      subst hx
      injection h1 with h1
      subst h1
      obtain ⟨vs, hv, hrun⟩ := res_sound hE hR hr h2
      refine ⟨a.tmps.getD t Go.undef :: vs, ⟨_, _, rfl, hE.get t, hv⟩, ?_⟩
      simp only [List.mapM_cons, Sem.run_bind, oneRes, Sem.run_pure, Result.andThen_ok, hrun]
    · simp at hx
  | .cell x t :: l, rs, xs, hc, hx => by
    simp only [compR] at hc
    split at hc
    · rename_i g n r h1 h2 h3
      split at hc
      · rename_i hg
        injection hc with hc
        subst hc
        simp only [resL, resV] at hx
        split at hx
        · rename_i y ys h4 h5
          injection hx with hx
          subst hx
          have rx := hE.get x
          split at h4
          · rename_i b off z hb
            rw [hb] at rx
            simp only [VR] at rx
            obtain ⟨p, hp, hl, rx⟩ := rx
            split at h4
            · rename_i hle
              obtain ⟨v, hv, hload⟩ := run_loadVar h1 h2 hg hR hp (o := off) (by omega) h4
              obtain ⟨vs, hvs, hrun⟩ := res_sound hE hR h3 h5
              refine ⟨v :: vs, ⟨_, _, rfl, hv, hvs⟩, ?_⟩
              have hone : (oneRes a.tmps (.cell x t)).run P W = .ok v W := by simp only [oneRes, rx, asAddr, Sem.run_bind, Sem.run_pure, Result.andThen_ok, hload]
              simp only [List.mapM_cons, Sem.run_bind, hone, Sem.run_pure, Result.andThen_ok, hrun]
            · simp at h4
          · simp at h4
        · simp at hx
      · simp at hc
    · simp at hc

theorem results_sound {P : Program} {ι : Inj} {σ : Heap} {W : World} {e : Env} {a : Act} (hE : EnvR ι e a.tmps) (hR : RelW ι σ W) {fn : Func} {rs : List Rv} {x : V} (hc : compR P fn.results.toList = some rs) (hx : resOf e σ rs = some x) :
    ∃ v, VR ι x v ∧ (results fn a.tmps).run P W = .ok v W := by
  unfold resOf at hx
  have main : ∀ xs, resL e σ rs = some xs → ∃ vs : List Value, VRL ι xs vs ∧ (results fn a.tmps).run P W = .ok (if h : vs.toArray.size = 1 then vs.toArray[0] else .tuple vs.toArray) W := by
    intro xs h
    obtain ⟨vs, h1, h2⟩ := res_sound hE hR hc h
    refine ⟨vs, h1, ?_⟩
    rw [results_eq, Array.mapM_eq_mapM_toList]
    simp only [Sem.run_bind, Sem.run_map, h2, Result.andThen_ok, Sem.run_pure]
  split at hx
  · rename_i y h
    injection hx with hx
    subst hx
    obtain ⟨vs, h1, h2⟩ := main _ h
    simp only [VRL] at h1
    obtain ⟨v, r, rfl, hv, hr⟩ := h1
    subst hr
    exact ⟨v, hv, by simpa using h2⟩
  · rename_i l hne h
    injection hx with hx
    subst hx
    obtain ⟨vs, h1, h2⟩ := main _ h
    have hl := VRL.length h1
    refine ⟨.tuple vs.toArray, ⟨vs, rfl, h1⟩, ?_⟩
    rw [h2, dif_neg]
    simp only [List.size_toArray]
    intro h1'
    rw [h1'] at hl
    match l, hl, hne with
    | [y], _, hne => exact hne y rfl
  · simp at hx

/-! ### Calls -/

/-- The machine's functions are the program's. -/
def FnsOK (P : Program) (A : AP) : Prop := ∀ f a, A.fns f = some a → ∃ fn, P.funcs[f]? = some fn ∧ compF P fn = some a

/-- What is told of functions that are not run. -/
def PrimsOK (P : Program) (A : AP) : Prop := ∀ f pf, A.prims f = some pf → ∀ (args : List V) (σ : Heap) (v : V) (σ' : Heap), pf args σ = some (v, σ') →
  (∃ fn, P.funcs[f]? = some fn ∧ fn.body.isSome = true ∧ fn.name ≠ "runtime.NumGoroutine") ∧
  ∀ (ι : Inj) (W : World) (as : List Value), RelW ι σ W → Dom ι σ → VRL ι args as →
    Calls P f as.toArray W fun e W' => ∃ ι' v', e = .returned v' ∧ VR ι' v v' ∧ Post ι σ W ι' σ' W'

theorem VRL.undefs {ι : Inj} : ∀ n, VRL ι (List.replicate n .undef) (List.replicate n Go.undef)
  | 0 => rfl
  | n + 1 => ⟨_, _, rfl, trivial, VRL.undefs n⟩

theorem runF_ok {P : Program} {A : AP} (hA : FnsOK P A) (hp : PrimsOK P A) (hm : P.follows .mixedOrders = true) : ∀ n, RunOK P (runF A n)
  | 0 => fun f args σ v σ' h => by simp [runF] at h
  | n + 1 => by
    intro f args σ v σ' h
    simp only [runF] at h
    split at h
    · rename_i pf hpf
      exact hp f pf hpf args σ v σ' h
    · split at h
      · rename_i a ha
        obtain ⟨fn, hfn, hcf⟩ := hA f a ha
        unfold compF at hcf
        split at hcf
        · rename_i c hbody
          split at hcf
          · rename_i b r hb hr
            split at hcf
            · simp at hcf
            · rename_i hname
              injection hcf with hcf
              subst hcf
              refine ⟨⟨fn, hfn, by rw [hbody]; rfl, hname⟩, fun ι W as hR hD hv => ?_⟩
              have hlen := VRL.length hv
              have hE : EnvR ι (entry ⟨fn.ntmps, r, b⟩ args) (as.toArray ++ Array.replicate (fn.ntmps - as.toArray.size) Go.undef) := by
                unfold EnvR entry
                rw [Array.toList_append, Array.toList_replicate]
                simp only [List.size_toArray, hlen]
                exact VRL.append hv (VRL.undefs _)
              unfold finish at h
              split at h
              · simp at h
              · rename_i ex e' σ1 hne hx
                simp only [Option.map_eq_some_iff] at h
                obtain ⟨y, hy, h⟩ := h
                injection h with h1 h2
                subst h1; subst h2
                refine calls_of_wp hfn hbody (exec_sound (runF_ok hA hp hm n) hm c b hb n ι σ W _ ⟨_, []⟩ ex e' σ1 hE hR hD hx _ (fun a' W' ι' hE' hp' hd' => ?_))
                obtain ⟨rv, hrv, hres⟩ := results_sound hE' hp'.rel hr hy
                have hfin : a'.defers = [] ∧ ∃ v, (results fn a'.tmps).run P W' = .ok v W' ∧ ∃ ι' v', Ending.returned v = .returned v' ∧ VR ι' y v' ∧ Post ι σ W ι' σ1 W' := ⟨hd', rv, hres, ι', rv, rfl, hrv, hp'⟩
                cases ex with
                | normal => exact hfin
                | exit j => exact (hne j rfl).elim
                | ret => exact hfin
              · simp at h
          · simp at hcf
        · simp at hcf
      · simp at h

end Go.Am
