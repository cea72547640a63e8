/- One operation of the machine's, whatever its kind, and the model's; operations in a row. -/
import Derived.Test.YtjldefmcnppdoaaAmCallB
import Derived.Orders
namespace Go.Am
open Go

theorem compH_cases {P : Program} {run : Runner} {q : Bool} {op : Op} {i : HIns} (h : compH P q op = some i) :
    (QuietOK P run op i ∧ i.kd = .quiet) ∨ (EffOK P run op i ∧ i.kd = .eff) ∨
    (∃ c fo f as, op = .call c ∧ c.callee = .value fo ∧ opd fo = some f ∧ opds c.args.toList = some as ∧ i = bif q then .callq f as else .call f as) := by
  cases op with
  | alloc t =>
    simp only [compH, Option.map_eq_some_iff] at h
    obtain ⟨z, hz, rfl⟩ := h
    exact .inl ⟨quiet_alloc hz, rfl⟩
  | box t x =>
    simp only [compH, Option.map_eq_some_iff] at h
    obtain ⟨z, hz, rfl⟩ := h
    exact .inl ⟨quiet_box hz, rfl⟩
  | buildSlice t len parts =>
    simp only [compH] at h
    split at h
    · rename_i e hu
      split at h
      · rename_i n z ps h1 h2 h3
        split at h
        · rename_i hn
          injection h with h
          subst h
          exact .inl ⟨quiet_mksl hu h1 h2 h3 hn, rfl⟩
        · simp at h
      · simp at h
    · simp at h
  | load t a =>
    simp only [compH] at h
    split at h
    · rename_i g n h1 h2
      split at h
      · rename_i hg
        simp only [Option.map_eq_some_iff] at h
        obtain ⟨z, hz, rfl⟩ := h
        exact .inl ⟨quiet_load h1 h2 hg hz, rfl⟩
      · simp at h
    · simp at h
  | store t a x =>
    simp only [compH] at h
    split at h
    · rename_i h1 h2 h3
      injection h with h
      subst h
      exact .inr (.inl ⟨eff_store h1 h2 h3, rfl⟩)
    · simp at h
  | convert s d x =>
    simp only [compH] at h
    split at h
    · rename_i e h1 h2
      split at h
      · rename_i h3
        simp only [Option.map_eq_some_iff] at h
        obtain ⟨z, hz, rfl⟩ := h
        exact .inl ⟨quiet_b2s h1 h2 h3 hz, rfl⟩
      · simp at h
    · simp at h
  | makeSlice t l c =>
    simp only [compH] at h
    split at h
    · rename_i e hu
      split at h
      · rename_i n b z l' c' h1 h2 h3 h4 h5
        split at h
        · simp at h
        · rename_i hn
          injection h with h
          subst h
          exact .inl ⟨quiet_mkslice hu h1 h2 h3 h4 h5 hn, rfl⟩
      · simp at h
    · simp at h
  | makeMap t r =>
    cases r with
    | none =>
      simp only [compH, Option.some.injEq] at h
      subst h
      exact .inl ⟨quiet_mkmap, rfl⟩
    | some r => simp [compH] at h
  | insert t m k v =>
    simp only [compH] at h
    split at h
    · rename_i kt et hu
      split at h
      · rename_i hk
        split at h
        · rename_i h1 h2 h3
          injection h with h
          subst h
          exact .inr (.inl ⟨eff_mput (.inl rfl) hu hk h1 h2 h3, rfl⟩)
        · simp at h
      · simp at h
    · simp at h
  | mapUpdate t m k v =>
    simp only [compH] at h
    split at h
    · rename_i kt et hu
      split at h
      · rename_i hk
        split at h
        · rename_i h1 h2 h3
          injection h with h
          subst h
          exact .inr (.inl ⟨eff_mput (.inr rfl) hu hk h1 h2 h3, rfl⟩)
        · simp at h
      · simp at h
    · simp at h
  | lookup t m k ok =>
    simp only [compH] at h
    split at h
    · rename_i kt et hu
      split at h
      · rename_i hk
        split at h
        · rename_i h1 h2 h3
          injection h with h
          subst h
          exact .inl ⟨quiet_mget hu hk h1 h2 h3, rfl⟩
        · simp at h
      · simp at h
    · simp at h
  | call c =>
    simp only [compH] at h
    split at h
    · rename_i fo hc
      split at h
      · rename_i f as h1 h2
        injection h with h
        subst h
        exact .inr (.inr ⟨c, fo, f, as, rfl, hc, h1, h2, rfl⟩)
      · simp at h
    · rename_i hc
      split at h
      · rename_i t u s x h1 h2 h3
        split at h
        · rename_i e e' hu hu'
          split at h
          · rename_i n b s' x' h4 h5 h6 h7
            split at h
            · simp at h
            · rename_i hn
              injection h with h
              subst h
              have hat : c.argTypes = #[t, t] := Classical.byContradiction fun hq => hn (.inr (.inr (.inl hq)))
              have hz : (zeroT P e).map Z.size = some n := Classical.byContradiction fun hq => hn (.inr (.inr (.inr hq)))
              have hb0 : b ≠ 0 := fun hq => hn (.inr (.inl hq))
              cases hzt : zeroT P e with
              | none => rw [hzt] at hz; simp at hz
              | some z =>
                rw [hzt] at hz
                simp at hz
                exact .inr (.inl ⟨eff_append hc hat h3 hu h4 h5 hzt hz hb0 h6 h7, rfl⟩)
          · simp at h
        · simp at h
      · simp at h
    · simp at h
  | _ => simp [compH] at h

/-- An operation that may write, in whatever way it is carried out. -/
theorem ins_eff {P : Program} {run : Runner} (hrun : RunOK P run) {o : Oper} {i : Ins} (hc : compIns P false o.op = some i) {ι : Inj} {σ : Heap} {W : World} {e : Env} {a : Act} {x : V} {σ' : Heap}
    (hE : EnvR ι e a.tmps) (hR : RelW ι σ W) (hD : Dom ι σ) (hv : insV run i e σ = some (x, σ')) {K : Act → World → Prop} {Q : Exit → Act → World → Prop}
    (hK : ∀ v W' ι', VR ι' x v → Post ι σ W ι' σ' W' → K (a.put o.dst v) W') : o.wp P a W K Q := by
  unfold compIns at hc
  split at hc
  · rename_i p hp
    injection hc with hc
    subst hc
    simp only [insV, Option.map_eq_some_iff] at hv
    obtain ⟨y, hy, hv⟩ := hv
    injection hv with h1 h2
    subst h1; subst h2
    obtain ⟨v, hr, hx⟩ := compP_sound hp ι e a y o rfl hE hy
    unfold Oper.wp
    rw [hx W]
    exact hK v W ι hr (QPost.refl hR).post
  · simp only [Option.map_eq_some_iff] at hc
    obtain ⟨h, hh, rfl⟩ := hc
    simp only [insV] at hv
    rcases compH_cases (run := run) hh with ⟨hq, _⟩ | ⟨hq, _⟩ | ⟨c, fo, f, as, hop, hcal, hf, has, rfl⟩
    · obtain ⟨v, W', ι', hr, hp, hx⟩ := hq ι σ W e a x σ' o rfl hE hR hv (fun b hb _ => by
        cases hn : ι b with
        | none => rfl
        | some p => have := hD b p hn; omega)
      unfold Oper.wp
      rw [hx]
      exact hK v W' ι' hr hp.post
    · obtain ⟨r, W', ι', hp, hx, hr⟩ := hq ι σ W e a x σ' o rfl hE hR hD hv
      unfold Oper.wp
      rw [hx]
      rcases hr with ⟨rfl, rfl⟩ | ⟨v, rfl, hr⟩
      · exact hK Go.undef W' ι' trivial hp
      · exact hK v W' ι' hr hp
    · simp only [cond_false, heapV] at hv
      have rf := opd_R hf hE
      have ra := opds_R hE has
      obtain ⟨fid, cs, hfv, hcallee, hcalls⟩ := callWith_sound hrun hv hR (fun _ => hD) (fun h => by simp at h) rf ra
      unfold Oper.wp
      rw [run_callF hop hcal hfv hcallee W]
      refine hcalls.mono ?_
      rintro en W' ⟨ι', v', rfl, hr, hp, _⟩
      exact hK v' W' ι' hr (hp rfl)

/-- An operation that writes nothing old. -/
theorem ins_quiet {P : Program} {run : Runner} (hrun : RunOK P run) {o : Oper} {q : Bool} {i : Ins} (hc : compIns P q o.op = some i) (hk : i.kd ≠ .eff) {ι : Inj} {σ : Heap} {W : World} {e : Env} {a : Act} {x : V} {σ' : Heap}
    (hE : EnvR ι e a.tmps) (hR : RelW ι σ W) (hv : insV run i e σ = some (x, σ')) (hnone : ∀ b, σ.length ≤ b → b < σ'.length → ι b = none) {K : Act → World → Prop} {Q : Exit → Act → World → Prop}
    (hK : ∀ v W' ι', VR ι' x v → QPost ι σ W ι' σ' W' → K (a.put o.dst v) W') : o.wp P a W K Q := by
  unfold compIns at hc
  split at hc
  · rename_i p hp
    injection hc with hc
    subst hc
    simp only [insV, Option.map_eq_some_iff] at hv
    obtain ⟨y, hy, hv⟩ := hv
    injection hv with h1 h2
    subst h1; subst h2
    obtain ⟨v, hr, hx⟩ := compP_sound hp ι e a y o rfl hE hy
    unfold Oper.wp
    rw [hx W]
    exact hK v W ι hr (QPost.refl hR)
  · simp only [Option.map_eq_some_iff] at hc
    obtain ⟨h, hh, rfl⟩ := hc
    simp only [insV] at hv
    simp only [Ins.kd] at hk
    rcases compH_cases (run := run) hh with ⟨hq, _⟩ | ⟨_, hq⟩ | ⟨c, fo, f, as, hop, hcal, hf, has, rfl⟩
    · obtain ⟨v, W', ι', hr, hp, hx⟩ := hq ι σ W e a x σ' o rfl hE hR hv hnone
      unfold Oper.wp
      rw [hx]
      exact hK v W' ι' hr hp
    · exact absurd hq hk
    · cases q
      · simp [HIns.kd] at hk
      · simp only [cond_true, heapV] at hv
        have rf := opd_R hf hE
        have ra := opds_R hE has
        obtain ⟨fid, cs, hfv, hcallee, hcalls⟩ := callWith_sound hrun hv hR (fun h => by simp at h) (fun _ => hnone) rf ra
        unfold Oper.wp
        rw [run_callF hop hcal hfv hcallee W]
        refine hcalls.mono ?_
        rintro en W' ⟨ι', v', rfl, hr, _, hp⟩
        exact hK v' W' ι' hr (hp rfl)

/-! ### Guards -/

theorem EnvR.bool {ι : Inj} {e : Env} {tmps : Array Value} (h : EnvR ι e tmps) {t : Nat} {b : Bool} (ht : e.getD t .undef = .s (.bool b)) : tmps[t]? = some (.bool b) := by
  have := h.get t
  rw [ht] at this
  simp only [VR, S.val] at this
  cases hx : tmps[t]? with
  | none => simp [Go.undef, hx] at this
  | some v => simp [hx] at this; rw [this]

theorem guard_sound {ι : Inj} {e : Env} {a : Act} (hE : EnvR ι e a.tmps) {ops : Array Oper} {o : Oper} {g : Option (Nat × Bool)} (hg : compG ops.toList o.guard = some g) :
    (g = none → Region.wanted o (yielded ops a.tmps) = true) ∧ (∀ t want, g = some (t, want) → ∀ b, e.getD t .undef = .s (.bool b) → Region.wanted o (yielded ops a.tmps) = (b == want)) := by
  unfold compG at hg
  split at hg
  · rename_i hn
    injection hg with hg
    subst hg
    exact ⟨fun _ => by simp [Region.wanted, hn], fun t want h => by simp at h⟩
  · rename_i j want hj
    split at hg
    · rename_i oj hoj
      simp only [Option.map_eq_some_iff] at hg
      obtain ⟨d, hd, rfl⟩ := hg
      refine ⟨fun h => by simp at h, fun t want' h b hb => ?_⟩
      simp only [Option.some.injEq, Prod.mk.injEq] at h
      obtain ⟨rfl, rfl⟩ := h
      have ht := hE.bool hb
      have hoj' : ops[j]? = some oj := by simpa using hoj
      simp only [Region.wanted, hj, yielded, hoj', Option.bind_some, hd, ht]
      rfl
    · simp at hg

theorem vr_skip (ι : Inj) : VR ι (.tup []) Go.undef := by
  simp only [VR]
  exact ⟨[], rfl, rfl⟩

theorem guard_skip {ι : Inj} {e : Env} {a : Act} (hE : EnvR ι e a.tmps) {ops : Array Oper} {o : Oper} {g : Option (Nat × Bool)} (hg : compG ops.toList o.guard = some g) {t : Nat} {want : Bool} (h : g = some (t, want)) (hb : e.getD t .undef = .tup []) : Region.wanted o (yielded ops a.tmps) = false := by
  unfold compG at hg
  split at hg
  · injection hg with hg
    subst hg
    cases h
  · rename_i j want' hj
    split at hg
    · rename_i oj hoj
      simp only [Option.map_eq_some_iff] at hg
      obtain ⟨d, hd, rfl⟩ := hg
      simp only [Option.some.injEq, Prod.mk.injEq] at h
      obtain ⟨rfl, rfl⟩ := h
      have ht := hE.get d
      rw [hb] at ht
      simp only [VR] at ht
      obtain ⟨cs, hcs, hl⟩ := ht
      simp only [VRL] at hl
      subst hl
      have hoj' : ops[j]? = some oj := by simpa using hoj
      have hy : yielded ops a.tmps j = none := by
        simp only [yielded, hoj', Option.bind_some, hd]
        cases hq : a.tmps[d]? with
        | none => rfl
        | some v =>
          have : v = .tuple #[] := by simpa [hq] using hcs
          subst this
          rfl
      simp only [Region.wanted, hj, hy]
      cases want' <;> rfl
    · simp at hg

theorem compI_parts {P : Program} {ops : List Oper} {q : Bool} {o : Oper} {i : I} (h : compI P ops q o = some i) : i.dst = o.dst ∧ compG ops o.guard = some i.g ∧ compIns P q o.op = some i.ins := by
  unfold compI at h
  split at h
  · rename_i g j h1 h2
    injection h with h
    subst h
    exact ⟨rfl, h1, h2⟩
  · simp at h

theorem put_defers (a : Act) (d : Option Tmp) (v : Value) : (a.put d v).defers = a.defers := by cases d <;> rfl

/-- One operation with its guard, that may write. -/
theorem step_eff {P : Program} {run : Runner} (hrun : RunOK P run) {ops : Array Oper} {o : Oper} {i : I} (hc : compI P ops.toList false o = some i) {ι : Inj} {σ : Heap} {W : World} {e e' : Env} {a : Act} {σ' : Heap}
    (hE : EnvR ι e a.tmps) (hR : RelW ι σ W) (hD : Dom ι σ) (hv : stepI run i e σ = some (e', σ')) {K : Act → World → Prop} {Q : Exit → Act → World → Prop}
    (hK : ∀ a' W' ι', EnvR ι' e' a'.tmps → Post ι σ W ι' σ' W' → a'.defers = a.defers → K a' W') : (if Region.wanted o (yielded ops a.tmps) then o.wp P a W K Q else K (a.put o.dst Go.undef) W) := by
  obtain ⟨hd, hg, hi⟩ := compI_parts hc
  have hw := guard_sound hE hg
  have main : ∀ x σ1, insV run i.ins e σ = some (x, σ1) → e' = putT e i.dst x → σ' = σ1 → o.wp P a W K Q := by
    intro x σ1 hx he hs
    subst he; subst hs
    refine ins_eff hrun hi hE hR hD hx (fun v W' ι' hr hp => hK _ W' ι' ?_ hp (put_defers _ _ _))
    rw [hd]
    exact EnvR.put (hE.ext hp.ext) o.dst hr
  unfold stepI at hv
  split at hv
  · rename_i hgn
    rw [if_pos (hw.1 hgn)]
    simp only [Option.map_eq_some_iff] at hv
    obtain ⟨⟨x, σ1⟩, hx, hv⟩ := hv
    injection hv with h1 h2
    exact main x σ1 hx h1.symm h2.symm
  · rename_i t want hgs
    split at hv
    · rename_i b hb
      rw [hw.2 t want hgs b hb]
      cases hbw : b == want
      · rw [hbw] at hv
        simp only [cond_false, Option.some.injEq, Prod.mk.injEq] at hv
        obtain ⟨rfl, rfl⟩ := hv
        simp only [Bool.false_eq_true, if_false]
        refine hK _ W ι ?_ (QPost.refl hR).post (put_defers _ _ _)
        rw [hd]
        exact EnvR.put hE o.dst (vr_skip ι)
      · rw [hbw] at hv
        simp only [cond_true, Option.map_eq_some_iff] at hv
        obtain ⟨⟨x, σ1⟩, hx, hv⟩ := hv
        injection hv with h1 h2
        simp only [if_true]
        exact main x σ1 hx h1.symm h2.symm
    · rename_i hb
      rw [guard_skip hE hg hgs hb]
      simp only [Option.some.injEq, Prod.mk.injEq] at hv
      obtain ⟨rfl, rfl⟩ := hv
      simp only [Bool.false_eq_true, if_false]
      refine hK _ W ι ?_ (QPost.refl hR).post (put_defers _ _ _)
      rw [hd]
      exact EnvR.put hE o.dst (vr_skip ι)
    · simp at hv

/-- Operations in a row, in the text's order. -/
theorem seq_sound {P : Program} {run : Runner} (hrun : RunOK P run) {ops : Array Oper} {Q : Exit → Act → World → Prop} : ∀ {l : List Oper} {is : List I} {ι : Inj} {σ : Heap} {W : World} {e e' : Env} {a : Act} {σ' : Heap},
    compL P ops.toList l = some is → EnvR ι e a.tmps → RelW ι σ W → Dom ι σ → opsV run is e σ = some (e', σ') →
    (∀ a' W' ι', EnvR ι' e' a'.tmps → Post ι σ W ι' σ' W' → a'.defers = a.defers → Q .normal a' W') → wpList P ops Q l a W
  | [], is, ι, σ, W, e, e', a, σ', hc, hE, hR, hD, hv, hQ => by
    simp [compL] at hc
    subst hc
    simp only [opsV, Option.some.injEq, Prod.mk.injEq] at hv
    obtain ⟨rfl, rfl⟩ := hv
    exact hQ a W ι hE (QPost.refl hR).post rfl
  | o :: l, is, ι, σ, W, e, e', a, σ', hc, hE, hR, hD, hv, hQ => by
    unfold compL at hc
    split at hc
    · rename_i i r h1 h2
      injection hc with hc
      subst hc
      simp only [opsV, Option.bind_eq_some_iff] at hv
      obtain ⟨⟨e1, σ1⟩, hs, hv⟩ := hv
      refine wpList_step (fun K hK => ?_)
      refine step_eff hrun h1 hE hR hD hs (fun a1 W1 ι1 hE1 hp1 hd1 => hK a1 W1 ?_)
      exact seq_sound hrun h2 hE1 hp1.rel (hp1.dom hD) hv (fun a2 W2 ι2 hE2 hp2 hd2 => hQ a2 W2 ι2 hE2 (hp1.trans hD hp2) (hd2.trans hd1))
    · simp at hc

end Go.Am
