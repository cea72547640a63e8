/- The abstract machine's operations without memory: what is cut; and all of them together. -/
import Derived.Test.YtjldefmcnppdoaaAmPureD
namespace Go.Am
open Go

theorem bound_R {ι : Inj} {e : Env} {a : Act} (hE : EnvR ι e a.tmps) {x : Option Operand} {o : Option O} (ho : opt x = some o) {d : Nat} {n : Int} (h : bound e o d = some n) :
    (x = none ∧ n = d) ∨ ∃ y k, x = some y ∧ a.eval y = .int k n := by
  cases x with
  | none =>
    simp [opt] at ho
    subst ho
    simp [bound] at h
    exact .inl ⟨rfl, h.symm⟩
  | some y =>
    simp [opt] at ho
    obtain ⟨q, hq, rfl⟩ := ho
    have r := opd_R hq hE
    simp only [bound] at h
    unfold num? at h
    split at h
    · rename_i k m hm
      injection h with h
      subst h
      rw [hm] at r
      simp only [VR, S.val] at r
      exact .inr ⟨y, k, rfl, r⟩
    · simp at h

theorem run_sliceBounds {P : Program} {ι : Inj} {e : Env} {a : Act} (hE : EnvR ι e a.tmps) {lo hi : Option Operand} {lo' hi' : Option O} (h1 : opt lo = some lo') (h2 : opt hi = some hi') (isS : Bool) {len cap : Nat} {l h : Int}
    (hl : bound e lo' 0 = some l) (hh : bound e hi' len = some h) (h0 : 0 ≤ l) (h3 : l ≤ h) (h4 : h ≤ cap) (W : World) :
    (Instr.sliceBounds isS len cap (lo.map a.eval) (hi.map a.eval) none).run P W = .ok (l.toNat, h.toNat, cap) W := by
  have hb : ∀ (v : Value) (k : IntKind) (i : Int) (y : Nat) (c : BoundsCode), v = .int k i → 0 ≤ i → i ≤ y → (Instr.sliceBound v y c).run P W = .ok i.toNat W := by
    rintro v k i y c rfl hi0 hi1
    simp only [Instr.sliceBound, asIntOf, Sem.run_bind, Sem.run_pure, Result.andThen_ok]
    rw [if_pos ⟨hi0, hi1⟩]
    rfl
  simp only [Instr.sliceBounds, Sem.run_bind, Sem.run_pure, Result.andThen_ok]
  rcases bound_R hE h2 hh with ⟨rfl, e2⟩ | ⟨y, k, rfl, e2⟩ <;> rcases bound_R hE h1 hl with ⟨rfl, e1⟩ | ⟨y', k', rfl, e1⟩
  · subst e1; subst e2; simp
  · subst e2
    simp [hb _ _ _ _ _ e1 h0 h3]
  · subst e1
    simp [hb _ _ _ _ _ e2 h3 h4]
  · simp [hb _ _ _ _ _ e2 (by omega) h4, hb _ _ _ _ _ e1 h0 (show l ≤ (h.toNat : Int) by omega)]

theorem pure_slS {P : Program} {t : TypeId} {x : Operand} {lo hi : Option Operand} {x' : O} {lo' hi' : Option O} (ht : P.underlying t = some .string) (hx : opd x = some x') (h1 : opt lo = some lo') (h2 : opt hi = some hi') :
    PureOK P (.slice t x lo hi none) (.slS x' lo' hi') := by
  intro ι e a z o ho hE hv
  have rx := opd_R hx hE
  simp only [pureV] at hv
  split at hv
  · rename_i s hs
    rw [hs] at rx
    simp only [VR, S.val] at rx
    split at hv
    · rename_i l h hl hh
      split at hv
      · rename_i hb
        injection hv with hv
        subst hv
        refine ⟨_, rfl, fun W => ?_⟩
        simp [execOp, ho, Instr.sliceAt, Instr.slice, run_underlying ht W, rx, run_sliceBounds hE h1 h2 false hl hh hb.1 hb.2.1 hb.2.2 W, S.val]
      · simp at hv
    · simp at hv
  · simp at hv

theorem pure_slV {P : Program} {t el : TypeId} {n : Nat} {x : Operand} {lo hi : Option Operand} {x' : O} {lo' hi' : Option O} (ht : P.underlying t = some (.slice el)) (hs : sizeT P el = some n) (hx : opd x = some x') (h1 : opt lo = some lo') (h2 : opt hi = some hi') :
    PureOK P (.slice t x lo hi none) (.slV n x' lo' hi') := by
  intro ι e a z o ho hE hv
  have rx := opd_R hx hE
  have hrun : ∀ (ad : Option Addr) (len cap : Nat) (l h : Int), a.eval x = .slice ad len cap → bound e lo' 0 = some l → bound e hi' len = some h → 0 ≤ l → l ≤ h → h ≤ cap → ∀ W,
      (execOp a.eval o).run P W = .ok (.value (.slice (if cap = l.toNat then ad else ad.map (·.add (l.toNat * n))) (h.toNat - l.toNat) (cap - l.toNat))) W := by
    intro ad len cap l h hv hl hh h0 h3 h4 W
    simp [execOp, ho, Instr.sliceAt, Instr.slice, run_underlying ht W, hv, run_sliceBounds hE h1 h2 true hl hh h0 h3 h4 W, run_sizeOf hs W]
  simp only [pureV] at hv
  split at hv
  · rename_i b off m z' md hb
    rw [hb] at rx
    simp only [VR] at rx
    obtain ⟨p, cap, hp, hle, rx, hc⟩ := rx
    split at hv
    · rename_i l h hl hh
      split at hv
      · rename_i hz
        subst hz
        split at hv
        · rename_i c
          split at hv
          · rename_i hbd
            injection hv with hv
            subst hv
            simp only [capOK] at hc
            obtain ⟨rfl, hc1, hc2⟩ := hc
            refine ⟨_, ⟨p, cap - l.toNat, hp, ?_, rfl, ?_⟩, fun W => by rw [hrun _ _ _ l h rx hl hh hbd.1 hbd.2.1 hbd.2.2 W]; congr 3; split <;> simp [add_off, Nat.add_assoc]⟩
            · have hm : (h.toNat - l.toNat) * n ≤ (cap - l.toNat) * n := Nat.mul_le_mul_right _ (by omega)
              have hm2 : l.toNat * n + (cap - l.toNat) * n = cap * n := by rw [← Nat.add_mul]; congr 1; omega
              split
              · rename_i e1
                rw [e1, Nat.sub_self, Nat.zero_mul] at hm
                omega
              · omega
            · simp only [capOK]
              refine ⟨trivial, by omega, ?_⟩
              have hm2 : l.toNat * n + (cap - l.toNat) * n = cap * n := by rw [← Nat.add_mul]; congr 1; omega
              split
              · rename_i e1
                rw [e1, Nat.sub_self, Nat.zero_mul]
                rw [e1] at hc2
                omega
              · omega
          · simp at hv
        · rename_i hne
          have hcap : m ≤ cap := by
            cases md with
            | ex c => exact absurd rfl (hne c)
            | unk => exact hc
            | whole => exact hc.2.2.2.1
          split at hv
          · rename_i hbd
            split at hv
            · rename_i hlt
              injection hv with hv
              subst hv
              refine ⟨_, ⟨p, cap - l.toNat, hp, ?_, rfl, ?_⟩, fun W => by rw [hrun _ _ _ l h rx hl hh hbd.1 hbd.2.1 (by omega) W, if_neg (by omega)]; simp [add_off, Nat.add_assoc]⟩
              · have hm : (h.toNat - l.toNat) * n ≤ (m - l.toNat) * n := Nat.mul_le_mul_right _ (by omega)
                have hm2 : l.toNat * n + (m - l.toNat) * n = m * n := by rw [← Nat.add_mul]; congr 1; omega
                omega
              · simp only [capOK]; omega
            · rename_i hlt
              injection hv with hv
              subst hv
              have e0 : h.toNat - l.toNat = 0 := by omega
              by_cases hcl : cap = l.toNat
              · exact ⟨_, ⟨⟨p.c, p.base + off, none⟩, cap - l.toNat, rfl⟩, fun W => by rw [hrun _ _ _ l h rx hl hh hbd.1 hbd.2.1 (by omega) W, if_pos hcl, e0]⟩
              · exact ⟨_, ⟨(⟨p.c, p.base + off, none⟩ : Addr).add (l.toNat * n), cap - l.toNat, rfl⟩, fun W => by rw [hrun _ _ _ l h rx hl hh hbd.1 hbd.2.1 (by omega) W, if_neg hcl, e0]; rfl⟩
          · simp at hv
      · simp at hv
    · simp at hv
  · rename_i hb
    rw [hb] at rx
    simp only [VR] at rx
    obtain ⟨ad, cap, rx⟩ := rx
    split at hv
    · rename_i hl hh
      injection hv with hv
      subst hv
      refine ⟨_, ⟨ad, cap, rfl⟩, fun W => ?_⟩
      rw [hrun _ _ _ 0 0 rx hl hh (by omega) (by omega) (by omega) W]
      simp [Addr.add]
    · simp at hv
  · rename_i hb
    rw [hb] at rx
    simp only [VR] at rx
    split at hv
    · rename_i hl hh
      injection hv with hv
      subst hv
      refine ⟨_, rfl, fun W => ?_⟩
      rw [hrun _ _ _ 0 0 rx hl hh (by omega) (by omega) (by omega) W]
      simp
    · simp at hv
  · simp at hv

theorem pure_slA {P : Program} {t el : TypeId} {len n : Nat} {x : Operand} {lo hi : Option Operand} {x' : O} {lo' hi' : Option O} (ht : P.underlying t = some (.array len el)) (hs : sizeT P el = some n) (hx : opd x = some x') (h1 : opt lo = some lo') (h2 : opt hi = some hi') :
    PureOK P (.slice t x lo hi none) (.slA len n x' lo' hi') := by
  intro ι e a z o ho hE hv
  have rx := opd_R hx hE
  have hrun : ∀ (ad : Addr) (l h : Int), a.eval x = .pointer (some ad) → bound e lo' 0 = some l → bound e hi' len = some h → 0 ≤ l → l ≤ h → h ≤ len → ∀ W,
      (execOp a.eval o).run P W = .ok (.value (.slice (some (if len = l.toNat then ad else ad.add (l.toNat * n))) (h.toNat - l.toNat) (len - l.toNat))) W := by
    intro ad l h hv hl hh h0 h3 h4 W
    simp [execOp, ho, Instr.sliceAt, run_underlying ht W, hv, Instr.sureAddr, run_sliceBounds hE h1 h2 false hl hh h0 h3 h4 W, run_sizeOf hs W]
  simp only [pureV] at hv
  split at hv
  · rename_i b off z' hb
    rw [hb] at rx
    simp only [VR] at rx
    obtain ⟨p, hp, hle, rx⟩ := rx
    split at hv
    · rename_i l h hl hh
      split at hv
      · rename_i hz
        split at hv
        · rename_i hbd
          split at hv
          · rename_i hlt
            injection hv with hv
            subst hv
            have hm : (h.toNat - l.toNat) * n ≤ (len - l.toNat) * n := Nat.mul_le_mul_right _ (by omega)
            have hm2 : l.toNat * n + (len - l.toNat) * n = len * n := by rw [← Nat.add_mul]; congr 1; omega
            refine ⟨_, ⟨p, len - l.toNat, hp, by omega, rfl, ⟨rfl, by omega, by omega⟩⟩, fun W => by rw [hrun _ l h rx hl hh hbd.1 hbd.2.1 hbd.2.2 W, if_neg (by omega)]; simp [add_off, Nat.add_assoc]⟩
          · rename_i hlt
            injection hv with hv
            subst hv
            have e0 : h.toNat - l.toNat = 0 := by omega
            exact ⟨_, ⟨_, _, rfl⟩, fun W => by rw [hrun _ l h rx hl hh hbd.1 hbd.2.1 hbd.2.2 W, e0]⟩
        · simp at hv
      · simp at hv
    · simp at hv
  · simp at hv

theorem compEq_sound {P : Program} {neg : Bool} {t u : TypeId} {x y : Operand} {x' y' : O} {i : PIns} (hx : opd x = some x') (hy : opd y = some y') (h : compEq P neg (bif neg then .neq else .eql) t x' y' = some i) : PureOK P (.binOp (bif neg then .neq else .eql) t x y u) i := by
  unfold compEq at h
  split at h
  · injection h with h; subst h; exact pure_bin hx hy
  · injection h with h; subst h; exact pure_bin hx hy
  · rename_i ht; injection h with h; subst h; exact pure_eqb ht hx hy
  · rename_i fs hu
    split at h
    · simp at h
    · rename_i hg
      simp only [Option.map_eq_some_iff] at h
      obtain ⟨n, hn, rfl⟩ := h
      exact pure_eqa hn (by simp [aggT, hu]) (by simpa using hg) hx hy
  · rename_i a b hu
    split at h
    · simp at h
    · rename_i hg
      simp only [Option.map_eq_some_iff] at h
      obtain ⟨n, hn, rfl⟩ := h
      exact pure_eqa hn (by simp [aggT, hu]) (by simpa using hg) hx hy
  · simp at h

theorem compP_sound {P : Program} {op : Op} {i : PIns} (h : compP P op = some i) : PureOK P op i := by
  cases op with
  | move x =>
    simp only [compP, Option.map_eq_some_iff] at h
    obtain ⟨o, ho, rfl⟩ := h
    exact pure_move ho
  | assign x =>
    simp only [compP, Option.map_eq_some_iff] at h
    obtain ⟨o, ho, rfl⟩ := h
    exact pure_assign ho
  | pick c a b =>
    simp only [compP] at h
    split at h
    · rename_i h1 h2 h3; injection h with h; subst h; exact pure_pick h1 h2 h3
    · simp at h
  | build t parts =>
    simp only [compP] at h
    split at h
    · rename_i z fs hz hu
      simp only [Option.bind_eq_some_iff, Option.map_eq_some_iff] at h
      obtain ⟨ps, hp, qs, hq, rfl⟩ := h
      exact pure_build_struct hz hu hp hq
    · rename_i z len el hz hu
      simp only [Option.bind_eq_some_iff, Option.map_eq_some_iff] at h
      obtain ⟨n, hn, qs, hq, rfl⟩ := h
      exact pure_build_array hz hu hn hq
    · simp at h
  | nilCheck x =>
    simp only [compP, Option.map_eq_some_iff] at h
    obtain ⟨o, ho, rfl⟩ := h
    exact pure_nilck ho
  | binOp op t x y u =>
    simp only [compP] at h
    split at h
    · rename_i x' y' hx hy
      split at h
      · exact compEq_sound (neg := false) hx hy h
      · exact compEq_sound (neg := true) hx hy h
      · injection h with h; subst h; exact pure_bin hx hy
    · simp at h
  | unOp op t x =>
    simp only [compP, Option.map_eq_some_iff] at h
    obtain ⟨o, ho, rfl⟩ := h
    exact pure_un ho
  | convert s d x =>
    simp only [compP] at h
    split at h
    · rename_i h1 h2
      simp only [Option.map_eq_some_iff] at h
      obtain ⟨o, ho, rfl⟩ := h
      exact pure_conv h1 h2 ho
    · simp at h
  | makeFunc fn first caps =>
    cases fn <;> simp only [compP] at h
    · split at h
      · rename_i hf
        simp only [Option.map_eq_some_iff] at h
        obtain ⟨o, ho, rfl⟩ := h
        exact pure_mkfn hf ho
      · simp at h
    all_goals simp at h
  | fieldAddr t x i =>
    simp only [compP] at h
    split at h
    · rename_i fs hf
      split at h
      · rename_i f hi
        split at h
        · rename_i n hs
          split at h
          · simp at h
          · rename_i hn
            simp only [Option.map_eq_some_iff] at h
            obtain ⟨o, ho, rfl⟩ := h
            exact pure_fa hf hi hs hn ho
        · simp at h
      · simp at h
    · simp at h
  | field t x i =>
    simp only [compP] at h
    split at h
    · rename_i fs hf
      split at h
      · rename_i f hi
        split at h
        · rename_i n g hs ha
          split at h
          · rename_i hg
            simp only [Option.map_eq_some_iff] at h
            obtain ⟨o, ho, rfl⟩ := h
            exact pure_fld hf hi hs ha hg ho
          · simp at h
        · simp at h
      · simp at h
    · simp at h
  | indexAddr t x i =>
    simp only [compP] at h
    split at h
    · rename_i len e hu
      split at h
      · rename_i h1 h2 h3; injection h with h; subst h; exact pure_ixa hu h1 h2 h3
      · simp at h
    · rename_i e hu
      split at h
      · rename_i h1 h2 h3; injection h with h; subst h; exact pure_ixs hu h1 h2 h3
      · simp at h
    · simp at h
  | index t x i =>
    simp only [compP] at h
    split at h
    · rename_i len e hu
      split at h
      · rename_i h1 h2 h3 h4
        split at h
        · rename_i hg; injection h with h; subst h; exact pure_ix hu h1 h2 hg h3 h4
        · simp at h
      · simp at h
    · rename_i hu
      split at h
      · rename_i h1 h2; injection h with h; subst h; exact pure_ixstr hu h1 h2
      · simp at h
    · simp at h
  | slice t x lo hi mx =>
    cases mx with
    | some m => simp [compP] at h
    | none =>
      simp only [compP] at h
      split at h
      · rename_i h1 h2 h3
        split at h
        · rename_i hu; injection h with h; subst h; exact pure_slS hu h1 h2 h3
        · rename_i e hu
          simp only [Option.map_eq_some_iff] at h
          obtain ⟨n, hn, rfl⟩ := h
          exact pure_slV hu hn h1 h2 h3
        · rename_i len e hu
          simp only [Option.map_eq_some_iff] at h
          obtain ⟨n, hn, rfl⟩ := h
          exact pure_slA hu hn h1 h2 h3
        · simp at h
      · simp at h
  | extract x i =>
    simp only [compP, Option.map_eq_some_iff] at h
    obtain ⟨o, ho, rfl⟩ := h
    exact pure_ext ho
  | call c =>
    simp only [compP] at h
    split at h
    · rename_i hc
      split at h
      · rename_i t x h0 h1
        split at h
        · rename_i hu
          simp only [Option.map_eq_some_iff] at h
          obtain ⟨o, ho, rfl⟩ := h
          exact pure_lenS hc h0 h1 hu ho
        · rename_i e hu
          simp only [Option.map_eq_some_iff] at h
          obtain ⟨o, ho, rfl⟩ := h
          exact pure_len hc h0 h1 hu ho
        · rename_i n e hu
          injection h with h; subst h
          exact pure_lenK hc h0 h1 hu
        · simp at h
      · simp at h
    · rename_i hc
      simp only [Option.map_eq_some_iff] at h
      obtain ⟨o, ho, rfl⟩ := h
      exact pure_mn hc ho
    · rename_i hc
      simp only [Option.map_eq_some_iff] at h
      obtain ⟨o, ho, rfl⟩ := h
      exact pure_mx hc ho
    · simp at h
  | _ => simp [compP] at h

end Go.Am
