/- The abstract machine's operations without memory: fields, indexes, slices, lengths. -/
import Derived.Test.YtjldefmcnppdoaaAmPure
namespace Go.Am
open Go

theorem run_sizeOf {P : Program} {t : TypeId} {n : Nat} (h : sizeT P t = some n) (W : World) : (sizeOf t).run P W = .ok n W := by
  unfold sizeT at h
  cases hi : P.info? t with
  | none => simp [hi] at h
  | some i => simp [hi] at h; subst h; simp [sizeOf, typeInfo, hi]

theorem run_isAgg {P : Program} {t : TypeId} {g : Bool} (h : aggT P t = some g) (W : World) : (isAgg t).run P W = .ok g W := by
  unfold aggT at h
  split at h <;> simp at h
  · rename_i hu; subst h; simp [isAgg, run_underlying hu W]
  · rename_i hu; subst h; simp [isAgg, run_underlying hu W]
  · rename_i d h1 h2 hu
    subst h
    simp only [isAgg, Sem.run_bind, run_underlying hu W, Result.andThen_ok]
    cases d <;> simp_all

theorem add_off (c o n : Nat) : (⟨c, o, none⟩ : Addr).add n = ⟨c, o + n, none⟩ := by unfold Addr.add; split <;> simp_all

theorem pure_fa {P : Program} {t : TypeId} {fs : List Field} {f : Field} {i n : Nat} {x : Operand} {x' : O} (hf : fieldsOf P t = some fs) (hi : fs[i]? = some f) (hs : sizeT P f.type = some n) (hn : n ≠ 0) (hx : opd x = some x') :
    PureOK P (.fieldAddr t x i) (.fa f.offset n x') := by
  intro ι e a z o ho hE hv
  have rx := opd_R hx hE
  simp only [pureV] at hv
  split at hv
  · rename_i b off z' hb
    rw [hb] at rx
    simp only [VR] at rx
    obtain ⟨p, hp, hl, rx⟩ := rx
    split at hv
    · rename_i hle
      injection hv with hv
      subst hv
      refine ⟨_, ⟨p, hp, by omega, rfl⟩, fun W => ?_⟩
      unfold fieldsOf at hf
      split at hf
      · rename_i fa hu
        injection hf with hf
        subst hf
        have hi' : fa[i]? = some f := by simpa using hi
        simp [execOp, ho, rx, Instr.fieldAt, run_underlying hu W, hi', Instr.sureAddr, fieldPlace, run_sizeOf hs W, hn, add_off, Nat.add_assoc]
      · simp at hf
    · simp at hv
  · simp at hv

/-- A part of a row of cells, as the model takes it. -/
theorem run_part {P : Program} {t : TypeId} {g : Bool} {n : Nat} (ha : aggT P t = some g) (hs : sizeT P t = some n) (cs : Array Value) (off : Nat) (W : World) :
    (part t cs off).run P W = if g then .ok (.agg (cs.extract off (off + n))) W else match cs[off]? with
      | some v => .ok v W
      | none => .halt (.stuck "part: no such cell") W := by
  cases g
  · simp only [part, Sem.run_bind, run_isAgg ha W, Result.andThen_ok]
    cases cs[off]? <;> simp
  · simp [part, run_isAgg ha W, run_sizeOf hs W]

theorem scals_R {ι : Inj} : ∀ {l : List V} {r : List S} {vs : List Value}, scals l = some r → VRL ι l vs → vs = r.map S.val
  | [], r, vs, h, hv => by simp [scals] at h; subst h; simpa [VRL] using hv
  | x :: l, r, vs, h, hv => by
    unfold scals at h
    split at h
    · rename_i a q h1 h2
      injection h with h
      subst h
      simp only [VRL] at hv
      obtain ⟨v, w, rfl, hx, hr⟩ := hv
      cases x <;> simp [V.isS] at h1
      subst h1
      simp only [VR] at hx
      simp [hx, scals_R h2 hr]
    · simp at h

theorem mkAgg_R {ι : Inj} {l : List V} {vs : List Value} (h : VRL ι l vs) : VR ι (mkAgg l) (.agg vs.toArray) := by
  unfold mkAgg
  split
  · rename_i r hr
    have := scals_R hr h
    subst this
    refine ⟨_, rfl, by simp, fun i hi => ?_⟩
    simp [hi]
  · exact ⟨vs, rfl, h⟩

theorem mkAgg_R' {ι : Inj} {l : List V} {cs : Array Value} (h : VRL ι l cs.toList) : VR ι (mkAgg l) (.agg cs) := by
  have := mkAgg_R h
  simpa using this

theorem extract_toList (cs : Array Value) (a b : Nat) : (cs.extract a b).toList = (cs.toList.drop a).take (b - a) := by
  simp

theorem pure_fld {P : Program} {t : TypeId} {fs : List Field} {f : Field} {i n : Nat} {g : Bool} {x : Operand} {x' : O} (hf : fieldsOf P t = some fs) (hi : fs[i]? = some f) (hs : sizeT P f.type = some n) (ha : aggT P f.type = some g) (hg : (g || n == 1) = true) (hx : opd x = some x') :
    PureOK P (.field t x i) (.fld g f.offset n x') := by
  intro ι e a z o ho hE hv
  have rx := opd_R hx hE
  have hrun : ∀ cs, a.eval x = .agg cs → ∀ W, (execOp a.eval o).run P W = ((part f.type cs f.offset).run P W).andThen fun v w => .ok (.value v) w := by
    intro cs hcs W
    unfold fieldsOf at hf
    split at hf
    · rename_i fa hu
      injection hf with hf
      subst hf
      have hi' : fa[i]? = some f := by simpa using hi
      simp [execOp, ho, hcs, Instr.field, run_underlying hu W, hi', asAgg]
    · simp at hf
  simp only [pureV] at hv
  split at hv
  · rename_i m h hb
    rw [hb] at rx
    simp only [VR] at rx
    obtain ⟨cs, hcs, hsz, hr⟩ := rx
    split at hv
    · rename_i hle
      injection hv with hv
      subst hv
      cases g
      · have h1 : n = 1 := by simpa using hg
        subst h1
        have hc := hr f.offset (by omega)
        exact ⟨(h f.offset).val, rfl, fun W => by rw [hrun cs hcs W, run_part ha hs]; simp [hc]⟩
      · refine ⟨.agg (cs.extract f.offset (f.offset + n)), ⟨_, rfl, by simp; omega, fun j hj => ?_⟩, fun W => by rw [hrun cs hcs W, run_part ha hs]; simp⟩
        rw [Array.getElem?_extract]
        rw [if_pos (by omega)]
        exact hr _ (by omega)
    · simp at hv
  · rename_i l hb
    rw [hb] at rx
    simp only [VR] at rx
    obtain ⟨cs, hcs, hr⟩ := rx
    have hlen := VRL.length hr
    split at hv
    · rename_i hle
      cases g
      · have h1 : n = 1 := by simpa using hg
        subst h1
        simp only [cond_false] at hv
        obtain ⟨v, h1, h2⟩ := VRL.at hr _ _ hv
        exact ⟨v, h2, fun W => by rw [hrun _ hcs W, run_part ha hs]; simp [h1]⟩
      · simp only [cond_true, Option.some.injEq] at hv
        subst hv
        refine ⟨.agg (cs.toArray.extract f.offset (f.offset + n)), ?_, fun W => by rw [hrun _ hcs W, run_part ha hs]; simp⟩
        apply mkAgg_R'
        rw [extract_toList, show f.offset + n - f.offset = n from by omega]
        exact VRL.take _ (VRL.drop _ hr)
    · simp at hv
  · simp at hv

theorem pure_ixa {P : Program} {t e : TypeId} {len n : Nat} {x i : Operand} {x' i' : O} (ht : P.underlying t = some (.array len e)) (hs : sizeT P e = some n) (hx : opd x = some x') (hi : opd i = some i') :
    PureOK P (.indexAddr t x i) (.ixa len n x' i') := by
  intro ι en a z o ho hE hv
  have rx := opd_R hx hE
  have ri := opd_R hi hE
  simp only [pureV] at hv
  split at hv
  · rename_i b off z' k kk hb hk
    rw [hb] at rx
    rw [hk] at ri
    simp only [VR, S.val] at rx ri
    obtain ⟨p, hp, hl, rx⟩ := rx
    split at hv
    · rename_i hle
      split at hv
      · rename_i hr
        injection hv with hv
        subst hv
        have hmul : kk.toNat * n + n ≤ len * n := by
          rw [← Nat.succ_mul]
          exact Nat.mul_le_mul_right _ (by omega)
        refine ⟨_, ⟨p, hp, by omega, rfl⟩, fun W => ?_⟩
        simp [execOp, ho, rx, ri, Instr.indexAt, asIntOf, run_underlying ht W, Instr.sureAddr, hr.1, hr.2, run_sizeOf hs W, add_off, Nat.add_assoc]
      · simp at hv
    · simp at hv
  · simp at hv

theorem pure_ixs {P : Program} {t e : TypeId} {n : Nat} {x i : Operand} {x' i' : O} (ht : P.underlying t = some (.slice e)) (hs : sizeT P e = some n) (hx : opd x = some x') (hi : opd i = some i') :
    PureOK P (.indexAddr t x i) (.ixs n x' i') := by
  intro ι en a z o ho hE hv
  have rx := opd_R hx hE
  have ri := opd_R hi hE
  simp only [pureV] at hv
  split at hv
  · rename_i b off m z' mm k kk hb hk
    rw [hb] at rx
    rw [hk] at ri
    simp only [VR, S.val] at rx ri
    obtain ⟨p, c, hp, hl, rx, _⟩ := rx
    split at hv
    · rename_i hle
      subst hle
      split at hv
      · rename_i hr
        injection hv with hv
        subst hv
        have hmul : kk.toNat * n + n ≤ m * n := by
          rw [← Nat.succ_mul]
          exact Nat.mul_le_mul_right _ (by omega)
        refine ⟨_, ⟨p, hp, by omega, rfl⟩, fun W => ?_⟩
        simp [execOp, ho, rx, ri, Instr.indexAt, asIntOf, run_underlying ht W, hr.1, hr.2, run_sizeOf hs W, add_off, Nat.add_assoc]
      · simp at hv
    · simp at hv
  · simp at hv

theorem pure_ix {P : Program} {t e : TypeId} {len n : Nat} {g : Bool} {x i : Operand} {x' i' : O} (ht : P.underlying t = some (.array len e)) (hs : sizeT P e = some n) (ha : aggT P e = some g) (hg : (g || n == 1) = true) (hx : opd x = some x') (hi : opd i = some i') :
    PureOK P (.index t x i) (.ix len n g x' i') := by
  intro ι en a z o ho hE hv
  have rx := opd_R hx hE
  have ri := opd_R hi hE
  have hrun : ∀ cs k (kk : Int), a.eval x = .agg cs → a.eval i = .int k kk → 0 ≤ kk → kk < len → ∀ W, (execOp a.eval o).run P W = ((part e cs (kk.toNat * n)).run P W).andThen fun v w => .ok (.value v) w := by
    intro cs k kk hcs hk h0 h1 W
    simp [execOp, ho, hcs, hk, Instr.index, asIntOf, run_underlying ht W, h0, h1, run_sizeOf hs W]
  simp only [pureV] at hv
  split at hv
  · rename_i m h k kk hb hk
    rw [hb] at rx
    rw [hk] at ri
    simp only [VR] at rx ri
    obtain ⟨cs, hcs, hsz, hr⟩ := rx
    simp only [S.val] at ri
    split at hv
    · rename_i hle
      split at hv
      · rename_i hlt
        injection hv with hv
        subst hv
        have hmul : kk.toNat * n + n ≤ len * n := by
          rw [← Nat.succ_mul]
          exact Nat.mul_le_mul_right _ (by omega)
        cases g
        · have h1 : n = 1 := by simpa using hg
          subst h1
          have hc := hr (kk.toNat * 1) (by omega)
          exact ⟨(h (kk.toNat * 1)).val, rfl, fun W => by rw [hrun cs k kk hcs ri hlt.1 hlt.2 W, run_part ha hs]; simp only [hc]; simp⟩
        · refine ⟨.agg (cs.extract (kk.toNat * n) (kk.toNat * n + n)), ⟨_, rfl, by simp; omega, fun j hj => ?_⟩, fun W => by rw [hrun cs k kk hcs ri hlt.1 hlt.2 W, run_part ha hs]; simp⟩
          rw [Array.getElem?_extract]
          rw [if_pos (by omega)]
          exact hr _ (by omega)
      · simp at hv
    · simp at hv
  · rename_i l k kk hb hk
    rw [hb] at rx
    rw [hk] at ri
    simp only [VR, S.val] at rx ri
    obtain ⟨cs, hcs, hr⟩ := rx
    split at hv
    · rename_i hle
      split at hv
      · rename_i hlt
        cases g
        · have h1 : n = 1 := by simpa using hg
          subst h1
          simp only [cond_false] at hv
          obtain ⟨v, h1, h2⟩ := VRL.at hr _ _ hv
          exact ⟨v, h2, fun W => by rw [hrun _ k kk hcs ri hlt.1 hlt.2 W, run_part ha hs, List.getElem?_toArray, h1]; simp⟩
        · simp only [cond_true, Option.some.injEq] at hv
          subst hv
          refine ⟨.agg (cs.toArray.extract (kk.toNat * n) (kk.toNat * n + n)), ?_, fun W => by rw [hrun _ k kk hcs ri hlt.1 hlt.2 W, run_part ha hs]; simp⟩
          apply mkAgg_R'
          rw [extract_toList, show kk.toNat * n + n - kk.toNat * n = n from by omega]
          exact VRL.take _ (VRL.drop _ hr)
      · simp at hv
    · simp at hv
  · simp at hv

theorem pure_ixstr {P : Program} {t : TypeId} {x i : Operand} {x' i' : O} (ht : P.underlying t = some .string) (hx : opd x = some x') (hi : opd i = some i') :
    PureOK P (.index t x i) (.ixstr x' i') := by
  intro ι en a z o ho hE hv
  have rx := opd_R hx hE
  have ri := opd_R hi hE
  simp only [pureV] at hv
  split at hv
  · rename_i s k kk hb hk
    rw [hb] at rx
    rw [hk] at ri
    simp only [VR, S.val] at rx ri
    split at hv
    · rename_i hr
      injection hv with hv
      subst hv
      have hlt : kk.toNat < s.size := by omega
      have hg : s[kk.toNat]? = some (s.data.getD kk.toNat 0) := by
        rw [getElem?_pos s kk.toNat hlt]
        have : kk.toNat < s.data.size := hlt
        rw [Array.getD_eq_getD_getElem?, Array.getElem?_eq_getElem this]
        rfl
      refine ⟨_, rfl, fun W => ?_⟩
      simp [execOp, ho, rx, ri, Instr.index, asIntOf, run_underlying ht W, hr.1, hg, S.val]
    · simp at hv
  · simp at hv

theorem run_builtin {P : Program} {c : Call} {b : Builtin} {a : Act} {o : Oper} (ho : o.op = .call c) (hc : c.callee = .builtin b) (W : World) :
    ∃ k : Array Bool, (execOp a.eval o).run P W = (builtin b c.argTypes o.type k (c.args.map a.eval)).run P W :=
  ⟨_, by simp only [execOp, ho, resolve, hc, Sem.run_bind, Sem.run_pure, Result.andThen_ok, invoke]; rfl⟩

theorem args_one {c : Call} {x : Operand} (h : c.args.toList = [x]) : c.args = #[x] := Array.toList_inj.1 (by simpa using h)

theorem pure_len {P : Program} {t el : TypeId} {c : Call} {x : Operand} {x' : O} (hc : c.callee = .builtin .len) (h0 : c.argTypes[0]? = some t) (h1 : c.args.toList = [x]) (ht : P.underlying t = some (.slice el)) (hx : opd x = some x') :
    PureOK P (.call c) (.len x') := by
  intro ι en a z o ho hE hv
  have rx := opd_R hx hE
  have key : ∀ b n cap, a.eval x = .slice b n cap → ∀ W, (execOp a.eval o).run P W = .ok (.value (.int .i64 n)) W := by
    intro b n cap hs W
    obtain ⟨k, hk⟩ := run_builtin (P := P) (a := a) ho hc W
    rw [hk]
    simp [builtin, Builtin.len_, h0, args_one h1, run_underlying ht W, hs, goInt]
  simp only [pureV] at hv
  split at hv
  · rename_i b off n z' m hb
    rw [hb] at rx
    simp only [VR] at rx
    obtain ⟨p, cp, hp, hl, rx, _⟩ := rx
    injection hv with hv
    subst hv
    exact ⟨_, rfl, key _ _ _ rx⟩
  · rename_i hb
    rw [hb] at rx
    simp only [VR] at rx
    obtain ⟨ad, cp, rx⟩ := rx
    injection hv with hv
    subst hv
    exact ⟨_, rfl, key _ _ _ rx⟩
  · rename_i hb
    rw [hb] at rx
    simp only [VR] at rx
    injection hv with hv
    subst hv
    exact ⟨_, rfl, key _ _ _ rx⟩
  · simp at hv

theorem pure_lenS {P : Program} {t : TypeId} {c : Call} {x : Operand} {x' : O} (hc : c.callee = .builtin .len) (h0 : c.argTypes[0]? = some t) (h1 : c.args.toList = [x]) (ht : P.underlying t = some .string) (hx : opd x = some x') :
    PureOK P (.call c) (.lenS x') := by
  intro ι en a z o ho hE hv
  have rx := opd_R hx hE
  simp only [pureV] at hv
  split at hv
  · rename_i s hb
    rw [hb] at rx
    simp only [VR, S.val] at rx
    injection hv with hv
    subst hv
    refine ⟨_, rfl, fun W => ?_⟩
    obtain ⟨k, hk⟩ := run_builtin (P := P) (a := a) ho hc W
    rw [hk]
    simp [builtin, Builtin.len_, h0, args_one h1, run_underlying ht W, rx, goInt, S.val]
  · simp at hv

theorem pure_lenK {P : Program} {t el : TypeId} {n : Nat} {c : Call} {x : Operand} (hc : c.callee = .builtin .len) (h0 : c.argTypes[0]? = some t) (h1 : c.args.toList = [x]) (ht : P.underlying t = some (.array n el)) :
    PureOK P (.call c) (.lenK n) := by
  intro ι en a z o ho hE hv
  simp only [pureV, Option.some.injEq] at hv
  subst hv
  refine ⟨_, rfl, fun W => ?_⟩
  obtain ⟨k, hk⟩ := run_builtin (P := P) (a := a) ho hc W
  rw [hk]
  simp [builtin, Builtin.len_, h0, args_one h1, run_underlying ht W, goInt, S.val]

theorem foldInt_R {P : Program} (f : Int → Int → Int) (g : Value → Value → Sem Value) (hg : ∀ k x k' y, g (.int k x) (.int k' y) = Pure.pure (.int k (f x y))) {ι : Inj} :
    ∀ (l : List V) (vs : List Value) (k : IntKind) (a : Int) (z : V), foldInt f k a l = some z → VRL ι l vs → ∃ v, VR ι z v ∧ ∀ W, (vs.foldlM g (.int k a)).run P W = .ok v W
  | [], vs, k, a, z, h, hr => by
    simp only [VRL] at hr
    subst hr
    simp only [foldInt, Option.some.injEq] at h
    subst h
    exact ⟨_, rfl, fun W => by simp [S.val]⟩
  | x :: l, vs, k, a, z, h, hr => by
    simp only [VRL] at hr
    obtain ⟨v, r, rfl, hx, hr⟩ := hr
    unfold foldInt at h
    split at h
    · rename_i he; simp at he
    · rename_i k' b l' he
      injection he with e1 e2
      subst e1; subst e2
      simp only [VR, S.val] at hx
      subst hx
      obtain ⟨v, hv, hw⟩ := foldInt_R (P := P) f g hg l r k (f a b) z h hr
      exact ⟨v, hv, fun W => by simp [List.foldlM_cons, hg, hw W]⟩
    · simp at h

theorem foldInts_R {P : Program} (f : Int → Int → Int) (g : Value → Value → Sem Value) (hg : ∀ k x k' y, g (.int k x) (.int k' y) = Pure.pure (.int k (f x y))) {ι : Inj} {l : List V} {vs : List Value} {z : V} (h : foldInts f l = some z) (hr : VRL ι l vs) :
    ∃ x r, vs = x :: r ∧ ∃ v, VR ι z v ∧ ∀ W, (r.foldlM g x).run P W = .ok v W := by
  unfold foldInts at h
  split at h
  · rename_i k a l'
    simp only [VRL] at hr
    obtain ⟨v, r, rfl, hx, hr⟩ := hr
    simp only [VR, S.val] at hx
    subst hx
    exact ⟨_, _, rfl, foldInt_R f g hg _ _ _ _ _ h hr⟩
  · simp at h

theorem pure_mn {P : Program} {c : Call} {os : List O} (hc : c.callee = .builtin .min) (ha : opds c.args.toList = some os) : PureOK P (.call c) (.mn os) := by
  intro ι en a z o ho hE hv
  simp only [pureV] at hv
  obtain ⟨x, r, he, v, h1, h2⟩ := foldInts_R (P := P) _ Builtin.min2 (fun k x k' y => by simp [Builtin.min2]) hv (opds_R hE ha)
  refine ⟨v, h1, fun W => ?_⟩
  obtain ⟨k, hk⟩ := run_builtin (P := P) (a := a) ho hc W
  rw [hk]
  have : (c.args.map a.eval).toList = x :: r := by simpa using he
  simp [builtin, Builtin.min_, he, h2 W]

theorem pure_mx {P : Program} {c : Call} {os : List O} (hc : c.callee = .builtin .max) (ha : opds c.args.toList = some os) : PureOK P (.call c) (.mx os) := by
  intro ι en a z o ho hE hv
  simp only [pureV] at hv
  obtain ⟨x, r, he, v, h1, h2⟩ := foldInts_R (P := P) _ Builtin.max2 (fun k x k' y => by simp [Builtin.max2]) hv (opds_R hE ha)
  refine ⟨v, h1, fun W => ?_⟩
  obtain ⟨k, hk⟩ := run_builtin (P := P) (a := a) ho hc W
  rw [hk]
  simp [builtin, Builtin.max_, he, h2 W]

end Go.Am
